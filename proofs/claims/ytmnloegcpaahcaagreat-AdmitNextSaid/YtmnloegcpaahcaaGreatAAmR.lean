import Derived.Test.YtmnloegcpaahcaaGreatAAmQ
namespace Go.Proofs.YtmnloegcpaahcaaGreat
open Go.RowKit
set_option linter.unusedSimpArgs false
set_option linter.unusedVariables false
def Zsq:List Operand->List Nat | []=>[] | .tmp t :: l=>t :: Zsq l|_ :: l=>Zsq l
def Zfh(ops:Array Oper)(o:Oper):List Nat:=Zsq (ZcH o.op)++match o.guard with
 |none=>[]
 |some (j,_)=>match (ops[j]?).bind (·.dst)with
  |some t=>[t]
  |none=>[]
theorem ZpG{t:Nat}:∀{l:List Operand},Operand.tmp t∈l->t∈Zsq l
 | [],h=>by cases h
 |x :: l,h=>by
  rcases List.mem_cons.1 h with rfl|h
  .simp[Zsq]
  .have:=ZpG h
   cases x<;>simp[Zsq,this]
theorem ZkV{st st2:St}{ops:Array Oper}{o:Oper}(h:∀t∈Zfh ops o,st2.get t=st.get t):∀x∈ZcH o.op,evo st2 x=evo st x:=by
 intro x hx;cases x with
 |tmp t=>exact h t (List.mem_append.2 (.inl (ZpG hx)))
 |_=>rfl
theorem ZjK{st st2:St}{ops:Array Oper}{o:Oper}(h:∀t∈Zfh ops o,st2.get t=st.get t):Zgr ops st2 o=Zgr ops st o:=by
 unfold Zgr;split
 .rfl
 .rename_i j want hg;split
  .rename_i t ht;rw[h t (by unfold Zfh;rw[hg];simp[ht])]
  .rfl
theorem Zsm{P:Program}{N:Nat}{T:Tab}{st:St}{o:Oper}{ra:RA}{i:Nat}{p:V×List Prop×St}(hc:Zfo ra i o.op=3)(h:evOp P N T o st (ZcT ra.an i)=some p):ZdJ N (o.dst.getD 0) st=true:=by
 obtain⟨dst,op,type,dH,after,guard⟩:=o;simp only at hc;have co:∀{l},Zpv N st (dst.getD 0) l=some p->ZdJ N (dst.getD 0) st=true:=by
  intro l hb;unfold Zpv at hb;split at hb
  .assumption
  .cases hb
 cases op<;>(try (simp only[Zfo]at hc))<;>(try (exact absurd hc (by decide)))
 case move x=>split at hc<;>cases hc
 case assign x=>split at hc<;>cases hc
 case alloc e=>
  simp only[evOp]at h
  repeat' split at h
  all_goals first | (cases h;done)|exact co h
 case box e x=>
  simp only[evOp]at h
  repeat' split at h
  all_goals first | (cases h;done)|exact co h
 case makeSlice t l c=>
  split at hc
  .cases hc
  rename_i hx;simp only[evOp]at h;split at h
  .rename_i hk;exact absurd hk (hx _ _)
  .cases h
  unfold Zmp at h
  repeat' split at h
  all_goals first | (cases h;done)|assumption
 case buildSlice t n ps=>
  split at hc
  .rename_i n' c' aT;simp only[evOp]at h;unfold Zfm at h;rw[aT]at h
   repeat' split at h
   all_goals first | (cases h;done)|assumption | (rename_i hx;exact absurd rfl (hx _ _))
  .cases hc
 case call c=>
  obtain⟨callee,args,aY⟩:=c;cases callee with
  |value f=>simp only[Zfo]at hc;cases hc
  |invoke r n=>simp only[Zfo]at hc;cases hc
  |builtin b=>
   cases b<;>(try (simp only[Zfo]at hc))<;>(try (exact absurd hc (by decide)))
   case append=>
    split at hc
    .cases hc
    rename_i aT;simp only[evOp]at h;split at h;rotate_left
    .cases h
    split at h;rotate_left
    .cases h
    unfold ZkW at h
    repeat' split at h
    all_goals first | (cases h;done)|assumption
theorem ZzI{P:Program}{N:Nat}{T:Tab}{ops:Array Oper}{ra:RA}{i:Nat}{o:Oper}{st st1 st2:St}{v:V}{obl:List Prop}(hc:Zfo ra i o.op<=3)(hu:∀t∈Zfh ops o,st2.get t=st.get t)
  (hh:Zfo ra i o.op≠0->st2.heap=st.heap) (hq:Zfo ra i o.op=3->ZdJ N (o.dst.getD 0) st=true->ZdJ N (o.dst.getD 0) st2=true) (h:Znq P N T ops ra i o st=some (v,obl,st1)) :
  st1.env=st.env/\(Zfo ra i o.op<=1->st1.heap=st.heap)/\Znq P N T ops ra i o st2=some (v,obl,⟨st2.env,if Zfo ra i o.op<=1 then st2.heap else st1.heap⟩):=by
 unfold Znq at h ⊢;rw[ZjK hu];split at h
 .cases h
 .cases h;refine⟨rfl,fun _=>rfl,?_⟩;split
  .rfl
  .rename_i bX;rw[<-hh (by omega)]
 .have he:=ZkV hu;split at h
  .cases h
  rename_i v0 bB st0 bf;split at h
  .cases h
  rename_i v' obl' hd;split at h;rotate_left
  .cases h
  rename_i v'' eN;split at h;rotate_left
  .cases h
  rename_i v3 obl3 eu;cases h;refine⟨ZBA bf,?_⟩;have eS:Zfo ra i o.op=0\/Zfo ra i o.op=1\/Zfo ra i o.op=2\/Zfo ra i o.op=3:=by omega
  rcases eS with bX|bX|bX|bX
  .have e1:=ZGB (P:=P) (N:=N) (T:=T) (st:=st) (st2:=st) bX (fun x _=>rfl);have e2:=ZGB (P:=P) (N:=N) (T:=T) (st:=st) (st2:=st2) bX he;rw[bf]at e1 e2;simp only[Option.map_some,Option.some.injEq,Prod.mk.injEq,true_and]at e1;subst e1;refine⟨fun _=>rfl,?_⟩;rw[e2];simp only[Option.map_some,hd,eN,eu,bX];rfl
  .have e1:=ZGC (P:=P) (N:=N) (T:=T) (st:=st) (st2:=st) bX (fun x _=>rfl) rfl;have e2:=ZGC (P:=P) (N:=N) (T:=T) (st:=st) (st2:=st2) bX he (hh (by omega));rw[bf]at e1 e2;simp only[Option.map_some,Option.some.injEq,Prod.mk.injEq,true_and]at e1;subst e1;refine⟨fun _=>rfl,?_⟩;rw[e2];simp only[Option.map_some,hd,eN,eu,bX];rfl
  .have e2:=ZIa (P:=P) (N:=N) (T:=T) (st:=st) (st2:=st2) bX he (hh (by omega));rw[bf]at e2;refine⟨fun h=>by omega,?_⟩;rw[e2];simp only[Option.map_some,hd,eN,eu,bX];rfl
  .have hqq:=Zsm bX bf;have e2:=ZIb (P:=P) (N:=N) (T:=T) (st:=st) (st2:=st2) bX he (hh (by omega)) ((hq bX hqq).trans hqq.symm);rw[bf]at e2;refine⟨fun h=>by omega,?_⟩;rw[e2];simp only[Option.map_some,hd,eN,eu,bX];rfl
theorem ZCo{P:Program}{N:Nat}{T:Tab}{ops:Array Oper}{ra:RA}{i:Nat}{o:Oper}{st st1 st2:St}{v:V}{obl:List Prop}(hc:Zfo ra i o.op=1)(hu:∀t∈Zfh ops o,st2.get t=st.get t)
  (hm:∀x∈ZcH o.op,Has st st2 fun id=>(evo st x).says id) (h:Znq P N T ops ra i o st=some (v,obl,st1)):Znq P N T ops ra i o st2=some (v,obl,st2):=by
 unfold Znq at h ⊢;rw[ZjK hu];split at h
 .cases h
 .cases h;rfl
 .have he:=ZkV hu;split at h
  .cases h
  rename_i v0 bB st0 bf;split at h
  .cases h
  rename_i v' obl' hd;split at h;rotate_left
  .cases h
  rename_i v'' eN;split at h;rotate_left
  .cases h
  rename_i v3 obl3 eu;cases h;have e2:=ZIc (P:=P) (N:=N) (T:=T) (st:=st) (st2:=st2) hc he hm bf;simp only[e2,hd,eN,eu]
theorem ZDM{P:Program}{N:Nat}{T:Tab}{ops:Array Oper}{ra:RA}{i:Nat}{o:Oper}{st st1:St}{v:V}{obl:List Prop}(hc:Zfo ra i o.op=3)(h:Znq P N T ops ra i o st=some (v,obl,st1)) :
  st1=st\/(ZdJ N (o.dst.getD 0) st=true/\∀id b,hget st1.heap id=some b->id=o.dst.getD 0\/hget st.heap id=some b):=by
 unfold Znq at h;split at h
 .cases h
 .cases h;exact .inl rfl
 .split at h
  .cases h
  rename_i v0 bB st0 bf;split at h
  .cases h
  split at h;rotate_left
  .cases h
  split at h;rotate_left
  .cases h
  cases h;exact .inr ⟨Zsm hc bf,ZAa hc bf⟩
theorem Zdt{N:Nat}{st:St}{d:Nat}(h:ZdJ N d st=true):Zhq st d N=true/\Zhe d st.heap=true:=by
 unfold ZdJ at h;split at h
 .rename_i h1;exact⟨h1,h⟩
 .cases h
theorem ZzJ{P:Program}{N:Nat}{T:Tab}{ops:Array Oper}{ra:RA}{i:Nat}{o:Oper}{st st1:St}{v:V}{obl:List Prop}(hc:Zfo ra i o.op=3)(hk:ZBi o.op=true)(h:Znq P N T ops ra i o st=some (v,obl,st1)) :
  ∀id b,hget st.heap id=some b->hget st1.heap id=some b:=by
 unfold Znq at h;split at h
 .cases h
 .cases h;exact fun _ _ h=>h
 .split at h
  .cases h
  rename_i v0 bB st0 bf;split at h
  .cases h
  split at h;rotate_left
  .cases h
  split at h;rotate_left
  .cases h
  cases h;exact ZyC hc hk (ZiA (Zdt (Zsm hc bf)).2).1 bf
def Zgz(o:Oper)(ha:HA):Bool:=match ha.lend,ha.new,ha.h1,o.guard with
 | [],[(c,d)],[(c',.rows _ _ _ _)],none=>Nat.beq d (o.dst.getD 0)&&Nat.beq c c'&&Nat.beq c 99999
 |_,_,_,_=>false
def clsX(ra:RA)(i:Nat)(o:Oper):Nat:=match ZcT ra.hc i with
 |none=>Zfo ra i o.op
 |some ha=>match Zgz o ha with
  |true=>3
  |false=>match ZcT ra.hc (i+1000)with
   |some _=>5
   |none=>match ha.new with
    | []=>2
    |_ :: _=>4
def ZtM(ra:RA)(i:Nat)(o:Oper):Bool:=match ZcT ra.hc i with
 |none=>ZBi o.op
 |some _=>true
def Zey(P:Program)(N:Nat)(ops:Array Oper)(ha:HA)(an:Option Ans)(o:Oper)(st:St):Option (V×List Prop×St):=match Zgr ops st o with
 |some true=>match o.op with
  | .call { callee:=c,args:=args,argTypes:=_ }=>Zgu P N st c args.toList ha an
  |_=>none
 |some false=>some (.one (.lit undef),[],st)
 |none=>none
def Zhg(P:Program)(N:Nat)(ops:Array Oper)(ha:HA)(an:Option Ans)(o:Oper)(st:St):Option (V×List Prop×St):=match Zgr ops st o with
 |some true=>match o.op with
  | .call { callee:=c,args:=args,argTypes:=_ }=>ZgN P N st c args.toList ha an
  |_=>none
 |some false=>some (.one (.lit undef),[],st)
 |none=>none
def Zeb(P:Program)(N:Nat)(T:Tab)(ops:Array Oper)(ra:RA)(i:Nat)(o:Oper)(st:St):Option (V×List Prop×St):=match ZcT ra.hc i with
 |none=>Znq P N T ops ra i o st
 |some ha=>match ZcT ra.hc (i+1000)with
  |none=>Zey P N ops ha (ZcT ra.an i) o st
  |some _=>Zhg P N ops ha (ZcT ra.an i) o st
theorem ZvC{P:Program}{N:Nat}{T:Tab}{ops:Array Oper}{ra:RA}{i:Nat}{o:Oper}{st st1 st2:St}{v:V}{obl:List Prop}(h:Zeb P N T ops ra i o st=some (v,obl,st1))(hp:putO N st1 o.dst v=some st2):Zlr P N T ops ra i o st=some (st2,obl):=by
 unfold Zeb at h;unfold Zlr;split at h
 .rename_i hk;rw[hk];simp only;unfold ZBg;simp only[h,hp]
 .rename_i ha hk;rw[hk];simp only;split at h
  .unfold Zey at h;unfold Zyd;split at h
   .split at h
    .rename_i h1 _ c args aY bz;simp only[h1,bz,Zur (Zus h),hp]
    .cases h
   .rename_i h1;cases h;simp only[h1,hp]
   .cases h
  .unfold Zhg at h;unfold Zyd;split at h
   .split at h
    .rename_i h1 _ c args aY bz;simp only[h1,bz,Zur h,hp]
    .cases h
   .rename_i h1;cases h;simp only[h1,hp]
   .cases h
theorem ZqI{P:Program}{N:Nat}{st st1:St}{c:Callee}{args:List Operand}{ha:HA}{an:Option Ans}{v:V}{obl:List Prop}(h:Zgu P N st c args ha an=some (v,obl,st1)):st1.env=st.env:=by
 unfold Zgu at h;split at h
 .split at h
  .cases h;rfl
  .cases h
 .cases h
theorem ZyH{P:Program}{N:Nat}{st st1:St}{c:Callee}{args:List Operand}{ha:HA}{an:Option Ans}{v:V}{obl:List Prop}(h:ZgN P N st c args ha an=some (v,obl,st1)):st1.env=st.env:=by
 unfold ZgN at h;split at h
 .rename_i r hr;cases h;exact ZqI hr
 .unfold Zky at h;split at h
  .split at h
   .split at h
    .cases h;rfl
    .cases h
   .cases h
  .cases h
theorem ZlM{P:Program}{N:Nat}{T:Tab}{ops:Array Oper}{ra:RA}{i:Nat}{o:Oper}{st st1:St}{v:V}{obl:List Prop}(h:Zeb P N T ops ra i o st=some (v,obl,st1)):st1.env=st.env:=by
 unfold Zeb at h;split at h
 .unfold Znq at h;split at h
  .cases h
  .cases h;rfl
  .split at h
   .cases h
   rename_i v0 bB st0 bf;split at h
   .cases h
   split at h;rotate_left
   .cases h
   split at h;rotate_left
   .cases h
   cases h;exact ZBA bf
 .split at h
  .unfold Zey at h;split at h
   .split at h
    .exact ZqI h
    .cases h
   .cases h;rfl
   .cases h
  .unfold Zhg at h;split at h
   .split at h
    .exact ZyH h
    .cases h
   .cases h;rfl
   .cases h
theorem Zix{P:Program}{st st2:St}{c:Callee}{args:Array Operand}{aY:Array TypeId}{an:Option Ans}(h:∀x∈ZcH (.call { callee:=c,args:=args,argTypes:=aY }),evo st2 x=evo st x):ZjG P st2 c an=ZjG P st c an:=by
 cases c with
 |value f=>simp only[ZjG,ZjB,h f (by simp[ZcH])]
 |invoke r n=>simp only[ZjG,h r (by simp[ZcH])]
 |builtin b=>rfl
theorem ZlQ{c:Callee}{args:Array Operand}{aY:Array TypeId}:∀x∈args.toList,x∈ZcH (.call { callee:=c,args:=args,argTypes:=aY }):=by
 intro x hx;cases c<;>simp only[ZcH]<;>first|exact hx|exact List.mem_cons_of_mem _ hx
theorem ZHh{P:Program}{N:Nat}{ops:Array Oper}{ha:HA}{an:Option Ans}{o:Oper}{st st1:St}{v:V}{obl:List Prop}(hn:ha.new=[])(h:Zey P N ops ha an o st=some (v,obl,st1)) :
  st1.env=st.env/\∀st2:St,(∀t∈Zfh ops o,st2.get t=st.get t)->st2.heap=st.heap->Zey P N ops ha an o st2=some (v,obl,⟨st2.env,st1.heap⟩):=by
 unfold Zey at h;split at h
 .rename_i bI;split at h
  .rename_i c args aY bz;refine⟨ZqI h,fun st2 hu hh=>?_⟩;unfold Zey;rw[ZjK hu,bI];have he:=ZkV hu;rw[bz]at he ⊢;simp only;unfold Zgu at h ⊢;rw[Zix he];have aA:okHA N st2 ha=okHA N st ha:=by
    unfold okHA;rw[hn];rfl
   split at h;rotate_left
   .cases h
   rename_i g a b om hcal;rw[ZgO (fun x hx=>he x (ZlQ x hx)) a b,aA,hh];split at h;rotate_left
   .cases h
   rename_i h0 vs hp r q1 q2 q3 q4 q5;cases h;simp only[q1,q2,q3,q4,q5]
  .cases h
 .rename_i bI;cases h;refine⟨rfl,fun st2 hu hh=>?_⟩;unfold Zey;rw[ZjK hu,bI];simp only[<-hh]
 .cases h
theorem ZtD{d e:Nat}{b:B}(hne:e≠d)(hb:b.says d=false):∀{h:List (Nat×B)},Zhe d h=true->Zhe d (hins h e b)=true:=by
 have hf:Nat.beq e d=false:=by
  cases hx:Nat.beq e d
  .rfl
  .exact absurd (Nat.eq_of_beq_eq_true hx) hne
 intro h;induction h with
 |nil=>intro _;simp only[hins,Zhe,hf,hb]
 |cons p r ih=>
  obtain⟨k,v⟩:=p;intro hq;have fA:=hq;simp only[Zhe]at hq;split at hq
  .rename_i h1 h2;simp only[hins];split
   .simp only[Zhe,hf,hb];exact hq
   .split
    .simp only[Zhe,hf,hb,h1,h2];exact hq
    .simp only[Zhe,h1,h2];exact ih hq
  .cases hq
theorem ZmU{d e:Nat}{b:B}:∀{h:List (Nat×B)},hget h e=none->Zhe d (hins h e b)=true->Zhe d h=true
 | [],_,_=>rfl
 | (k,v) :: r,hn,hq=>by
  rw[Zbe]at hn
  split at hn
  .cases hn
  rename_i hke
  have hf:Nat.beq k e=false:=by
   cases hx:Nat.beq k e
   .rfl
   .exact absurd (Nat.eq_of_beq_eq_true hx) hke
  simp only[hins,hf]at hq;split at hq
  .simp only[Zhe]at hq;split at hq
   .simp only[Zhe];exact hq
   .cases hq
  .simp only[Zhe]at hq ⊢;split at hq
   .rename_i h1 h2;exact ZmU hn hq
   .cases hq
theorem ZBt{P:Program}{N:Nat}{ops:Array Oper}{ha:HA}{an:Option Ans}{o:Oper}{st st1:St}{v:V}{obl:List Prop}(hs:Zgz o ha=true)(h:Zey P N ops ha an o st=some (v,obl,st1)) :
  ∃b:B,(∀k,b.says k=false)/\ZdJ N (o.dst.getD 0) st=true/\st1=⟨st.env,hins st.heap (o.dst.getD 0) b⟩/\∀st2,(∀t∈Zfh ops o,st2.get t=st.get t)->ZdJ N (o.dst.getD 0) st2=true ->
   Zey P N ops ha an o st2=some (v,obl,⟨st2.env,hins st2.heap (o.dst.getD 0) b⟩):=by
 unfold Zgz at hs;split at hs;rotate_left
 .cases hs
 rename_i c d c' e sz len cc hl hn cF bI;simp only[Bool.and_eq_true]at hs;obtain⟨⟨e1,e2⟩,e3⟩:=hs;have e1:=Nat.eq_of_beq_eq_true e1;have e2:=Nat.eq_of_beq_eq_true e2;subst e2;obtain⟨lend,new,h1,res⟩:=ha;simp only at hl hn cF;subst hl hn cF;subst e1;have hg:∀st:St,Zgr ops st o=some true:=fun st=>by unfold Zgr;rw[bI]
 unfold Zey at h;rw[hg]at h;simp only at h;split at h;rotate_left
 .cases h
 rename_i f args aY bz;unfold Zgu at h;split at h;rotate_left
 .cases h
 rename_i g a b om hcal;split at h;rotate_left
 .cases h
 rename_i h0 vs hp r aA dy cn cz hr;cases h;have hq:ZdJ N (o.dst.getD 0) st=true:=by
  unfold okHA at aA;split at aA
  .rename_i q1 q2 q3 q4;exact List.all_eq_true.1 q4 _ (List.mem_cons_self)
  .cases aA
 have ip:hp=[(o.dst.getD 0,.rows e sz len cc)]:=by
  have:gOut ⟨[],[(c,o.dst.getD 0)],[(c,.rows e sz len cc)],res⟩ c=some (o.dst.getD 0):=by
   simp only[gOut,ZoG,Nat.beq_refl]
  simp only[ZqU,this,renB]at cz;exact(Option.some.inj cz).symm
 subst ip;refine⟨.rows e sz len cc,fun _=>rfl,hq,rfl,fun st2 hu cg=>?_⟩;have he:∀x∈ZcH (.call { callee:=f,args:=args,argTypes:=aY }),evo st2 x=evo st x:=fun x hx=>ZkV hu x (by rw[bz];exact hx);have b9:Zcl st2 args.toList a b=Zcl st args.toList a b:=ZgO (fun x hx=>he x (ZlQ x hx)) a b;have dL:okHA N st2 ⟨[],[(c,o.dst.getD 0)],[(c,.rows e sz len cc)],res⟩=true:=by
  unfold okHA at aA ⊢;split at aA
  .rename_i q1 q2 q3 q4;simp only at q1 q2 q3;simp only[q1,q2,q3,List.all_cons,List.all_nil,cg,Bool.and_true]
  .cases aA
 have gS:hIn (bwd ([]:List (Nat×Nat))) st2.heap ([]:List (Nat×Nat))=some h0:=dy;unfold Zey;rw[hg];simp only[bz];unfold Zgu;rw[Zix he,hcal];simp only[dL,gS,b9,cn,cz,hr];rfl
theorem Zxa{P:Program}{N:Nat}{st st2:St}{c:Callee}{args:Array Operand}{aY:Array TypeId}{ha:HA}{an:Option Ans}(he:∀x∈ZcH (.call { callee:=c,args:=args,argTypes:=aY }),evo st2 x=evo st x)(hh:st2.heap=st.heap)(aA:okHA N st2 ha=okHA N st ha) :
  ZgN P N st2 c args.toList ha an=(ZgN P N st c args.toList ha an).map fun r=>(r.1,r.2.1,⟨st2.env,r.2.2.heap⟩):=by
 have b9:∀a b,Zcl st2 args.toList a b=Zcl st args.toList a b:=fun a b=>ZgO (fun x hx=>he x (ZlQ x hx)) a b;have e1:Zgu P N st2 c args.toList ha an=(Zgu P N st c args.toList ha an).map fun r=>(r.1,r.2.1,⟨st2.env,r.2.2.heap⟩):=by
  unfold Zgu;rw[Zix he,aA,hh];cases ZjG P st c an with
  |none=>rfl
  |some q=>
   obtain⟨g,a,b,om⟩:=q;simp only[b9];generalize okHA N st ha=x1;generalize hIn (bwd ha.lend) st.heap ha.lend=x2;generalize ZCe (bwd ha.lend) (Zcl st args.toList a b)=x3;generalize ZqU (gOut ha) ha.h1=x4;generalize renV (gOut ha) ha.res=x5;cases x1<;>cases x2<;>cases x3<;>cases x4<;>cases x5<;>rfl
 have e2:Zky P N st2 c args.toList ha an=(Zky P N st c args.toList ha an).map fun r=>(r.1,r.2.1,⟨st2.env,r.2.2.heap⟩):=by
  obtain⟨lend,new,h1,res⟩:=ha;have hb:∀l,borA st2 l=borA st l:=ZuH hh;unfold Zky;rw[Zix he,aA,hh];simp only[b9,hb];cases ZjG P st c an with
  |none=>split<;>rfl
  |some q=>
   obtain⟨g,a,b,om⟩:=q;simp only;generalize okHA N st ⟨lend,new,h1,res⟩=x1;generalize borA st (Zcl st args.toList a b)=x2;generalize ZqU (gOut ⟨lend,new,h1,res⟩) h1=x3;generalize renV (gOut ⟨lend,new,h1,res⟩) res=x4;generalize ZtS h1=x5;split
   .cases x1<;>cases x2<;>cases x3<;>cases x4<;>cases x5<;>rfl
   .rfl
 unfold ZgN;rw[e1,e2];cases Zgu P N st c args.toList ha an<;>rfl
theorem ZHi{P:Program}{N:Nat}{ops:Array Oper}{ha:HA}{an:Option Ans}{o:Oper}{st st1:St}{v:V}{obl:List Prop}(hs:Zgz o ha=true)(h:Zhg P N ops ha an o st=some (v,obl,st1)) :
  ∃b:B,ZdJ N (o.dst.getD 0) st=true/\st1=⟨st.env,hins st.heap (o.dst.getD 0) b⟩/\∀st2,(∀t∈Zfh ops o,st2.get t=st.get t)->st2.heap=st.heap->ZdJ N (o.dst.getD 0) st2=true ->
   Zhg P N ops ha an o st2=some (v,obl,⟨st2.env,st1.heap⟩):=by
 unfold Zgz at hs;split at hs;rotate_left
 .cases hs
 rename_i c d c' e sz len cc hl hn cF bI;simp only[Bool.and_eq_true]at hs;obtain⟨⟨e1,e2⟩,e3⟩:=hs;have e1:=Nat.eq_of_beq_eq_true e1;have e2:=Nat.eq_of_beq_eq_true e2;subst e2;obtain⟨lend,new,h1,res⟩:=ha;simp only at hl hn cF;subst hl hn cF;subst e1;have hg:∀st:St,Zgr ops st o=some true:=fun st=>by unfold Zgr;rw[bI]
 unfold Zhg at h;rw[hg]at h;simp only at h;split at h;rotate_left
 .cases h
 rename_i f args aY bz;have ip:∀hp,ZqU (gOut ⟨[],[(c,o.dst.getD 0)],[(c,.rows e sz len cc)],res⟩) [(c,.rows e sz len cc)]=some hp->hp=[(o.dst.getD 0,.rows e sz len cc)]:=fun hp cz=>by
  have:gOut ⟨[],[(c,o.dst.getD 0)],[(c,.rows e sz len cc)],res⟩ c=some (o.dst.getD 0):=by
   simp only[gOut,ZoG,Nat.beq_refl]
  simp only[ZqU,this,renB]at cz;exact(Option.some.inj cz).symm
 have eT:okHA N st ⟨[],[(c,o.dst.getD 0)],[(c,.rows e sz len cc)],res⟩=true/\st1=⟨st.env,hins st.heap (o.dst.getD 0) (.rows e sz len cc)⟩:=by
  have h':=h;unfold ZgN at h';split at h'
  .rename_i r hr;cases h';unfold Zgu at hr;split at hr;rotate_left
   .cases hr
   split at hr;rotate_left
   .cases hr
   rename_i h0 vs hp r aA dy cn cz eO;cases hr;rw[ip _ cz];exact⟨aA,rfl⟩
  .unfold Zky at h';split at h';rotate_left
   .cases h'
   split at h';rotate_left
   .cases h'
   split at h';rotate_left
   .cases h'
   rename_i vs hp r ps aA cn cz eO cm;cases h';rw[ip _ cz];exact⟨aA,rfl⟩
 obtain⟨aA,bv⟩:=eT;have hq:ZdJ N (o.dst.getD 0) st=true:=by
  have bA:=aA;unfold okHA at bA;split at bA
  .rename_i q1 q2 q3 q4;exact List.all_eq_true.1 q4 _ (List.mem_cons_self)
  .cases bA
 refine⟨.rows e sz len cc,hq,bv,fun st2 hu hh cg=>?_⟩;have he:∀x∈ZcH (.call { callee:=f,args:=args,argTypes:=aY }),evo st2 x=evo st x:=fun x hx=>ZkV hu x (by rw[bz];exact hx);have dL:okHA N st2 ⟨[],[(c,o.dst.getD 0)],[(c,.rows e sz len cc)],res⟩=true:=by
  have bA:=aA;unfold okHA at bA ⊢;split at bA
  .rename_i q1 q2 q3 q4;simp only at q1 q2 q3;simp only[q1,q2,q3,List.all_cons,List.all_nil,cg,Bool.and_true]
  .cases bA
 unfold Zhg;rw[hg];simp only[bz];rw[Zxa he hh (dL.trans aA.symm),h];rfl
def ZGv:Op->Bool | .makeSlice .. | .buildSlice .. | .alloc _=>true|_=>false
theorem ZBT{ti:TI}{l:List C}(h:Ztj ti=some l)(k:Nat):l.any (C.says k)=false:=by
 unfold Ztj at h;split at h;rotate_left
 .cases h
 rename_i z hz;have lits:∀xs:List Value,(xs.map C.lit).any (C.says k)=false:=fun xs=>by
  induction xs with
  |nil=>rfl
  |cons x xs ih=>simp[C.says,ih]
 cases z with
 |agg cs=>
  simp only[V.ofVal]at h;split at h
  .cases h;exact lits _
  .cases h
 |_=>
  simp only[V.ofVal,V.cells]at h
  first | (cases h;rfl) | (split at h<;>cases h;rfl)
def ZsB(ra:RA)(i:Nat)(o:Oper):Bool:=match ZcT ra.hc i with
 |some ha=>match ZcT ra.hc (i+1000)with
  |none=>true
  |some _=>Zgz o ha
 |none=>Nat.ble (Zfo ra i o.op) 3
def Zld(ra:RA)(i:Nat)(o:Oper):Bool:=match ZcT ra.hc i with
 |some ha=>match ZcT ra.hc (i+1000)with
  |none=>Zgz o ha
  |some _=>false
 |none=>match o.guard with
  |none=>ZGv o.op&&Nat.beq (Zfo ra i o.op) 3
  |some _=>false
theorem ZAc{N:Nat}{T:Tab}{st st1:St}{d t:Nat}{x y:V}{an:Option Ans}{v:V}{obl:List Prop}(h:Zmp N T st d t x y an=some (v,obl,st1)) :
  ∃b:B,(∀k,b.says k=false)/\ZdJ N d st=true/\st1=⟨st.env,hins st.heap d b⟩/\∀st2,ZdJ N d st2=true->Zmp N T st2 d t x y an=some (v,obl,⟨st2.env,hins st2.heap d b⟩):=by
 unfold Zmp at h
 repeat' split at h
 all_goals first | (cases h;done)|skip
 all_goals
  cases h;refine⟨_,fun _=>rfl,by assumption,rfl,fun st2 hq=>?_⟩;unfold Zmp;simp only[*,St.new]
theorem Zup{N:Nat}{T:Tab}{st st1:St}{d t n:Nat}{ps:List (Nat×V)}{k:Nat}{c:Nat->Nat->C}{v:V}{obl:List Prop}(h:Zfm N T st d t n ps (some (.c k c))=some (v,obl,st1)) :
  ∃b:B,(∀k,b.says k=false)/\ZdJ N d st=true/\st1=⟨st.env,hins st.heap d b⟩/\∀st2,ZdJ N d st2=true->Zfm N T st2 d t n ps (some (.c k c))=some (v,obl,⟨st2.env,hins st2.heap d b⟩):=by
 unfold Zfm at h ⊢;split at h<;>try (cases h;done)
 split at h<;>try (cases h;done)
 split at h<;>try (cases h;done)
 split at h<;>try (cases h;done)
 split at h<;>try (cases h;done)
 split at h<;>try (cases h;done)
 simp only at h;split at h
 .cases h
 .rename_i hq;cases h;refine⟨_,fun _=>rfl,hq,rfl,fun st2 cg=>?_⟩;simp only[*,St.new]
theorem ZlT{P:Program}{N:Nat}{T:Tab}{ops:Array Oper}{ra:RA}{i:Nat}{o:Oper}{st st1:St}{v:V}{obl:List Prop}(hs:Zld ra i o=true)(h:Zeb P N T ops ra i o st=some (v,obl,st1)) :
  ∃b:B,(∀k,b.says k=false)/\ZdJ N (o.dst.getD 0) st=true/\st1=⟨st.env,hins st.heap (o.dst.getD 0) b⟩/\∀st2,(∀t∈Zfh ops o,st2.get t=st.get t)->ZdJ N (o.dst.getD 0) st2=true ->
   Zeb P N T ops ra i o st2=some (v,obl,⟨st2.env,hins st2.heap (o.dst.getD 0) b⟩):=by
 unfold Zld at hs;unfold Zeb at h ⊢;split at hs
 .rename_i ha hk;cases hk2:ZcT ra.hc (i+1000)with
  |some y=>rw[hk2]at hs;cases hs
  |none=>
   rw[hk2]at hs;simp only[hk,hk2]at h ⊢;exact ZBt hs h
 .rename_i hk;rw[hk]at h ⊢;simp only at h ⊢;split at hs;rotate_left
  .cases hs
  rename_i bI;have hg:∀st:St,Zgr ops st o=some true:=fun st=>by unfold Zgr;rw[bI]
  simp only[Bool.and_eq_true]at hs;obtain⟨hr,dK⟩:=hs;have dK:=Nat.eq_of_beq_eq_true dK;unfold Znq at h;rw[hg]at h;simp only at h;split at h
  .cases h
  rename_i v0 bB st0 bf;split at h
  .cases h
  rename_i v' obl' hd;split at h;rotate_left
  .cases h
  rename_i v'' eN;split at h;rotate_left
  .cases h
  rename_i v3 obl3 eu;cases h;have eT:∃b:B,(∀k,b.says k=false)/\ZdJ N (o.dst.getD 0) st=true/\st1=⟨st.env,hins st.heap (o.dst.getD 0) b⟩/\∀st2,(∀x∈ZcH o.op,evo st2 x=evo st x)->ZdJ N (o.dst.getD 0) st2=true ->
    evOp P N T o st2 (ZcT ra.an i)=some (v0,bB,⟨st2.env,hins st2.heap (o.dst.getD 0) b⟩):=by
   obtain⟨dst,op,type,dH,after,guard⟩:=o;simp only at hr dK bI ⊢;cases op<;>simp only[ZGv]at hr<;>try (cases hr;done)
   case alloc t0 _=>
    simp only[evOp]at bf;split at bf;rotate_left
    .cases bf
    rename_i te bx;split at bf;rotate_left
    .cases bf
    rename_i l hl;unfold Zpv at bf;split at bf;rotate_left
    .cases bf
    rename_i hq kw;cases bf;refine⟨.box l,fun k=>ZBT hl k,hq,rfl,fun st2 he cg=>?_⟩;simp only[evOp,bx,hl];unfold Zpv;rw[cg,kw];rfl
   case makeSlice t0 x y _=>
    simp only[Zfo]at dK;split at dK
    .cases dK
    rename_i hx;simp only[evOp]at bf;split at bf
    .rename_i hk;exact absurd hk (hx _ _)
    .cases bf
    obtain⟨b,h1,h2,h3,h4⟩:=ZAc bf;refine⟨b,h1,h2,h3,fun st2 he hq=>?_⟩;simp only[evOp];rw[he x (by simp[ZcH]),he y (by simp[ZcH])];exact h4 st2 hq
   case buildSlice t n ps _=>
    simp only[Zfo]at dK;split at dK;rotate_left
    .cases dK
    rename_i k c jG;simp only[evOp,jG]at bf;obtain⟨b,h1,h2,h3,h4⟩:=Zup bf;refine⟨b,h1,h2,h3,fun st2 he hq=>?_⟩;simp only[evOp,jG];rw[ZqZ (fun x hx=>he x (by simpa[ZcH]using hx))];exact h4 st2 hq
  obtain⟨b,h1,h2,h3,h4⟩:=eT;refine⟨b,h1,h2,h3,fun st2 hu hq=>?_⟩;unfold Znq;rw[hg];simp only[h4 st2 (ZkV hu) hq,hd,eN,eu]
theorem ZkA{ra:RA}{i:Nat}{o:Oper}(h:ZcT ra.hc i=none):clsX ra i o=Zfo ra i o.op:=by unfold clsX;rw[h]
theorem ZuC{ra:RA}{i:Nat}{o:Oper}{ha:HA}(h:ZcT ra.hc i=some ha)(hc:clsX ra i o<=3):(Zgz o ha=true/\clsX ra i o=3)\/(ha.new=[]/\clsX ra i o=2/\ZcT ra.hc (i+1000)=none):=by
 unfold clsX at hc ⊢;rw[h]at hc ⊢;simp only at hc ⊢;split at hc
 .rename_i hs;exact .inl ⟨hs,rfl⟩
 .split at hc
  .omega
  .rename_i hk2;split at hc
   .rename_i hn;exact .inr ⟨hn,rfl,hk2⟩
   .omega
theorem ZtK{P:Program}{N:Nat}{T:Tab}{ops:Array Oper}{ra:RA}{i:Nat}{o:Oper}{ha:HA}{st st1:St}{v:V}{obl:List Prop}(hk:ZcT ra.hc i=some ha)(hs:Zgz o ha=true)(h:Zeb P N T ops ra i o st=some (v,obl,st1)) :
  ∃b:B,ZdJ N (o.dst.getD 0) st=true/\st1=⟨st.env,hins st.heap (o.dst.getD 0) b⟩/\∀st2,(∀t∈Zfh ops o,st2.get t=st.get t)->st2.heap=st.heap->ZdJ N (o.dst.getD 0) st2=true ->
   Zeb P N T ops ra i o st2=some (v,obl,⟨st2.env,st1.heap⟩):=by
 unfold Zeb at h ⊢;cases hk2:ZcT ra.hc (i+1000)with
 |none=>
  simp only[hk,hk2]at h ⊢;obtain⟨b,h1,h2,rfl,h4⟩:=ZBt hs h;refine⟨b,h2,rfl,fun st2 hu hh hq=>?_⟩;rw[h4 st2 hu hq,hh]
 |some x=>
  simp only[hk,hk2]at h ⊢;exact ZHi hs h
theorem Zfp{P:Program}{N:Nat}{T:Tab}{ops:Array Oper}{ra:RA}{i:Nat}{o:Oper}{st st1 st2:St}{v:V}{obl:List Prop}(hc:clsX ra i o<=3)(hu:∀t∈Zfh ops o,st2.get t=st.get t)
  (hh:clsX ra i o≠0->st2.heap=st.heap) (hq:clsX ra i o=3->ZdJ N (o.dst.getD 0) st=true->ZdJ N (o.dst.getD 0) st2=true) (h:Zeb P N T ops ra i o st=some (v,obl,st1)) :
  st1.env=st.env/\(clsX ra i o<=1->st1.heap=st.heap)/\Zeb P N T ops ra i o st2=some (v,obl,⟨st2.env,if clsX ra i o<=1 then st2.heap else st1.heap⟩):=by
 cases hk:ZcT ra.hc i with
 |none=>
  rw[ZkA hk]at *
  unfold Zeb at h ⊢;rw[hk]at h ⊢;exact ZzI hc hu hh hq h
 |some ha=>
  rcases ZuC hk hc with⟨hs,e3⟩|⟨hn,e3,hk2⟩
  .rw[e3]at hh hq ⊢;obtain⟨b,h2,rfl,h4⟩:=ZtK hk hs h;refine⟨rfl,fun h=>by omega,?_⟩;rw[h4 st2 hu (hh (by omega)) (hq rfl h2)];rfl
  .rw[e3]at hh hq ⊢;unfold Zeb at h ⊢;rw[hk]at h ⊢;simp only at h ⊢;rw[hk2]at h ⊢;simp only at h ⊢;obtain⟨h1,h2⟩:=ZHh hn h;refine⟨h1,fun h=>by omega,?_⟩;rw[h2 st2 hu (hh (by omega))];rfl
theorem ZlU{P:Program}{N:Nat}{T:Tab}{ops:Array Oper}{ra:RA}{i:Nat}{o:Oper}{st st1 st2:St}{v:V}{obl:List Prop}(hc:clsX ra i o=1)(hu:∀t∈Zfh ops o,st2.get t=st.get t)
  (hm:∀x∈ZcH o.op,Has st st2 fun id=>(evo st x).says id) (h:Zeb P N T ops ra i o st=some (v,obl,st1)):Zeb P N T ops ra i o st2=some (v,obl,st2):=by
 cases hk:ZcT ra.hc i with
 |none=>
  rw[ZkA hk]at *
  unfold Zeb at h ⊢;rw[hk]at h ⊢;exact ZCo hc hu hm h
 |some ha=>
  unfold clsX at hc;rw[hk]at hc;simp only at hc
  repeat' split at hc
  all_goals omega
theorem ZvD{P:Program}{N:Nat}{T:Tab}{ops:Array Oper}{ra:RA}{i:Nat}{o:Oper}{st st1:St}{v:V}{obl:List Prop}(hc:clsX ra i o=3)(h:Zeb P N T ops ra i o st=some (v,obl,st1)) :
  st1=st\/(ZdJ N (o.dst.getD 0) st=true/\∀id b,hget st1.heap id=some b->id=o.dst.getD 0\/hget st.heap id=some b):=by
 cases hk:ZcT ra.hc i with
 |none=>
  rw[ZkA hk]at *
  unfold Zeb at h;rw[hk]at h;exact ZDM hc h
 |some ha=>
  obtain⟨hs,e3⟩ : Zgz o ha=true/\clsX ra i o=3:=(ZuC hk (Nat.le_of_eq hc)).resolve_right fun h=>by have:=h.2.1;omega
  obtain⟨b,h2,rfl,h4⟩:=ZtK hk hs h;refine .inr ⟨h2,fun id b' hb=>?_⟩;simp only[Zfq]at hb;split at hb
  .rename_i e;exact .inl e.symm
  .exact .inr hb
theorem Zyc{P:Program}{N:Nat}{T:Tab}{ops:Array Oper}{ra:RA}{i:Nat}{o:Oper}{st st1:St}{v:V}{obl:List Prop}(hc:clsX ra i o=3)(hk:ZtM ra i o=true)(h:Zeb P N T ops ra i o st=some (v,obl,st1)) :
  ∀id b,hget st.heap id=some b->hget st1.heap id=some b:=by
 unfold ZtM at hk;cases hk':ZcT ra.hc i with
 |none=>
  rw[ZkA hk']at *
  unfold Zeb at h;rw[hk']at h hk;exact ZzJ hc hk h
 |some ha=>
  obtain⟨hs,e3⟩ : Zgz o ha=true/\clsX ra i o=3:=(ZuC hk' (Nat.le_of_eq hc)).resolve_right fun h=>by have:=h.2.1;omega
  obtain⟨b,h2,rfl,h4⟩:=ZtK hk' hs h;intro id b' hb;simp only[Zfq];have:=(ZiA (Zdt h2).2).1;rw[if_neg (fun e=>by rw[e,hb]at this;cases this)];exact hb
def isMk(ra:RA)(i:Nat)(o:Oper):Bool:=match ZcT ra.hc i,ZcT ra.hc (i+1000),o.op with
 |some ha,some _,.call { callee:=.value (.func _),args:=_,argTypes:=_ }=>Zgz o ha
 |_,_,_=>false
theorem ZFW{P:Program}{N:Nat}{ops:Array Oper}{ha:HA}{an:Option Ans}{o:Oper}{g:FuncId}{args:Array Operand}{aY:Array TypeId}{st st1:St}{v:V}{obl:List Prop}(hs:Zgz o ha=true)
  (bz:o.op=.call { callee:=.value (.func g),args:=args,argTypes:=aY }) (h:Zhg P N ops ha an o st=some (v,obl,st1)) :
  ∃b:B,(∀k,b.says k=false)/\ZdJ N (o.dst.getD 0) st=true/\st1=⟨st.env,hins st.heap (o.dst.getD 0) b⟩/\∀st2,(∀t∈Zfh ops o,st2.get t=st.get t)->(∀x∈ZcH o.op,Has st st2 fun id=>(evo st x).says id)->ZdJ N (o.dst.getD 0) st2=true ->
   Zhg P N ops ha an o st2=some (v,obl,⟨st2.env,hins st2.heap (o.dst.getD 0) b⟩):=by
 have cY:=hs;unfold Zgz at hs;split at hs;rotate_left
 .cases hs
 rename_i c d c' e sz len cc hl hn cF bI;simp only[Bool.and_eq_true]at hs;obtain⟨⟨e1,e2⟩,e3⟩:=hs;have e1:=Nat.eq_of_beq_eq_true e1;have e2:=Nat.eq_of_beq_eq_true e2;subst e2;obtain⟨lend,new,h1,res⟩:=ha;simp only at hl hn cF;subst hl hn cF;subst e1;have hg:∀st:St,Zgr ops st o=some true:=fun st=>by unfold Zgr;rw[bI]
 have kA:∀st,Zey P N ops ⟨[],[(c,o.dst.getD 0)],[(c,.rows e sz len cc)],res⟩ an o st=Zgu P N st (.value (.func g)) args.toList ⟨[],[(c,o.dst.getD 0)],[(c,.rows e sz len cc)],res⟩ an:=fun st=>by
  unfold Zey;rw[hg];simp only[bz]
 have kB:∀st,Zhg P N ops ⟨[],[(c,o.dst.getD 0)],[(c,.rows e sz len cc)],res⟩ an o st=ZgN P N st (.value (.func g)) args.toList ⟨[],[(c,o.dst.getD 0)],[(c,.rows e sz len cc)],res⟩ an:=fun st=>by
  unfold Zhg;rw[hg];simp only[bz]
 rw[kB]at h;cases hE:Zgu P N st (.value (.func g)) args.toList ⟨[],[(c,o.dst.getD 0)],[(c,.rows e sz len cc)],res⟩ an with
 |some r=>
  unfold ZgN at h;rw[hE]at h;simp only at h;cases h;obtain⟨b,q1,q2,q3,q4⟩:=ZBt cY ((kA st).trans hE);refine⟨b,q1,q2,q3,fun st2 hu hm hq=>?_⟩;rw[kB];exact Zus ((kA st2).symm.trans (q4 st2 hu hq))
 |none=>
  unfold ZgN at h;rw[hE]at h;simp only at h;have ip:∀hp,ZqU (gOut ⟨[],[(c,o.dst.getD 0)],[(c,.rows e sz len cc)],res⟩) [(c,.rows e sz len cc)]=some hp->hp=[(o.dst.getD 0,.rows e sz len cc)]:=fun hp cz=>by
   have:gOut ⟨[],[(c,o.dst.getD 0)],[(c,.rows e sz len cc)],res⟩ c=some (o.dst.getD 0):=by
    simp only[gOut,ZoG,Nat.beq_refl]
   simp only[ZqU,this,renB]at cz;exact(Option.some.inj cz).symm
  obtain⟨k0,n0,rfl⟩ : ∃k n,res=.one (.osl k n):=by
   unfold Zky at h;simp only at h;split at h
   .exact⟨_,_,rfl⟩
   .cases h
  unfold Zky at h;simp only at h;split at h;rotate_left
  .cases h
  rename_i g' a b om hcal;split at h;rotate_left
  .cases h
  rename_i vs hp r ps aA cn cz eO cm;cases h;obtain rfl:=ip _ cz;have hq:ZdJ N (o.dst.getD 0) st=true:=by
   have bA:=aA;unfold okHA at bA;split at bA
   .rename_i q1 q2 q3 q4;exact List.all_eq_true.1 q4 _ (List.mem_cons_self)
   .cases bA
  refine⟨.rows e sz len cc,fun _=>rfl,hq,rfl,fun st2 hu hm cg=>?_⟩;have he:∀x∈ZcH (.call { callee:=.value (.func g),args:=args,argTypes:=aY }),evo st2 x=evo st x:=fun x hx=>ZkV hu x (by rw[bz];exact hx);have dL:okHA N st2 ⟨[],[(c,o.dst.getD 0)],[(c,.rows e sz len cc)],.one (.osl k0 n0)⟩=true:=by
   have bA:=aA;unfold okHA at bA ⊢;split at bA
   .rename_i q1 q2 q3 q4;simp only at q1 q2 q3;simp only[q1,q2,q3,List.all_cons,List.all_nil,cg,Bool.and_true]
   .cases bA
  have kx:a=[]/\b=[]:=by
   simp only[ZjG,ZjB,evo,V.ofVal]at hcal
   first
    | (cases hcal;exact⟨rfl,rfl⟩)
    | (simp at hcal;exact⟨hcal.2.1.symm,hcal.2.2.1.symm⟩)
  obtain⟨rfl,rfl⟩:=kx;have b9:Zcl st2 args.toList [] []=Zcl st args.toList [] []:=ZgO (fun x hx=>he x (ZlQ x hx)) [] [];have hbm:borA st2 (Zcl st args.toList [] [])=some vs:=by
   refine ZuG (fun v hv=>?_) cn;unfold Zcl at hv;simp only[List.map_nil,List.nil_append,List.append_nil,List.mem_map]at hv;obtain⟨x,hx,rfl⟩:=hv;exact hm x (by rw[bz];exact ZlQ x hx)
  have ky:Zgu P N st2 (.value (.func g)) args.toList ⟨[],[(c,o.dst.getD 0)],[(c,.rows e sz len cc)],.one (.osl k0 n0)⟩ an=none:=by
   cases ky:Zgu P N st2 (.value (.func g)) args.toList ⟨[],[(c,o.dst.getD 0)],[(c,.rows e sz len cc)],.one (.osl k0 n0)⟩ an with
   |none=>rfl
   |some r2=>
    obtain⟨b2,_,_,_,q4⟩:=ZBt cY ((kA st2).trans ky);have:=q4 st (fun t ht=>(hu t ht).symm) hq;rw[kA,hE]at this;cases this
  rw[kB];unfold ZgN;rw[ky];simp only;unfold Zky;simp only;rw[Zix he,hcal];simp only[dL,b9,hbm,cz,eO,cm];rfl
theorem Zyb{P:Program}{N:Nat}{T:Tab}{ops:Array Oper}{ra:RA}{i:Nat}{o:Oper}{st st1:St}{v:V}{obl:List Prop}(hs:(Zld ra i o||isMk ra i o)=true)(h:Zeb P N T ops ra i o st=some (v,obl,st1)) :
  ∃b:B,(∀k,b.says k=false)/\ZdJ N (o.dst.getD 0) st=true/\st1=⟨st.env,hins st.heap (o.dst.getD 0) b⟩/\∀st2,(∀t∈Zfh ops o,st2.get t=st.get t)->(∀x∈ZcH o.op,Has st st2 fun id=>(evo st x).says id)->ZdJ N (o.dst.getD 0) st2=true ->
   Zeb P N T ops ra i o st2=some (v,obl,⟨st2.env,hins st2.heap (o.dst.getD 0) b⟩):=by
 rw[Bool.or_eq_true]at hs;rcases hs with hs|hs
 .obtain⟨b,h1,h2,h3,h4⟩:=ZlT hs h;exact⟨b,h1,h2,h3,fun st2 hu _ hq=>h4 st2 hu hq⟩
 .unfold isMk at hs;split at hs;rotate_left
  .cases hs
  rename_i ha y g args aY hk hk2 bz;unfold Zeb at h ⊢;simp only[hk,hk2]at h ⊢;exact ZFW hs bz h
theorem ZBq{ra:RA}{i:Nat}{o:Oper}(hs:isMk ra i o=true):clsX ra i o=3:=by
 unfold isMk at hs;split at hs;rotate_left
 .cases hs
 rename_i ha y g args aY hk hk2 bz;unfold clsX;rw[hk];simp only[hs]
theorem ZFV{P:Program}{N:Nat}{ops:Array Oper}{c e:Nat}{b:B}{res:V}{an:Option Ans}{o:Oper}{st st1:St}{v:V}{obl:List Prop}(bI:o.guard=none)
  (h:Zey P N ops ⟨[(c,e)],[],[(c,b)],res⟩ an o st=some (v,obl,st1)) :
  ∃b',renB (gOut ⟨[(c,e)],[],[(c,b)],res⟩) b=some b'/\st1=⟨st.env,hrep st.heap e b'⟩/\(∃b0 b1,hget st.heap e=some b0/\renB (bwd [(c,e)]) b0=some b1) /\
   ∀st2,(∀t∈Zfh ops o,st2.get t=st.get t)->hget st2.heap e=hget st.heap e->Zey P N ops ⟨[(c,e)],[],[(c,b)],res⟩ an o st2=some (v,obl,⟨st2.env,hrep st2.heap e b'⟩):=by
 have hg:∀st:St,Zgr ops st o=some true:=fun st=>by unfold Zgr;rw[bI]
 unfold Zey at h;rw[hg]at h;simp only at h;split at h;rotate_left
 .cases h
 rename_i f args aY bz;unfold Zgu at h;split at h;rotate_left
 .cases h
 rename_i g a b1 om hcal;split at h;rotate_left
 .cases h
 rename_i h0 vs hp r aA dy cn cz hr;cases h;have dk:gOut ⟨[(c,e)],[],[(c,b)],res⟩ c=some e:=by simp only[gOut,ZoG,Nat.beq_refl]
 obtain⟨b',aC,rfl⟩ : ∃b',renB (gOut ⟨[(c,e)],[],[(c,b)],res⟩) b=some b'/\hp=[(e,b')]:=by
  simp only[ZqU,dk]at cz;split at cz
  .rename_i i0 b0 l0 q1 q2 q3;cases q1;cases q3;cases cz;exact⟨_,q2,rfl⟩
  .cases cz
 have cW:∀hh,ZxW [(e,b')] [(c,e)] hh=hrep hh e b':=fun hh=>by
  unfold ZxW;simp only[Ztp,Nat.beq_refl,Zvx]
 refine⟨b',aC,by rw[cW],?_,fun st2 hu hh=>?_⟩
 .simp only[hIn]at dy;split at dy
  .rename_i b0 bH;split at dy
   .rename_i b2 l2 q1 q2;exact⟨b0,b2,bH,q1⟩
   .cases dy
  .cases dy
 .have he:∀x∈ZcH (.call { callee:=f,args:=args,argTypes:=aY }),evo st2 x=evo st x:=fun x hx=>ZkV hu x (by rw[bz];exact hx);have dL:okHA N st2 ⟨[(c,e)],[],[(c,b)],res⟩=true:=aA;have gS:hIn (bwd [(c,e)]) st2.heap [(c,e)]=some h0:=by
   rw[Zyr (h:=st.heap) (fun p hp=>by
    rcases List.mem_singleton.1 hp with rfl;exact hh)]
   exact dy
  unfold Zey;rw[hg];simp only[bz];unfold Zgu;rw[Zix he,hcal];simp only[dL,gS,ZgO (fun x hx=>he x (ZlQ x hx)) a b1,cn,cz,hr,cW]
def plOf(ra:RA)(i:Nat)(o:Oper):Option Nat:=match ZcT ra.hc i,ZcT ra.hc (i+1000),o.guard with
 |some ⟨[(c,e)],[],[(c',_)],_⟩,none,none=>match Nat.beq c c' with
  |true=>some e
  |false=>none
 |_,_,_=>none
theorem ZmK{P:Program}{N:Nat}{T:Tab}{ops:Array Oper}{ra:RA}{i e:Nat}{o:Oper}{st st1:St}{v:V}{obl:List Prop}(hp:plOf ra i o=some e)(h:Zeb P N T ops ra i o st=some (v,obl,st1)) :
  ∃b':B,(∀d,d≠e->b'.says d=false)/\st1=⟨st.env,hrep st.heap e b'⟩/\(∀d b0,d≠e->hget st.heap e=some b0->b0.says d=false) /\
   ∀st2,(∀t∈Zfh ops o,st2.get t=st.get t)->hget st2.heap e=hget st.heap e->Zeb P N T ops ra i o st2=some (v,obl,⟨st2.env,hrep st2.heap e b'⟩):=by
 unfold plOf at hp;split at hp;rotate_left
 .cases hp
 rename_i c e0 c' b res hk hk2 bI;split at hp;rotate_left
 .cases hp
 rename_i bX;cases hp;obtain rfl:=Nat.eq_of_beq_eq_true bX;unfold Zeb at h ⊢;simp only[hk,hk2]at h ⊢;obtain⟨b',h1,h2,⟨b0,b1,h3,h4⟩,h5⟩:=ZFV bI h;refine⟨b',fun d hd=>ZFz (fun k hk'=>?_) h1,h2,fun d b2 hd bo=>?_,h5⟩
 .simp only[gOut,ZoG]at hk';split at hk'
  .rename_i hq;split at hq
   .cases hq;cases hk';exact hd rfl
   .cases hq
  .cases hk'
 .rw[h3]at bo;cases bo;refine ZDw ?_ h4;simp only[bwd,List.map_cons,List.map_nil,ZoG];split
  .rename_i hq;exact absurd (Nat.eq_of_beq_eq_true hq).symm hd
  .rfl
structure Eqv (st st2:St):Prop where
 env:∀t,st2.get t=st.get t
 heap:st2.heap=st.heap
theorem Eqv.refl(st:St):Eqv st st:=⟨fun _=>rfl,rfl⟩
theorem Eqv.trans{a b c:St}(h:Eqv a b)(k:Eqv b c):Eqv a c:=⟨fun t=>(k.env t).trans (h.env t),k.heap.trans h.heap⟩
theorem ZvB{st st2:St}{d:Nat}(h:∀t,st2.get t=st.get t):∀n,Zhq st2 d n=Zhq st d n
 | 0=>rfl
 |n+1=>by simp only[Zhq,h n,ZvB h n]
theorem ZxT{st st2:St}(h:Eqv st st2)(N d:Nat):ZdJ N d st2=ZdJ N d st:=by
 unfold ZdJ;rw[ZvB h.env,h.heap]
theorem Zcn.eqv{N:Nat}{S0:Nat->Prop}{w0:Zba}{st st2:St}{a:Act}{w:World}(h:Zcn N S0 w0 st a w)(he:Eqv st st2):Zcn N S0 w0 st2 a w:=
 h.le (N:=N) ⟨fun t=>.inl (he.env t),fun id b hb=>by rw[<-he.heap];exact hb⟩
theorem ZFM{N:Nat}{st st2:St}(he:Eqv st st2)(ha:HA):okHA N st2 ha=okHA N st ha:=by
 unfold okHA;rw[show (fun p:Nat×Nat=>ZdJ N p.2 st2)=fun p=>ZdJ N p.2 st from funext fun p=>ZxT he N p.2]
theorem ZCp{P:Program}{N:Nat}{T:Tab}{ops:Array Oper}{ra:RA}{i:Nat}{o:Oper}{st st1 st2:St}{v:V}{obl:List Prop}(hc:ZsB ra i o=true)(he:Eqv st st2)(h:Zeb P N T ops ra i o st=some (v,obl,st1)) :
  ∃hp,Zeb P N T ops ra i o st2=some (v,obl,⟨st2.env,hp⟩)/\hp=st1.heap:=by
 by_cases hc3:clsX ra i o<=3
 .obtain⟨e1,h1,eO⟩:=Zfp (st2:=st2) hc3 (fun t _=>he.env t) (fun _=>he.heap) (fun _ hq=>by rw[ZxT he];exact hq) h;refine⟨_,eO,?_⟩;split
  .rename_i gz;rw[h1 gz];exact he.heap
  .rfl
 .cases hk:ZcT ra.hc i with
  |none=>
   exfalso;unfold ZsB at hc;rw[ZkA hk]at hc3;rw[hk]at hc;exact hc3 (Nat.le_of_ble_eq_true hc)
  |some ha=>
   have hk2:ZcT ra.hc (i+1000)=none:=by
    cases hk2:ZcT ra.hc (i+1000)with
    |none=>rfl
    |some x=>
     exfalso;unfold ZsB at hc;rw[hk]at hc;simp only[hk2]at hc;apply hc3;unfold clsX;rw[hk];simp only[hc];omega
   unfold Zeb at h ⊢;rw[hk]at h ⊢;simp only at h ⊢;rw[hk2]at h ⊢;simp only at h ⊢;unfold Zey at h ⊢;rw[ZjK (o:=o) (ops:=ops) (fun t _=>he.env t)];split at h
   .split at h
    .rename_i c args aY bz;have bf:∀x,evo st2 x=evo st x:=fun x=>by
      cases x with
      |tmp t=>exact he.env t
      |const v=>rfl
      |func f=>rfl
      |global g=>rfl
     unfold Zgu at h ⊢;rw[Zix (args:=args) (aY:=aY) (fun x _=>bf x)];split at h;rotate_left
     .cases h
     rename_i g a b om hcal;rw[ZgO (fun x _=>bf x) a b,ZFM he,he.heap];split at h;rotate_left
     .cases h
     rename_i h0 vs hp r q1 q2 q3 q4 q5;cases h;simp only[q1,q2,q3,q4,q5];exact⟨_,rfl,rfl⟩
    .cases h
   .cases h;exact⟨_,rfl,he.heap⟩
   .cases h
def Zns(ra:RA):Nat->List Oper->List (Nat×Nat)
 |_,[]=>[]
 |i,o :: r=>match Nat.beq (clsX ra i o) 3 with
  |true=>(i,o.dst.getD 0) :: Zns ra (i+1) r
  |false=>Zns ra (i+1) r
def Zen(ag:List (List Nat))(i:Nat):List Nat:=ag.getD i []
def memN(k:Nat):List Nat->Bool
 | []=>false
 |x :: l=>match Nat.beq x k with
  |true=>true
  |false=>memN k l
theorem ZjY{k:Nat}:∀{l:List Nat},memN k l=true↔k∈l
 | []=>by simp[memN]
 |x :: l=>by
  simp only[memN]
  split
  .rename_i h
   simp[ZaK h]
  .rename_i h
   have:=Nat.ne_of_beq_eq_false h
   rw[ZjY]
   simp[Ne.symm this]
def chk(ni:List (Nat×Nat))(ps:List Nat)(i:Nat)(v:V):Bool:=ni.all fun p=>Nat.beq p.1 i||memN p.1 ps || !(v.says p.2)
section
variable (P:Program) (N:Nat) (T:Tab) (ops:Array Oper) (ra:RA) (ag:List (List Nat)) (ni:List (Nat × Nat))
def bxOk(l:List Nat)(st:St)(op:Op):Bool:=match l with
 | []=>true
 |c :: _=>match op with
  | .load _ x=>match evo st x with
   | .one (.ptr d _)=>Nat.beq d c
   | .one (.rp _ _ _)=>Nat.beq 99998 c
   |_=>false
  | .store _ x _=>match evo st x with
   | .one (.ptr d _)=>Nat.beq d c
   |_=>false
  |_=>false
def ZfE(i:Nat)(st:St):Option (St×List Prop):=match ops[i]? with
 |none=>none
 |some o=>match bxOk (Zen ag (ops.size+i)) st o.op with
  |false=>none
  |true=>match Zeb P N T ops ra i o st with
   |none=>none
   |some (v,obl,st')=>match chk ni (Zen ag i) i v with
    |false=>none
    |true=>match putO N st' o.dst v with
     |none=>none
     |some st''=>some (st'',obl)
def Zqe:List Nat->St->Option (St×List Prop)
 | [],st=>some (st,[])
 |i :: l,st=>match ZfE P N T ops ra ag ni i st with
  |none=>none
  |some (st1,o1)=>match Zqe l st1 with
   |none=>none
   |some (st2,o2)=>some (st2,o1++o2)
def disj(x:Option Nat)(l:List Nat):Bool:=match x with
 |none=>true
 |some d=>!(memN d l)
def Zlv(x y:Option Nat):Bool:=match x,y with
 |some a,some b=>!(Nat.beq a b)
 |_,_=>true
def ZGx(k i:Nat):Bool:=match ops[k]?,ops[i]? with
 |some a,some b=>disj a.dst (Zfh ops b)&&disj b.dst (Zfh ops a)&&Zlv a.dst b.dst &&
   ((Nat.ble (clsX ra k a) 1&&Nat.ble (clsX ra i b) 1)||(Nat.beq (clsX ra k a) 0&&Nat.ble (clsX ra i b) 3)||(Nat.beq (clsX ra i b) 0&&Nat.ble (clsX ra k a) 3)||(Nat.beq (clsX ra k a) 3&&Nat.beq (clsX ra i b) 1&&(Zfh ops b).all fun t=>Nat.blt t N)||(Nat.beq (clsX ra k a) 1&&Nat.beq (clsX ra i b) 3&&ZtM ra i b)||(Zld ra k a&&Zld ra i b)||((Zld ra k a||isMk ra k a)&&(Zld ra i b||isMk ra i b)&&(Zfh ops b).all fun t=>Nat.blt t N))
 |_,_=>false
def isLd:Op->Bool | .load _ _=>true|_=>false
def isSt:Op->Bool | .store _ _ _=>true|_=>false
def okLS(k i:Nat):Bool:=match ops[k]?,ops[i]?,Zen ag (ops.size+k),Zen ag (ops.size+i)with
 |some a,some b,c :: _,d :: _=>disj a.dst (Zfh ops b)&&disj b.dst (Zfh ops a)&&Zlv a.dst b.dst&&isLd a.op&&isSt b.op&&(ZcT ra.hc k).isNone&&(ZcT ra.hc i).isNone && !(Nat.beq c d)
 |_,_,_,_=>false
def okLC(k i:Nat):Bool:=match ops[k]?,ops[i]? with
 |some a,some b=>disj a.dst (Zfh ops b)&&disj b.dst (Zfh ops a)&&Zlv a.dst b.dst&&(match plOf ra k a,plOf ra i b with
  |some e,none=>(Zld ra i b && !(Nat.beq (b.dst.getD 0) e))||(isLd b.op&&(ZcT ra.hc i).isNone&&match Zen ag (ops.size+i)with
   |c :: _=>!(Nat.beq c e)
   | []=>false)
  |none,some e=>(Zld ra k a && !(Nat.beq (a.dst.getD 0) e))||(isLd a.op&&(ZcT ra.hc k).isNone&&match Zen ag (ops.size+k)with
   |c :: _=>!(Nat.beq c e)
   | []=>false)
  |_,_=>false)
 |_,_=>false
def Zwi:Operand->Operand->Bool | .tmp a,.tmp b=>Nat.beq a b|_,_=>false
def okLM(k i:Nat):Bool:=match ops[k]?,ops[i]? with
 |some a,some b=>match a.op,b.op with
  | .lookup t x y false,.mapEntry t' x' y'=>Nat.beq t t'&&Zwi x x'&&Zwi y y'&&disj a.dst (Zfh ops b)&&disj b.dst (Zfh ops a)&&Zlv a.dst b.dst&&a.guard.isNone&&b.guard.isNone &&
    (ZcT ra.hc k).isNone&&(ZcT ra.hc i).isNone&&(ZcT ra.bl k).isNone&&(ZcT ra.bl i).isNone&&(kdn ra.dn k).isEmpty&&(kdn ra.dn i).isEmpty&&(ZcT ra.rl k).isNone&&(ZcT ra.rl i).isNone
  |_,_=>false
 |_,_=>false
def ZzK(k i:Nat):Bool:=ZGx N ops ra k i||okLS ops ra ag k i||okLC ops ra ag k i
def Zod(k i:Nat):Bool:=ZzK N ops ra ag k i||okLM ops ra k i
end
theorem ZaG{N:Nat}{st st':St}{dst:Option Nat}{v:V}(h:putO N st dst v=some st')(t:Nat):st'.get t=(if dst=some t then v else st.get t)/\st'.heap=st.heap:=by
 unfold putO at h;split at h
 .cases h;simp
 .split at h
  .cases h;rename_i d _ _;refine⟨?_,rfl⟩;rw[St.get_put];by_cases e:d=t
   .subst e;simp
   .rw[if_neg e,if_neg (by simpa using e)]
  .cases h
theorem Zex{N:Nat}{st st' st2:St}{dst:Option Nat}{v:V}(h:putO N st dst v=some st'):∃aE,putO N st2 dst v=some aE:=by
 cases dst with
 |none=>exact⟨_,rfl⟩
 |some d=>
  unfold putO at h ⊢;cases hb:Nat.blt d N with
  |true=>simp only[hb];exact⟨_,rfl⟩
  |false=>simp only[hb]at h;cases h
theorem ZbG{x:Option Nat}{l:List Nat}(h:disj x l=true){t:Nat}(ht:t∈l):x≠some t:=by
 rintro rfl;simp only[disj,Bool.not_eq_true']at h;rw[<-Bool.not_eq_true,ZjY]at h;exact h ht
section
variable {P:Program} {N:Nat} {T:Tab} {ops:Array Oper} {ra:RA} {ag:List (List Nat)} {ni:List (Nat × Nat)}
theorem Zds{i:Nat}{st st':St}{obl:List Prop}(h:ZfE P N T ops ra ag ni i st=some (st',obl)):∃o v st1,ops[i]?=some o/\Zeb P N T ops ra i o st=some (v,obl,st1)/\chk ni (Zen ag i) i v=true/\putO N st1 o.dst v=some st':=by
 unfold ZfE at h;split at h
 .cases h
 rename_i o ho;split at h
 .cases h
 split at h
 .cases h
 rename_i v cE st1 hr;split at h
 .cases h
 rename_i hc;split at h
 .cases h
 rename_i st2 hp;cases h;exact⟨o,v,st1,ho,hr,hc,hp⟩
theorem Zew{i:Nat}{st st':St}{obl:List Prop}(h:ZfE P N T ops ra ag ni i st=some (st',obl)){o:Oper}(ho:ops[i]?=some o):bxOk (Zen ag (ops.size+i)) st o.op=true:=by
 unfold ZfE at h;rw[ho]at h;simp only at h;split at h
 .cases h
 .assumption
theorem ZeK{st st2:St}{o:Oper}(l:List Nat)(h:∀t∈Zfh ops o,st2.get t=st.get t):bxOk l st2 o.op=bxOk l st o.op:=by
 have he:=ZkV h;unfold bxOk;cases l with
 |nil=>rfl
 |cons c l=>
  obtain⟨dst,op,type,dH,after,guard⟩:=o;simp only at he ⊢;cases op<;>simp only[ZcH]at he ⊢
  case load t x=>rw[he x (by simp)]
  case store t x y=>rw[he x (by simp)]
theorem ZfO{i:Nat}{st st1 st':St}{o:Oper}{v:V}{obl:List Prop}(ho:ops[i]?=some o)(hbx:bxOk (Zen ag (ops.size+i)) st o.op=true)(hr:Zeb P N T ops ra i o st=some (v,obl,st1))(hc:chk ni (Zen ag i) i v=true)(hp:putO N st1 o.dst v=some st'):ZfE P N T ops ra ag ni i st=some (st',obl):=by
 unfold ZfE;simp only[ho,hbx,hr,hc,hp]
theorem ZoC{ps:List Nat}{i k d:Nat}{v:V}(h:chk ni ps i v=true)(hk:(k,d)∈ni)(hne:k≠i)(hp:k ∉ ps):v.says d=false:=by
 have:=List.all_eq_true.1 h _ hk;simp only[Bool.or_eq_true,Bool.not_eq_true']at this;rcases this with (h1|h1)|h1
 .exact absurd (ZaK h1) hne
 .exact absurd (ZjY.1 h1) hp
 .exact h1
theorem ZxU{st:St}{d:Nat}(hd:d<ZiU):∀{n:Nat},(∀t,t<n->(st.get t).says d=false)->Zhq st d n=true
 | 0,_=>Nat.ble_eq_true_of_le hd
 |n+1,h=>by
  simp only[Zhq,h n (by omega)]
  exact ZxU hd fun t ht=>h t (by omega)
theorem ZjC{st st1 st':St}{dst:Option Nat}{v:V}{d:Nat}(hq:Zhq st d N=true)(he:∀t,st1.get t=st.get t)(hv:v.says d=false)(hp:putO N st1 dst v=some st'):Zhq st' d N=true:=
 ZxU (ZtA hq) fun t ht=>by
  rw[(ZaG hp t).1]
  split
  .exact hv
  .rw[he t];exact ZoZ hq t ht
theorem ZiV{st st1:St}(h:st1.env=st.env)(t:Nat):st1.get t=st.get t:=by unfold St.get;rw[h]
theorem ZmJ{st:St}{d:Nat}(h1:Zhq st d N=true)(h2:Zhe d st.heap=true):ZdJ N d st=true:=by unfold ZdJ;rw[h1];exact h2
def Zzi(ops:Array Oper)(ra:RA)(ni:List (Nat×Nat)):Prop:=∀i o,ops[i]?=some o->clsX ra i o=3->(i,o.dst.getD 0)∈ni
theorem ZlN{ra:RA}{i:Nat}{o:Oper}(h:Zld ra i o=true):clsX ra i o=3:=by
 unfold Zld at h;unfold clsX;split at h
 .rename_i ha hk;rw[hk];split at h
  .simp only[h]
  .cases h
 .rename_i hk;rw[hk];simp only;split at h
  .simp only[Bool.and_eq_true]at h;exact Nat.eq_of_beq_eq_true h.2
  .cases h
theorem Zzq(c7:Zzi ops ra ni){k i:Nat}{a b:Oper}(ha:ops[k]?=some a)(hb:ops[i]?=some b)(d1:disj a.dst (Zfh ops b)=true)(d2:disj b.dst (Zfh ops a)=true)(d3:Zlv a.dst b.dst=true)(dM:Zld ra k a=true)(d9:Zld ra i b=true)
  (hne:k≠i) (hki:k ∉ Zen ag i) {st st1 st2:St} {o1 o2:List Prop} (h1:ZfE P N T ops ra ag ni k st=some (st1,o1)) (h2:ZfE P N T ops ra ag ni i st1=some (st2,o2))
  (hJ:∀o,ops[i]?=some o->clsX ra i o=3->Zhq st (o.dst.getD 0) N=true) :
  ∃aj aE,ZfE P N T ops ra ag ni i st=some (aj,o2)/\ZfE P N T ops ra ag ni k aj=some (aE,o1)/\Eqv aE st2:=by
 obtain⟨a',va,sa,ck,aP,b9,bk⟩:=Zds h1;obtain⟨b',vb,sb,aC,bC,cG,bw⟩:=Zds h2;rw[ha]at ck;cases ck;rw[hb]at aC;cases aC;obtain⟨ba,jH,fm,rfl,fY⟩:=ZlT dM aP;obtain⟨bb,gT,gU,rfl,fZ⟩:=ZlT d9 bC;have bv:st1.heap=hins st.heap (a.dst.getD 0) ba:=(ZaG bk 0).2;have g1:∀t,a.dst≠some t->st1.get t=st.get t:=fun t ht=>by rw[(ZaG bk t).1,if_neg ht];rfl
 have kz:hget st.heap (a.dst.getD 0)=none:=(ZiA (Zdt fm).2).1;have gE:hget st1.heap (b.dst.getD 0)=none:=(ZiA (Zdt gU).2).1;have eU:b.dst.getD 0≠a.dst.getD 0:=by
  intro e;rw[bv,e,Zfq,if_pos rfl]at gE;cases gE
 have iq:ZdJ N (b.dst.getD 0) st=true:=by
  refine ZmJ (hJ b hb (ZlN d9)) ?_;have:=(Zdt gU).2;rw[bv]at this;exact ZmU kz this
 have bD:=fZ st (fun t ht=>(g1 t (ZbG d1 ht)).symm) iq;obtain⟨aj,aS⟩:=Zex (st2:=⟨st.env,hins st.heap (b.dst.getD 0) bb⟩) bw;have g2:∀t,b.dst≠some t->aj.get t=st.get t:=fun t ht=>by rw[(ZaG aS t).1,if_neg ht];rfl
 have bg:aj.heap=hins st.heap (b.dst.getD 0) bb:=(ZaG aS 0).2;have i4:ZdJ N (a.dst.getD 0) aj=true:=by
  obtain⟨q1,q2⟩:=Zdt fm;refine ZmJ (ZjC (st1:=⟨st.env,hins st.heap (b.dst.getD 0) bb⟩) q1 (fun t=>rfl) (ZoC cG (c7 k a ha (ZlN dM)) hne hki) aS) ?_;rw[bg];exact ZtD eU (gT _) q2
 have bQ:=fY aj (fun t ht=>g2 t (ZbG d2 ht)) i4;obtain⟨aE,bc⟩:=Zex (st2:=⟨aj.env,hins aj.heap (a.dst.getD 0) ba⟩) bk;have xb:bxOk (Zen ag (ops.size+i)) st b.op=true:=by rw[ZeK (st:=st1) _ (fun t ht=>(g1 t (ZbG d1 ht)).symm)];exact Zew h2 hb
 have xa:bxOk (Zen ag (ops.size+k)) aj a.op=true:=by rw[ZeK (st:=st) _ (fun t ht=>g2 t (ZbG d2 ht))];exact Zew h1 ha
 refine⟨aj,aE,ZfO hb xb bD cG aS,ZfO ha xa bQ b9 bc,⟨fun t=>?_,?_⟩⟩
 .rw[(ZaG bw t).1,(ZaG bc t).1];have hd:¬(a.dst=some t/\b.dst=some t):=by
   rintro ⟨e1,e2⟩;rw[e1,e2]at d3;simp[Zlv]at d3
  by_cases e1:a.dst=some t
  .rw[if_pos e1,if_neg (fun e2=>hd ⟨e1,e2⟩)];show (⟨st1.env,_⟩ : St).get t=_;rw[show (⟨st1.env,hins st1.heap (b.dst.getD 0) bb⟩ : St).get t=st1.get t from rfl,(ZaG bk t).1,if_pos e1]
  .rw[if_neg e1];have e3:(⟨aj.env,hins aj.heap (a.dst.getD 0) ba⟩ : St).get t=aj.get t:=rfl;rw[e3,(ZaG aS t).1];split
   .rfl
   .rw[show (⟨st1.env,hins st1.heap (b.dst.getD 0) bb⟩ : St).get t=st1.get t from rfl,g1 t e1];rfl
 .rw[(ZaG bw 0).2,(ZaG bc 0).2,bv,bg];exact Zyp (a.dst.getD 0) (b.dst.getD 0) ba bb (Ne.symm eU) st.heap
theorem Zzr(c7:Zzi ops ra ni){k i:Nat}{a b:Oper}(ha:ops[k]?=some a)(hb:ops[i]?=some b)(d1:disj a.dst (Zfh ops b)=true)(d2:disj b.dst (Zfh ops a)=true)(d3:Zlv a.dst b.dst=true)(dM:(Zld ra k a||isMk ra k a)=true)(d9:(Zld ra i b||isMk ra i b)=true)(hbN:∀t∈Zfh ops b,t<N)
  (hne:k≠i) (hki:k ∉ Zen ag i) {st st1 st2:St} {o1 o2:List Prop} (h1:ZfE P N T ops ra ag ni k st=some (st1,o1)) (h2:ZfE P N T ops ra ag ni i st1=some (st2,o2))
  (hJ:∀o,ops[i]?=some o->clsX ra i o=3->Zhq st (o.dst.getD 0) N=true) :
  ∃aj aE,ZfE P N T ops ra ag ni i st=some (aj,o2)/\ZfE P N T ops ra ag ni k aj=some (aE,o1)/\Eqv aE st2:=by
 obtain⟨a',va,sa,ck,aP,b9,bk⟩:=Zds h1;obtain⟨b',vb,sb,aC,bC,cG,bw⟩:=Zds h2;rw[ha]at ck;cases ck;rw[hb]at aC;cases aC;have ca:clsX ra k a=3:=by
  rw[Bool.or_eq_true]at dM;exact dM.elim ZlN ZBq
 have cb:clsX ra i b=3:=by
  rw[Bool.or_eq_true]at d9;exact d9.elim ZlN ZBq
 obtain⟨ba,jH,fm,rfl,fY⟩:=Zyb dM aP;obtain⟨bb,gT,gU,rfl,fZ⟩:=Zyb d9 bC;have bv:st1.heap=hins st.heap (a.dst.getD 0) ba:=(ZaG bk 0).2;have g1:∀t,a.dst≠some t->st1.get t=st.get t:=fun t ht=>by rw[(ZaG bk t).1,if_neg ht];rfl
 have kz:hget st.heap (a.dst.getD 0)=none:=(ZiA (Zdt fm).2).1;have gE:hget st1.heap (b.dst.getD 0)=none:=(ZiA (Zdt gU).2).1;have eU:b.dst.getD 0≠a.dst.getD 0:=by
  intro e;rw[bv,e,Zfq,if_pos rfl]at gE;cases gE
 have iq:ZdJ N (b.dst.getD 0) st=true:=by
  refine ZmJ (hJ b hb cb) ?_;have:=(Zdt gU).2;rw[bv]at this;exact ZmU kz this
 have bD:=fZ st (fun t ht=>(g1 t (ZbG d1 ht)).symm) (fun x ef id bb dx aC=>by
  rw[bv,Zfq]at aC;split at aC
  .rename_i e;exfalso;have:(evo st1 x).says (a.dst.getD 0)=false:=by
    cases x with
    |tmp t=>
     have ht:t∈Zfh ops b:=List.mem_append.2 (.inl (ZpG ef));show (st1.get t).says _=false;rw[g1 t (ZbG d1 ht)];exact ZoZ (Zdt fm).1 t (hbN t ht)
    |const v=>exact ZvH v _
    |func f=>rfl
    |global g=>rfl
   rw[e]at this;simp only[this]at dx;cases dx
  .exact aC) iq
 obtain⟨aj,aS⟩:=Zex (st2:=⟨st.env,hins st.heap (b.dst.getD 0) bb⟩) bw;have g2:∀t,b.dst≠some t->aj.get t=st.get t:=fun t ht=>by rw[(ZaG aS t).1,if_neg ht];rfl
 have bg:aj.heap=hins st.heap (b.dst.getD 0) bb:=(ZaG aS 0).2;have i4:ZdJ N (a.dst.getD 0) aj=true:=by
  obtain⟨q1,q2⟩:=Zdt fm;refine ZmJ (ZjC (st1:=⟨st.env,hins st.heap (b.dst.getD 0) bb⟩) q1 (fun t=>rfl) (ZoC cG (c7 k a ha ca) hne hki) aS) ?_;rw[bg];exact ZtD eU (gT _) q2
 have bQ:=fY aj (fun t ht=>g2 t (ZbG d2 ht)) (fun x ef id bb' dx aC=>by
  rw[bg,Zfq];split
  .rename_i e;exfalso;have gV:=(ZiA (Zdt iq).2).1;rw[e]at gV;rw[aC]at gV;cases gV
  .exact aC) i4
 obtain⟨aE,bc⟩:=Zex (st2:=⟨aj.env,hins aj.heap (a.dst.getD 0) ba⟩) bk;have xb:bxOk (Zen ag (ops.size+i)) st b.op=true:=by rw[ZeK (st:=st1) _ (fun t ht=>(g1 t (ZbG d1 ht)).symm)];exact Zew h2 hb
 have xa:bxOk (Zen ag (ops.size+k)) aj a.op=true:=by rw[ZeK (st:=st) _ (fun t ht=>g2 t (ZbG d2 ht))];exact Zew h1 ha
 refine⟨aj,aE,ZfO hb xb bD cG aS,ZfO ha xa bQ b9 bc,⟨fun t=>?_,?_⟩⟩
 .rw[(ZaG bw t).1,(ZaG bc t).1];have hd:¬(a.dst=some t/\b.dst=some t):=by
   rintro ⟨e1,e2⟩;rw[e1,e2]at d3;simp[Zlv]at d3
  by_cases e1:a.dst=some t
  .rw[if_pos e1,if_neg (fun e2=>hd ⟨e1,e2⟩)];show (⟨st1.env,_⟩ : St).get t=_;rw[show (⟨st1.env,hins st1.heap (b.dst.getD 0) bb⟩ : St).get t=st1.get t from rfl,(ZaG bk t).1,if_pos e1]
  .rw[if_neg e1];have e3:(⟨aj.env,hins aj.heap (a.dst.getD 0) ba⟩ : St).get t=aj.get t:=rfl;rw[e3,(ZaG aS t).1];split
   .rfl
   .rw[show (⟨st1.env,hins st1.heap (b.dst.getD 0) bb⟩ : St).get t=st1.get t from rfl,g1 t e1];rfl
 .rw[(ZaG bw 0).2,(ZaG bc 0).2,bv,bg];exact Zyp (a.dst.getD 0) (b.dst.getD 0) ba bb (Ne.symm eU) st.heap
theorem ZxF(c7:Zzi ops ra ni){k i e:Nat}{a b:Oper}(ha:ops[k]?=some a)(hb:ops[i]?=some b)(d1:disj a.dst (Zfh ops b)=true)(d2:disj b.dst (Zfh ops a)=true)(d3:Zlv a.dst b.dst=true)(dM:plOf ra k a=some e)(d9:Zld ra i b=true)(go:b.dst.getD 0≠e)
  {st st1 st2:St} {o1 o2:List Prop} (h1:ZfE P N T ops ra ag ni k st=some (st1,o1)) (h2:ZfE P N T ops ra ag ni i st1=some (st2,o2))
  (hJ:∀o,ops[i]?=some o->clsX ra i o=3->Zhq st (o.dst.getD 0) N=true) :
  ∃aj aE,ZfE P N T ops ra ag ni i st=some (aj,o2)/\ZfE P N T ops ra ag ni k aj=some (aE,o1)/\Eqv aE st2:=by
 obtain⟨a',va,sa,ck,aP,b9,bk⟩:=Zds h1;obtain⟨b',vb,sb,aC,bC,cG,bw⟩:=Zds h2;rw[ha]at ck;cases ck;rw[hb]at aC;cases aC;obtain⟨ba,jH,rfl,sa3,fY⟩:=ZmK dM aP;obtain⟨bb,gT,gU,rfl,fZ⟩:=ZlT d9 bC;have bv:st1.heap=hrep st.heap e ba:=(ZaG bk 0).2;have g1:∀t,a.dst≠some t->st1.get t=st.get t:=fun t ht=>by rw[(ZaG bk t).1,if_neg ht];rfl
 have iq:ZdJ N (b.dst.getD 0) st=true:=by
  refine ZmJ (hJ b hb (ZlN d9)) ?_;have:=(Zdt gU).2;rw[bv]at this;exact Zqj (Ne.symm go) (fun b0 h0=>sa3 _ b0 go h0) this
 have bD:=fZ st (fun t ht=>(g1 t (ZbG d1 ht)).symm) iq;obtain⟨aj,aS⟩:=Zex (st2:=⟨st.env,hins st.heap (b.dst.getD 0) bb⟩) bw;have g2:∀t,b.dst≠some t->aj.get t=st.get t:=fun t ht=>by rw[(ZaG aS t).1,if_neg ht];rfl
 have bg:aj.heap=hins st.heap (b.dst.getD 0) bb:=(ZaG aS 0).2;have bQ:=fY aj (fun t ht=>g2 t (ZbG d2 ht)) (by rw[bg,Zfq,if_neg go]);obtain⟨aE,bc⟩:=Zex (st2:=⟨aj.env,hrep aj.heap e ba⟩) bk;have xb:bxOk (Zen ag (ops.size+i)) st b.op=true:=by rw[ZeK (st:=st1) _ (fun t ht=>(g1 t (ZbG d1 ht)).symm)];exact Zew h2 hb
 have xa:bxOk (Zen ag (ops.size+k)) aj a.op=true:=by rw[ZeK (st:=st) _ (fun t ht=>g2 t (ZbG d2 ht))];exact Zew h1 ha
 refine⟨aj,aE,ZfO hb xb bD cG aS,ZfO ha xa bQ b9 bc,⟨fun t=>?_,?_⟩⟩
 .rw[(ZaG bw t).1,(ZaG bc t).1];have hd:¬(a.dst=some t/\b.dst=some t):=by
   rintro ⟨e1,e2⟩;rw[e1,e2]at d3;simp[Zlv]at d3
  by_cases e1:a.dst=some t
  .rw[if_pos e1,if_neg (fun e2=>hd ⟨e1,e2⟩)];show (⟨st1.env,_⟩ : St).get t=_;rw[show (⟨st1.env,hins st1.heap (b.dst.getD 0) bb⟩ : St).get t=st1.get t from rfl,(ZaG bk t).1,if_pos e1]
  .rw[if_neg e1];have e3:(⟨aj.env,hrep aj.heap e ba⟩ : St).get t=aj.get t:=rfl;rw[e3,(ZaG aS t).1];split
   .rfl
   .rw[show (⟨st1.env,hins st1.heap (b.dst.getD 0) bb⟩ : St).get t=st1.get t from rfl,g1 t e1];rfl
 .rw[(ZaG bw 0).2,(ZaG bc 0).2];simp only;rw[bv,bg,Zyo go]
theorem ZxE(c7:Zzi ops ra ni){k i e:Nat}{a b:Oper}(ha:ops[k]?=some a)(hb:ops[i]?=some b)(d1:disj a.dst (Zfh ops b)=true)(d2:disj b.dst (Zfh ops a)=true)(d3:Zlv a.dst b.dst=true)(dM:Zld ra k a=true)(d9:plOf ra i b=some e)(go:a.dst.getD 0≠e)
  (hne:k≠i) (hki:k ∉ Zen ag i) {st st1 st2:St} {o1 o2:List Prop} (h1:ZfE P N T ops ra ag ni k st=some (st1,o1)) (h2:ZfE P N T ops ra ag ni i st1=some (st2,o2)) :
  ∃aj aE,ZfE P N T ops ra ag ni i st=some (aj,o2)/\ZfE P N T ops ra ag ni k aj=some (aE,o1)/\Eqv aE st2:=by
 obtain⟨a',va,sa,ck,aP,b9,bk⟩:=Zds h1;obtain⟨b',vb,sb,aC,bC,cG,bw⟩:=Zds h2;rw[ha]at ck;cases ck;rw[hb]at aC;cases aC;obtain⟨ba,jH,fm,rfl,fY⟩:=ZlT dM aP;obtain⟨bb,gT,rfl,sb3,fZ⟩:=ZmK d9 bC;have bv:st1.heap=hins st.heap (a.dst.getD 0) ba:=(ZaG bk 0).2;have g1:∀t,a.dst≠some t->st1.get t=st.get t:=fun t ht=>by rw[(ZaG bk t).1,if_neg ht];rfl
 have bD:=fZ st (fun t ht=>(g1 t (ZbG d1 ht)).symm) (by rw[bv,Zfq,if_neg go]);obtain⟨aj,aS⟩:=Zex (st2:=⟨st.env,hrep st.heap e bb⟩) bw;have g2:∀t,b.dst≠some t->aj.get t=st.get t:=fun t ht=>by rw[(ZaG aS t).1,if_neg ht];rfl
 have bg:aj.heap=hrep st.heap e bb:=(ZaG aS 0).2;have i4:ZdJ N (a.dst.getD 0) aj=true:=by
  obtain⟨q1,q2⟩:=Zdt fm;refine ZmJ (ZjC (st1:=⟨st.env,hrep st.heap e bb⟩) q1 (fun t=>rfl) (ZoC cG (c7 k a ha (ZlN dM)) hne hki) aS) ?_;rw[bg];exact ZtC (gT _ go) q2
 have bQ:=fY aj (fun t ht=>g2 t (ZbG d2 ht)) i4;obtain⟨aE,bc⟩:=Zex (st2:=⟨aj.env,hins aj.heap (a.dst.getD 0) ba⟩) bk;have xb:bxOk (Zen ag (ops.size+i)) st b.op=true:=by rw[ZeK (st:=st1) _ (fun t ht=>(g1 t (ZbG d1 ht)).symm)];exact Zew h2 hb
 have xa:bxOk (Zen ag (ops.size+k)) aj a.op=true:=by rw[ZeK (st:=st) _ (fun t ht=>g2 t (ZbG d2 ht))];exact Zew h1 ha
 refine⟨aj,aE,ZfO hb xb bD cG aS,ZfO ha xa bQ b9 bc,⟨fun t=>?_,?_⟩⟩
 .rw[(ZaG bw t).1,(ZaG bc t).1];have hd:¬(a.dst=some t/\b.dst=some t):=by
   rintro ⟨e1,e2⟩;rw[e1,e2]at d3;simp[Zlv]at d3
  by_cases e1:a.dst=some t
  .rw[if_pos e1,if_neg (fun e2=>hd ⟨e1,e2⟩)];show (⟨st1.env,_⟩ : St).get t=_;rw[show (⟨st1.env,hrep st1.heap e bb⟩ : St).get t=st1.get t from rfl,(ZaG bk t).1,if_pos e1]
  .rw[if_neg e1];have e3:(⟨aj.env,hins aj.heap (a.dst.getD 0) ba⟩ : St).get t=aj.get t:=rfl;rw[e3,(ZaG aS t).1];split
   .rfl
   .rw[show (⟨st1.env,hrep st1.heap e bb⟩ : St).get t=st1.get t from rfl,g1 t e1];rfl
 .rw[(ZaG bw 0).2,(ZaG bc 0).2];simp only;rw[bv,bg,Zyo go]
theorem ZyT{op:Op}{st:St}{c:Nat}{l:List Nat}(h:bxOk (c :: l) st op=true)(hl:isLd op=true):∀x∈ZcH op,∀id,(evo st x).says id=true->id=c:=by
 unfold bxOk at h;cases op<;>simp only[isLd]at hl<;>try (cases hl;done)
 rename_i t y;intro x hx id hs;simp only[ZcH,List.mem_singleton]at hx;subst hx;simp only at h;split at h
 .rename_i d off hq;rw[hq]at hs;simp only[V.says,C.says]at hs;rw[<-ZaK h];exact(ZaK hs).symm
 .rename_i hq;rw[hq]at hs;simp only[V.says,C.says]at hs;cases hs
 .cases h
theorem ZxD{k i e c:Nat}{l:List Nat}{a b:Oper}(ha:ops[k]?=some a)(hb:ops[i]?=some b)(d1:disj a.dst (Zfh ops b)=true)(d2:disj b.dst (Zfh ops a)=true)(d3:Zlv a.dst b.dst=true)(fK:isLd a.op=true)(bN:ZcT ra.hc k=none)(i5:Zen ag (ops.size+k)=c :: l)(d9:plOf ra i b=some e)(kC:c≠e)
  {st st1 st2:St} {o1 o2:List Prop} (h1:ZfE P N T ops ra ag ni k st=some (st1,o1)) (h2:ZfE P N T ops ra ag ni i st1=some (st2,o2)) :
  ∃aj aE,ZfE P N T ops ra ag ni i st=some (aj,o2)/\ZfE P N T ops ra ag ni k aj=some (aE,o1)/\Eqv aE st2:=by
 obtain⟨a',va,sa,ck,aP,b9,bk⟩:=Zds h1;obtain⟨b',vb,sb,aC,bC,cG,bw⟩:=Zds h2;rw[ha]at ck;cases ck;rw[hb]at aC;cases aC;have fD:=Zew h1 ha;rw[i5]at fD;have c1:clsX ra k a=1:=by
  rw[ZkA bN];cases hq:a.op<;>rw[hq]at fK<;>first | (cases fK;done)|rfl
 obtain⟨ea,i6,_⟩:=Zfp (st2:=st) (by omega) (fun t _=>rfl) (fun _=>rfl) (fun _ h=>h) aP;have cF:st1.heap=st.heap:=(ZaG bk 0).2.trans (i6 (by omega));have g1:∀t,a.dst≠some t->st1.get t=st.get t:=fun t ht=>by rw[(ZaG bk t).1,if_neg ht];exact ZiV ea t
 have eb:=ZlM bC;obtain⟨bb,gT,rfl,sb3,fZ⟩:=ZmK d9 bC;have bD:=fZ st (fun t ht=>(g1 t (ZbG d1 ht)).symm) (by rw[cF]);obtain⟨aj,aS⟩:=Zex (st2:=⟨st.env,hrep st.heap e bb⟩) bw;have g2:∀t,b.dst≠some t->aj.get t=st.get t:=fun t ht=>by rw[(ZaG aS t).1,if_neg ht];rfl
 have bg:aj.heap=hrep st.heap e bb:=(ZaG aS 0).2;have bQ:Zeb P N T ops ra k a aj=some (va,o1,aj):=by
  refine ZlU c1 (fun t ht=>g2 t (ZbG d2 ht)) (fun x ef id b0 dx bH=>?_) aP;have dv:=ZyT fD fK x ef id dx;rw[bg,Zrj,if_neg (by rw[dv];exact Ne.symm kC)];exact bH
 obtain⟨aE,bc⟩:=Zex (st2:=aj) bk;have xb:bxOk (Zen ag (ops.size+i)) st b.op=true:=by rw[ZeK (st:=st1) _ (fun t ht=>(g1 t (ZbG d1 ht)).symm)];exact Zew h2 hb
 have xa:bxOk (Zen ag (ops.size+k)) aj a.op=true:=by rw[ZeK (st:=st) _ (fun t ht=>g2 t (ZbG d2 ht))];exact Zew h1 ha
 refine⟨aj,aE,ZfO hb xb bD cG aS,ZfO ha xa bQ b9 bc,⟨fun t=>?_,?_⟩⟩
 .rw[(ZaG bw t).1,(ZaG bc t).1];have hd:¬(a.dst=some t/\b.dst=some t):=by
   rintro ⟨e1,e2⟩;rw[e1,e2]at d3;simp[Zlv]at d3
  by_cases e1:a.dst=some t
  .rw[if_pos e1,if_neg (fun e2=>hd ⟨e1,e2⟩),ZiV eb,(ZaG bk t).1,if_pos e1]
  .rw[if_neg e1];rw[(ZaG aS t).1];split
   .rfl
   .rw[ZiV eb,g1 t e1];rfl
 .rw[(ZaG bw 0).2,(ZaG bc 0).2,bg];simp only;rw[cF]
theorem ZxC{k i e c:Nat}{l:List Nat}{a b:Oper}(ha:ops[k]?=some a)(hb:ops[i]?=some b)(d1:disj a.dst (Zfh ops b)=true)(d2:disj b.dst (Zfh ops a)=true)(d3:Zlv a.dst b.dst=true)(kD:isLd b.op=true)(bN:ZcT ra.hc i=none)(kE:Zen ag (ops.size+i)=c :: l)(dM:plOf ra k a=some e)(kC:c≠e)
  {st st1 st2:St} {o1 o2:List Prop} (h1:ZfE P N T ops ra ag ni k st=some (st1,o1)) (h2:ZfE P N T ops ra ag ni i st1=some (st2,o2)) :
  ∃aj aE,ZfE P N T ops ra ag ni i st=some (aj,o2)/\ZfE P N T ops ra ag ni k aj=some (aE,o1)/\Eqv aE st2:=by
 obtain⟨a',va,sa,ck,aP,b9,bk⟩:=Zds h1;obtain⟨b',vb,sb,aC,bC,cG,bw⟩:=Zds h2;rw[ha]at ck;cases ck;rw[hb]at aC;cases aC;have fE:=Zew h2 hb;rw[kE]at fE;have c1:clsX ra i b=1:=by
  rw[ZkA bN];cases hq:b.op<;>rw[hq]at kD<;>first | (cases kD;done)|rfl
 obtain⟨ba,jH,rfl,sa3,fY⟩:=ZmK dM aP;have bv:st1.heap=hrep st.heap e ba:=(ZaG bk 0).2;have g1:∀t,a.dst≠some t->st1.get t=st.get t:=fun t ht=>by rw[(ZaG bk t).1,if_neg ht];rfl
 obtain⟨eb,jI,_⟩:=Zfp (st2:=st1) (by omega) (fun t _=>rfl) (fun _=>rfl) (fun _ h=>h) bC;have bD:Zeb P N T ops ra i b st=some (vb,o2,st):=by
  refine ZlU c1 (fun t ht=>(g1 t (ZbG d1 ht)).symm) (fun x ef id b0 dx bH=>?_) bC;have dv:=ZyT fE kD x ef id dx;rw[bv,Zrj,if_neg (by rw[dv];exact Ne.symm kC)]at bH;exact bH
 obtain⟨aj,aS⟩:=Zex (st2:=st) bw;have g2:∀t,b.dst≠some t->aj.get t=st.get t:=fun t ht=>by rw[(ZaG aS t).1,if_neg ht]
 have bg:aj.heap=st.heap:=(ZaG aS 0).2;have bQ:=fY aj (fun t ht=>g2 t (ZbG d2 ht)) (by rw[bg]);obtain⟨aE,bc⟩:=Zex (st2:=⟨aj.env,hrep aj.heap e ba⟩) bk;have xb:bxOk (Zen ag (ops.size+i)) st b.op=true:=by rw[ZeK (st:=st1) _ (fun t ht=>(g1 t (ZbG d1 ht)).symm)];exact Zew h2 hb
 have xa:bxOk (Zen ag (ops.size+k)) aj a.op=true:=by rw[ZeK (st:=st) _ (fun t ht=>g2 t (ZbG d2 ht))];exact Zew h1 ha
 refine⟨aj,aE,ZfO hb xb bD cG aS,ZfO ha xa bQ b9 bc,⟨fun t=>?_,?_⟩⟩
 .rw[(ZaG bw t).1,(ZaG bc t).1];have hd:¬(a.dst=some t/\b.dst=some t):=by
   rintro ⟨e1,e2⟩;rw[e1,e2]at d3;simp[Zlv]at d3
  by_cases e1:a.dst=some t
  .rw[if_pos e1,if_neg (fun e2=>hd ⟨e1,e2⟩),ZiV eb,(ZaG bk t).1,if_pos e1]
  .rw[if_neg e1];rw[show (⟨aj.env,hrep aj.heap e ba⟩ : St).get t=aj.get t from rfl,(ZaG aS t).1];split
   .rfl
   .rw[ZiV eb,g1 t e1]
 .rw[(ZaG bw 0).2,(ZaG bc 0).2,jI (by omega),bv,bg]
theorem ZzX{T:Tab}{st st':St}{t d off:Nat}{v:V}{an:Option Ans}{obl:List Prop}(h:Znl T st t (.one (.ptr d off)) v an=some (obl,st')):∀id,id≠d->hget st'.heap id=hget st.heap id:=by
 intro id hne;unfold Znl at h;split at h
 .split at h
  .simp only at h;split at h
   .split at h
    .cases h;simp only[Zpg];rw[if_neg (Ne.symm hne)]
    .cases h
   .cases h
  .cases h
 .cases h
theorem ZDN{o:Oper}{i d off:Nat}{st st':St}{t:TypeId}{x y:Operand}{v:V}{obl:List Prop}(ho:o.op=.store t x y)(hx:evo st x=.one (.ptr d off))(h:Znq P N T ops ra i o st=some (v,obl,st')):∀id,id≠d->hget st'.heap id=hget st.heap id:=by
 intro id hne;unfold Znq at h;split at h
 .cases h
 .cases h;rfl
 .split at h
  .cases h
  rename_i v0 bB st0 bf;split at h
  .cases h
  split at h;rotate_left
  .cases h
  split at h;rotate_left
  .cases h
  cases h;unfold evOp at bf;simp only[ho,hx]at bf;split at bf
  .rename_i q hq;cases bf;exact ZzX hq id hne
  .cases bf
theorem Zzs{k i:Nat}(aA:okLS ops ra ag k i=true){st st1 st2:St}{o1 o2:List Prop}(h1:ZfE P N T ops ra ag ni k st=some (st1,o1))(h2:ZfE P N T ops ra ag ni i st1=some (st2,o2)) :
  ∃aj aE,ZfE P N T ops ra ag ni i st=some (aj,o2)/\ZfE P N T ops ra ag ni k aj=some (aE,o1)/\Eqv aE st2:=by
 obtain⟨a,va,sa,ha,aP,b9,bk⟩:=Zds h1;obtain⟨b,vb,sb,hb,bC,cG,bw⟩:=Zds h2;have fD:=Zew h1 ha;have fE:=Zew h2 hb;unfold okLS at aA;rw[ha,hb]at aA;split at aA;rotate_left
 .cases aA
 rename_i a' b' c l d l' ea eb i5 kE;cases ea;cases eb;simp only[Bool.and_eq_true,Bool.not_eq_true',Option.isNone_iff_eq_none]at aA;obtain⟨⟨⟨⟨⟨⟨⟨d1,d2⟩,d3⟩,fK⟩,jJ⟩,bN⟩,hk2⟩,kF⟩:=aA;have kF:c≠d:=Nat.ne_of_beq_eq_false kF;rw[i5]at fD;rw[kE]at fE;have c1:clsX ra k a=1:=by
  rw[ZkA bN];cases hq:a.op<;>rw[hq]at fK<;>first | (cases fK;done)|rfl
 have c2:clsX ra i b=2:=by
  rw[ZkA hk2];cases hq:b.op<;>rw[hq]at jJ<;>first | (cases jJ;done)|rfl
 obtain⟨ea,i6,_⟩:=Zfp (st2:=st) (by omega) (fun t _=>rfl) (fun _=>rfl) (fun _ h=>h) aP;have cF:st1.heap=st.heap:=(ZaG bk 0).2.trans (i6 (by omega));have g1:∀t,a.dst≠some t->st1.get t=st.get t:=fun t ht=>by rw[(ZaG bk t).1,if_neg ht];exact ZiV ea t
 obtain⟨eb,_,bD⟩:=Zfp (st2:=st) (by omega) (fun t ht=>(g1 t (ZbG d1 ht)).symm) (fun _=>cF.symm) (fun h=>by omega) bC;rw[if_neg (by omega)]at bD;obtain⟨aj,aS⟩:=Zex (st2:=⟨st.env,sb.heap⟩) bw;have g2:∀t,b.dst≠some t->aj.get t=st.get t:=fun t ht=>by rw[(ZaG aS t).1,if_neg ht];rfl
 have gp:aj.heap=sb.heap:=(ZaG aS 0).2;have i7:∀id,id≠d->hget sb.heap id=hget st.heap id:=by
  intro id hne;rw[<-cF];unfold Zeb at bC;rw[hk2]at bC;simp only at bC;unfold bxOk at fE;cases hq:b.op<;>rw[hq]at jJ<;>try (cases jJ;done)
  rename_i t x y;rw[hq]at fE;simp only at fE;split at fE
  .rename_i d' off hx;have:=ZaK fE;subst this;exact ZDN hq hx bC id hne
  .cases fE
 have bQ:Zeb P N T ops ra k a aj=some (va,o1,aj):=by
  refine ZlU c1 (fun t ht=>g2 t (ZbG d2 ht)) (fun x ef id bb dx aC=>?_) aP;rw[gp,i7 id ?_]
  .exact aC
  rintro rfl;unfold bxOk at fD;cases hq:a.op<;>rw[hq]at fK<;>try (cases fK;done)
  rename_i t y;rw[hq]at fD ef;simp only[ZcH,List.mem_singleton]at ef;subst ef;simp only at fD;split at fD
  .rename_i d' off hx;have:=ZaK fD;subst this;simp only[hx,V.says,C.says]at dx;exact kF (ZaK dx)
  .rename_i hx;simp only[hx,V.says,C.says]at dx;cases dx
  .cases fD
 obtain⟨aE,bc⟩:=Zex (st2:=aj) bk;have xb:bxOk (Zen ag (ops.size+i)) st b.op=true:=by rw[ZeK (st:=st1) _ (fun t ht=>(g1 t (ZbG d1 ht)).symm)];exact Zew h2 hb
 have xa:bxOk (Zen ag (ops.size+k)) aj a.op=true:=by rw[ZeK (st:=st) _ (fun t ht=>g2 t (ZbG d2 ht))];exact Zew h1 ha
 refine⟨aj,aE,ZfO hb xb bD cG aS,ZfO ha xa bQ b9 bc,⟨fun t=>?_,?_⟩⟩
 .rw[(ZaG bw t).1,(ZaG bc t).1];have hd:¬(a.dst=some t/\b.dst=some t):=by
   rintro ⟨e1,e2⟩;rw[e1,e2]at d3;simp[Zlv]at d3
  by_cases e1:a.dst=some t
  .rw[if_pos e1,if_neg (fun e2=>hd ⟨e1,e2⟩),ZiV eb,(ZaG bk t).1,if_pos e1]
  .rw[if_neg e1,(ZaG aS t).1];split
   .rfl
   .rw[ZiV eb,g1 t e1];rfl
 .rw[(ZaG bw 0).2,(ZaG bc 0).2,gp]
theorem Zzt(c7:Zzi ops ra ni){k i:Nat}(aA:ZzK N ops ra ag k i=true)(hne:k≠i)(hki:k ∉ Zen ag i){st st1 st2:St}{o1 o2:List Prop}(h1:ZfE P N T ops ra ag ni k st=some (st1,o1))(h2:ZfE P N T ops ra ag ni i st1=some (st2,o2))
  (hJ:∀o,ops[i]?=some o->clsX ra i o=3->Zhq st (o.dst.getD 0) N=true) :
  ∃aj aE,ZfE P N T ops ra ag ni i st=some (aj,o2)/\ZfE P N T ops ra ag ni k aj=some (aE,o1)/\Eqv aE st2:=by
 obtain⟨a,va,sa,ha,aP,b9,bk⟩:=Zds h1;obtain⟨b,vb,sb,hb,bC,cG,bw⟩:=Zds h2;unfold ZzK at aA;rw[Bool.or_eq_true,Bool.or_eq_true]at aA;rcases aA with (aA|aA)|aA;rotate_left
 .exact Zzs aA h1 h2
 .unfold okLC at aA;rw[ha,hb]at aA;simp only[Bool.and_eq_true]at aA;obtain⟨⟨⟨d1,d2⟩,d3⟩,aA⟩:=aA;split at aA
  .rename_i e gW gX;rw[Bool.or_eq_true]at aA;rcases aA with aA|aA
   .rw[Bool.and_eq_true]at aA;exact ZxF c7 ha hb d1 d2 d3 gW aA.1 (Nat.ne_of_beq_eq_false (by simpa using aA.2)) h1 h2 hJ
   .simp only[Bool.and_eq_true,Option.isNone_iff_eq_none]at aA;obtain⟨⟨q1,q2⟩,q3⟩:=aA;split at q3
    .rename_i c l im;exact ZxC ha hb d1 d2 d3 q1 q2 im gW (Nat.ne_of_beq_eq_false (by simpa using q3)) h1 h2
    .cases q3
  .rename_i e gW gX;rw[Bool.or_eq_true]at aA;rcases aA with aA|aA
   .rw[Bool.and_eq_true]at aA;exact ZxE c7 ha hb d1 d2 d3 aA.1 gX (Nat.ne_of_beq_eq_false (by simpa using aA.2)) hne hki h1 h2
   .simp only[Bool.and_eq_true,Option.isNone_iff_eq_none]at aA;obtain⟨⟨q1,q2⟩,q3⟩:=aA;split at q3
    .rename_i c l im;exact ZxD ha hb d1 d2 d3 q1 q2 im gX (Nat.ne_of_beq_eq_false (by simpa using q3)) h1 h2
    .cases q3
  .cases aA
 unfold ZGx at aA;rw[ha,hb]at aA;simp only[Bool.and_eq_true,Bool.or_eq_true]at aA;obtain⟨⟨⟨d1,d2⟩,d3⟩,dK⟩:=aA;rcases dK with (dK|⟨hR1,hR2⟩)|⟨⟨hR1,hR2⟩,hR3⟩;rotate_left
 .exact Zzq c7 ha hb d1 d2 d3 hR1 hR2 hne hki h1 h2 hJ
 .exact Zzr c7 ha hb d1 d2 d3 (by rw[Bool.or_eq_true];exact hR1) (by rw[Bool.or_eq_true];exact hR2) (fun t ht=>Nat.le_of_ble_eq_true (List.all_eq_true.1 hR3 t ht)) hne hki h1 h2 hJ
 have i9:(clsX ra k a<=1/\clsX ra i b<=1)\/(clsX ra k a=0/\clsX ra i b<=3)\/(clsX ra i b=0/\clsX ra k a<=3)\/(clsX ra k a=3/\clsX ra i b=1/\∀t∈Zfh ops b,t<N)\/(clsX ra k a=1/\clsX ra i b=3/\ZtM ra i b=true):=by
  rcases dK with (((⟨h,h'⟩|⟨h,h'⟩)|⟨h,h'⟩)|⟨⟨h,h'⟩,h''⟩)|⟨⟨h,h'⟩,h''⟩
  .exact .inl ⟨Nat.le_of_ble_eq_true h,Nat.le_of_ble_eq_true h'⟩
  .exact .inr (.inl ⟨ZaK h,Nat.le_of_ble_eq_true h'⟩)
  .exact .inr (.inr (.inl ⟨ZaK h,Nat.le_of_ble_eq_true h'⟩))
  .exact .inr (.inr (.inr (.inl ⟨ZaK h,ZaK h',fun t ht=>Nat.le_of_ble_eq_true (List.all_eq_true.1 h'' t ht)⟩)))
  .exact .inr (.inr (.inr (.inr ⟨ZaK h,ZaK h',h''⟩)))
 -- k at st
 obtain⟨ea,i6,_⟩:=Zfp (st2:=st) (by omega) (fun t _=>rfl) (fun _=>rfl) (fun _ h=>h) aP;have cF:clsX ra k a<=1->st1.heap=st.heap:=fun h=>(ZaG bk 0).2.trans (i6 h);have g1:∀t,a.dst≠some t->st1.get t=st.get t:=fun t ht=>by rw[(ZaG bk t).1,if_neg ht];exact ZiV ea t
 -- i at st
 have hkc:clsX ra k a<=3:=by omega
 have hic:clsX ra i b<=3:=by omega
 obtain⟨eb,jI,bD⟩ : sb.env=st1.env/\(clsX ra i b<=1->sb.heap=st1.heap)/\Zeb P N T ops ra i b st=some (vb,o2,⟨st.env,if clsX ra i b<=1 then st.heap else sb.heap⟩):=by
  by_cases hx:clsX ra k a=3/\clsX ra i b=1
  .obtain⟨e1,e2,_⟩:=Zfp (st2:=st1) (by omega) (fun t _=>rfl) (fun _=>rfl) (fun _ h=>h) bC;refine⟨e1,e2,?_⟩;rw[if_pos (by omega)];have hN:∀t∈Zfh ops b,t<N:=by
    rcases i9 with h|h|h|h|h
    .omega
    .omega
    .omega
    .exact h.2.2
    .omega
   refine ZlU hx.2 (fun t ht=>(g1 t (ZbG d1 ht)).symm) (fun x ef id bb dx aC=>?_) bC;rw[(ZaG bk 0).2]at aC;rcases ZvD hx.1 aP with rfl|⟨hq,hn⟩
   .exact aC
   .rcases hn id bb aC with rfl|h
    .exfalso;have:(evo st1 x).says (a.dst.getD 0)=false:=by
      cases x with
      |tmp t=>
       have ht:t∈Zfh ops b:=List.mem_append.2 (.inl (ZpG ef));show (st1.get t).says _=false;rw[g1 t (ZbG d1 ht)];exact ZoZ (Zdt hq).1 t (hN t ht)
      |const v=>exact ZvH v _
      |func f=>rfl
      |global g=>rfl
     simp only[this]at dx;cases dx
    .exact h
  .exact Zfp (st2:=st) (by omega) (fun t ht=>(g1 t (ZbG d1 ht)).symm) (fun h=>(cF (by omega)).symm) (fun hc hq=>by
    obtain⟨_,q2⟩:=Zdt hq;refine ZmJ (hJ b hb hc) ?_;rw[<-cF (by omega)];exact q2) bC
 obtain⟨aj,aS⟩:=Zex (st2:=⟨st.env,if clsX ra i b<=1 then st.heap else sb.heap⟩) bw;have xb:bxOk (Zen ag (ops.size+i)) st b.op=true:=by rw[ZeK (st:=st1) _ (fun t ht=>(g1 t (ZbG d1 ht)).symm)];exact Zew h2 hb
 have bu:=ZfO (ag:=ag) (ni:=ni) hb xb bD cG aS;have g2:∀t,b.dst≠some t->aj.get t=st.get t:=fun t ht=>by rw[(ZaG aS t).1,if_neg ht];rfl
 have gp:clsX ra i b<=1->aj.heap=st.heap:=fun h=>by rw[(ZaG aS 0).2];simp only[if_pos h]
 -- k behind i
 have bQ:Zeb P N T ops ra k a aj=some (va,o1,⟨aj.env,if clsX ra k a<=1 then aj.heap else sa.heap⟩):=by
  by_cases hx:clsX ra k a=1/\clsX ra i b=3
  .rw[if_pos (by omega)];have j6:ZtM ra i b=true:=by
    rcases i9 with h|h|h|h|h
    .omega
    .omega
    .omega
    .omega
    .exact h.2.2
   refine ZlU hx.1 (fun t ht=>g2 t (ZbG d2 ht)) (fun x ef id bb dx aC=>?_) aP;rw[(ZaG aS 0).2];simp only[if_neg (show ¬clsX ra i b<=1 by omega)];have:=Zyc hx.2 j6 bD id bb aC;simpa only[if_neg (show ¬clsX ra i b<=1 by omega)]using this
  .refine(Zfp (st2:=aj) (by omega) (fun t ht=>g2 t (ZbG d2 ht)) (fun h=>gp (by omega)) (fun hc hq=>by
    obtain⟨q1,q2⟩:=Zdt hq;refine ZmJ (ZjC (st1:=⟨st.env,if clsX ra i b<=1 then st.heap else sb.heap⟩) q1 (fun t=>rfl) (ZoC cG (c7 k a ha hc) hne hki) aS) ?_;rw[gp (by omega)];exact q2) aP).2.2
 obtain⟨aE,bc⟩:=Zex (st2:=⟨aj.env,if clsX ra k a<=1 then aj.heap else sa.heap⟩) bk;have xa:bxOk (Zen ag (ops.size+k)) aj a.op=true:=by rw[ZeK (st:=st) _ (fun t ht=>g2 t (ZbG d2 ht))];exact Zew h1 ha
 refine⟨aj,aE,bu,ZfO ha xa bQ b9 bc,⟨fun t=>?_,?_⟩⟩
 .rw[(ZaG bw t).1,(ZaG bc t).1];have hd:¬(a.dst=some t/\b.dst=some t):=by
   rintro ⟨e1,e2⟩;rw[e1,e2]at d3;simp[Zlv]at d3
  by_cases e1:a.dst=some t
  .rw[if_pos e1,if_neg (fun e2=>hd ⟨e1,e2⟩),ZiV eb,(ZaG bk t).1,if_pos e1]
  .rw[if_neg e1];have e3:(⟨aj.env,if clsX ra k a<=1 then aj.heap else sa.heap⟩ : St).get t=aj.get t:=rfl;rw[e3,(ZaG aS t).1];split
   .rfl
   .rw[ZiV eb,g1 t e1];rfl
 .rw[(ZaG bw 0).2,(ZaG bc 0).2];simp only;by_cases c1:clsX ra k a<=1
  .rw[if_pos c1,(ZaG aS 0).2];simp only;by_cases c2:clsX ra i b<=1
   .rw[if_pos c2,jI c2,cF c1]
   .rw[if_neg c2]
  .rw[if_neg c1,jI (by omega),(ZaG bk 0).2]
theorem ZxB{k i:Nat}(aA:okLM ops ra k i=true){st st1 st2:St}{o1 o2:List Prop}(h1:ZfE P N T ops ra ag ni k st=some (st1,o1))(h2:ZfE P N T ops ra ag ni i st1=some (st2,o2)) :
  ∃aj aE gY,ZfE P N T ops ra ag ni i st=some (aj,o2)/\ZfE P N T ops ra ag ni k aj=some (aE,gY)/\Eqv aE st2/\((∀q∈o1++o2,q)->∀q∈gY,q):=by
 obtain⟨a,va,sa,ha,aP,b9,bk⟩:=Zds h1;obtain⟨b,vb,sb,hb,bC,cG,bw⟩:=Zds h2;have xa0:=Zew h1 ha;have xb0:=Zew h2 hb;unfold okLM at aA;rw[ha,hb]at aA;simp only at aA;split at aA;rotate_left
 .cases aA
 rename_i t x y t' x' y' hao hbo;simp only[Bool.and_eq_true,Option.isNone_iff_eq_none,List.isEmpty_iff]at aA;obtain⟨⟨⟨⟨⟨⟨⟨⟨⟨⟨⟨⟨⟨⟨⟨ht,hx⟩,hy⟩,d1⟩,d2⟩,d3⟩,ga⟩,gb⟩,bN⟩,hk2⟩,b1⟩,b2⟩,n1⟩,n2⟩,r1⟩,r2⟩:=aA;obtain rfl:=Nat.eq_of_beq_eq_true ht;have sT:∀{u v:Operand},Zwi u v=true->∃n,u=.tmp n/\v=.tmp n:=fun{u v} h=>by
  cases u<;>cases v<;>simp only[Zwi]at h<;>(try (cases h;done))
  exact⟨_,rfl,by rw[Nat.eq_of_beq_eq_true h]⟩
 obtain⟨x,rfl,rfl⟩:=sT hx;obtain⟨y,rfl,rfl⟩:=sT hy;have eL:∀s:St,Zeb P N T ops ra k a s=(Zib P T s t (s.get x) (s.get y) false (ZcT ra.an k)).map fun p=>(p.1,p.2,s):=fun s=>by
  unfold Zeb;rw[bN];simp only[Znq,Zgr,ga,evOp,hao];have e:∀z,evo s (.tmp z)=s.get z:=fun z=>rfl;rw[e,e];cases Zib P T s t (s.get x) (s.get y) false (ZcT ra.an k)with
  |none=>rfl
  |some p=>simp only[b1,Zxg,n1,dnV,r1,rlV,Option.map_some]
 have eM:∀s:St,Zeb P N T ops ra i b s=ZhU P T s t (s.get x) (s.get y) (ZcT ra.an i):=fun s=>by
  unfold Zeb;rw[hk2];simp only[Znq,Zgr,gb,evOp,hbo];have e:∀z,evo s (.tmp z)=s.get z:=fun z=>rfl;rw[e,e];cases ZhU P T s t (s.get x) (s.get y) (ZcT ra.an i)with
  |none=>rfl
  |some p=>simp only[b2,Zxg,n2,dnV,r2,rlV]
 rw[eL]at aP;rw[eM]at bC;have ux:x∈Zfh ops b/\y∈Zfh ops b:=by unfold Zfh;rw[hbo];simp[ZcH,Zsq]
 have uxa:x∈Zfh ops a/\y∈Zfh ops a:=by unfold Zfh;rw[hao];simp[ZcH,Zsq]
 simp only[Option.map_eq_some_iff,Prod.mk.injEq]at aP;obtain⟨p,hp,rfl,rfl,rfl⟩:=aP;obtain⟨va,o1⟩:=p;simp only at hp b9 bk;have g1:∀n,a.dst≠some n->st1.get n=st.get n:=fun n hn=>by rw[(ZaG bk n).1,if_neg hn]
 have cF:st1.heap=st.heap:=(ZaG bk 0).2;rw[g1 x (ZbG d1 ux.1),g1 y (ZbG d1 ux.2)]at bC
 -- the entry
 unfold ZhU at bC;split at bC;rotate_left
 .cases bC
 rename_i kt vt id kt' l kv ik j z0 l' dF dG d6 han;split at bC;rotate_left
 .cases bC
 rename_i z hz eI;cases bC;have gZ:ZpV st (st.get x)=some (id,kt',l):=by unfold ZpV at dG ⊢;rw[cF]at dG;exact dG
 obtain⟨km,hl⟩:=Zof gZ
 -- the look
 unfold Zib at hp;rw[dF,gZ,d6]at hp;split at hp;rotate_left
 .cases hp
 rename_i kt0 vt0 _ _ l0 kv0 v0 fz0 e1 e2 e3 e4 e5;cases e2;cases e3;cases e4;rw[hz]at hp;cases hp;have kG:ZhU P T st t (st.get x) (st.get y) (ZcT ra.an i)=some (.tup [(false,[.junk]),(false,[.lit (.int .i64 j)])],[Zmu P kt kv (kv :: l.map (·.1)),MEnt l kv z j l'],{ st with heap:=hset st.heap id (.map kt' l') }):=by
  unfold ZhU;rw[dF,gZ,d6,han];simp only[hz,eI]
 obtain⟨aj,aS⟩:=Zex (st2:=⟨st.env,hset st.heap id (.map kt' l')⟩) bw;have g2:∀n,b.dst≠some n->aj.get n=st.get n:=fun n hn=>by rw[(ZaG aS n).1,if_neg hn];rfl
 have gp:aj.heap=hset st.heap id (.map kt' l'):=(ZaG aS 0).2;have kH:Zib P T aj t (aj.get x) (aj.get y) false (ZcT ra.an k)=some (va,[Zmu P kt kv (l'.map (·.1)),ZuO l' kv z va]):=by
  rw[g2 x (ZbG d2 uxa.1),g2 y (ZbG d2 uxa.2)];have hm2:ZpV aj (st.get x)=some (id,kt',l'):=by
   unfold ZpV;rw[km,gp];simp only[Zpg,if_true]
  unfold Zib;rw[dF,hm2,d6,e5];simp only[hz]
 have xb:bxOk (Zen ag (ops.size+i)) st b.op=true:=by rw[ZeK (st:=st1) _ (fun n hn=>(g1 n (ZbG d1 hn)).symm)];exact xb0
 have xa:bxOk (Zen ag (ops.size+k)) aj a.op=true:=by rw[ZeK (st:=st) _ (fun n hn=>g2 n (ZbG d2 hn))];exact xa0
 have bu:=ZfO (ag:=ag) (ni:=ni) hb xb ((eM st).trans kG) cG aS;obtain⟨aE,bc⟩:=Zex (st2:=aj) bk;have kI:=ZfO (ag:=ag) (ni:=ni) ha xa ((eL aj).trans (by rw[kH];rfl)) b9 bc;refine⟨aj,aE,_,bu,kI,⟨fun n=>?_,?_⟩,fun hq q hqm=>?_⟩
 .rw[(ZaG bw n).1,(ZaG bc n).1];have hd:¬(a.dst=some n/\b.dst=some n):=by
   rintro ⟨e1,e2⟩;rw[e1,e2]at d3;simp[Zlv]at d3
  by_cases e1:a.dst=some n
  .rw[if_pos e1,if_neg (fun e2=>hd ⟨e1,e2⟩)];show st1.get n=va;rw[(ZaG bk n).1,if_pos e1]
  .rw[if_neg e1,(ZaG aS n).1];split
   .rfl
   .show st1.get n=st.get n;exact g1 n e1
 .rw[(ZaG bw 0).2,(ZaG bc 0).2,gp];show hset st1.heap id (.map kt' l')=_;rw[cF]
 .have q1:ZuO l kv z va:=hq _ (by simp);have q2:Zmu P kt kv (kv :: l.map (·.1)):=hq _ (by simp);have q3:MEnt l kv z j l':=hq _ (by simp);simp only[List.mem_cons,List.not_mem_nil,or_false]at hqm;rcases hqm with rfl|rfl
  .exact q2.sub q3.keys
  .exact q1.ent q3
theorem ZCa(c7:Zzi ops ra ni){k i:Nat}(aA:Zod N ops ra ag k i=true)(hne:k≠i)(hki:k ∉ Zen ag i){st st1 st2:St}{o1 o2:List Prop}(h1:ZfE P N T ops ra ag ni k st=some (st1,o1))(h2:ZfE P N T ops ra ag ni i st1=some (st2,o2))
  (hJ:∀o,ops[i]?=some o->clsX ra i o=3->Zhq st (o.dst.getD 0) N=true) :
  ∃aj aE gY,ZfE P N T ops ra ag ni i st=some (aj,o2)/\ZfE P N T ops ra ag ni k aj=some (aE,gY)/\Eqv aE st2/\((∀q∈o1++o2,q)->∀q∈gY,q):=by
 unfold Zod at aA;rw[Bool.or_eq_true]at aA;rcases aA with aA|aA
 .obtain⟨a,b,h3,h4,h5⟩:=Zzt c7 aA hne hki h1 h2 hJ;exact⟨a,b,o1,h3,h4,h5,fun h q hq=>h q (List.mem_append.2 (.inl hq))⟩
 .exact ZxB aA h1 h2
theorem ZDh{i:Nat}{st st2 st':St}{obl:List Prop}(hcls:∀o,ops[i]?=some o->ZsB ra i o=true)(he:Eqv st st2)(h:ZfE P N T ops ra ag ni i st=some (st',obl)):∃aE,ZfE P N T ops ra ag ni i st2=some (aE,obl)/\Eqv st' aE:=by
 obtain⟨o,v,s1,ho,hr,hc,hp⟩:=Zds h;have e1:=ZlM hr;obtain⟨ja,eO,hph⟩:=ZCp (hcls o ho) he hr;obtain⟨aE,bc⟩:=Zex (st2:=⟨st2.env,ja⟩) hp;refine⟨aE,ZfO ho (by rw[ZeK (ops:=ops) (st:=st) _ (fun t _=>he.env t)];exact Zew h ho) eO hc bc,fun t=>?_,?_⟩
 .rw[(ZaG hp t).1,(ZaG bc t).1];split
  .rfl
  .rw[ZiV e1];exact he.env t
 .rw[(ZaG hp 0).2,(ZaG bc 0).2];exact hph
theorem Zyx:∀{l:List Nat}{st st2 st':St}{obl:List Prop},(∀i∈l,∀o,ops[i]?=some o->ZsB ra i o=true)->Eqv st st2->Zqe P N T ops ra ag ni l st=some (st',obl)->∃aE,Zqe P N T ops ra ag ni l st2=some (aE,obl)/\Eqv st' aE
 | [],st,st2,st',obl,hcls,he,h=>by cases h;exact⟨st2,rfl,he⟩
 |i :: l,st,st2,st',obl,hcls,he,h=>by
  simp only[Zqe]at h
  split at h
  .cases h
  rename_i s1 o1 h1
  split at h
  .cases h
  rename_i s2 o2 h2
  cases h
  obtain⟨s1',h3,h4⟩:=ZDh (hcls i (by simp)) he h1
  obtain⟨s2',h5,h6⟩:=Zyx (fun j hj=>hcls j (by simp[hj])) h4 h2
  exact⟨s2',by simp only[Zqe,h3,h5],h6⟩
theorem ZqF(c7:Zzi ops ra ni){i:Nat}{post:List Nat}:∀{dw:List Nat}{st F:St}{obl:List Prop},(∀k∈dw++post,∀o,ops[k]?=some o->ZsB ra k o=true)->(∀k∈dw,Zod N ops ra ag k i=true/\k≠i/\k ∉ Zen ag i/\i ∉ Zen ag k) ->
  (∀o,ops[i]?=some o->clsX ra i o=3->Zhq st (o.dst.getD 0) N=true)->Zqe P N T ops ra ag ni (dw++i :: post) st=some (F,obl) ->
  ∃st1 oi F' o',ZfE P N T ops ra ag ni i st=some (st1,oi)/\Zqe P N T ops ra ag ni (dw++post) st1=some (F',o')/\Eqv F F'/\((∀q∈obl,q)->∀q∈oi++o',q)
 | [],st,F,obl,hcls,hp,hJ,h=>by
  simp only[List.nil_append,Zqe]at h
  split at h
  .cases h
  rename_i s1 o1 h1
  split at h
  .cases h
  rename_i s2 o2 h2
  cases h
  exact⟨s1,o1,_,o2,h1,h2,Eqv.refl _,fun h q hq=>h q hq⟩
 |k :: dw,st,F,obl,hcls,hp,hJ,h=>by
  simp only[List.cons_append,Zqe]at h
  split at h
  .cases h
  rename_i s1 o1 h1
  split at h
  .cases h
  rename_i s2 o2 h2
  cases h
  obtain⟨aA,hne,hki,hik⟩:=hp k (by simp)
  obtain⟨a,va,sa,ha,aP,b9,bk⟩:=Zds h1
  have hJ1:∀o,ops[i]?=some o->clsX ra i o=3->Zhq s1 (o.dst.getD 0) N=true:=fun o ho hc=>by
   have ea:=ZlM aP
   exact ZjC (hJ o ho hc) (ZiV ea) (ZoC b9 (c7 i o ho hc) (Ne.symm hne) hik) bk
  obtain⟨t1,oi,F1,o',h3,h4,h5,h6⟩:=ZqF c7 (fun j hj=>hcls j (List.mem_cons_of_mem _ hj)) (fun k' hk'=>hp k' (by simp[hk'])) hJ1 h2
  obtain⟨t1',t2',gY,h7,h8,h9,h12⟩:=ZCa c7 aA hne hki h1 h3 hJ
  obtain⟨F2,kJ,gq⟩:=Zyx (l:=dw++post) (fun j hj=>hcls j (List.mem_cons_of_mem _ hj)) (st:=t1) (st2:=t2') ⟨fun t=>(h9.env t).symm,h9.heap.symm⟩ h4
  refine⟨t1',oi,F2,gY++o',h7,by simp only[List.cons_append,Zqe,h8,kJ],h5.trans gq,fun cR q hq=>?_⟩
  have kK:=h6 fun q hq=>cR q (List.mem_append.2 (.inr hq))
  rcases List.mem_append.1 hq with hq|hq
  .exact kK q (List.mem_append.2 (.inl hq))
  .rcases List.mem_append.1 hq with hq|hq
   .refine h12 (fun q hq=>?_) q hq
    rcases List.mem_append.1 hq with hq|hq
    .exact cR q (List.mem_append.2 (.inl hq))
    .exact kK q (List.mem_append.2 (.inl hq))
   .exact kK q (List.mem_append.2 (.inr hq))
end
end Go.Proofs.YtmnloegcpaahcaaGreat
