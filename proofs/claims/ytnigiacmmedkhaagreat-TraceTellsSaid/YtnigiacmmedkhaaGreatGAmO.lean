import Derived.Test.YtnigiacmmedkhaaGreatGAmN
namespace Go.Proofs.YtnigiacmmedkhaaGreat
open Go.RowKit
set_option linter.unusedSimpArgs false
set_option linter.unusedVariables false
def ZKp(T:Tab)(st:St):ResultVar->Option V
 | .tmp t=>some (st.get t)
 | .cell p t=>match Zqy T st t (st.get p)with
  |some (v,[])=>some v
  |_=>none
def ZBE(T:Tab)(st:St):List ResultVar->Option (List V)
 | []=>some []
 |r :: l=>match ZKp T st r,ZBE T st l with
  |some v,some vs=>some (v :: vs)
  |_,_=>none
def ZDb:List V->Option (List (Bool×List C))
 | []=>some []
 | .one c :: l=>match ZDb l with
  |some r=>some ((false,[c]) :: r)
  |none=>none
 | .agg cs :: l=>match ZDb l with
  |some r=>some ((true,cs) :: r)
  |none=>none
 | .tup _ :: _=>none
def ZBF(T:Tab)(st:St)(rs:List ResultVar):Option V:=match ZBE T st rs with
 |some [v]=>some v
 |some vs=>match ZDb vs with
  |some l=>some (.tup l)
  |none=>none
 |none=>none
theorem Ztn{P:Program}{t:TypeId}{px x:Value}{w:World}(h:(Instr.loadAt t px).run P w=.ok x w):(do loadVar t (<-asAddr px):Sem Value).run P w=.ok x w:=by
 unfold Instr.loadAt at h;cases px<;>try (simp[Instr.sureAddr,Sem.run_bind,stuck,Sem.run]at h;done)
 rename_i a;cases a with
 |none=>simp[Instr.sureAddr,Sem.run_bind,stuck,Sem.run]at h
 |some a=>simpa[Instr.sureAddr,asAddr,Sem.run_bind]using h
def ZFr(a:Act):ResultVar->Sem Value
 | .tmp t=>pure (a.tmps.getD t undef)
 | .cell p t=>do loadVar t (<-asAddr (a.tmps.getD p undef))
theorem ZGV(fn:Func)(a:Act):results fn a.tmps=(do
  let vs <-fn.results.mapM (ZFr a)
  pure (if h:vs.size=1 then vs[0]else .tuple vs)):=rfl
def RepP(S:Nat->Prop)(w:World)(m:Mp):Bool×List C->Value->Prop | (true,cs),y=>∃ys,y=.agg ys/\RepL S w m cs ys.toList | (false,[c]),y=>RepC S w m c y|_,_=>True
theorem ZHD{P:Program}{T:Tab}(hT:Zes P T){N:Nat}{F:Keep}{S:Nat->Prop}{m:Mp}{st:St}{a:Act}{w:World}(hs:Sim N F S m st a w){r:ResultVar}{v:V}(h:ZKp T st r=some v) :
  ∃x,(ZFr a r).run P w=.ok x w/\RepV S w m v x:=by
 cases r with
 |tmp t=>cases h;exact⟨_,rfl,hs.env t⟩
 |cell p t=>
  simp only[ZKp]at h;split at h
  .rename_i v' hv;cases h;obtain⟨x,h1,h2⟩:=Zwf hT hs (hs.env p) hv (by simp);exact⟨x,Ztn h1,h2⟩
  .cases h
theorem Zwc{P:Program}{T:Tab}(hT:Zes P T){N:Nat}{F:Keep}{S:Nat->Prop}{m:Mp}{st:St}{a:Act}{w:World}(hs:Sim N F S m st a w):∀{rs:List ResultVar}{vs:List V}(acc:Array Value),ZBE T st rs=some vs ->
  ∃xs:List Value,(rs.foldlM (fun bs r=>bs.push <$> (ZFr a r)) acc).run P w=.ok (acc++xs.toArray) w/\xs.length=vs.length /\
   ∀(j:Nat)(v:V),vs[j]?=some v->∃x,xs[j]?=some x/\RepV S w m v x
 | [],vs,acc,h=>by cases h;exact⟨[],by simp,rfl,fun j v h=>by simp at h⟩
 |r :: rs,vs,acc,h=>by
  simp only[ZBE]at h
  split at h
  .rename_i v dO hv df
   cases h
   obtain⟨x,h1,h2⟩:=ZHD hT hs hv
   obtain⟨xs,h3,h4,h5⟩:=Zwc hT hs (acc.push x) df
   refine⟨x :: xs,?_,by simp[h4],fun j u hj=>?_⟩
   .simp only[List.foldlM_cons,Sem.run_bind,map_eq_pure_bind,h1,Result.andThen_ok,Sem.run_pure]
    simp only[map_eq_pure_bind]at h3
    rw[h3]
    simp
   .cases j with
    |zero=>simp only[List.getElem?_cons_zero,Option.some.injEq]at hj;subst hj;exact⟨x,rfl,h2⟩
    |succ j=>simpa using h5 j u (by simpa using hj)
  .cases h
theorem Zzh{S:Nat->Prop}{w:World}{m:Mp}:∀{vs:List V}{l:List (Bool×List C)}{xs:List Value},ZDb vs=some l->(∀(j:Nat)(v:V),vs[j]?=some v->∃x,xs[j]?=some x/\RepV S w m v x) ->
  l.length=vs.length/\∀(j:Nat)(p:Bool×List C),l[j]?=some p->∃y,xs[j]?=some y/\RepP S w m p y
 | [],l,xs,h,hx=>by cases h;exact⟨rfl,fun j p h=>by simp at h⟩
 |v :: vs,l,xs,h,hx=>by
  have key:∀{q:Bool×List C}{r},ZDb vs=some r->l=q :: r->(∃y,xs[0]?=some y/\RepP S w m q y)->l.length=(v :: vs).length/\∀(j:Nat)(p:Bool×List C),l[j]?=some p->∃y,xs[j]?=some y/\RepP S w m p y:=by
   rintro q r hr rfl h0;obtain⟨h1,h2⟩:=Zzh (xs:=xs.drop 1) hr (fun j u hj=>by
    obtain⟨x,h3,h4⟩:=hx (j+1) u (by simpa using hj);exact⟨x,by rw[List.getElem?_drop,Nat.add_comm];exact h3,h4⟩)
   refine⟨by simp[h1],fun j p hj=>?_⟩;cases j with
   |zero=>simp only[List.getElem?_cons_zero,Option.some.injEq]at hj;subst hj;exact h0
   |succ j=>
    obtain⟨y,h3,h4⟩:=h2 j p (by simpa using hj);exact⟨y,by rw[List.getElem?_drop,Nat.add_comm]at h3;exact h3,h4⟩
  obtain⟨x,h0,h1⟩:=hx 0 v rfl;cases v with
  |one c=>
   simp only[ZDb]at h;split at h
   .rename_i r hr;cases h;exact key hr rfl ⟨x,h0,h1⟩
   .cases h
  |agg cs=>
   simp only[ZDb]at h;split at h
   .rename_i r hr;cases h;exact key hr rfl ⟨x,h0,h1⟩
   .cases h
  |tup l'=>cases h
theorem ZBD{P:Program}{T:Tab}(hT:Zes P T){N:Nat}{F:Keep}{S:Nat->Prop}{m:Mp}{st:St}{a:Act}{w:World}(hs:Sim N F S m st a w){fn:Func}{v:V}(h:ZBF T st fn.results.toList=some v) :
  ∃x,(results fn a.tmps).run P w=.ok x w/\RepV S w m v x:=by
 unfold ZBF at h;have au:∀{vs},ZBE T st fn.results.toList=some vs->∃xs:List Value,(results fn a.tmps).run P w=.ok (if h:xs.toArray.size=1 then xs.toArray[0]else .tuple xs.toArray) w/\xs.length=vs.length /\
   ∀(j:Nat)(v:V),vs[j]?=some v->∃x,xs[j]?=some x/\RepV S w m v x:=by
  intro vs df;obtain⟨xs,h1,h2,h3⟩:=Zwc hT hs #[] df;refine⟨xs,?_,h2,h3⟩;rw[ZGV];have:(fn.results.mapM (ZFr a)).run P w=.ok xs.toArray w:=by
   rw[Array.mapM_eq_foldlM,<-Array.foldlM_toList,h1];simp
  rw[Sem.run_bind,this];rfl
 split at h
 .rename_i v' hv;cases h;obtain⟨xs,h1,h2,h3⟩:=au hv;obtain⟨x,h4,h5⟩:=h3 0 _ rfl;have eV:xs=[x]:=by
   cases xs with
   |nil=>simp at h4
   |cons y ys=>
    simp at h4 h2;rw[h4,h2]
  subst eV;exact⟨x,h1,h5⟩
 .rename_i vs bt hv;split at h
  .rename_i l hl;cases h;obtain⟨xs,h1,h2,h3⟩:=au hv;obtain⟨h4,h5⟩:=Zzh hl h3;have hne:¬xs.toArray.size=1:=by
    intro e;simp at e;cases vs with
    |nil=>rw[h2]at e;simp at e
    |cons u us=>
     cases us with
     |nil=>exact bt u rfl
     |cons _ _=>rw[h2]at e;simp at e
   rw[dif_neg hne]at h1;refine⟨_,h1,xs.toArray,rfl,by simp;omega,fun j p hj=>?_⟩;obtain⟨y,h6,h7⟩:=h5 j p hj;refine⟨y,by simpa using h6,?_⟩;obtain⟨b,cs⟩:=p
   match b,cs,h7 with
   |true,cs,h7=>exact h7
   |false,[c],h7=>exact h7
   |false,[],_=>trivial
   |false,_ :: _ :: _,_=>trivial
  .cases h
 .cases h
def St.init(args:List V):St:=⟨(List.range args.length).zip args,[]⟩
theorem ZFL{d:V}:∀(args:List V)(k t:Nat),look d (((List.range' k args.length)).zip args) t=if t<k then d else args.getD (t-k) d
 | [],k,t=>by simp[look]
 |v :: l,k,t=>by
  simp only[List.length_cons,List.range'_succ,List.zip_cons_cons,Zrp]
  rw[ZFL l (k+1) t]
  by_cases h:k=t
  .subst h;simp
  .rw[if_neg h]
   by_cases h2:t<k
   .rw[if_pos (by omega),if_pos h2]
   .rw[if_neg (by omega),if_neg h2]
    obtain⟨n,hn⟩ : ∃n,t-k=n+1:=⟨t-k-1,by omega⟩
    rw[hn,show t-(k+1)=n by omega]
    simp
theorem St.get_init(args:List V)(t:Nat):(St.init args).get t=args.getD t (.one .junk):=by
 unfold St.get St.init;rw[List.range_eq_range',ZFL args 0 t];simp
def Post(S0:Nat->Prop)(w0:ZeC)(res:V):Ending->World->Prop:=fun e w'=>∃x S',e=.returned x/\Goes w0.F.no S0 S' w0.w w'/\(∀b,S' b->b<w'.heap.size)/\RepV S' w' ZcK res x
theorem Post.ends{P:Program}{fn:Func}{S0:Nat->Prop}{w0:ZeC}{res:V}:Ends (bodyPost P fn (Post S0 w0 res)):=by
 refine⟨fun a w h=>?_,fun l a w h=>h⟩;obtain⟨x,S',h,_⟩:=h;cases h
theorem ZpJ{P:Program}{Q:Exit->Act->World->Prop}{a:Act}{w:World}(h:Q .ret a w):∀k,ZqV P Q k .ret a w
 | []=>h
 | .code c :: k=>ZpJ h k
 | .endB id :: k=>ZpJ h k
 | .endL b :: k=>ZpJ h k
theorem ZwS{P:Program}{T:Tab}(hT:Zes P T){N:Nat}{S0:Nat->Prop}{w0:ZeC}{fn:Func}{res:V}{st1:St}{a:Act}{w:World}(hs:ZcI N S0 w0 st1 a w)(hr:ZBF T st1 fn.results.toList=some res)(hp:res.pure=true) :
  a.defers=[]/\∃v,(results fn a.tmps).run P w=.ok v w/\Post S0 w0 res (.returned v) w:=by
 obtain⟨S,m,bM,hg⟩:=hs;obtain⟨x,h1,h2⟩:=ZBD (P:=P) hT bM hr;exact⟨bM.defers,x,h1,x,S,rfl,hg,bM.dom,h2.anyM ZcK hp⟩
theorem Zgo.of {P : Program} {f : FuncId} {fn : Func} {c : Code} {N : Nat} {args : List V} {res : V} (hf : P.funcs[f]? = some fn) (hb : fn.body = some c) (hn : (fn.name == "runtime.NumGoroutine") = false) (hN : fn.ntmps = N) (hl : Nat.ble args.length N = true)
  (h:∀S0 w0,Good P N S0 w0 (bodyPost P fn (Post S0 w0 res)) [.code c] (St.init args)):Zgo P f args res:=by
 refine⟨⟨fn,hf,hn,by rw[hb];rfl⟩,fun S w vs hS hra=>?_⟩;have hle:=Nat.le_of_ble_eq_true hl;have hsh:ZcI N S ⟨w,fun k=>k<w.heap.size,ZcK⟩ (St.init args) { tmps:=vs.toArray++Array.replicate (fn.ntmps-vs.toArray.size) undef,defers:=[] } w:=by
  refine⟨S,ZcK,⟨by simp;have:=hra.1;omega,fun t=>?_,fun t ht=>?_,fun id b hb=>by simp[St.init,hget]at hb,fun id b hb=>by simp[St.init,hget]at hb,fun i j b b' hne h1 h2=>by simp[St.init,hget]at h1,hS,rfl,fun _ h=>h,fun _ _=>rfl,rfl,fun _ h=>h.elim⟩,Goes.refl _ _ _⟩
  .rw[St.get_init];by_cases ht:t<args.length
   .have hv:args[t]?=some (args.getD t (.one .junk)):=by simp[List.getD_eq_getElem?_getD,ht]
    obtain⟨x,h1,h2⟩:=hra.2 t _ hv;have:(vs.toArray++Array.replicate (fn.ntmps-vs.toArray.size) undef).getD t undef=x:=by
     have hlt:t<vs.length:=by rw[hra.1];exact ht
     rw[Array.getD_eq_getD_getElem?,Array.getElem?_append_left (by simpa using hlt)];simp[h1]
    rw[this];exact h2
   .have:args.getD t (.one .junk)=.one .junk:=by simp[List.getD_eq_getElem?_getD,show ¬t<args.length from ht]
    rw[this];exact RepC.junk
  .rw[St.get_init];simp[List.getD_eq_getElem?_getD,show ¬t<args.length by omega]
 exact calls_of_wp hf hb (h S ⟨w,fun k=>k<w.heap.size,ZcK⟩ _ w hsh)
def ZER(S0:Nat->Prop)(w0:ZeC)(h1:List (Nat×B))(res:V):Ending->World->Prop:=fun e w'=>∃x S' m',e=.returned x/\Goes w0.F.no S0 S' w0.w w'/\(∀b,S' b->b<w'.heap.size)/\ZuK w0.F.no S' m' h1 w'/\RepV S' w' m' res x/\Pins m' w0.F.pin
theorem ZER.ends{P:Program}{fn:Func}{S0:Nat->Prop}{w0:ZeC}{h1:List (Nat×B)}{res:V}:Ends (bodyPost P fn (ZER S0 w0 h1 res)):=by
 refine⟨fun a w h=>?_,fun l a w h=>h⟩;obtain⟨x,S',m',h,_⟩:=h;cases h
theorem ZMO{P:Program}{T:Tab}(hT:Zes P T){N:Nat}{S0:Nat->Prop}{w0:ZeC}{fn:Func}{res:V}{st1:St}{a:Act}{w:World}{h1:List (Nat×B)}(hs:ZcI N S0 w0 st1 a w)(hr:ZBF T st1 fn.results.toList=some res)
  (hh:∀id b,hget h1 id=some b->hget st1.heap id=some b):a.defers=[]/\∃v,(results fn a.tmps).run P w=.ok v w/\ZER S0 w0 h1 res (.returned v) w:=by
 obtain⟨S,m,bM,hg⟩:=hs;obtain⟨x,h2,h3⟩:=ZBD (P:=P) hT bM hr;exact⟨bM.defers,x,h2,x,S,m,rfl,hg,bM.dom,⟨fun id b hb=>bM.heap id b (hh id b hb),fun id b hb=>bM.own id b (hh id b hb),fun i j b b' hne e1 e2=>bM.inj i j b b' hne (hh i b e1) (hh j b' e2),fun b hb=>bM.len.2 b hb⟩,h3,bM.pin,bM.len.1⟩
def St.initH(args:List V)(h0:List (Nat×B)):St:=⟨(St.init args).env,h0⟩
theorem Zix.of {P : Program} {f : FuncId} {fn : Func} {c : Code} {N : Nat} {h0 : List (Nat × B)} {args : List V} {h1 : List (Nat × B)} {res : V} (hf : P.funcs[f]? = some fn) (hb : fn.body = some c) (hn : (fn.name == "runtime.NumGoroutine") = false) (hN : fn.ntmps = N) (hl : Nat.ble args.length N = true)
  (h:∀S0 w0,Good P N S0 w0 (bodyPost P fn (ZER S0 w0 h1 res)) [.code c] (St.initH args h0)):Zix P f h0 args h1 res:=by
 refine⟨⟨fn,hf,hn,by rw[hb];rfl⟩,fun no S m w vs hS bt hrep hra=>?_⟩;have hle:=Nat.le_of_ble_eq_true hl;have hget:∀t,(St.initH args h0).get t=args.getD t (.one .junk):=fun t=>St.get_init args t;have hsh:ZcI N S ⟨w,no,m⟩ (St.initH args h0) { tmps:=vs.toArray++Array.replicate (fn.ntmps-vs.toArray.size) undef,defers:=[] } w:=by
  refine⟨S,m,⟨by simp;have:=hra.1;omega,fun t=>?_,fun t ht=>?_,hrep.rep,hrep.own,hrep.inj,hS,rfl,bt,fun _ _=>rfl,rfl,hrep.lno⟩,Goes.refl _ _ _⟩
  .rw[hget];by_cases ht:t<args.length
   .have hv:args[t]?=some (args.getD t (.one .junk)):=by simp[List.getD_eq_getElem?_getD,ht]
    obtain⟨x,h1,h2⟩:=hra.2 t _ hv;have:(vs.toArray++Array.replicate (fn.ntmps-vs.toArray.size) undef).getD t undef=x:=by
     have hlt:t<vs.length:=by rw[hra.1];exact ht
     rw[Array.getD_eq_getD_getElem?,Array.getElem?_append_left (by simpa using hlt)];simp[h1]
    rw[this];exact h2
   .have:args.getD t (.one .junk)=.one .junk:=by simp[List.getD_eq_getElem?_getD,show ¬t<args.length from ht]
    rw[this];exact RepC.junk
  .rw[hget];simp[List.getD_eq_getElem?_getD,show ¬t<args.length by omega]
 exact calls_of_wp hf hb (h S ⟨w,no,m⟩ _ w hsh)
end Go.Proofs.YtnigiacmmedkhaaGreat
