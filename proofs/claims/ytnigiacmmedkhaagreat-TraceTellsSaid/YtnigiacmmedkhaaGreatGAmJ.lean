import Derived.Test.YtnigiacmmedkhaaGreatGAmIa
namespace Go.Proofs.YtnigiacmmedkhaaGreat
open Go.RowKit
set_option linter.unusedSimpArgs false
set_option linter.unusedVariables false
def FnOk (P : Program) (f : FuncId) : Prop := ∃ fn, P.funcs[f]? = some fn /\ (fn.name == "runtime.NumGoroutine") = false /\ fn.body.isNone = false
def RepA(S:Nat->Prop)(w:World)(args:List V)(vs:List Value):Prop:=vs.length=args.length/\∀(j:Nat)(v:V),args[j]?=some v->∃x,vs[j]?=some x/\RepV S w ZcK v x
def Zgo(P:Program)(f:FuncId)(args:List V)(res:V):Prop:=FnOk P f/\∀(S:Nat->Prop)(w:World)(vs:List Value),(∀b,S b->b<w.heap.size)->RepA S w args vs->Calls P f vs.toArray w fun e w'=>∃x S',e=.returned x/\Goes (fun k=>k<w.heap.size) S S' w w'/\(∀b,S' b->b<w'.heap.size)/\RepV S' w' ZcK res x
def borC(st:St)(c:C):Option C:=match c with
 | .osl id n=>match hget st.heap id with
  |some (.rows _ sz len cc)=>some (.sl sz len cc)
  |_=>none
 | .ptr id off=>match hget st.heap id with
  |some (.box l)=>match l.all C.pure with
   |true=>some (.rp false (l.length-off) fun j=>l.getD (off+j) .junk)
   |false=>none
  |_=>none
 |c=>match c.pure with
  |true=>some c
  |false=>none
def borL(st:St):List C->Option (List C)
 | []=>some []
 |c :: l=>match borC st c,borL st l with
  |some c',some l'=>some (c' :: l')
  |_,_=>none
def borV(st:St)(v:V):Option V:=match v.pure with
 |true=>some v
 |false=>match v with
  | .one c=>match borC st c with
   |some c'=>some (.one c')
   |none=>none
  | .agg l=>match borL st l with
   |some l'=>some (.agg l')
   |none=>none
  | .tup _=>none
def borA(st:St):List V->Option (List V)
 | []=>some []
 |v :: l=>match borV st v,borA st l with
  |some v',some l'=>some (v' :: l')
  |_,_=>none
theorem ZGr{N:Nat}{F:Keep}{S:Nat->Prop}{m:Mp}{st:St}{a:Act}{w:World}(hs:Sim N F S m st a w){c c':C}{x:Value}(hc:RepC S w m c x)(h:borC st c=some c'):RepC (fun b=>b<w.heap.size) w ZcK c' x:=by
 unfold borC at h;split at h
 .rename_i id n;split at h
  .rename_i e sz len cc hl;cases h;cases hc with
   |osl hm h00=>
    have hB:=hs.heap id _ hl;rw[hm]at hB;obtain⟨rfl,h2⟩:=RepC.of_rows (m':=ZcK) hB ⟨_,_,rfl⟩ hs.dom fun k hk=>(hs.own id _ hl k (by rw[hm];exact hk)).2.2;exact h2
  .cases h
 .rename_i id off;split at h
  .rename_i l hl;split at h
   .rename_i hp;cases h;cases hc with
    |ptr hm=>
     have hB:=hs.heap id _ hl;rw[hm]at hB;exact RepC.of_box hB hp hs.dom (hs.own id _ hl _ (by rw[hm];rfl)).2.2
   .cases h
  .cases h
 .split at h
  .rename_i hp;cases h;exact(hc.anyM ZcK hp).keep (fun _ _=>rfl) hs.dom
  .cases h
theorem ZGq{N:Nat}{F:Keep}{S:Nat->Prop}{m:Mp}{st:St}{a:Act}{w:World}(hs:Sim N F S m st a w):∀{l l':List C}{xs:List Value},RepL S w m l xs->borL st l=some l'->RepL (fun b=>b<w.heap.size) w ZcK l' xs
 | [],l',xs,hl,h=>by cases h;exact⟨hl.1,fun j c h=>by simp at h,hl.2.2⟩
 |c :: l,l',xs,hl,h=>by
  simp only[borL]at h
  split at h
  .rename_i c1 l1 h1 h2
   cases h
   obtain⟨e1,e2,e3⟩:=hl
   cases xs with
   |nil=>simp at e1
   |cons x xs=>
    have ht:=ZGq (xs:=xs) hs ⟨by simpa using e1,fun j c hj=>by have:=e2 (j+1) c (by simpa using hj);simpa using this,fun y hy=>e3 y (by simp[hy])⟩ h2
    obtain⟨x',h3,h4⟩:=e2 0 c rfl
    cases h3
    refine⟨by simp[ht.1],fun j c hj=>?_,e3⟩
    cases j with
    |zero=>simp only[List.getElem?_cons_zero,Option.some.injEq]at hj;subst hj;exact⟨x,rfl,ZGr hs h4 h1⟩
    |succ j=>simpa using ht.2.1 j c (by simpa using hj)
  .cases h
theorem ZNj{N:Nat}{F:Keep}{S:Nat->Prop}{m:Mp}{st:St}{a:Act}{w:World}(hs:Sim N F S m st a w){v v':V}{x:Value}(hv:RepV S w m v x)(h:borV st v=some v'):RepV (fun b=>b<w.heap.size) w ZcK v' x:=by
 unfold borV at h;split at h
 .rename_i hp;cases h;exact(hv.anyM ZcK hp).keep (fun _ _=>rfl) hs.dom
 .split at h
  .rename_i c;split at h
   .rename_i c' hc;cases h;exact ZGr hs hv hc
   .cases h
  .rename_i l;split at h
   .rename_i l' hl;cases h;obtain⟨xs,rfl,h1⟩:=hv;exact⟨xs,rfl,ZGq hs h1 hl⟩
   .cases h
  .cases h
theorem ZxT{N:Nat}{F:Keep}{S:Nat->Prop}{m:Mp}{st:St}{a:Act}{w:World}(hs:Sim N F S m st a w):∀{vs dO:List V}{xs:List Value},xs.length=vs.length->(∀(j:Nat)(v:V),vs[j]?=some v->∃x,xs[j]?=some x/\RepV S w m v x)->borA st vs=some dO->RepA (fun b=>b<w.heap.size) w dO xs
 | [],dO,xs,hl,hv,h=>by cases h;exact⟨hl,fun j v h=>by simp at h⟩
 |v :: vs,dO,xs,hl,hv,h=>by
  simp only[borA]at h
  split at h
  .rename_i v1 l1 h1 h2
   cases h
   cases xs with
   |nil=>simp at hl
   |cons x xs=>
    have ht:=ZxT (xs:=xs) hs (by simpa using hl) (fun j v hj=>by have:=hv (j+1) v (by simpa using hj);simpa using this) h2
    obtain⟨x',h3,h4⟩:=hv 0 v rfl
    cases h3
    refine⟨by simp[ht.1],fun j c hj=>?_⟩
    cases j with
    |zero=>simp only[List.getElem?_cons_zero,Option.some.injEq]at hj;subst hj;exact⟨x,rfl,ZNj hs h4 h1⟩
    |succ j=>simpa using ht.2 j c (by simpa using hj)
  .cases h
def C.flat:C->Bool | .lit _=>true|_=>false
def V.flat:V->Bool | .one c=>c.flat | .agg l=>l.all C.flat | .tup l=>l.all fun p=>p.2.all C.flat
theorem RepC.flat{S S':Nat->Prop}{w w':World}{m m':Mp}{c:C}{x:Value}(h:RepC S w m c x)(hf:c.flat=true):RepC S' w' m' c x:=by
 cases h<;>first|exact .lit|simp[C.flat]at hf
theorem RepL.flat{S S':Nat->Prop}{w w':World}{m m':Mp}{l:List C}{xs:List Value}(h:RepL S w m l xs)(hf:l.all C.flat=true):RepL S' w' m' l xs:=
 ⟨h.1,fun j c hc=>by obtain⟨x,h1,h2⟩:=h.2.1 j c hc;exact⟨x,h1,h2.flat (List.all_eq_true.1 hf c (List.mem_of_getElem? hc))⟩,h.2.2⟩
theorem RepV.flat{S S':Nat->Prop}{w w':World}{m m':Mp}{v:V}{x:Value}(h:RepV S w m v x)(hf:v.flat=true):RepV S' w' m' v x:=by
 cases v with
 |one c=>exact RepC.flat h hf
 |agg l=>obtain⟨xs,h1,h2⟩:=h;exact⟨xs,h1,h2.flat hf⟩
 |tup l=>
  obtain⟨xs,h1,h2,h3⟩:=h;refine⟨xs,h1,h2,fun j p hj=>?_⟩;have hq:=List.all_eq_true.1 hf p (List.mem_of_getElem? hj);obtain⟨y,h4,h5⟩:=h3 j p hj;refine⟨y,h4,?_⟩;obtain⟨b,cs⟩:=p
  match b,cs,h5,hq with
  |true,cs,h5,hq=>obtain⟨ys,h6,h7⟩:=h5;exact⟨ys,h6,h7.flat hq⟩
  |false,[c],h5,hq=>exact RepC.flat h5 (by simpa using hq)
  |false,[],_,_=>trivial
  |false,_ :: _ :: _,_,_=>trivial
theorem RepV.keepM{S:Nat->Prop}{w:World}{v:V}{x:Value}(h:RepV S w ZcK v x){m:Mp}:RepV S w m v x:=by
 cases v with
 |one c=>exact RepC.keepM h
 |agg l=>obtain⟨xs,h1,h2,h3,h4⟩:=h;exact⟨xs,h1,h2,fun j c hj=>by obtain⟨y,h5,h6⟩:=h3 j c hj;exact⟨y,h5,h6.keepM⟩,h4⟩
 |tup l=>
  obtain⟨xs,h1,h2,h3⟩:=h;refine⟨xs,h1,h2,fun j p hj=>?_⟩;obtain⟨y,h4,h5⟩:=h3 j p hj;refine⟨y,h4,?_⟩;obtain⟨b,cs⟩:=p
  match b,cs,h5 with
  |true,cs,h5=>obtain⟨ys,h6,h7,h8,h9⟩:=h5;exact⟨ys,h6,h7,fun j c hj=>by obtain⟨y,h5,h6⟩:=h8 j c hj;exact⟨y,h5,h6.keepM⟩,h9⟩
  |false,[c],h5=>exact RepC.keepM h5
  |false,[],_=>trivial
  |false,_ :: _ :: _,_=>trivial
theorem ZeD{P:Program}{o:Oper}{a:Act}{w w':World}{K:Act->World->Prop}{Q:Exit->Act->World->Prop}{x:Value}(h:(execOp a.eval o).run P w=.ok (.value x) w')(hk:K (a.put o.dst x) w'):o.wp P a w K Q:=by
 unfold Oper.wp;rw[h];exact hk
theorem ZrY{P:Program}{o:Oper}{a:Act}{w w':World}{K:Act->World->Prop}{Q:Exit->Act->World->Prop}(h:(execOp a.eval o).run P w=.ok .skip w')(hk:K (a.put o.dst undef) w'):o.wp P a w K Q:=by
 unfold Oper.wp;rw[h];exact hk
theorem Zpk{P:Program}{f:FuncId}(h:FnOk P f)(args:Array Value)(w:World):(callFunc f args).run P w=.ok (.enter f args) w:=by
 obtain ⟨fn,h1,h2,h3⟩:=h;have dP : fn.name ≠ "runtime.NumGoroutine" := by simpa using h2
 have h3':fn.body≠none:=by
  intro e;rw[e]at h3;cases h3
 simp[callFunc,Sem.run_bind,h1,dP,h3']
def ZjS(st:St)(f:Operand):Option (FuncId×List C×List C):=match evo st f with
 | .one (.lit (.func (.func g) a b))=>match a.size,b.size with
  | 0,0=>some (g,[],[])
  |_,_=>none
 | .one (.clo (.func g) na nb a b)=>some (g,Zer na a,Zer nb b)
 |_=>none
def C.toV:C->V | .agv n c=>.agg (Zer n c)|c=>.one c
theorem RepC.toV{S:Nat->Prop}{w:World}{m:Mp}{c:C}{x:Value}(h:RepC S w m c x):RepV S w m c.toV x:=by
 cases c with
 |agv n f=>
  cases h with
  |agv xs h1 h=>
   refine⟨xs,rfl,by simp[Zer],fun j c hc=>?_,h1⟩;obtain⟨h3,rfl⟩:=Zhv hc;exact⟨xs.getD j undef,by simp[Array.getD_eq_getD_getElem?,h3],h j h3⟩
 |_=>exact h
theorem C.toV_says(c:C)(id:Nat):c.toV.says id=c.says id:=by
 cases c with
 |agv n f=>simp only[C.toV,V.says,C.says,Zer,List.any_map];rfl
 |_=>rfl
def ZbS(st:St)(args:List Operand)(a b:List C):List V:=a.map C.toV++args.map (evo st)++b.map C.toV
def ZxZ:List V->Bool
 | []=>true
 |v :: l=>match v.pure with
  |true=>ZxZ l
  |false=>false
def ZrF(P:Program)(st:St)(f:Operand)(args:List Operand)(r:V):Option (List Prop):=match ZjS st f with
 |some (g,a,b)=>match ZxZ (ZbS st args a b)with
  |true=>some [Zgo P g (ZbS st args a b) r]
  |false=>match borA st (ZbS st args a b),r.flat with
   |some vs,true=>some [Zgo P g vs r]
   |_,_=>none
 |none=>none
theorem ZuF:∀{l:List V},ZxZ l=true->∀v∈l,v.pure=true
 | [],_,v,h=>by cases h
 |u :: l,h,v,hv=>by
  simp only[ZxZ]at h
  split at h
  .rename_i hu
   rcases List.mem_cons.1 hv with rfl|hv
   .exact hu
   .exact ZuF h v hv
  .cases h
theorem ZKx{P:Program}{N:Nat}{S0:Nat->Prop}{w0:ZeC}{st:St}{a:Act}{w:World}{S:Nat->Prop}{m:Mp}(hs:Sim N w0.F S m st a w)(hg:Goes w0.F.no S0 S w0.w w)
  {o:Oper} {f:Operand} {args:Array Operand} {a9:Array TypeId} (ho:o.op=.call { callee:=.value f,args:=args,argTypes:=a9 }) {r:V} {obl:List Prop} (h:ZrF P st f args.toList r=some obl) (cE:∀q∈obl,q) {K:Act->World->Prop} {Q:Exit->Act->World->Prop}
  (hk:∀x w' S',Sim N w0.F S' m st a w'->Goes w0.F.no S0 S' w0.w w'->RepV S' w' m r x->K (a.put o.dst x) w'):o.wp P a w K Q:=by
 unfold ZrF at h;split at h
 .rename_i g ca cb hc
  -- the call's values
  have dQ:∃xs ys:Array Value,(resolve a.eval { callee:=.value f,args:=args,argTypes:=a9 } o.type).run P w=.ok { target:=.fn (.func g) ys,args:=xs++args.map a.eval } w /\
    ((xs++args.map a.eval++ys).toList.length=(ZbS st args.toList ca cb).length)/\∀(j:Nat)(v:V),(ZbS st args.toList ca cb)[j]?=some v->∃x,(xs++args.map a.eval++ys).toList[j]?=some x/\RepV S w m v x:=by
   have hf:=hs.evo f;unfold ZjS at hc;have hmid:∀(j:Nat)(v:V),(args.toList.map (evo st))[j]?=some v->∃x,(args.map a.eval).toList[j]?=some x/\RepV S w m v x:=by
    intro j v hj;simp only[List.getElem?_map,Option.map_eq_some_iff,Array.getElem?_toList]at hj;obtain⟨y,h1,rfl⟩:=hj;exact⟨a.eval y,by simp[h1],hs.evo y⟩
   split at hc
   .rename_i g' xa xb hv;split at hc
    .rename_i h1 h2;cases hc;obtain rfl:xa = #[]:=Array.eq_empty_of_size_eq_zero h1;obtain rfl:xb = #[]:=Array.eq_empty_of_size_eq_zero h2;rw[hv]at hf;have fT:a.eval f=.func (.func g) #[] #[]:=by
      generalize a.eval f=q at hf;cases hf;rfl
     refine⟨#[],#[],by simp[resolve,fT,Deferred.ofValue],by simp[ZbS],?_⟩;simpa[ZbS]using hmid
    .cases hc
   .rename_i g' na nb fa fb hv;cases hc;rw[hv]at hf;obtain⟨xs,ys,fT,e1,e2,h1,h2⟩ : ∃xs ys:Array Value,a.eval f=.func (.func g) xs ys/\xs.size=na/\ys.size=nb/\(∀i,i<xs.size->RepC S w m (fa i) (xs.getD i undef))/\∀i,i<ys.size->RepC S w m (fb i) (ys.getD i undef):=by
     generalize hq:a.eval f=q at hf;cases hf with
     |clo xs ys ha hb=>exact⟨xs,ys,rfl,rfl,rfl,ha,hb⟩
    subst e1;subst e2;refine⟨xs,ys,by simp[resolve,fT,Deferred.ofValue],by simp[ZbS,Zer],?_⟩;intro j v hj;unfold ZbS at hj;by_cases hj1:j<xs.size
    .rw[List.append_assoc,List.getElem?_append_left (by simp[Zer];exact hj1)]at hj;simp only[List.getElem?_map,Option.map_eq_some_iff]at hj;obtain⟨c,h3,rfl⟩:=hj;obtain⟨h4,rfl⟩:=Zhv h3;refine⟨xs.getD j undef,?_,(h1 j hj1).toV⟩;simp[Array.getD_eq_getD_getElem?,List.getElem?_append_left,hj1,Array.getElem?_append,show j<xs.size+args.size by omega]
    .by_cases hj2:j<xs.size+args.size
     .rw[List.append_assoc,List.getElem?_append_right (by simp[Zer];omega),List.getElem?_append_left (by simp[Zer];omega)]at hj;obtain⟨x,h3,h4⟩:=hmid _ v hj;refine⟨x,?_,h4⟩;simp only[List.length_map,Zhu]at h3;simp only[Array.toList_append,List.append_assoc];rw[List.getElem?_append_right (by simp;omega),List.getElem?_append_left (by simp;omega),<-h3];simp
     .rw[List.getElem?_append_right (by simp[Zer];omega)]at hj;simp only[List.getElem?_map,Option.map_eq_some_iff,List.length_append,List.length_map,Zhu,Array.length_toList]at hj;obtain⟨c,h3,rfl⟩:=hj;obtain⟨h4,rfl⟩:=Zhv h3;refine⟨ys.getD (j-(xs.size+args.size)) undef,?_,(h2 _ h4).toV⟩;simp only[Array.toList_append];rw[List.getElem?_append_right (by simp;omega)];simp[Array.getD_eq_getD_getElem?,h4]
   .cases hc
  obtain⟨xs,ys,de,hlen,hrep⟩:=dQ;have cV:FnOk P g->(execOp a.eval o).run P w=.ok (.enter g (xs++args.map a.eval++ys)) w:=by
   intro iv;unfold execOp;simp only[ho,Sem.run_bind,de,Result.andThen_ok,invoke,Zpk iv]
  have bm:∀{vs:List V}{S1:Nat->Prop},Zgo P g vs r->RepA S1 w vs (xs++args.map a.eval++ys).toList->(∀b,S1 b->b<w.heap.size) ->
    (∀x w' S',Goes (fun k=>k<w.heap.size) S1 S' w w'->(∀b,S' b->b<w'.heap.size)->RepV S' w' ZcK r x->K (a.put o.dst x) w')->o.wp P a w K Q:=by
   intro vs S1 du hra hS1 bP;unfold Oper.wp;rw[cV du.1];have:=du.2 S1 w _ hS1 hra;rw[Array.toArray_toList]at this;refine Calls.mono this ?_;rintro e w' ⟨x,S',rfl,h1,h2,h3⟩;exact bP x w' S' h1 h2 h3
  split at h
  .rename_i hp;cases h;have du:Zgo P g (ZbS st args.toList ca cb) r:=cE _ (by simp);refine bm du ⟨hlen,fun j v hj=>?_⟩ hs.dom fun x w' S' h1 h2 h3=>?_
   .obtain⟨x,h3,h4⟩:=hrep j v hj;exact⟨x,h3,h4.anyM ZcK (ZuF hp v (List.mem_of_getElem? hj))⟩
   .have cn:=hs.grow (S':=S') h1.below.size h1.below.block h1.sub fun b hb=>(h1.sup b hb).imp id fun h=>⟨Nat.le_of_not_lt h,h2 b hb⟩;refine hk x w' S' cn (hg.step (h1.below.mono hs.base_le) h1.sub fun b hb=>(h1.sup b hb).imp id fun h hF=>h (hs.base_le _ hF)) h3.keepM
  .split at h
   .rename_i vs hb fK;cases h;have du:Zgo P g vs r:=cE _ (by simp);refine bm du (ZxT hs hlen hrep hb) (fun b h=>h) fun x w' S' h1 h2 h3=>?_;have cn:=hs.grow (S':=S) (w':=w') h1.below.size h1.below.block (fun _ h=>h) fun b hb=>.inl hb;exact hk x w' S cn (hg.step (h1.below.mono hs.base_le) (fun _ h=>h) fun b hb=>.inl hb) (h3.flat fK)
   .cases h
 .cases h
end Go.Proofs.YtnigiacmmedkhaaGreat
