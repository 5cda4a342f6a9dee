import Derived.Test.YtmnloegcpaahcaaGreatBAmX
import Derived.Recover
namespace Go.Proofs.YtmnloegcpaahcaaGreat
open Go.RowKit
set_option linter.unusedSimpArgs false
set_option linter.unusedVariables false
def more(D:List Deferred)(a:Act):Act:=⟨a.tmps,a.defers++D⟩
theorem ZzR(D:List Deferred)(a:Act):(more D a).eval=a.eval:=by funext x;cases x<;>rfl
theorem Zsq(D:List Deferred)(a:Act)(d:Option Nat)(x:Value):(more D a).put d x=more D (a.put d x):=by cases d<;>rfl
theorem ZFz{P:Program}{o:Oper}{a:Act}{D:List Deferred}{K K':Act->World->Prop}{Q Q':Exit->Act->World->Prop}(hK:∀a w,K a w->K' (more D a) w)(hQ:∀e a w,Q e a w->Q' e (more D a) w)(r:Result Next)
  (h:o.upon P a K Q r):o.upon P (more D a) K' Q' r:=by
 cases r with
 |ok n w'=>
  cases n<;>simp only[Oper.upon]at h ⊢<;>try (rw[Zsq];exact hK _ _ h)
  .exact Calls.mono h fun e dx q=>by
    cases e with
    |returned v=>simp only at q ⊢;rw[Zsq];exact hK _ _ q
    |panicked ch=>exact hQ _ _ _ q
    |outgrown=>obtain⟨a',w3,q⟩:=q;exact⟨_,_,hQ _ _ _ q⟩
  .rename_i d;have e:({ more D a with defers:=d :: (more D a).defers }:Act).put o.dst undef=more D (({ a with defers:=d :: a.defers }:Act).put o.dst undef):=by rw[<-Zsq];rfl
   rw[e];exact hK _ _ h
  .intro c cs;obtain⟨v,dx,q,hs⟩:=h c cs;refine⟨v,dx,?_,hs⟩;show K' ((more D a).put o.dst v) dx;rw[Zsq];exact hK _ _ q
 |halt hh w'=>
  cases hh<;>simp only[Oper.upon]at h ⊢;exact hQ _ _ _ h
theorem ZrI{P:Program}{ops:Array Oper}{D:List Deferred}{Q Q':Exit->Act->World->Prop}(hQ:∀e a w,Q e a w->Q' e (more D a) w):∀(l:List Oper)(a:Act)(w:World),wpList P ops Q l a w->wpList P ops Q' l (more D a) w
 | [],a,w,h=>hQ _ _ _ h
 |o :: r,a,w,h=>by
  unfold wpList at h ⊢
  have ht:(more D a).tmps=a.tmps:=rfl
  rw[ht]
  split at h
  .rename_i hw
   rw[if_pos hw]
   rcases h with h|⟨h1,h2⟩
   .left
    unfold Oper.wp at h ⊢
    rw[ZzR]
    exact ZFz (fun a w=>ZrI hQ r a w) hQ _ h
   .right
    refine⟨?_,?_⟩
    .unfold Oper.asks at h1 ⊢
     rw[ZzR]
     exact h1
    .obtain⟨a',w',q⟩:=h2
     exact⟨_,_,hQ _ _ _ q⟩
  .rename_i hw
   rw[if_neg hw,Zsq]
   exact ZrI hQ r _ _ h
theorem Zzr{P:Program}{T:Tab}(hT:Zec P T){N:Nat}{S0:Nat->Prop}{w0:ZaW}{ops:Array Oper}{ra:RA}{Q:Exit->Act->World->Prop}{l2:List Oper}:∀{l:List Oper}{i:Nat}{st st':St}{a:Act}{w:World}{obl:List Prop},Zct N S0 w0 st a w ->
  Zme P N T ops ra i l st=some (st',obl)->(∀q∈obl,q)->(∀a' w',Zct N S0 w0 st' a' w'->wpList P ops Q l2 a' w')->wpList P ops Q (l++l2) a w
 | [],i,st,st',a,w,obl,hsh,h,ho,hk=>by cases h;exact hk _ _ hsh
 |o :: r,i,st,st',a,w,obl,hsh,h,ho,hk=>by
  simp only[Zme]at h
  split at h
  .cases h
  rename_i st0 h0
  split at h
  .cases h
  rename_i st1 o1 h1
  split at h
  .cases h
  rename_i st2 o2 h2
  cases h
  have dX:Zct N S0 w0 st0 a w:=by
   unfold opFz at h0;split at h0
   .cases h0;exact hsh
   .exact Zct.frozen hsh h0
  refine wpList_step fun K hK=>Zms hT dX h1 (fun q hq=>ho q (List.mem_append.2 (.inl hq))) fun a' w' bO=>hK _ _ ?_;exact Zzr hT bO h2 (fun q hq=>ho q (List.mem_append.2 (.inr hq))) hk
theorem PostD.ends{P:Program}{fn:Func}{S0:Nat->Prop}{w0:ZaW}{res:V}:Ends (bodyPostD P fn (Post S0 w0 res)):=by
 refine⟨fun a w h=>?_,fun l a w h=>h⟩;obtain⟨x,S',h,_⟩:=h;cases h
theorem Znc.ofD {P : Program} {f : FuncId} {fn : Func} {c : Code} {N : Nat} {args : List V} {res : V} (hf : P.funcs[f]? = some fn) (hb : fn.body = some c) (hn : (fn.name == "runtime.NumGoroutine") = false) (hN : fn.ntmps = N) (hl : Nat.ble args.length N = true)
  (h:∀S0 w0,Good P N S0 w0 (bodyPostD P fn (Post S0 w0 res)) [.code c] (St.init args)):Znc P f args res:=by
 refine⟨⟨fn,hf,hn,by rw[hb];rfl⟩,fun no S m w vs hS bh hL a6=>?_⟩;have hle:=Nat.le_of_ble_eq_true hl;have hsh:Zct N S ⟨w,no,m⟩ (St.init args) { tmps:=vs.toArray++Array.replicate (fn.ntmps-vs.toArray.size) undef,defers:=[] } w:=by
  refine⟨S,m,⟨by simp;have:=a6.1;omega,fun t=>?_,fun t ht=>?_,fun id b hb=>by simp[St.init,hget]at hb,fun id b hb=>by simp[St.init,hget]at hb,fun i j b b' hne h1 h2=>by simp[St.init,hget]at h1,hS,rfl,bh,fun _ _=>rfl,rfl,hL⟩,Goes.refl _ _ _⟩
  .rw[St.get_init];by_cases ht:t<args.length
   .have hv:args[t]?=some (args.getD t (.one .junk)):=by simp[List.getD_eq_getElem?_getD,ht]
    obtain⟨x,h1,h2⟩:=a6.2 t _ hv;have:(vs.toArray++Array.replicate (fn.ntmps-vs.toArray.size) undef).getD t undef=x:=by
     have hlt:t<vs.length:=by rw[a6.1];exact ht
     rw[Array.getD_eq_getD_getElem?,Array.getElem?_append_left (by simpa using hlt)];simp[h1]
    rw[this];exact h2
   .have:args.getD t (.one .junk)=.one .junk:=by simp[List.getD_eq_getElem?_getD,show ¬t<args.length from ht]
    rw[this];exact RepC.junk
  .rw[St.get_init];simp[List.getD_eq_getElem?_getD,show ¬t<args.length by omega]
 exact calls_of_wp_defers hf hb (h S ⟨w,no,m⟩ _ w hsh)
def ZCH(P:Program)(f:FuncId)(l0:List C)(pv:Option V)(l1:List C):Prop:=
 ∀(no S:Nat->Prop)(m:Mp)(w:World),(∀b,S b->b<w.heap.size)->(∀k,no k->k<w.heap.size)->Zke no S m [(100000,.box l0)] w->match pv with
  |none=>CallsD P f #[m 100000] .returning w fun e u' w'=>u'=.returning/\ZaP S ⟨w,no,m⟩ [(100000,.box l1)] (.tup []) e w'
  |some pv=>∀x,RepV S w ZcV pv x->CallsD P f #[m 100000] (.panicking [{ v:=x,recovered:=false }]) w fun e u' w'=>u'=.panicking [{ v:=x,recovered:=true }]/\ZaP S ⟨w,no,m⟩ [(100000,.box l1)] (.tup []) e w'
theorem Zwh{P:Program}{f:FuncId}{fn:Func}{i:Nat}{o:Oper}{c:Code}{N d:Nat}{l0:List C}{h1:List (Nat×B)}{res xv:V}(hf:P.funcs[f]?=some fn)(hb:fn.body=some (.seq (.region i #[o] false) c))
  (hx:∀ρ w,(execOp ρ o).run P w=.ok .recover w) (hd:o.dst=some d) (b6:o.guard=none) (hN:fn.ntmps=N) (hdN:Nat.blt d N=true) (h1N:Nat.ble 1 N=true) {no S:Nat->Prop} {m:Mp} {w:World}
  (hS:∀b,S b->b<w.heap.size) (bh:∀k,no k->k<w.heap.size) (hrep:Zke no S m [(100000,.box l0)] w) {u u':FrameMode} {x:Value}
  (kZ:∀(c₀:Frame) cs,c₀.mode=u->(match recoverD (c₀ :: cs)with|some p=>p|none=>(.nilIface,c₀ :: cs))=(x,{ c₀ with mode:=u' } :: cs)) (k4:RepV S w ZcV xv x) (hxp:xv.pure=true)
  (h:Good P N S ⟨w,no,m⟩ (bodyPost P fn (ZaP S ⟨w,no,m⟩ h1 res)) [.code c] ((St.initH [.one (.ptr 100000 0)] [(100000,.box l0)]).put d xv)) :
  CallsD P f #[m 100000] u w fun e js w'=>js=u'/\ZaP S ⟨w,no,m⟩ h1 res e w':=by
 refine callsD_of_wpS hf hb fun c₀ cs hu=>?_;apply wpS_seq;apply wpS_region;have hr:=kZ c₀ cs hu;have k5:d<N:=Nat.le_of_ble_eq_true hdN;have h1N':1<=N:=Nat.le_of_ble_eq_true h1N;have key:Exit.thenS (c.wpS P (bodyPostS P fn c₀ cs fun e js w'=>js=u'/\ZaP S ⟨w,no,m⟩ h1 res e w')) (bodyPostS P fn c₀ cs fun e js w'=>js=u'/\ZaP S ⟨w,no,m⟩ h1 res e w') .normal
   (({ tmps:=#[m 100000]++Array.replicate (fn.ntmps - #[m 100000].size) undef,defers:=[] }:Act).put (some d) x) ({ c₀ with mode:=u' } :: cs) w:=by
  refine wpS_of_wp ?_;have ev:∃b,m 100000=.pointer (some ⟨b,0,none⟩):=by
   obtain⟨b,bi,t,hb,_⟩:=hrep.rep 100000 (.box l0) (by rw[Zbh,if_pos rfl]);exact⟨b,hb⟩
  have dw:Sim N ⟨no,m⟩ S m (St.initH [.one (.ptr 100000 0)] [(100000,.box l0)]) { tmps:=#[m 100000]++Array.replicate (fn.ntmps - #[m 100000].size) undef,defers:=[] } w:=by
   refine⟨by simp;omega,fun t=>?_,fun t ht=>?_,hrep.rep,hrep.own,hrep.inj,hS,rfl,bh,fun _ _=>rfl,rfl,hrep.lno⟩
   .cases t with
    |zero=>
     obtain⟨b,hb⟩:=ev;have e1:(St.initH [V.one (.ptr 100000 0)] [(100000,.box l0)]).get 0=.one (.ptr 100000 0):=rfl;rw[e1];have e2:(#[m 100000]++Array.replicate (fn.ntmps - #[m 100000].size) undef).getD 0 undef=.pointer (some ⟨b,0,none⟩):=by
      rw[Array.getD_eq_getD_getElem?,Array.getElem?_append_left (by simp)];simp[hb]
     rw[e2];exact RepC.ptr hb
    |succ t=>
     have e1:(St.initH [V.one (.ptr 100000 0)] [(100000,.box l0)]).get (t+1)=.one .junk:=rfl;rw[e1];exact RepC.junk
   .cases t with
    |zero=>omega
    |succ t=>rfl
  have bU:=dw.put (k4.anyM m hxp) k5;have hw:=h _ _ ⟨S,m,bU,Goes.refl _ _ _⟩;refine wp_mono (show c.wp P (Zqd P (bodyPost P fn (ZaP S ⟨w,no,m⟩ h1 res)) []) _ w from hw) fun e a' w' hq=>?_;have hq:bodyPost P fn (ZaP S ⟨w,no,m⟩ h1 res) e a' w':=hq;cases e with
  |normal=>obtain⟨q1,v,q2,q3⟩:=hq;exact⟨q1,u',rfl,v,q2,rfl,q3⟩
  |ret=>obtain⟨q1,v,q2,q3⟩:=hq;exact⟨q1,u',rfl,v,q2,rfl,q3⟩
  |panic ch=>obtain⟨q1,q3⟩:=hq;exact⟨q1,u',rfl,rfl,q3⟩
  |outgrown=>obtain⟨x,S',m',q,_⟩:=hq;cases q
  |exit id=>exact hq.elim
  |goto l=>exact hq.elim
 have io:List.range (#[o].size)=[0]:=rfl;rw[io];have ho:(#[o]:Array Oper)[0]?=some o:=rfl;simp only[wpOpsS,ho,hx];rw[if_pos (by simp[Region.wanted,b6])]
 revert hr
 cases hq:recoverD (c₀ :: cs)with
 |none=>
  intro hr;simp only[Prod.mk.injEq]at hr;obtain⟨rfl,hr⟩:=hr;rw[hd];rw[hr];exact key
 |some p=>
  obtain⟨v,gf⟩:=p;intro hr;simp only[Prod.mk.injEq]at hr;obtain⟨rfl,rfl⟩:=hr;rw[hd];exact key
theorem Zke.one{no S:Nat->Prop}{m:Mp}{w:World}{p:Value}{b:B}{id:Nat}(h1:RepB S w m p b)(h2:∀k,blk p=some k->¬S k/\¬no k/\k<w.heap.size)(hm:m id=p)(hL:∀b,m.L b->no b):Zke no S m [(id,b)] w:=by
 refine⟨fun i b' hb=>?_,fun i b' hb=>?_,fun i j b1 b2 hne bL bA=>?_,hL⟩
 .rw[Zbh]at hb;split at hb
  .rename_i e;cases hb;subst e;rw[hm];exact h1
  .cases hb
 .rw[Zbh]at hb;split at hb
  .rename_i e;cases hb;subst e;rw[hm];exact h2
  .cases hb
 .rw[Zbh]at bL bA;split at bL
  .split at bA
   .rename_i e1 e2;exact absurd (e1.symm.trans e2) hne
   .cases bA
  .cases bL
theorem door{P:Program}{T:Tab}(hT:Zec P T){N r:Nat}{fn:Func}{tmps:Array Value}{S0:Nat->Prop}{w0:ZaW}{S:Nat->Prop}{w:World}(aX:tmps.size=N)(fm:Nat.blt r Zjp=true)(gx:Nat.blt r N=true)
  (bK:∀k,w0.F.no k->k<w.heap.size) (hg:Goes w0.F.no S0 S w0.w w) {m1:Mp} (iS:m1 100000=tmps.getD r undef) (du:∀b,w0.F.pin.L b->w0.F.no b) {l1:List C} {res:V} (bw:ZrV T ⟨[(r,.one (.ptr r 0))],[(r,.box l1)]⟩ fn.results.toList=some res) (eB:l1.all C.pure=true) (bB:res.pure=true)
  {e:Ending} {w':World} (h:ZaP S ⟨w,w0.F.no,m1⟩ [(100000,.box l1)] (.tup []) e w'):∃v,e=.returned v/\Leaves P fn tmps (Post S0 w0 res) [] .returning w':=by
 obtain⟨x,S',m',rfl,h1,h2,h3,h4,h5⟩:=h;refine⟨x,rfl,?_⟩;have hm':m' 100000=tmps.getD r undef:=(h5.pin 100000 (by simp[Zjp])).trans iS;have bV:=h3.rep 100000 (.box l1) (by rw[Zbh,if_pos rfl]);have bf:=h3.own 100000 (.box l1) (by rw[Zbh,if_pos rfl]);rw[hm']at bV bf;obtain⟨b,bi,t,e1,e2,e3⟩:=bV;have hr1:r<Zjp:=Nat.le_of_ble_eq_true fm;have fZ:r<N:=Nat.le_of_ble_eq_true gx;have hs:Sim N w0.F S' ⟨fun k=>if k=r then tmps.getD r undef else w0.F.pin k,w0.F.pin.L⟩ ⟨[(r,.one (.ptr r 0))],[(r,.box l1)]⟩ ⟨tmps,[]⟩ w':=by
  refine⟨aX,fun t=>?_,fun t ht=>?_,fun id b' hb=>?_,fun id b' hb=>?_,fun i j b1 b2 hne bL bA=>?_,h2,rfl,fun k hk=>Nat.lt_of_lt_of_le (bK k hk) h1.below.size,fun id dM=>?_,rfl,du⟩
  .show RepV S' w' _ (look _ _ t) _;rw[Zor];split
   .rename_i e;subst e;rw[e1];exact RepC.ptr (if_pos rfl)
   .exact RepC.junk
  .show look _ _ t=_;rw[Zor,if_neg (by omega)];rfl
  .rw[Zbh]at hb;split at hb
   .rename_i e;cases hb;subst e;simp only[if_pos];exact⟨b,bi,t,e1,e2,e3.anyM _ eB⟩
   .cases hb
  .rw[Zbh]at hb;split at hb
   .rename_i e;cases hb;subst e;simp only[if_pos];exact bf
   .cases hb
  .rw[Zbh]at bL bA;split at bL
   .split at bA
    .rename_i e1 e2;exact absurd (e1.symm.trans e2) hne
    .cases bA
   .cases bL
  .exact if_neg (by omega)
 have dI:Goes w0.F.no S0 S' w0.w w':=hg.step h1.below h1.sub h1.sup;obtain⟨_,v,h6,h7⟩:=ZBs (P:=P) (fn:=fn) hT ⟨S',_,hs,dI⟩ bw bB;exact⟨v,h6,h7⟩
def ZAO(m:Mp)(h:List (Nat×B))(r:Nat)(w:World):Nat->Prop:=fun k=>k<w.heap.size/\∀id b',id≠r->hget h id=some b'->blk (m id)≠some k
theorem Sim.away{N:Nat}{F:Keep}{S:Nat->Prop}{m:Mp}{st:St}{a:Act}{w:World}(h:Sim N F S m st a w){r:Nat}{b:B}(hb:hget st.heap r=some b) :
  Sim N ⟨ZAO m st.heap r w,F.pin⟩ S m ⟨st.env,hdel st.heap r⟩ a w/\(∀k,F.no k->ZAO m st.heap r w k)/\(∀k,S k->ZAO m st.heap r w k)/\∀k,blk (m r)=some k->ZAO m st.heap r w k:=by
 have hd:∀id b',hget (hdel st.heap r) id=some b'->id≠r/\hget st.heap id=some b':=fun id b' aL=>by
  rw[ZlJ]at aL;split at aL
  .cases aL
  .rename_i hne;exact⟨fun e=>hne e.symm,aL⟩
 refine⟨⟨h.size,h.env,h.far,fun id b' aL=>h.heap id b' (hd id b' aL).2,fun id b' aL k hk=>?_,fun i j b1 b2 hne h1 h2=>h.inj i j b1 b2 hne (hd _ _ h1).2 (hd _ _ h2).2,h.dom,h.defers,fun k hk=>hk.1,h.pin,h.len.1,fun k hk=>⟨h.base_le k (h.len.2 k hk),fun id b' _ hi e=>(h.own id b' hi k e).2.1 (h.len.2 k hk)⟩⟩,fun k hk=>⟨h.base_le k hk,fun id b' _ hi e=>(h.own id b' hi k e).2.1 hk⟩,
  fun k hk=>⟨h.dom k hk,fun id b' _ hi e=>(h.own id b' hi k e).1 hk⟩,fun k hk=>⟨(h.own r b hb k hk).2.2,fun id b' hne hi e=>h.inj id r b' b hne hi hb k e hk⟩⟩
 obtain⟨h1,h2⟩:=hd id b' aL;obtain⟨h3,h4,h5⟩:=h.own id b' h2 k hk;exact⟨h3,fun e=>e.2 id b' h1 h2 hk,h5⟩
theorem ZKF{S:Nat->Prop}{w:World}{m:Mp}{fn:Fn}{na nb:Nat}{a b:Nat->C}{x:Value}(h:RepC S w m (.clo fn na nb a b) x):∃xs ys:Array Value,x=.func fn xs ys/\xs.size=na/\ys.size=nb/\∀i,i<nb->RepC S w m (b i) (ys.getD i undef):=by
 cases h with
 |clo xs ys ha hb=>exact⟨xs,ys,rfl,rfl,rfl,hb⟩
theorem ZCY{a:Act}{d:Option Nat}{x:Value}{t:Nat}(h:d≠some t):(a.put d x).tmps.getD t undef=a.tmps.getD t undef:=by
 cases d with
 |none=>rfl
 |some d=>
  have hne:d≠t:=fun e=>h (by rw[e]);simp only[Act.put,Array.getD_eq_getD_getElem?];rw[Array.getElem?_setIfInBounds_ne hne]
theorem ZrH{P:Program}{ops:Array Oper}{Q:Exit->Act->World->Prop}{t:Nat}{x:Value}:∀(l:List Oper)(a:Act)(w:World),(∀o∈l,o.dst≠some t)->a.tmps.getD t undef=x->wpList P ops Q l a w ->
  wpList P ops (fun e a' w'=>Q e a' w'/\(e=.outgrown\/a'.tmps.getD t undef=x)) l a w
 | [],a,w,hd,hx,h=>⟨h,.inr hx⟩
 |o :: r,a,w,hd,hx,h=>by
  have ho:=hd o List.mem_cons_self
  have hr:∀o∈r,o.dst≠some t:=fun o h=>hd o (List.mem_cons_of_mem _ h)
  have hK:∀v w',wpList P ops Q r (a.put o.dst v) w'->wpList P ops (fun e a' w'=>Q e a' w'/\(e=.outgrown\/a'.tmps.getD t undef=x)) r (a.put o.dst v) w':=fun v w' h=>ZrH r _ _ hr ((ZCY ho).trans hx) h
  have hL:LetsOut Q->LetsOut (fun e a' w'=>Q e a' w'/\(e=.outgrown\/a'.tmps.getD t undef=x)):=fun⟨a',w',q⟩=>⟨a',w',q,.inl rfl⟩
  unfold wpList at h ⊢
  split at h
  .rename_i hw
   rw[if_pos hw]
   rcases h with h|⟨h1,h2⟩
   .left
    unfold Oper.wp at h ⊢
    generalize (execOp a.eval o).run P w=res at h
    cases res with
    |ok n w'=>
     cases n<;>simp only[Oper.upon]at h ⊢<;>try (exact hK _ _ h)
     .exact Calls.mono h fun e dx q=>by
       cases e with
       |returned v=>exact hK _ _ q
       |panicked ch=>exact⟨q,.inr hx⟩
       |outgrown=>exact hL q
     .exact ZrH r _ _ hr ((ZCY (a:={ a with defers:=_ }) ho).trans hx) h
     .intro c cs
      obtain⟨v,dx,q,hs⟩:=h c cs
      exact⟨v,dx,hK _ _ q,hs⟩
    |halt hh w'=>
     cases hh<;>simp only[Oper.upon]at h ⊢
     exact⟨h,.inr hx⟩
   .exact .inr ⟨h1,hL h2⟩
  .rename_i hw
   rw[if_neg hw]
   exact hK _ _ h
theorem Zxp{P:Program}{fn:Func}{tmps:Array Value}{R:Ending->World->Prop}{clo:Nat}{p:Value}{u u1:FrameMode}{w:World}{S:Nat->Prop}{w1:ZaW}{h1:List (Nat×B)}{res:V}(hu:u≠.run)(hset:settle u1=.returning)
  (cz:(invoke (.fn (.func clo) #[p]) #[]).run P w=.ok (.enter clo #[p]) w) (h:CallsD P clo #[p] u w fun e u' w'=>u'=u1/\ZaP S w1 h1 res e w')
  (hk:∀e w',ZaP S w1 h1 res e w'->∃v,e=.returned v/\Leaves P fn tmps R [] .returning w'):Leaves P fn tmps R [{ target:=.fn (.func clo) #[p],args:=#[] }] u w:=by
 refine leaves_cons (f:=clo) (args:=#[p]) hu cz (h.mono fun e u' w' hq=>?_);obtain⟨rfl,hq⟩:=hq;obtain⟨v,rfl,hl⟩:=hk e w' hq;simp only[hset];exact hl
section
variable {P:Program} {T:Tab} {N:Nat} {f:FuncId} {fn:Func} {i0 i1 i2:Nat} {bG a5:Array Oper} {o1 o2:Oper} {args:List V} {res:V} {eG ra1 fo:RA} {st1 st2 st3:St} {bT c8 gD obl3:List Prop} {k r clo:Nat} {fa fb:Nat->C} {l0 l1:List C}
theorem Znc.def0(hT:Zrr P T)(hf:P.funcs[f]?=some fn)(hb:fn.body=some (.seq (.region i0 bG false) (.seq (.region i1 #[o1,o2] false) (.seq (.region i2 a5 false) .ret))))
  (hn : (fn.name == "runtime.NumGoroutine") = false) (hN : fn.ntmps = N) (hl : Nat.ble args.length N = true)
  (e0:Zme P N T bG eG 0 bG.toList (St.init args)=some (st1,bT)) (p0:Obl bT) (e1:ZlY P N T #[o1,o2] ra1 0 o1 st1=some (st2,c8)) (p1:Obl c8)
  (hk:st2.get k=.one (.clo (.func clo) 0 1 fa fb)) (gy:fb 0=.ptr r 0) (hr:st2.get r=.one (.ptr r 0)) (gz:o2.dst=none) (gA:o2.guard=none)
  (gB:∀(ρ:Operand->Value) w p,ρ (.tmp k)=.func (.func clo) #[] #[p]->(execOp ρ o2).run P w=.ok (.defer { target:=.fn (.func clo) #[p],args:=#[] }) w)
  (gC:a5.toList.all (fun o=>Zmc o.dst (some r))=true)
  (h:∀S0 w0 a w p,Zct N S0 w0 st2 a w->a.tmps.getD r undef=p->wpList P a5 (fun e a' w'=>e=.outgrown\/a'.tmps.getD r undef=p->bodyPostD P fn (Post S0 w0 res) (match e with | .normal=>.ret|e=>e) (more [{ target:=.fn (.func clo) #[p],args:=#[] }] a') w') a5.toList a w):Znc P f args res:=by
 refine Znc.ofD hf hb hn hN hl fun S0 w0=>?_;refine Zyx (Zvz hT.1 e0 (ZdB p0.all) (Zyx ?_));intro a w hs;refine wp_region_list ?_;show wpList P _ _ [o1,o2] a w;refine wpList_step fun K hK=>Zms hT.1 hs e1 (ZdB p1.all) fun a' w' bO=>hK _ _ ?_;obtain⟨S,m,bz,hg⟩:=bO;have k6:=bz.env k;rw[hk]at k6;have k7:=bz.env r;rw[hr]at k7;obtain⟨p,hp,iT⟩ : ∃p,a'.tmps.getD k undef=.func (.func clo) #[] #[p]/\p=a'.tmps.getD r undef:=by
  generalize hz:a'.tmps.getD k undef=z at k6;generalize hy:a'.tmps.getD r undef=y at k7;obtain⟨xs,ys,rfl,e1,e2,hb⟩:=ZKF k6;have ij:xs = #[]:=by apply Array.eq_empty_of_size_eq_zero;omega
  match ys,e2,hb with
  | ⟨[q]⟩,_,hb=>
   subst ij;refine⟨q,rfl,?_⟩;have h0:=hb 0 (by simp);rw[gy]at h0;have hq:(#[q]:Array Value).getD 0 undef=q:=rfl;rw[hq]at h0;cases h0 with
   |ptr hm=>
    cases k7 with
    |ptr hm'=>rw[hm]at hm';cases hm';rfl
 refine wpList_step fun K hK=>?_;rw[if_pos (by simp[Region.wanted,gA])];have hd:(execOp a'.eval o2).run P w'=.ok (.defer { target:=.fn (.func clo) #[p],args:=#[] }) w':=gB _ _ _ (by simpa[Act.eval]using hp);unfold Oper.wp;rw[hd];simp only[Oper.upon];refine hK _ _ ?_;have iU:=bz.defers;have dZ:({ a' with defers:={ target:=.fn (.func clo) #[p],args:=#[] } :: a'.defers }:Act).put o2.dst undef=more [{ target:=.fn (.func clo) #[p],args:=#[] }] a':=by
  rw[gz,iU];simp[Act.put,more,iU]
 rw[dZ];show (Code.seq (.region i2 a5 false) .ret).wp P _ _ w';refine wp_seq (wp_region_list ?_);refine ZrI (Q:=fun e j9 dx=>(e=.outgrown\/j9.tmps.getD r undef=p->bodyPostD P fn (Post S0 w0 res) (match e with | .normal=>.ret|e=>e) (more [{ target:=.fn (.func clo) #[p],args:=#[] }] j9) dx)/\(e=.outgrown\/j9.tmps.getD r undef=p)) (fun e j9 dx hq=>?_) _ _ _
  (ZrH _ _ _ (fun o ho=>?_) iT.symm (h S0 w0 a' w' p ⟨S,m,bz,hg⟩ iT.symm))
 .have hq:=hq.1 hq.2;cases e with
  |normal=>exact wp_ret hq
  |_=>exact hq
 .have:=List.all_eq_true.1 gC o ho;intro e;rw[e]at this;simp[Zmc]at this
theorem Znc.defRet(hT:Zrr P T)(hf:P.funcs[f]?=some fn)(hb:fn.body=some (.seq (.region i0 bG false) (.seq (.region i1 #[o1,o2] false) (.seq (.region i2 a5 false) .ret))))
  (hn : (fn.name == "runtime.NumGoroutine") = false) (hN : fn.ntmps = N) (hl : Nat.ble args.length N = true)
  (e0:Zme P N T bG eG 0 bG.toList (St.init args)=some (st1,bT)) (p0:Obl bT) (e1:ZlY P N T #[o1,o2] ra1 0 o1 st1=some (st2,c8)) (p1:Obl c8)
  (hk:st2.get k=.one (.clo (.func clo) 0 1 fa fb)) (gy:fb 0=.ptr r 0) (hr:st2.get r=.one (.ptr r 0)) (gz:o2.dst=none) (gA:o2.guard=none)
  (gB:∀(ρ:Operand->Value) w p,ρ (.tmp k)=.func (.func clo) #[] #[p]->(execOp ρ o2).run P w=.ok (.defer { target:=.fn (.func clo) #[p],args:=#[] }) w)
  (gC:a5.toList.all (fun o=>Zmc o.dst (some r))=true) (cz:∀p w,(invoke (.fn (.func clo) #[p]) #[]).run P w=.ok (.enter clo #[p]) w) (ip:Nat.blt r Zjp=true) (gx:Nat.blt r N=true)
  (e2:Zme P N T a5 fo 0 a5.toList st2=some (st3,gD)) (p2:Obl gD) (k8:st3.get r=.one (.ptr r 0)) (hb3:hget st3.heap r=some (.box l0)) (iq:l0.all C.pure=true)
  (hc:ZCH P clo l0 none l1) (bw:ZrV T ⟨[(r,.one (.ptr r 0))],[(r,.box l1)]⟩ fn.results.toList=some res) (eB:l1.all C.pure=true) (bB:res.pure=true):Znc P f args res:=by
 refine Znc.def0 hT hf hb hn hN hl e0 p0 e1 p1 hk gy hr gz gA gB gC fun S0 w0 a w p hs hp=>?_;refine ZuL hT.1 hs e2 (ZdB p2.all) fun a' w' bO cu=>?_;obtain⟨S,m,bz,hg⟩:=bO;have cu:a'.tmps.getD r undef=p:=cu.resolve_left (fun e=>by cases e);have hB:=bz.heap r _ hb3;have hO:=bz.own r _ hb3;have jt:m r=p:=by
  have h1:=bz.env r;rw[k8,cu]at h1;cases h1 with
  |ptr hm=>exact hm
 rw[jt]at hB hO;have iU:=bz.defers;show Leaves P fn (more _ a').tmps (Post S0 w0 res) (more _ a').defers .returning w';have ht:(more [{ target:=.fn (.func clo) #[p],args:=#[] }] a').defers=[{ target:=.fn (.func clo) #[p],args:=#[] }]:=by simp[more,iU]
 rw[ht];obtain⟨b,bi,t,q1,q2,q3⟩:=hB;have hrep:Zke w0.F.no S ⟨fun _=>p,fun _=>False⟩ [(100000,.box l0)] w':=Zke.one ⟨b,bi,t,q1,q2,q3.anyM _ iq⟩ hO rfl (fun b h=>h.elim);refine Zxp (by simp) rfl (cz p w') (hc w0.F.no S ⟨fun _=>p,fun _=>False⟩ w' bz.dom bz.base_le hrep) fun e dx hq=>?_;exact door hT.1 bz.size ip gx bz.base_le hg (m1:=⟨fun _=>p,fun _=>False⟩) cu.symm (fun b hb=>bz.len.2 b (by rw[bz.len.1];exact hb)) bw eB bB hq
theorem Znc.defPan{dN post:List Oper}{o:Oper}{c:Callee}{cargs:Array Operand}{bp:Array TypeId}{pa:PA}{an:Option Ans}
  (hT:Zrr P T) (hf:P.funcs[f]?=some fn) (hb:fn.body=some (.seq (.region i0 bG false) (.seq (.region i1 #[o1,o2] false) (.seq (.region i2 a5 false) .ret))))
  (hn : (fn.name == "runtime.NumGoroutine") = false) (hN : fn.ntmps = N) (hl : Nat.ble args.length N = true)
  (e0:Zme P N T bG eG 0 bG.toList (St.init args)=some (st1,bT)) (p0:Obl bT) (e1:ZlY P N T #[o1,o2] ra1 0 o1 st1=some (st2,c8)) (p1:Obl c8)
  (hk:st2.get k=.one (.clo (.func clo) 0 1 fa fb)) (gy:fb 0=.ptr r 0) (hr:st2.get r=.one (.ptr r 0)) (gz:o2.dst=none) (gA:o2.guard=none)
  (gB:∀(ρ:Operand->Value) w p,ρ (.tmp k)=.func (.func clo) #[] #[p]->(execOp ρ o2).run P w=.ok (.defer { target:=.fn (.func clo) #[p],args:=#[] }) w)
  (gC:a5.toList.all (fun o=>Zmc o.dst (some r))=true) (cz:∀p w,(invoke (.fn (.func clo) #[p]) #[]).run P w=.ok (.enter clo #[p]) w) (ip:Nat.blt r Zjp=true) (gx:Nat.blt r N=true)
  (gZ:a5.toList=dN++o :: post) (e2:Zme P N T a5 fo 0 dN st2=some (st3,gD)) (p2:Obl gD) (k8:st3.get r=.one (.ptr r 0)) (hb3:hget st3.heap r=some (.box l0)) (iq:l0.all C.pure=true)
  (ho:o.op=.call { callee:=c,args:=cargs,argTypes:=bp }) (b6:o.guard=none) (e3:ZtD P N ⟨st3.env,hdel st3.heap r⟩ c cargs.toList pa an=some obl3) (p3:Obl obl3)
  (hc:ZCH P clo l0 (some pa.pv) l1) (bw:ZrV T ⟨[(r,.one (.ptr r 0))],[(r,.box l1)]⟩ fn.results.toList=some res) (eB:l1.all C.pure=true) (bB:res.pure=true):Znc P f args res:=by
 refine Znc.def0 hT hf hb hn hN hl e0 p0 e1 p1 hk gy hr gz gA gB gC fun S0 w0 a w p hs hp=>?_;rw[gZ];refine Zzr hT.1 hs e2 (ZdB p2.all) fun a' w' bO=>?_;obtain⟨S,m,bz,hg⟩:=bO;refine wpList_step fun K hK=>?_;rw[if_pos (by simp[Region.wanted,b6])];obtain⟨ju,aw1,aw2,aw3⟩:=bz.away hb3;refine Zxv (w0:=⟨w',⟨ZAO m st3.heap r w',w0.F.pin⟩⟩) (S0:=S) ju (Goes.refl _ _ _) ho e3 (ZdB p3.all) fun x dx S' h1 h2 h3 cu=>?_;have cu:a'.tmps.getD r undef=p:=cu.resolve_left (fun e=>by cases e);have hB:=bz.heap r _ hb3;have hO:=bz.own r _ hb3;have jt:m r=p:=by
  have h1:=bz.env r;rw[k8,cu]at h1;cases h1 with
  |ptr hm=>exact hm
 rw[jt]at hB hO;have iU:=bz.defers;show Leaves P fn (more _ a').tmps (Post S0 w0 res) (more _ a').defers (.panicking _) dx;have ht:(more [{ target:=.fn (.func clo) #[p],args:=#[] }] a').defers=[{ target:=.fn (.func clo) #[p],args:=#[] }]:=by simp[more,iU]
 rw[ht];obtain⟨b,bi,t,q1,q2,q3⟩:=hB;have ir:blk p=some b:=by rw[q1];rfl
 have cZ:Zgp S w' dx:=fun b' aL=>h1.below.block b' (aw2 b' aL);have hrep:Zke w0.F.no S' ⟨fun _=>p,fun _=>False⟩ [(100000,.box l0)] dx:=by
  refine Zke.one ⟨b,bi,t,q1,?_,(q3.anyM _ iq).keepL cZ h1.sub (fun b h=>h.elim)⟩ (fun k hk=>?_) rfl (fun b h=>h.elim)
  .rw[h1.below.block b (aw3 b (by rw[jt];exact ir))];exact q2
  .obtain⟨f1,f2,f3⟩:=hO k hk;refine⟨fun hs=>?_,f2,Nat.lt_of_lt_of_le f3 h1.below.size⟩;rcases h1.sup k hs with hs|hs
   .exact f1 hs
   .exact hs (aw3 k (by rw[jt];exact hk))
 have jv:Goes w0.F.no S0 S' w0.w dx:=hg.step (h1.below.mono fun k hk=>aw1 k hk) h1.sub fun b hb=>(h1.sup b hb).imp id fun h e=>h (aw1 b e);have bK:∀k,w0.F.no k->k<dx.heap.size:=fun k hk=>Nat.lt_of_lt_of_le (bz.base_le k hk) h1.below.size;refine Zxp (by simp) rfl (cz p dx) (hc w0.F.no S' ⟨fun _=>p,fun _=>False⟩ dx h2 bK hrep x h3) fun e w3 hq=>?_;exact door hT.1 bz.size ip gx bK jv (m1:=⟨fun _=>p,fun _=>False⟩) cu.symm (fun b hb=>bz.len.2 b (by rw[bz.len.1];exact hb)) bw eB bB hq
end
def ZGC(v:V)(r:Nat):Bool:=match v with
 | .one (.ptr a b)=>Nat.beq a r&&Nat.beq b 0
 |_=>false
theorem Zut{v:V}{r:Nat}(h:ZGC v r=true):v=.one (.ptr r 0):=by
 unfold ZGC at h;split at h
 .simp only[Bool.and_eq_true]at h;rw[ZaO h.1,ZaO h.2]
 .cases h
def ZKo(v:V)(clo r:Nat):Bool:=match v with
 | .one (.clo (.func c) na nb _ b)=>Nat.beq c clo&&Nat.beq na 0&&Nat.beq nb 1&&ZGC (.one (b 0)) r
 |_=>false
theorem ZDv{v:V}{clo r:Nat}(h:ZKo v clo r=true):∃fa fb,v=.one (.clo (.func clo) 0 1 fa fb)/\fb 0=.ptr r 0:=by
 unfold ZKo at h;split at h
 .rename_i c na nb a b;simp only[Bool.and_eq_true]at h;obtain⟨⟨⟨h1,h2⟩,h3⟩,h4⟩:=h;have h5:=Zut h4;rw[ZaO h1,ZaO h2,ZaO h3];exact⟨a,b,rfl,by injection h5⟩
 .cases h
def ZIY(st:St)(r:Nat):Option (List C):=match ZGC (st.get r) r,hget st.heap r with
 |true,some (.box l)=>match l.all C.pure with
  |true=>some l
  |false=>none
 |_,_=>none
theorem ZDP{st:St}{r:Nat}{l:List C}(h:ZIY st r=some l):st.get r=.one (.ptr r 0)/\hget st.heap r=some (.box l)/\l.all C.pure=true:=by
 unfold ZIY at h;split at h
 .rename_i l' h1 h2;split at h
  .rename_i h3;cases h;exact⟨Zut h1,h2,h3⟩
  .cases h
 .cases h
def ZxR(P:Program)(N:Nat)(T:Tab)(bG ft:Array Oper)(o1:Oper)(eG ra1:RA)(args:List V)(k r clo:Nat):Option (St×List Prop):=match Zme P N T bG eG 0 bG.toList (St.init args)with
 |some (st1,ob0)=>match ZlY P N T ft ra1 0 o1 st1 with
  |some (st2,ob1)=>match ZKo (st2.get k) clo r&&ZGC (st2.get r) r with
   |true=>some (st2,ob0++ob1)
   |false=>none
  |none=>none
 |none=>none
def ZFN(P:Program)(N:Nat)(T:Tab)(bG ft a5:Array Oper)(o1:Oper)(eG ra1 fo:RA)(args:List V)(k r clo:Nat):Option (List C×List Prop):=match ZxR P N T bG ft o1 eG ra1 args k r clo with
 |some (st2,ob1)=>match Zme P N T a5 fo 0 a5.toList st2 with
  |some (st3,ob2)=>match ZIY st3 r with
   |some l=>some (l,ob1++ob2)
   |none=>none
  |none=>none
 |none=>none
def ZFO(P:Program)(N:Nat)(T:Tab)(bG ft a5:Array Oper)(o1:Oper)(eG ra1 fo:RA)(args:List V)(k r clo i:Nat)(pa:PA):Option (List C×List Prop):=match ZxR P N T bG ft o1 eG ra1 args k r clo with
 |some (st2,ob1)=>match Zme P N T a5 fo 0 (a5.toList.take i) st2,a5.toList[i]? with
  |some (st3,ob2),some o=>match ZIY st3 r,o.guard,o.op with
   |some l,none,.call { callee:=c,args:=cargs,.. }=>match ZtD P N ⟨st3.env,hdel st3.heap r⟩ c cargs.toList pa (Zdb fo.an i)with
    |some ob3=>some (l,ob1++(ob2++ob3))
    |none=>none
   |_,_,_=>none
  |_,_=>none
 |none=>none
theorem Obl.of:∀{l:List Prop},(∀q∈l,q)->Obl l
 | [],_=>.n
 |p :: l,h=>.c (h p List.mem_cons_self) (Obl.of fun q hq=>h q (List.mem_cons_of_mem _ hq))
theorem Obl.left{a b:List Prop}(h:Obl (a++b)):Obl a:=Obl.of fun q hq=>ZdB h.all q (List.mem_append.2 (.inl hq))
theorem Obl.right{a b:List Prop}(h:Obl (a++b)):Obl b:=Obl.of fun q hq=>ZdB h.all q (List.mem_append.2 (.inr hq))
section
variable {P:Program} {T:Tab} {N:Nat} {f:FuncId} {fn:Func} {i0 i1 i2:Nat} {bG a5:Array Oper} {o1 o2:Oper} {args:List V} {res:V} {obl:List Prop} {k r clo:Nat} {l0 l1:List C}
theorem Znc.defR(eG ra1 fo:RA)(k r clo:Nat)(hT:Zrr P T)(hf:P.funcs[f]?=some fn)(hb:fn.body=some (.seq (.region i0 bG false) (.seq (.region i1 #[o1,o2] false) (.seq (.region i2 a5 false) .ret))))
  (hn : (fn.name == "runtime.NumGoroutine") = false) (hN : fn.ntmps = N) (hl : Nat.ble args.length N = true) (gz : o2.dst = none) (gA : o2.guard = none)
  (gB:∀(ρ:Operand->Value) w p,ρ (.tmp k)=.func (.func clo) #[] #[p]->(execOp ρ o2).run P w=.ok (.defer { target:=.fn (.func clo) #[p],args:=#[] }) w)
  (gC:a5.toList.all (fun o=>Zmc o.dst (some r))=true) (cz:∀p w,(invoke (.fn (.func clo) #[p]) #[]).run P w=.ok (.enter clo #[p]) w) (ip:Nat.blt r Zjp=true) (gx:Nat.blt r N=true)
  (ho:Obl obl) (h:ZFN P N T bG #[o1,o2] a5 o1 eG ra1 fo args k r clo=some (l0,obl))
  (hc:ZCH P clo l0 none l1) (bw:ZrV T ⟨[(r,.one (.ptr r 0))],[(r,.box l1)]⟩ fn.results.toList=some res) (eB:l1.all C.pure=true) (bB:res.pure=true):Znc P f args res:=by
 unfold ZFN ZxR at h;split at h;rotate_left
 .cases h
 rename_i st2 ob1 h0;split at h0;rotate_left
 .cases h0
 rename_i st1 oa e0;split at h0;rotate_left
 .cases h0
 rename_i aN ob e1;split at h0;rotate_left
 .cases h0
 rename_i hq;cases h0;simp only[Bool.and_eq_true]at hq;obtain⟨fa,fb,hk,gy⟩:=ZDv hq.1;split at h;rotate_left
 .cases h
 rename_i st3 ob2 e2;split at h;rotate_left
 .cases h
 rename_i l iq;cases h;obtain⟨q1,q2,q3⟩:=ZDP iq;exact Znc.defRet hT hf hb hn hN hl e0 ho.left.left e1 ho.left.right hk gy (Zut hq.2) gz gA gB gC cz ip gx e2 ho.right q1 q2 q3 hc bw eB bB
theorem Znc.defP(eG ra1 fo:RA)(k r clo i:Nat)(pa:PA)(hT:Zrr P T)(hf:P.funcs[f]?=some fn)(hb:fn.body=some (.seq (.region i0 bG false) (.seq (.region i1 #[o1,o2] false) (.seq (.region i2 a5 false) .ret))))
  (hn : (fn.name == "runtime.NumGoroutine") = false) (hN : fn.ntmps = N) (hl : Nat.ble args.length N = true) (gz : o2.dst = none) (gA : o2.guard = none)
  (gB:∀(ρ:Operand->Value) w p,ρ (.tmp k)=.func (.func clo) #[] #[p]->(execOp ρ o2).run P w=.ok (.defer { target:=.fn (.func clo) #[p],args:=#[] }) w)
  (gC:a5.toList.all (fun o=>Zmc o.dst (some r))=true) (cz:∀p w,(invoke (.fn (.func clo) #[p]) #[]).run P w=.ok (.enter clo #[p]) w) (ip:Nat.blt r Zjp=true) (gx:Nat.blt r N=true)
  (ho:Obl obl) (h:ZFO P N T bG #[o1,o2] a5 o1 eG ra1 fo args k r clo i pa=some (l0,obl))
  (hc:ZCH P clo l0 (some pa.pv) l1) (bw:ZrV T ⟨[(r,.one (.ptr r 0))],[(r,.box l1)]⟩ fn.results.toList=some res) (eB:l1.all C.pure=true) (bB:res.pure=true):Znc P f args res:=by
 unfold ZFO ZxR at h;split at h;rotate_left
 .cases h
 rename_i st2 ob1 h0;split at h0;rotate_left
 .cases h0
 rename_i st1 oa e0;split at h0;rotate_left
 .cases h0
 rename_i aN ob e1;split at h0;rotate_left
 .cases h0
 rename_i hq;cases h0;simp only[Bool.and_eq_true]at hq;obtain⟨fa,fb,hk,gy⟩:=ZDv hq.1;split at h;rotate_left
 .cases h
 rename_i st3 ob2 o e2 dy;split at h;rotate_left
 .cases h
 rename_i l c cargs bp iq b6 bR;split at h;rotate_left
 .cases h
 rename_i ob3 e3;cases h;obtain⟨q1,q2,q3⟩:=ZDP iq;have hlt:i<a5.toList.length:=by
  rcases Nat.lt_or_ge i a5.toList.length with h|h
  .exact h
  .rw[List.getElem?_eq_none h]at dy;cases dy
 have gZ:a5.toList=a5.toList.take i++o :: a5.toList.drop (i+1):=by
  have e:a5.toList[i]=o:=by rw[List.getElem?_eq_getElem hlt]at dy;exact Option.some.inj dy
  rw[<-e,<-List.drop_eq_getElem_cons hlt,List.take_append_drop]
 exact Znc.defPan hT hf hb hn hN hl e0 ho.left.left e1 ho.left.right hk gy (Zut hq.2) gz gA gB gC cz ip gx gZ e2 ho.right.left q1 q2 q3 bR b6 e3 ho.right.right hc bw eB bB
end
end Go.Proofs.YtmnloegcpaahcaaGreat
