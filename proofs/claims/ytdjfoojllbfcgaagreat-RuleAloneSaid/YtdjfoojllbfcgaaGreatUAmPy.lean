import Derived.Test.YtdjfoojllbfcgaaGreatUAmX
import Derived.Recover
namespace Go.Proofs.YtdjfoojllbfcgaaGreat
open Go.RowKit
set_option linter.unusedSimpArgs false
set_option linter.unusedVariables false
def more(D:List Deferred)(a:Act):Act:=⟨a.tmps,a.defers++D⟩
theorem ZxU(D:List Deferred)(a:Act):(more D a).eval=a.eval:=by funext x;cases x<;>rfl
theorem Zrl(D:List Deferred)(a:Act)(d:Option Nat)(x:Value):(more D a).put d x=more D (a.put d x):=by cases d<;>rfl
theorem ZCC{P:Program}{o:Oper}{a:Act}{D:List Deferred}{K K':Act->World->Prop}{Q Q':Exit->Act->World->Prop}(hK:∀a w,K a w->K' (more D a) w)(hQ:∀e a w,Q e a w->Q' e (more D a) w)(r:Result Next)
  (h:o.upon P a K Q r):o.upon P (more D a) K' Q' r:=by
 cases r with
 |ok n w'=>
  cases n<;>simp only[Oper.upon]at h ⊢<;>try (rw[Zrl];exact hK _ _ h)
  ·exact Calls.mono h fun e dl q=>by
    cases e with
    |returned v=>simp only at q ⊢;rw[Zrl];exact hK _ _ q
    |panicked ch=>exact hQ _ _ _ q
    |outgrown=>obtain⟨a',w3,q⟩:=q;exact⟨_,_,hQ _ _ _ q⟩
  ·rename_i d;have e:({ more D a with defers:=d :: (more D a).defers }:Act).put o.dst undef=more D (({ a with defers:=d :: a.defers }:Act).put o.dst undef):=by rw[<-Zrl];rfl
   rw[e];exact hK _ _ h
  ·intro c cs;obtain⟨v,dl,q,hs⟩:=h c cs;refine⟨v,dl,?_,hs⟩;show K' ((more D a).put o.dst v) dl;rw[Zrl];exact hK _ _ q
 |halt hh w'=>
  cases hh<;>simp only[Oper.upon]at h ⊢;exact hQ _ _ _ h
theorem ZqJ{P:Program}{ops:Array Oper}{D:List Deferred}{Q Q':Exit->Act->World->Prop}(hQ:∀e a w,Q e a w->Q' e (more D a) w):∀(l:List Oper)(a:Act)(w:World),wpList P ops Q l a w->wpList P ops Q' l (more D a) w
 | [],a,w,h=>hQ _ _ _ h
 |o :: r,a,w,h=>by
  unfold wpList at h ⊢
  have ht:(more D a).tmps=a.tmps:=rfl
  rw[ht]
  split at h
  ·rename_i hw
   rw[if_pos hw]
   rcases h with h|⟨h1,h2⟩
   ·left
    unfold Oper.wp at h ⊢
    rw[ZxU]
    exact ZCC (fun a w=>ZqJ hQ r a w) hQ _ h
   ·right
    refine⟨?_,?_⟩
    ·unfold Oper.asks at h1 ⊢
     rw[ZxU]
     exact h1
    ·obtain⟨a',w',q⟩:=h2
     exact⟨_,_,hQ _ _ _ q⟩
  ·rename_i hw
   rw[if_neg hw,Zrl]
   exact ZqJ hQ r _ _ h
theorem Zxw{P:Program}{T:Tab}(hT:Zef P T){N:Nat}{S0:Nat->Prop}{w0:Zba}{ops:Array Oper}{ra:RA}{Q:Exit->Act->World->Prop}{l2:List Oper}:∀{l:List Oper}{i:Nat}{st st':St}{a:Act}{w:World}{obl:List Prop},Zcq N S0 w0 st a w ->
  Zll P N T ops ra i l st=some (st',obl)->(∀q∈obl,q)->(∀a' w',Zcq N S0 w0 st' a' w'->wpList P ops Q l2 a' w')->wpList P ops Q (l++l2) a w
 | [],i,st,st',a,w,obl,hsh,h,ho,hk=>by cases h;exact hk _ _ hsh
 |o :: r,i,st,st',a,w,obl,hsh,h,ho,hk=>by
  simp only[Zll]at h
  split at h
  ·cases h
  rename_i st0 h0
  split at h
  ·cases h
  rename_i st1 o1 h1
  split at h
  ·cases h
  rename_i st2 o2 h2
  cases h
  have dN:Zcq N S0 w0 st0 a w:=by
   unfold opFz at h0;split at h0
   ·cases h0;exact hsh
   ·exact Zcq.frozen hsh h0
  refine wpList_step fun K hK=>ZlF hT dN h1 (fun q hq=>ho q (List.mem_append.2 (.inl hq))) fun a' w' bW=>hK _ _ ?_;exact Zxw hT bW h2 (fun q hq=>ho q (List.mem_append.2 (.inr hq))) hk
theorem PostD.ends{P:Program}{fn:Func}{S0:Nat->Prop}{w0:Zba}{res:V}:Ends (bodyPostD P fn (Post S0 w0 res)):=by
 refine⟨fun a w h=>?_,fun l a w h=>h⟩;obtain⟨x,S',h,_⟩:=h;cases h
theorem Zmo.ofD {P : Program} {f : FuncId} {fn : Func} {c : Code} {N : Nat} {args : List V} {res : V} (hf : P.funcs[f]? = some fn) (hb : fn.body = some c) (hn : (fn.name == "runtime.NumGoroutine") = false) (hN : fn.ntmps = N) (hl : Nat.ble args.length N = true)
  (h:∀S0 w0,Good P N S0 w0 (bodyPostD P fn (Post S0 w0 res)) [.code c] (St.init args)):Zmo P f args res:=by
 refine⟨⟨fn,hf,hn,by rw[hb];rfl⟩,fun no S m w vs hS aY hL bf=>?_⟩;have hle:=Nat.le_of_ble_eq_true hl;have hsh:Zcq N S ⟨w,no,m⟩ (St.init args) { tmps:=vs.toArray++Array.replicate (fn.ntmps-vs.toArray.size) undef,defers:=[] } w:=by
  refine⟨S,m,⟨by simp;have:=bf.1;omega,fun t=>?_,fun t ht=>?_,fun id b hb=>by simp[St.init,hget]at hb,fun id b hb=>by simp[St.init,hget]at hb,fun i j b b' hne h1 h2=>by simp[St.init,hget]at h1,hS,rfl,aY,fun _ _=>rfl,rfl,hL⟩,Goes.refl _ _ _⟩
  ·rw[St.get_init];by_cases ht:t<args.length
   ·have hv:args[t]?=some (args.getD t (.one .junk)):=by simp[List.getD_eq_getElem?_getD,ht]
    obtain⟨x,h1,h2⟩:=bf.2 t _ hv;have:(vs.toArray++Array.replicate (fn.ntmps-vs.toArray.size) undef).getD t undef=x:=by
     have hlt:t<vs.length:=by rw[bf.1];exact ht
     rw[Array.getD_eq_getD_getElem?,Array.getElem?_append_left (by simpa using hlt)];simp[h1]
    rw[this];exact h2
   ·have:args.getD t (.one .junk)=.one .junk:=by simp[List.getD_eq_getElem?_getD,show ¬t<args.length from ht]
    rw[this];exact RepC.junk
  ·rw[St.get_init];simp[List.getD_eq_getElem?_getD,show ¬t<args.length by omega]
 exact calls_of_wp_defers hf hb (h S ⟨w,no,m⟩ _ w hsh)
def ZAf(P:Program)(f:FuncId)(l0:List C)(pv:Option V)(l1:List C):Prop:=
 ∀(no S:Nat->Prop)(m:Mp)(w:World),(∀b,S b->b<w.heap.size)->(∀k,no k->k<w.heap.size)->ZjD no S m [(100000,.box l0)] w->match pv with
  |none=>CallsD P f #[m 100000] .returning w fun e u' w'=>u'=.returning/\Zbk S ⟨w,no,m⟩ [(100000,.box l1)] (.tup []) e w'
  |some pv=>∀x,RepV S w ZcS pv x->CallsD P f #[m 100000] (.panicking [{ v:=x,recovered:=false }]) w fun e u' w'=>u'=.panicking [{ v:=x,recovered:=true }]/\Zbk S ⟨w,no,m⟩ [(100000,.box l1)] (.tup []) e w'
theorem ZuA{P:Program}{f:FuncId}{fn:Func}{i:Nat}{o:Oper}{c:Code}{N d:Nat}{l0:List C}{h1:List (Nat×B)}{res xv:V}(hf:P.funcs[f]?=some fn)(hb:fn.body=some (.seq (.region i #[o] false) c))
  (hx:∀ρ w,(execOp ρ o).run P w=.ok .recover w) (hd:o.dst=some d) (bY:o.guard=none) (hN:fn.ntmps=N) (hdN:Nat.blt d N=true) (h1N:Nat.ble 1 N=true) {no S:Nat->Prop} {m:Mp} {w:World}
  (hS:∀b,S b->b<w.heap.size) (aY:∀k,no k->k<w.heap.size) (hrep:ZjD no S m [(100000,.box l0)] w) {u u':FrameMode} {x:Value}
  (lc:∀(c₀:Frame) cs,c₀.mode=u->(match recoverD (c₀ :: cs)with|some p=>p|none=>(.nilIface,c₀ :: cs))=(x,{ c₀ with mode:=u' } :: cs)) (hxv:RepV S w ZcS xv x) (hxp:xv.pure=true)
  (h:Good P N S ⟨w,no,m⟩ (bodyPost P fn (Zbk S ⟨w,no,m⟩ h1 res)) [.code c] ((St.initH [.one (.ptr 100000 0)] [(100000,.box l0)]).put d xv)) :
  CallsD P f #[m 100000] u w fun e ji w'=>ji=u'/\Zbk S ⟨w,no,m⟩ h1 res e w':=by
 refine callsD_of_wpS hf hb fun c₀ cs hu=>?_;apply wpS_seq;apply wpS_region;have hr:=lc c₀ cs hu;have lf:d<N:=Nat.le_of_ble_eq_true hdN;have h1N':1<=N:=Nat.le_of_ble_eq_true h1N;have key:Exit.thenS (c.wpS P (bodyPostS P fn c₀ cs fun e ji w'=>ji=u'/\Zbk S ⟨w,no,m⟩ h1 res e w')) (bodyPostS P fn c₀ cs fun e ji w'=>ji=u'/\Zbk S ⟨w,no,m⟩ h1 res e w') .normal
   (({ tmps:=#[m 100000]++Array.replicate (fn.ntmps - #[m 100000].size) undef,defers:=[] }:Act).put (some d) x) ({ c₀ with mode:=u' } :: cs) w:=by
  refine wpS_of_wp ?_;have kq:∃b,m 100000=.pointer (some ⟨b,0,none⟩):=by
   obtain⟨b,bd,t,hb,_⟩:=hrep.rep 100000 (.box l0) (by rw[Zbm,if_pos rfl]);exact⟨b,hb⟩
  have ce:Sim N ⟨no,m⟩ S m (St.initH [.one (.ptr 100000 0)] [(100000,.box l0)]) { tmps:=#[m 100000]++Array.replicate (fn.ntmps - #[m 100000].size) undef,defers:=[] } w:=by
   refine⟨by simp;omega,fun t=>?_,fun t ht=>?_,hrep.rep,hrep.own,hrep.inj,hS,rfl,aY,fun _ _=>rfl,rfl,hrep.lno⟩
   ·cases t with
    |zero=>
     obtain⟨b,hb⟩:=kq;have e1:(St.initH [V.one (.ptr 100000 0)] [(100000,.box l0)]).get 0=.one (.ptr 100000 0):=rfl;rw[e1];have e2:(#[m 100000]++Array.replicate (fn.ntmps - #[m 100000].size) undef).getD 0 undef=.pointer (some ⟨b,0,none⟩):=by
      rw[Array.getD_eq_getD_getElem?,Array.getElem?_append_left (by simp)];simp[hb]
     rw[e2];exact RepC.ptr hb
    |succ t=>
     have e1:(St.initH [V.one (.ptr 100000 0)] [(100000,.box l0)]).get (t+1)=.one .junk:=rfl;rw[e1];exact RepC.junk
   ·cases t with
    |zero=>omega
    |succ t=>rfl
  have cu:=ce.put (hxv.anyM m hxp) lf;have hw:=h _ _ ⟨S,m,cu,Goes.refl _ _ _⟩;refine wp_mono (show c.wp P (Zpj P (bodyPost P fn (Zbk S ⟨w,no,m⟩ h1 res)) []) _ w from hw) fun e a' w' hq=>?_;have hq:bodyPost P fn (Zbk S ⟨w,no,m⟩ h1 res) e a' w':=hq;cases e with
  |normal=>obtain⟨q1,v,q2,q3⟩:=hq;exact⟨q1,u',rfl,v,q2,rfl,q3⟩
  |ret=>obtain⟨q1,v,q2,q3⟩:=hq;exact⟨q1,u',rfl,v,q2,rfl,q3⟩
  |panic ch=>obtain⟨q1,q3⟩:=hq;exact⟨q1,u',rfl,rfl,q3⟩
  |outgrown=>obtain⟨x,S',m',q,_⟩:=hq;cases q
  |exit id=>exact hq.elim
  |goto l=>exact hq.elim
 have ia:List.range (#[o].size)=[0]:=rfl;rw[ia];have ho:(#[o]:Array Oper)[0]?=some o:=rfl;simp only[wpOpsS,ho,hx];rw[if_pos (by simp[Region.wanted,bY])]
 revert hr
 cases hq:recoverD (c₀ :: cs)with
 |none=>
  intro hr;simp only[Prod.mk.injEq]at hr;obtain⟨rfl,hr⟩:=hr;rw[hd];rw[hr];exact key
 |some p=>
  obtain⟨v,fO⟩:=p;intro hr;simp only[Prod.mk.injEq]at hr;obtain⟨rfl,rfl⟩:=hr;rw[hd];exact key
theorem ZjD.one{no S:Nat->Prop}{m:Mp}{w:World}{p:Value}{b:B}{id:Nat}(h1:RepB S w m p b)(h2:∀k,blk p=some k->¬S k/\¬no k/\k<w.heap.size)(hm:m id=p)(hL:∀b,m.L b->no b):ZjD no S m [(id,b)] w:=by
 refine⟨fun i b' hb=>?_,fun i b' hb=>?_,fun i j b1 b2 hne bJ bw=>?_,hL⟩
 ·rw[Zbm]at hb;split at hb
  ·rename_i e;cases hb;subst e;rw[hm];exact h1
  ·cases hb
 ·rw[Zbm]at hb;split at hb
  ·rename_i e;cases hb;subst e;rw[hm];exact h2
  ·cases hb
 ·rw[Zbm]at bJ bw;split at bJ
  ·split at bw
   ·rename_i e1 e2;exact absurd (e1.symm.trans e2) hne
   ·cases bw
  ·cases bJ
theorem door{P:Program}{T:Tab}(hT:Zef P T){N r:Nat}{fn:Func}{tmps:Array Value}{S0:Nat->Prop}{w0:Zba}{S:Nat->Prop}{w:World}(aR:tmps.size=N)(eQ:Nat.blt r ZiV=true)(f6:Nat.blt r N=true)
  (bG:∀k,w0.F.no k->k<w.heap.size) (hg:Goes w0.F.no S0 S w0.w w) {m1:Mp} (kr:m1 100000=tmps.getD r undef) (dD:∀b,w0.F.pin.L b->w0.F.no b) {l1:List C} {res:V} (bq:ZqU T ⟨[(r,.one (.ptr r 0))],[(r,.box l1)]⟩ fn.results.toList=some res) (eR:l1.all C.pure=true) (bH:res.pure=true)
  {e:Ending} {w':World} (h:Zbk S ⟨w,w0.F.no,m1⟩ [(100000,.box l1)] (.tup []) e w'):∃v,e=.returned v/\Leaves P fn tmps (Post S0 w0 res) [] .returning w':=by
 obtain⟨x,S',m',rfl,h1,h2,h3,h4,h5⟩:=h;refine⟨x,rfl,?_⟩;have hm':m' 100000=tmps.getD r undef:=(h5.pin 100000 (by simp[ZiV])).trans kr;have cm:=h3.rep 100000 (.box l1) (by rw[Zbm,if_pos rfl]);have bc:=h3.own 100000 (.box l1) (by rw[Zbm,if_pos rfl]);rw[hm']at cm bc;obtain⟨b,bd,t,e1,e2,e3⟩:=cm;have hr1:r<ZiV:=Nat.le_of_ble_eq_true eQ;have eA:r<N:=Nat.le_of_ble_eq_true f6;have hs:Sim N w0.F S' ⟨fun k=>if k=r then tmps.getD r undef else w0.F.pin k,w0.F.pin.L⟩ ⟨[(r,.one (.ptr r 0))],[(r,.box l1)]⟩ ⟨tmps,[]⟩ w':=by
  refine⟨aR,fun t=>?_,fun t ht=>?_,fun id b' hb=>?_,fun id b' hb=>?_,fun i j b1 b2 hne bJ bw=>?_,h2,rfl,fun k hk=>Nat.lt_of_lt_of_le (bG k hk) h1.below.size,fun id hid=>?_,rfl,dD⟩
  ·show RepV S' w' _ (look _ _ t) _;rw[Znz];split
   ·rename_i e;subst e;rw[e1];exact RepC.ptr (if_pos rfl)
   ·exact RepC.junk
  ·show look _ _ t=_;rw[Znz,if_neg (by omega)];rfl
  ·rw[Zbm]at hb;split at hb
   ·rename_i e;cases hb;subst e;simp only[if_pos];exact⟨b,bd,t,e1,e2,e3.anyM _ eR⟩
   ·cases hb
  ·rw[Zbm]at hb;split at hb
   ·rename_i e;cases hb;subst e;simp only[if_pos];exact bc
   ·cases hb
  ·rw[Zbm]at bJ bw;split at bJ
   ·split at bw
    ·rename_i e1 e2;exact absurd (e1.symm.trans e2) hne
    ·cases bw
   ·cases bJ
  ·exact if_neg (by omega)
 have dz:Goes w0.F.no S0 S' w0.w w':=hg.step h1.below h1.sub h1.sup;obtain⟨_,v,h6,h7⟩:=Zze (P:=P) (fn:=fn) hT ⟨S',_,hs,dz⟩ bq bH;exact⟨v,h6,h7⟩
def ZyH(m:Mp)(h:List (Nat×B))(r:Nat)(w:World):Nat->Prop:=fun k=>k<w.heap.size/\∀id b',id≠r->hget h id=some b'->blk (m id)≠some k
theorem Sim.away{N:Nat}{F:Keep}{S:Nat->Prop}{m:Mp}{st:St}{a:Act}{w:World}(h:Sim N F S m st a w){r:Nat}{b:B}(hb:hget st.heap r=some b) :
  Sim N ⟨ZyH m st.heap r w,F.pin⟩ S m ⟨st.env,hdel st.heap r⟩ a w/\(∀k,F.no k->ZyH m st.heap r w k)/\(∀k,S k->ZyH m st.heap r w k)/\∀k,blk (m r)=some k->ZyH m st.heap r w k:=by
 have hd:∀id b',hget (hdel st.heap r) id=some b'->id≠r/\hget st.heap id=some b':=fun id b' aF=>by
  rw[ZkO]at aF;split at aF
  ·cases aF
  ·rename_i hne;exact⟨fun e=>hne e.symm,aF⟩
 refine⟨⟨h.size,h.env,h.far,fun id b' aF=>h.heap id b' (hd id b' aF).2,fun id b' aF k hk=>?_,fun i j b1 b2 hne h1 h2=>h.inj i j b1 b2 hne (hd _ _ h1).2 (hd _ _ h2).2,h.dom,h.defers,fun k hk=>hk.1,h.pin,h.len.1,fun k hk=>⟨h.base_le k (h.len.2 k hk),fun id b' _ hi e=>(h.own id b' hi k e).2.1 (h.len.2 k hk)⟩⟩,fun k hk=>⟨h.base_le k hk,fun id b' _ hi e=>(h.own id b' hi k e).2.1 hk⟩,
  fun k hk=>⟨h.dom k hk,fun id b' _ hi e=>(h.own id b' hi k e).1 hk⟩,fun k hk=>⟨(h.own r b hb k hk).2.2,fun id b' hne hi e=>h.inj id r b' b hne hi hb k e hk⟩⟩
 obtain⟨h1,h2⟩:=hd id b' aF;obtain⟨h3,h4,h5⟩:=h.own id b' h2 k hk;exact⟨h3,fun e=>e.2 id b' h1 h2 hk,h5⟩
theorem ZHL{S:Nat->Prop}{w:World}{m:Mp}{fn:Fn}{na nb:Nat}{a b:Nat->C}{x:Value}(h:RepC S w m (.clo fn na nb a b) x):∃xs ys:Array Value,x=.func fn xs ys/\xs.size=na/\ys.size=nb/\∀i,i<nb->RepC S w m (b i) (ys.getD i undef):=by
 cases h with
 |clo xs ys ha hb=>exact⟨xs,ys,rfl,rfl,rfl,hb⟩
theorem ZAv{a:Act}{d:Option Nat}{x:Value}{t:Nat}(h:d≠some t):(a.put d x).tmps.getD t undef=a.tmps.getD t undef:=by
 cases d with
 |none=>rfl
 |some d=>
  have hne:d≠t:=fun e=>h (by rw[e]);simp only[Act.put,Array.getD_eq_getD_getElem?];rw[Array.getElem?_setIfInBounds_ne hne]
theorem ZqI{P:Program}{ops:Array Oper}{Q:Exit->Act->World->Prop}{t:Nat}{x:Value}:∀(l:List Oper)(a:Act)(w:World),(∀o∈l,o.dst≠some t)->a.tmps.getD t undef=x->wpList P ops Q l a w ->
  wpList P ops (fun e a' w'=>Q e a' w'/\(e=.outgrown\/a'.tmps.getD t undef=x)) l a w
 | [],a,w,hd,hx,h=>⟨h,.inr hx⟩
 |o :: r,a,w,hd,hx,h=>by
  have ho:=hd o List.mem_cons_self
  have hr:∀o∈r,o.dst≠some t:=fun o h=>hd o (List.mem_cons_of_mem _ h)
  have hK:∀v w',wpList P ops Q r (a.put o.dst v) w'->wpList P ops (fun e a' w'=>Q e a' w'/\(e=.outgrown\/a'.tmps.getD t undef=x)) r (a.put o.dst v) w':=fun v w' h=>ZqI r _ _ hr ((ZAv ho).trans hx) h
  have hL:LetsOut Q->LetsOut (fun e a' w'=>Q e a' w'/\(e=.outgrown\/a'.tmps.getD t undef=x)):=fun⟨a',w',q⟩=>⟨a',w',q,.inl rfl⟩
  unfold wpList at h ⊢
  split at h
  ·rename_i hw
   rw[if_pos hw]
   rcases h with h|⟨h1,h2⟩
   ·left
    unfold Oper.wp at h ⊢
    generalize (execOp a.eval o).run P w=res at h
    cases res with
    |ok n w'=>
     cases n<;>simp only[Oper.upon]at h ⊢<;>try (exact hK _ _ h)
     ·exact Calls.mono h fun e dl q=>by
       cases e with
       |returned v=>exact hK _ _ q
       |panicked ch=>exact⟨q,.inr hx⟩
       |outgrown=>exact hL q
     ·exact ZqI r _ _ hr ((ZAv (a:={ a with defers:=_ }) ho).trans hx) h
     ·intro c cs
      obtain⟨v,dl,q,hs⟩:=h c cs
      exact⟨v,dl,hK _ _ q,hs⟩
    |halt hh w'=>
     cases hh<;>simp only[Oper.upon]at h ⊢
     exact⟨h,.inr hx⟩
   ·exact .inr ⟨h1,hL h2⟩
  ·rename_i hw
   rw[if_neg hw]
   exact hK _ _ h
theorem ZvB{P:Program}{fn:Func}{tmps:Array Value}{R:Ending->World->Prop}{clo:Nat}{p:Value}{u u1:FrameMode}{w:World}{S:Nat->Prop}{w1:Zba}{h1:List (Nat×B)}{res:V}(hu:u≠.run)(hset:settle u1=.returning)
  (ck:(invoke (.fn (.func clo) #[p]) #[]).run P w=.ok (.enter clo #[p]) w) (h:CallsD P clo #[p] u w fun e u' w'=>u'=u1/\Zbk S w1 h1 res e w')
  (hk:∀e w',Zbk S w1 h1 res e w'->∃v,e=.returned v/\Leaves P fn tmps R [] .returning w'):Leaves P fn tmps R [{ target:=.fn (.func clo) #[p],args:=#[] }] u w:=by
 refine leaves_cons (f:=clo) (args:=#[p]) hu ck (h.mono fun e u' w' hq=>?_);obtain⟨rfl,hq⟩:=hq;obtain⟨v,rfl,hl⟩:=hk e w' hq;simp only[hset];exact hl
section
variable {P:Program} {T:Tab} {N:Nat} {f:FuncId} {fn:Func} {i0 i1 i2:Nat} {bz aZ:Array Oper} {o1 o2:Oper} {args:List V} {res:V} {eo ra1 eS:RA} {st1 st2 st3:St} {bP cV gc obl3:List Prop} {k r clo:Nat} {fa fb:Nat->C} {l0 l1:List C}
theorem Zmo.def0(hT:Zqq P T)(hf:P.funcs[f]?=some fn)(hb:fn.body=some (.seq (.region i0 bz false) (.seq (.region i1 #[o1,o2] false) (.seq (.region i2 aZ false) .ret))))
  (hn : (fn.name == "runtime.NumGoroutine") = false) (hN : fn.ntmps = N) (hl : Nat.ble args.length N = true)
  (e0:Zll P N T bz eo 0 bz.toList (St.init args)=some (st1,bP)) (p0:Obl bP) (e1:Zlg P N T #[o1,o2] ra1 0 o1 st1=some (st2,cV)) (p1:Obl cV)
  (hk:st2.get k=.one (.clo (.func clo) 0 1 fa fb)) (dP:fb 0=.ptr r 0) (hr:st2.get r=.one (.ptr r 0)) (f7:o2.dst=none) (f9:o2.guard=none)
  (ga:∀(ρ:Operand->Value) w p,ρ (.tmp k)=.func (.func clo) #[] #[p]->(execOp ρ o2).run P w=.ok (.defer { target:=.fn (.func clo) #[p],args:=#[] }) w)
  (gb:aZ.toList.all (fun o=>Zmm o.dst (some r))=true)
  (h:∀S0 w0 a w p,Zcq N S0 w0 st2 a w->a.tmps.getD r undef=p->wpList P aZ (fun e a' w'=>e=.outgrown\/a'.tmps.getD r undef=p->bodyPostD P fn (Post S0 w0 res) (match e with | .normal=>.ret|e=>e) (more [{ target:=.fn (.func clo) #[p],args:=#[] }] a') w') aZ.toList a w):Zmo P f args res:=by
 refine Zmo.ofD hf hb hn hN hl fun S0 w0=>?_;refine ZwI (ZtV hT.1 e0 (Zdx p0.all) (ZwI ?_));intro a w hs;refine wp_region_list ?_;show wpList P _ _ [o1,o2] a w;refine wpList_step fun K hK=>ZlF hT.1 hs e1 (Zdx p1.all) fun a' w' bW=>hK _ _ ?_;obtain⟨S,m,br,hg⟩:=bW;have lg:=br.env k;rw[hk]at lg;have lh:=br.env r;rw[hr]at lh;obtain⟨p,hp,iR⟩ : ∃p,a'.tmps.getD k undef=.func (.func clo) #[] #[p]/\p=a'.tmps.getD r undef:=by
  generalize hz:a'.tmps.getD k undef=z at lg;generalize hy:a'.tmps.getD r undef=y at lh;obtain⟨xs,ys,rfl,e1,e2,hb⟩:=ZHL lg;have gJ:xs = #[]:=by apply Array.eq_empty_of_size_eq_zero;omega
  match ys,e2,hb with
  | ⟨[q]⟩,_,hb=>
   subst gJ;refine⟨q,rfl,?_⟩;have h0:=hb 0 (by simp);rw[dP]at h0;have hq:(#[q]:Array Value).getD 0 undef=q:=rfl;rw[hq]at h0;cases h0 with
   |ptr hm=>
    cases lh with
    |ptr hm'=>rw[hm]at hm';cases hm';rfl
 refine wpList_step fun K hK=>?_;rw[if_pos (by simp[Region.wanted,f9])];have hd:(execOp a'.eval o2).run P w'=.ok (.defer { target:=.fn (.func clo) #[p],args:=#[] }) w':=ga _ _ _ (by simpa[Act.eval]using hp);unfold Oper.wp;rw[hd];simp only[Oper.upon];refine hK _ _ ?_;have iS:=br.defers;have dQ:({ a' with defers:={ target:=.fn (.func clo) #[p],args:=#[] } :: a'.defers }:Act).put o2.dst undef=more [{ target:=.fn (.func clo) #[p],args:=#[] }] a':=by
  rw[f7,iS];simp[Act.put,more,iS]
 rw[dQ];show (Code.seq (.region i2 aZ false) .ret).wp P _ _ w';refine wp_seq (wp_region_list ?_);refine ZqJ (Q:=fun e ku dl=>(e=.outgrown\/ku.tmps.getD r undef=p->bodyPostD P fn (Post S0 w0 res) (match e with | .normal=>.ret|e=>e) (more [{ target:=.fn (.func clo) #[p],args:=#[] }] ku) dl)/\(e=.outgrown\/ku.tmps.getD r undef=p)) (fun e ku dl hq=>?_) _ _ _
  (ZqI _ _ _ (fun o ho=>?_) iR.symm (h S0 w0 a' w' p ⟨S,m,br,hg⟩ iR.symm))
 ·have hq:=hq.1 hq.2;cases e with
  |normal=>exact wp_ret hq
  |_=>exact hq
 ·have:=List.all_eq_true.1 gb o ho;intro e;rw[e]at this;simp[Zmm]at this
theorem Zmo.defRet(hT:Zqq P T)(hf:P.funcs[f]?=some fn)(hb:fn.body=some (.seq (.region i0 bz false) (.seq (.region i1 #[o1,o2] false) (.seq (.region i2 aZ false) .ret))))
  (hn : (fn.name == "runtime.NumGoroutine") = false) (hN : fn.ntmps = N) (hl : Nat.ble args.length N = true)
  (e0:Zll P N T bz eo 0 bz.toList (St.init args)=some (st1,bP)) (p0:Obl bP) (e1:Zlg P N T #[o1,o2] ra1 0 o1 st1=some (st2,cV)) (p1:Obl cV)
  (hk:st2.get k=.one (.clo (.func clo) 0 1 fa fb)) (dP:fb 0=.ptr r 0) (hr:st2.get r=.one (.ptr r 0)) (f7:o2.dst=none) (f9:o2.guard=none)
  (ga:∀(ρ:Operand->Value) w p,ρ (.tmp k)=.func (.func clo) #[] #[p]->(execOp ρ o2).run P w=.ok (.defer { target:=.fn (.func clo) #[p],args:=#[] }) w)
  (gb:aZ.toList.all (fun o=>Zmm o.dst (some r))=true) (ck:∀p w,(invoke (.fn (.func clo) #[p]) #[]).run P w=.ok (.enter clo #[p]) w) (ib:Nat.blt r ZiV=true) (f6:Nat.blt r N=true)
  (e2:Zll P N T aZ eS 0 aZ.toList st2=some (st3,gc)) (p2:Obl gc) (lj:st3.get r=.one (.ptr r 0)) (hb3:hget st3.heap r=some (.box l0)) (ic:l0.all C.pure=true)
  (hc:ZAf P clo l0 none l1) (bq:ZqU T ⟨[(r,.one (.ptr r 0))],[(r,.box l1)]⟩ fn.results.toList=some res) (eR:l1.all C.pure=true) (bH:res.pure=true):Zmo P f args res:=by
 refine Zmo.def0 hT hf hb hn hN hl e0 p0 e1 p1 hk dP hr f7 f9 ga gb fun S0 w0 a w p hs hp=>?_;refine Ztp hT.1 hs e2 (Zdx p2.all) fun a' w' bW cd=>?_;obtain⟨S,m,br,hg⟩:=bW;have cd:a'.tmps.getD r undef=p:=cd.resolve_left (fun e=>by cases e);have hB:=br.heap r _ hb3;have hO:=br.own r _ hb3;have jj:m r=p:=by
  have h1:=br.env r;rw[lj,cd]at h1;cases h1 with
  |ptr hm=>exact hm
 rw[jj]at hB hO;have iS:=br.defers;show Leaves P fn (more _ a').tmps (Post S0 w0 res) (more _ a').defers .returning w';have ht:(more [{ target:=.fn (.func clo) #[p],args:=#[] }] a').defers=[{ target:=.fn (.func clo) #[p],args:=#[] }]:=by simp[more,iS]
 rw[ht];obtain⟨b,bd,t,q1,q2,q3⟩:=hB;have hrep:ZjD w0.F.no S ⟨fun _=>p,fun _=>False⟩ [(100000,.box l0)] w':=ZjD.one ⟨b,bd,t,q1,q2,q3.anyM _ ic⟩ hO rfl (fun b h=>h.elim);refine ZvB (by simp) rfl (ck p w') (hc w0.F.no S ⟨fun _=>p,fun _=>False⟩ w' br.dom br.base_le hrep) fun e dl hq=>?_;exact door hT.1 br.size ib f6 br.base_le hg (m1:=⟨fun _=>p,fun _=>False⟩) cd.symm (fun b hb=>br.len.2 b (by rw[br.len.1];exact hb)) bq eR bH hq
theorem Zmo.defPan{dE post:List Oper}{o:Oper}{c:Callee}{cargs:Array Operand}{bj:Array TypeId}{pa:PA}{an:Option Ans}
  (hT:Zqq P T) (hf:P.funcs[f]?=some fn) (hb:fn.body=some (.seq (.region i0 bz false) (.seq (.region i1 #[o1,o2] false) (.seq (.region i2 aZ false) .ret))))
  (hn : (fn.name == "runtime.NumGoroutine") = false) (hN : fn.ntmps = N) (hl : Nat.ble args.length N = true)
  (e0:Zll P N T bz eo 0 bz.toList (St.init args)=some (st1,bP)) (p0:Obl bP) (e1:Zlg P N T #[o1,o2] ra1 0 o1 st1=some (st2,cV)) (p1:Obl cV)
  (hk:st2.get k=.one (.clo (.func clo) 0 1 fa fb)) (dP:fb 0=.ptr r 0) (hr:st2.get r=.one (.ptr r 0)) (f7:o2.dst=none) (f9:o2.guard=none)
  (ga:∀(ρ:Operand->Value) w p,ρ (.tmp k)=.func (.func clo) #[] #[p]->(execOp ρ o2).run P w=.ok (.defer { target:=.fn (.func clo) #[p],args:=#[] }) w)
  (gb:aZ.toList.all (fun o=>Zmm o.dst (some r))=true) (ck:∀p w,(invoke (.fn (.func clo) #[p]) #[]).run P w=.ok (.enter clo #[p]) w) (ib:Nat.blt r ZiV=true) (f6:Nat.blt r N=true)
  (gG:aZ.toList=dE++o :: post) (e2:Zll P N T aZ eS 0 dE st2=some (st3,gc)) (p2:Obl gc) (lj:st3.get r=.one (.ptr r 0)) (hb3:hget st3.heap r=some (.box l0)) (ic:l0.all C.pure=true)
  (ho:o.op=.call { callee:=c,args:=cargs,argTypes:=bj }) (bY:o.guard=none) (e3:Zsq P N ⟨st3.env,hdel st3.heap r⟩ c cargs.toList pa an=some obl3) (p3:Obl obl3)
  (hc:ZAf P clo l0 (some pa.pv) l1) (bq:ZqU T ⟨[(r,.one (.ptr r 0))],[(r,.box l1)]⟩ fn.results.toList=some res) (eR:l1.all C.pure=true) (bH:res.pure=true):Zmo P f args res:=by
 refine Zmo.def0 hT hf hb hn hN hl e0 p0 e1 p1 hk dP hr f7 f9 ga gb fun S0 w0 a w p hs hp=>?_;rw[gG];refine Zxw hT.1 hs e2 (Zdx p2.all) fun a' w' bW=>?_;obtain⟨S,m,br,hg⟩:=bW;refine wpList_step fun K hK=>?_;rw[if_pos (by simp[Region.wanted,bY])];obtain⟨jk,aw1,aw2,aw3⟩:=br.away hb3;refine ZvI (w0:=⟨w',⟨ZyH m st3.heap r w',w0.F.pin⟩⟩) (S0:=S) jk (Goes.refl _ _ _) ho e3 (Zdx p3.all) fun x dl S' h1 h2 h3 cd=>?_;have cd:a'.tmps.getD r undef=p:=cd.resolve_left (fun e=>by cases e);have hB:=br.heap r _ hb3;have hO:=br.own r _ hb3;have jj:m r=p:=by
  have h1:=br.env r;rw[lj,cd]at h1;cases h1 with
  |ptr hm=>exact hm
 rw[jj]at hB hO;have iS:=br.defers;show Leaves P fn (more _ a').tmps (Post S0 w0 res) (more _ a').defers (.panicking _) dl;have ht:(more [{ target:=.fn (.func clo) #[p],args:=#[] }] a').defers=[{ target:=.fn (.func clo) #[p],args:=#[] }]:=by simp[more,iS]
 rw[ht];obtain⟨b,bd,t,q1,q2,q3⟩:=hB;have ie:blk p=some b:=by rw[q1];rfl
 have cX:Zgw S w' dl:=fun b' aF=>h1.below.block b' (aw2 b' aF);have hrep:ZjD w0.F.no S' ⟨fun _=>p,fun _=>False⟩ [(100000,.box l0)] dl:=by
  refine ZjD.one ⟨b,bd,t,q1,?_,(q3.anyM _ ic).keepL cX h1.sub (fun b h=>h.elim)⟩ (fun k hk=>?_) rfl (fun b h=>h.elim)
  ·rw[h1.below.block b (aw3 b (by rw[jj];exact ie))];exact q2
  ·obtain⟨f1,f2,f3⟩:=hO k hk;refine⟨fun hs=>?_,f2,Nat.lt_of_lt_of_le f3 h1.below.size⟩;rcases h1.sup k hs with hs|hs
   ·exact f1 hs
   ·exact hs (aw3 k (by rw[jj];exact hk))
 have jl:Goes w0.F.no S0 S' w0.w dl:=hg.step (h1.below.mono fun k hk=>aw1 k hk) h1.sub fun b hb=>(h1.sup b hb).imp id fun h e=>h (aw1 b e);have bG:∀k,w0.F.no k->k<dl.heap.size:=fun k hk=>Nat.lt_of_lt_of_le (br.base_le k hk) h1.below.size;refine ZvB (by simp) rfl (ck p dl) (hc w0.F.no S' ⟨fun _=>p,fun _=>False⟩ dl h2 bG hrep x h3) fun e w3 hq=>?_;exact door hT.1 br.size ib f6 bG jl (m1:=⟨fun _=>p,fun _=>False⟩) cd.symm (fun b hb=>br.len.2 b (by rw[br.len.1];exact hb)) bq eR bH hq
end
def ZDx(v:V)(r:Nat):Bool:=match v with
 | .one (.ptr a b)=>Nat.beq a r&&Nat.beq b 0
 |_=>false
theorem Zta{v:V}{r:Nat}(h:ZDx v r=true):v=.one (.ptr r 0):=by
 unfold ZDx at h;split at h
 ·simp only[Bool.and_eq_true]at h;rw[ZaO h.1,ZaO h.2]
 ·cases h
def ZHv(v:V)(clo r:Nat):Bool:=match v with
 | .one (.clo (.func c) na nb _ b)=>Nat.beq c clo&&Nat.beq na 0&&Nat.beq nb 1&&ZDx (.one (b 0)) r
 |_=>false
theorem ZAL{v:V}{clo r:Nat}(h:ZHv v clo r=true):∃fa fb,v=.one (.clo (.func clo) 0 1 fa fb)/\fb 0=.ptr r 0:=by
 unfold ZHv at h;split at h
 ·rename_i c na nb a b;simp only[Bool.and_eq_true]at h;obtain⟨⟨⟨h1,h2⟩,h3⟩,h4⟩:=h;have h5:=Zta h4;rw[ZaO h1,ZaO h2,ZaO h3];exact⟨a,b,rfl,by injection h5⟩
 ·cases h
def ZFY(st:St)(r:Nat):Option (List C):=match ZDx (st.get r) r,hget st.heap r with
 |true,some (.box l)=>match l.all C.pure with
  |true=>some l
  |false=>none
 |_,_=>none
theorem ZBa{st:St}{r:Nat}{l:List C}(h:ZFY st r=some l):st.get r=.one (.ptr r 0)/\hget st.heap r=some (.box l)/\l.all C.pure=true:=by
 unfold ZFY at h;split at h
 ·rename_i l' h1 h2;split at h
  ·rename_i h3;cases h;exact⟨Zta h1,h2,h3⟩
  ·cases h
 ·cases h
def Zwa(P:Program)(N:Nat)(T:Tab)(bz eT:Array Oper)(o1:Oper)(eo ra1:RA)(args:List V)(k r clo:Nat):Option (St×List Prop):=match Zll P N T bz eo 0 bz.toList (St.init args)with
 |some (st1,ob0)=>match Zlg P N T eT ra1 0 o1 st1 with
  |some (st2,ob1)=>match ZHv (st2.get k) clo r&&ZDx (st2.get r) r with
   |true=>some (st2,ob0++ob1)
   |false=>none
  |none=>none
 |none=>none
def ZCO(P:Program)(N:Nat)(T:Tab)(bz eT aZ:Array Oper)(o1:Oper)(eo ra1 eS:RA)(args:List V)(k r clo:Nat):Option (List C×List Prop):=match Zwa P N T bz eT o1 eo ra1 args k r clo with
 |some (st2,ob1)=>match Zll P N T aZ eS 0 aZ.toList st2 with
  |some (st3,ob2)=>match ZFY st3 r with
   |some l=>some (l,ob1++ob2)
   |none=>none
  |none=>none
 |none=>none
def ZCP(P:Program)(N:Nat)(T:Tab)(bz eT aZ:Array Oper)(o1:Oper)(eo ra1 eS:RA)(args:List V)(k r clo i:Nat)(pa:PA):Option (List C×List Prop):=match Zwa P N T bz eT o1 eo ra1 args k r clo with
 |some (st2,ob1)=>match Zll P N T aZ eS 0 (aZ.toList.take i) st2,aZ.toList[i]? with
  |some (st3,ob2),some o=>match ZFY st3 r,o.guard,o.op with
   |some l,none,.call { callee:=c,args:=cargs,.. }=>match Zsq P N ⟨st3.env,hdel st3.heap r⟩ c cargs.toList pa (ZdL eS.an i)with
    |some ob3=>some (l,ob1++(ob2++ob3))
    |none=>none
   |_,_,_=>none
  |_,_=>none
 |none=>none
theorem Obl.of:∀{l:List Prop},(∀q∈l,q)->Obl l
 | [],_=>.n
 |p :: l,h=>.c (h p List.mem_cons_self) (Obl.of fun q hq=>h q (List.mem_cons_of_mem _ hq))
theorem Obl.left{a b:List Prop}(h:Obl (a++b)):Obl a:=Obl.of fun q hq=>Zdx h.all q (List.mem_append.2 (.inl hq))
theorem Obl.right{a b:List Prop}(h:Obl (a++b)):Obl b:=Obl.of fun q hq=>Zdx h.all q (List.mem_append.2 (.inr hq))
section
variable {P:Program} {T:Tab} {N:Nat} {f:FuncId} {fn:Func} {i0 i1 i2:Nat} {bz aZ:Array Oper} {o1 o2:Oper} {args:List V} {res:V} {obl:List Prop} {k r clo:Nat} {l0 l1:List C}
theorem Zmo.defR(eo ra1 eS:RA)(k r clo:Nat)(hT:Zqq P T)(hf:P.funcs[f]?=some fn)(hb:fn.body=some (.seq (.region i0 bz false) (.seq (.region i1 #[o1,o2] false) (.seq (.region i2 aZ false) .ret))))
  (hn : (fn.name == "runtime.NumGoroutine") = false) (hN : fn.ntmps = N) (hl : Nat.ble args.length N = true) (f7 : o2.dst = none) (f9 : o2.guard = none)
  (ga:∀(ρ:Operand->Value) w p,ρ (.tmp k)=.func (.func clo) #[] #[p]->(execOp ρ o2).run P w=.ok (.defer { target:=.fn (.func clo) #[p],args:=#[] }) w)
  (gb:aZ.toList.all (fun o=>Zmm o.dst (some r))=true) (ck:∀p w,(invoke (.fn (.func clo) #[p]) #[]).run P w=.ok (.enter clo #[p]) w) (ib:Nat.blt r ZiV=true) (f6:Nat.blt r N=true)
  (ho:Obl obl) (h:ZCO P N T bz #[o1,o2] aZ o1 eo ra1 eS args k r clo=some (l0,obl))
  (hc:ZAf P clo l0 none l1) (bq:ZqU T ⟨[(r,.one (.ptr r 0))],[(r,.box l1)]⟩ fn.results.toList=some res) (eR:l1.all C.pure=true) (bH:res.pure=true):Zmo P f args res:=by
 unfold ZCO Zwa at h;split at h;rotate_left
 ·cases h
 rename_i st2 ob1 h0;split at h0;rotate_left
 ·cases h0
 rename_i st1 oa e0;split at h0;rotate_left
 ·cases h0
 rename_i aN ob e1;split at h0;rotate_left
 ·cases h0
 rename_i hq;cases h0;simp only[Bool.and_eq_true]at hq;obtain⟨fa,fb,hk,dP⟩:=ZAL hq.1;split at h;rotate_left
 ·cases h
 rename_i st3 ob2 e2;split at h;rotate_left
 ·cases h
 rename_i l ic;cases h;obtain⟨q1,q2,q3⟩:=ZBa ic;exact Zmo.defRet hT hf hb hn hN hl e0 ho.left.left e1 ho.left.right hk dP (Zta hq.2) f7 f9 ga gb ck ib f6 e2 ho.right q1 q2 q3 hc bq eR bH
theorem Zmo.defP(eo ra1 eS:RA)(k r clo i:Nat)(pa:PA)(hT:Zqq P T)(hf:P.funcs[f]?=some fn)(hb:fn.body=some (.seq (.region i0 bz false) (.seq (.region i1 #[o1,o2] false) (.seq (.region i2 aZ false) .ret))))
  (hn : (fn.name == "runtime.NumGoroutine") = false) (hN : fn.ntmps = N) (hl : Nat.ble args.length N = true) (f7 : o2.dst = none) (f9 : o2.guard = none)
  (ga:∀(ρ:Operand->Value) w p,ρ (.tmp k)=.func (.func clo) #[] #[p]->(execOp ρ o2).run P w=.ok (.defer { target:=.fn (.func clo) #[p],args:=#[] }) w)
  (gb:aZ.toList.all (fun o=>Zmm o.dst (some r))=true) (ck:∀p w,(invoke (.fn (.func clo) #[p]) #[]).run P w=.ok (.enter clo #[p]) w) (ib:Nat.blt r ZiV=true) (f6:Nat.blt r N=true)
  (ho:Obl obl) (h:ZCP P N T bz #[o1,o2] aZ o1 eo ra1 eS args k r clo i pa=some (l0,obl))
  (hc:ZAf P clo l0 (some pa.pv) l1) (bq:ZqU T ⟨[(r,.one (.ptr r 0))],[(r,.box l1)]⟩ fn.results.toList=some res) (eR:l1.all C.pure=true) (bH:res.pure=true):Zmo P f args res:=by
 unfold ZCP Zwa at h;split at h;rotate_left
 ·cases h
 rename_i st2 ob1 h0;split at h0;rotate_left
 ·cases h0
 rename_i st1 oa e0;split at h0;rotate_left
 ·cases h0
 rename_i aN ob e1;split at h0;rotate_left
 ·cases h0
 rename_i hq;cases h0;simp only[Bool.and_eq_true]at hq;obtain⟨fa,fb,hk,dP⟩:=ZAL hq.1;split at h;rotate_left
 ·cases h
 rename_i st3 ob2 o e2 dm;split at h;rotate_left
 ·cases h
 rename_i l c cargs bj ic bY bQ;split at h;rotate_left
 ·cases h
 rename_i ob3 e3;cases h;obtain⟨q1,q2,q3⟩:=ZBa ic;have hlt:i<aZ.toList.length:=by
  rcases Nat.lt_or_ge i aZ.toList.length with h|h
  ·exact h
  ·rw[List.getElem?_eq_none h]at dm;cases dm
 have gG:aZ.toList=aZ.toList.take i++o :: aZ.toList.drop (i+1):=by
  have e:aZ.toList[i]=o:=by rw[List.getElem?_eq_getElem hlt]at dm;exact Option.some.inj dm
  rw[<-e,<-List.drop_eq_getElem_cons hlt,List.take_append_drop]
 exact Zmo.defPan hT hf hb hn hN hl e0 ho.left.left e1 ho.left.right hk dP (Zta hq.2) f7 f9 ga gb ck ib f6 gG e2 ho.right.left q1 q2 q3 bQ bY e3 ho.right.right hc bq eR bH
end
end Go.Proofs.YtdjfoojllbfcgaaGreat
