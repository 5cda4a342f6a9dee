import Derived.Test.YtnigiacmmedkhaaGreatGAmA
namespace Go.Proofs.YtnigiacmmedkhaaGreat
open Go.RowKit
set_option linter.unusedSimpArgs false
set_option linter.unusedVariables false
def C.pure:C->Bool | .ptr _ _ | .osl _ _ | .eptr _ _ _ _ | .osub _ _ _ _ _ | .mp _ | .lsl _ _ _ | .lrp _ _=>false | .clo _ na nb a b=>(List.range na).all (fun i=>(a i).pure)&&(List.range nb).all (fun i=>(b i).pure) | .ifc _ c=>c.pure | .ifa _ n c=>(List.range n).all fun i=>(c i).pure | .agv n c=>(List.range n).all fun i=>(c i).pure|_=>true
theorem RepC.anyM{S:Nat->Prop}{w:World}{m:Mp}{c:C}{x:Value}(h:RepC S w m c x)(m':Mp):c.pure=true->RepC S w m' c x:=by
 induction h with
 |lit=>exact fun _=>.lit
 |sl b off vals hcap ha hc h1 hr ih=>exact fun _=>.sl b off vals hcap ha hc h1 hr
 |rpn=>exact fun _=>.rpn
 |rp b off vals ha hc h1 hr ih=>exact fun _=>.rp b off vals ha hc h1 hr
 |ptr h=>exact fun hs=>by simp[C.pure]at hs
 |osl h h0=>exact fun hs=>by simp[C.pure]at hs
 |eptr h=>exact fun hs=>by simp[C.pure]at hs
 |osub h=>exact fun hs=>by simp[C.pure]at hs
 |mp h=>exact fun hs=>by simp[C.pure]at hs
 |lsl b off vals hcap ha hc h1 hr=>exact fun hs=>by simp[C.pure]at hs
 |lrp b off vals ha hc h1 hr=>exact fun hs=>by simp[C.pure]at hs
 |clo xs ys ha hb iha ihb=>
  intro hs;simp only[C.pure,Bool.and_eq_true,List.all_eq_true,List.mem_range]at hs;exact .clo xs ys (fun i hi=>iha i hi (hs.1 i hi)) (fun i hi=>ihb i hi (hs.2 i hi))
 |ifc h ih=>exact fun hs=>.ifc (ih hs)
 |ifa xs h1 h ih=>
  intro hs;simp only[C.pure,List.all_eq_true,List.mem_range]at hs;exact .ifa xs h1 (fun i hi=>ih i hi (hs i hi))
 |agv xs h1 h ih=>
  intro hs;simp only[C.pure,List.all_eq_true,List.mem_range]at hs;exact .agv xs h1 (fun i hi=>ih i hi (hs i hi))
 |junk=>exact fun _=>.junk
theorem RepC.ofNone{S:Nat->Prop}{w:World}{c:C}{x:Value}{m0:Mp}(h:RepC S w m0 c x)(m:Mp):m0=ZcK->RepC S w m c x:=by
 induction h with
 |lit=>exact fun _=>.lit
 |sl b off vals hcap ha hc h1 hr ih=>exact fun _=>.sl b off vals hcap ha hc h1 hr
 |rpn=>exact fun _=>.rpn
 |rp b off vals ha hc h1 hr ih=>exact fun _=>.rp b off vals ha hc h1 hr
 |ptr h=>rintro rfl;simp[ZcK]at h
 |osl h h0=>rintro rfl;simp[ZcK]at h
 |eptr h=>rintro rfl;simp[ZcK]at h
 |osub h=>rintro rfl;simp[ZcK]at h
 |mp h=>rintro rfl;simp[ZcK]at h
 |lsl b off vals hcap ha hc h1 hr=>exact fun e=>.lsl b off vals hcap (fun hl=>by subst e;exact(ha hl).2.elim) hc h1 hr
 |lrp b off vals ha hc h1 hr=>exact fun e=>by subst e;exact ha.elim
 |clo xs ys ha hb iha ihb=>exact fun e=>.clo xs ys (fun i hi=>iha i hi e) (fun i hi=>ihb i hi e)
 |ifc h ih=>exact fun e=>.ifc (ih e)
 |ifa xs h1 h ih=>exact fun e=>.ifa xs h1 (fun i hi=>ih i hi e)
 |agv xs h1 h ih=>exact fun e=>.agv xs h1 (fun i hi=>ih i hi e)
 |junk=>exact fun _=>.junk
theorem RepC.keepM{S:Nat->Prop}{w:World}{c:C}{x:Value}(h:RepC S w ZcK c x){m:Mp}:RepC S w m c x:=h.ofNone m rfl
theorem RepL.anyM{S:Nat->Prop}{w:World}{m:Mp}{l:List C}{xs:List Value}(h:RepL S w m l xs)(m':Mp)(hp:l.all C.pure=true):RepL S w m' l xs:=
 ⟨h.1,fun j c hc=>by
  obtain⟨x,h1,h2⟩:=h.2.1 j c hc
  exact⟨x,h1,h2.anyM m' (List.all_eq_true.1 hp c (List.mem_of_getElem? hc))⟩,h.2.2⟩
def V.pure:V->Bool | .one c=>c.pure | .agg l=>l.all C.pure | .tup l=>l.all fun p=>p.2.all C.pure
theorem RepV.anyM{S:Nat->Prop}{w:World}{m:Mp}{v:V}{x:Value}(h:RepV S w m v x)(m':Mp)(hp:v.pure=true):RepV S w m' v x:=by
 cases v with
 |one c=>exact RepC.anyM h m' hp
 |agg l=>obtain⟨xs,h1,h2⟩:=h;exact⟨xs,h1,h2.anyM m' hp⟩
 |tup l=>
  obtain⟨xs,h1,h2,h3⟩:=h;refine⟨xs,h1,h2,fun j p hj=>?_⟩;have hq:=List.all_eq_true.1 hp p (List.mem_of_getElem? hj);obtain⟨y,h4,h5⟩:=h3 j p hj;refine⟨y,h4,?_⟩;obtain⟨b,cs⟩:=p
  match b,cs,h5,hq with
  |true,cs,h5,hq=>obtain⟨ys,h6,h7⟩:=h5;exact⟨ys,h6,h7.anyM m' hq⟩
  |false,[c],h5,hq=>exact RepC.anyM h5 m' (by simpa using hq)
  |false,[],_,_=>trivial
  |false,_ :: _ :: _,_,_=>trivial
theorem Zrk{e:TypeId}{sz:Nat}{v:Value}{n:Nat}{xs:List Value}{w w':World}(h:w.ownsRow 0 e sz v n xs)(hb:∀k,blk v=some k->w'.heap[k]?=w.heap[k]?):w'.ownsRow 0 e sz v n xs:=by
 obtain⟨h1,h2⟩:=h;refine⟨h1,?_⟩;rcases h2 with h2|⟨g,cap,cur,rfl,r1,r2,r3⟩
 .exact .inl h2
 .exact .inr ⟨g,cap,cur,rfl,r1,by rw[hb g rfl];exact r2,r3⟩
theorem RepB.keepL{S S':Nat->Prop}{w w':World}{m:Mp}{mb:Value}{b:B}(h:RepB S w m mb b)(hw:Zgs S w w')(hS:∀b,S b->S' b)(hL:Zgs m.L w w')(hb:∀k,blk mb=some k->w'.heap[k]?=w.heap[k]?) :
  RepB S' w' m mb b:=by
 cases b with
 |box l=>
  obtain⟨b,a8,t,rfl,h2,h3⟩:=h;exact⟨b,a8,t,rfl,by rw[hb b rfl];exact h2,h3.keepL hw hS hL⟩
 |rows e sz len c=>
  obtain⟨xs,h1,h2,h3⟩:=h;exact⟨xs,Zrk h1 hb,fun i j hi hj=>by obtain⟨x,h4,h5⟩:=h2 i j hi hj;exact⟨x,h4,h5.keep hw hS⟩,h3⟩
 |map kt l=>
  obtain⟨b,es,am,rfl,h2,h3,h4⟩:=h;exact⟨b,es,am,rfl,by rw[hb b rfl];exact h2,h3.keep hw hS,h4⟩
 |hole e len c k x=>
  obtain⟨xs,h1,h2,h3⟩:=h;exact⟨xs,Zrk h1 hb,fun i hi=>by obtain⟨y,h4,h5,h6⟩:=h2 i hi;exact⟨y,h4,fun e=>(h5 e).keep hw hS,fun e=>(h6 e).keepL hw hS hL⟩,h3⟩
theorem Sim.grow{N:Nat}{F:Keep}{S S':Nat->Prop}{m:Mp}{st:St}{a:Act}{w w':World}(h:Sim N F S m st a w)(aU:w.heap.size<=w'.heap.size)(hk:∀k,k<w.heap.size->w'.heap[k]?=w.heap[k]?)
  (hS:∀b,S b->S' b) (hS':∀b,S' b->S b\/(w.heap.size<=b/\b<w'.heap.size)):Sim N F S' m st a w':=by
 have hw:Zgs S w w':=fun b hb=>hk b (h.dom b hb);have hL:Zgs m.L w w':=fun b hb=>hk b (h.base_le b (h.len.2 b hb));refine⟨h.size,fun t=>(h.env t).keepL hw hS hL,h.far,fun id b hb=>(h.heap id b hb).keepL hw hS hL fun k hk'=>hk k (h.own id b hb k hk').2.2,fun id b hb k hk'=>?_,h.inj,fun b hb=>?_,h.defers,fun k hk=>Nat.lt_of_lt_of_le (h.base_le k hk) aU,h.pin,h.len⟩
 .obtain⟨h1,h2,h3⟩:=h.own id b hb k hk';refine⟨fun hs=>?_,h2,by omega⟩;rcases hS' k hs with hs|hs
  .exact h1 hs
  .omega
 .rcases hS' b hb with hs|hs
  .have:=h.dom b hs;omega
  .exact hs.2
theorem Sim.write{N:Nat}{F:Keep}{S:Nat->Prop}{m:Mp}{st:St}{a:Act}{w w':World}(h:Sim N F S m st a w){id:Nat}{b0:B}(b1:B)(hb:hget st.heap id=some b0)(aU:w.heap.size<=w'.heap.size)
  (hk:∀k,k<w.heap.size->blk (m id)≠some k->w'.heap[k]?=w.heap[k]?) (hB:RepB S w' m (m id) b1):Sim N F S m { st with heap:=hset st.heap id b1 } a w':=by
 have hw:Zgs S w w':=fun b hs=>hk b (h.dom b hs) fun e=>(h.own id b0 hb b e).1 hs;have hL:Zgs m.L w w':=fun b hl=>hk b (h.base_le b (h.len.2 b hl)) fun e=>(h.own id b0 hb b e).2.1 (h.len.2 b hl);refine⟨h.size,fun t=>(h.env t).keepL hw (fun _ x=>x) hL,h.far,fun id' b' aN=>?_,fun id' b' aN k hk'=>?_,fun i1 i2 jf b2' hne h1 h2=>?_,fun b hs=>?_,h.defers,fun k hk=>Nat.lt_of_lt_of_le (h.base_le k hk) aU,h.pin,h.len⟩
 .simp only[Zpw]at aN;split at aN
  .rename_i e;subst e;cases aN;exact hB
  .rename_i e;refine(h.heap id' b' aN).keepL hw (fun _ x=>x) hL fun k hk'=>hk k (h.own id' b' aN k hk').2.2 fun e'=>?_;exact h.inj id id' _ _ e hb aN k e' hk'
 .simp only[Zpw]at aN;have:∃b2,hget st.heap id'=some b2:=by
   split at aN
   .rename_i e;subst e;exact⟨_,hb⟩
   .exact⟨_,aN⟩
  obtain⟨b2,bk⟩:=this;obtain⟨h1,h2,h3⟩:=h.own id' b2 bk k hk';exact⟨h1,h2,by omega⟩
 .simp only[Zpw]at h1 h2;have e1:∃b2,hget st.heap i1=some b2:=by
   split at h1
   .rename_i e;subst e;exact⟨_,hb⟩
   .exact⟨_,h1⟩
  have e2:∃b2,hget st.heap i2=some b2:=by
   split at h2
   .rename_i e;subst e;exact⟨_,hb⟩
   .exact⟨_,h2⟩
  obtain⟨_,e1⟩:=e1;obtain⟨_,e2⟩:=e2;exact h.inj i1 i2 _ _ hne e1 e2
 .have:=h.dom b hs;omega
theorem ZFU(f:B->B)(l:List (Nat×B))(t:Nat):hget (l.map fun p=>(p.1,f p.2)) t=(hget l t).map f:=by
 induction l with
 |nil=>rfl
 |cons p r ih=>
  obtain⟨k,v⟩:=p;simp only[List.map_cons,Zbk,ih];split<;>rfl
theorem ZsS{α β:Type}(d:α)(f:α->β)(l:List (Nat×α))(t:Nat):look (f d) (l.map fun p=>(p.1,f p.2)) t=f (look d l t):=by
 induction l with
 |nil=>rfl
 |cons p r ih=>
  obtain⟨k,v⟩:=p;simp only[List.map_cons,Zrp,ih];split<;>rfl
def ZhS(d:Nat):List (Nat×B)->Bool
 | []=>true
 | (k,b) :: r=>match Nat.beq k d,b.says d with
  |false,false=>ZhS d r
  |_,_=>false
def Zid(st:St)(d:Nat):Nat->Bool
 | 0=>Nat.blt d Zpq
 |n+1=>match (st.get n).says d with
  |false=>Zid st d n
  |true=>false
def ZdC(N d:Nat)(st:St):Bool:=match Zid st d N with
 |true=>ZhS d st.heap
 |false=>false
theorem Zpo{st:St}{d:Nat}:∀{n:Nat},Zid st d n=true->∀t,t<n->(st.get t).says d=false
 | 0,_,t,ht=>by omega
 |n+1,h,t,ht=>by
  simp only[Zid]at h
  split at h
  .rename_i hq
   by_cases e:t=n
   .subst e;exact hq
   .exact Zpo h t (by omega)
  .cases h
theorem Ztv{st:St}{d:Nat}:∀{n:Nat},Zid st d n=true->d<Zpq
 | 0,h=>Nat.le_of_ble_eq_true h
 |n+1,h=>by
  simp only[Zid]at h
  split at h
  .exact Ztv h
  .cases h
theorem Ztw{N d:Nat}{st:St}(h:ZdC N d st=true):d<Zpq:=by
 unfold ZdC at h;split at h
 .rename_i hq;exact Ztv hq
 .cases h
theorem ZiD{d:Nat}:∀{l:List (Nat×B)},ZhS d l=true->hget l d=none/\∀id b,hget l id=some b->b.says d=false
 | [],_=>⟨rfl,fun id b h=>by cases h⟩
 | (k,v) :: r,h=>by
  simp only[ZhS]at h
  split at h
  .rename_i h1 h2
   obtain⟨h3,h4⟩:=ZiD h
   have hk:k≠d:=Nat.ne_of_beq_eq_false h1
   refine⟨by rw[Zbk,if_neg hk];exact h3,fun id b hb=>?_⟩
   rw[Zbk]at hb
   split at hb
   .cases hb;exact h2
   .exact h4 id b hb
  .cases h
theorem Sim.quieted{N:Nat}{F:Keep}{S:Nat->Prop}{m:Mp}{st:St}{a:Act}{w:World}(h:Sim N F S m st a w){d:Nat}(hq:ZdC N d st=true) :
  (∀t,(st.get t).says d=false)/\hget st.heap d=none/\∀id b,hget st.heap id=some b->b.says d=false:=by
 unfold ZdC at hq;split at hq
 .rename_i he;refine⟨fun t=>?_,ZiD hq⟩;by_cases ht:t<N
  .exact Zpo he t ht
  .rw[h.far t (by omega)];rfl
 .cases hq
theorem RepB.other{S:Nat->Prop}{w:World}{m m':Mp}{mb:Value}{b:B}{id:Nat}(h:RepB S w m mb b)(hm:∀k,k≠id->m' k=m k)(hL:m'.L=m.L)(hs:b.says id=false):RepB S w m' mb b:=by
 cases b with
 |box l=>
  obtain⟨b,a8,t,rfl,h2,h3⟩:=h;exact⟨b,a8,t,rfl,h2,h3.other m' id hm hL hs⟩
 |rows e sz len c=>exact h
 |map kt l=>exact h
 |hole e len c k x=>
  obtain⟨xs,h1,h2,h3⟩:=h;exact⟨xs,h1,fun i hi=>by obtain⟨y,h4,h5,h6⟩:=h2 i hi;exact⟨y,h4,h5,fun e=>(h6 e).other m' id hm hL hs⟩,h3⟩
def ZtH(l:List (Nat×B)):Option Nat->List (Nat×B)|some i=>hdel l i|none=>l
theorem Sim.renew{N:Nat}{F:Keep}{S:Nat->Prop}{m:Mp}{st:St}{a:Act}{w w':World}(h:Sim N F S m st a w)(d:Nat)(hq:ZdC N d st=true)(x:Value)(b:B)(old:Option Nat)(aU:w.heap.size<=w'.heap.size)
  (hk:∀k,k<w.heap.size->(∀i,old=some i->(∃b0,hget st.heap i=some b0)->blk (m i)≠some k)->w'.heap[k]?=w.heap[k]?)
  (hv:∀k,blk x=some k->¬F.no k/\k<w'.heap.size/\((∃i b0,old=some i/\hget st.heap i=some b0/\blk (m i)=some k)\/w.heap.size<=k))
  (hB:RepB S w' (upd m d x) x b):Sim N F S (upd m d x) { st with heap:=(d,b) :: ZtH st.heap old } a w':=by
 obtain⟨q1,q2,q3⟩:=h.quieted hq;have hm:=Zlf m d x;have hw:Zgs S w w':=fun k hs=>hk k (h.dom k hs) fun i hi ⟨b0,hb0⟩ e=>(h.own i b0 hb0 k e).1 hs;have hL:Zgs m.L w w':=fun k hl=>hk k (h.base_le k (h.len.2 k hl)) fun i hi ⟨b0,hb0⟩ e=>(h.own i b0 hb0 k e).2.1 (h.len.2 k hl);have key:∀{id b'},hget (ZtH st.heap old) id=some b'->hget st.heap id=some b'/\old≠some id:=by
  intro id b' aN;cases old with
  |none=>exact⟨aN,by simp⟩
  |some i=>
   simp only[ZtH,Zlk]at aN;split at aN
   .cases aN
   .rename_i e;exact⟨aN,fun e'=>e (Option.some.inj e')⟩
 have kd:∀{id b'},hget st.heap id=some b'->id≠d:=by
  rintro id b' aN rfl;rw[q2]at aN;cases aN
 refine⟨h.size,fun t=>((h.env t).keepL hw (fun _ y=>y) hL).other _ d hm rfl (q1 t),h.far,fun id b' aN=>?_,fun id b' aN k hk'=>?_,fun i1 i2 b1 b2 hne h1 h2 k b9 hk2=>?_,fun k hs=>?_,h.defers,fun k hk=>Nat.lt_of_lt_of_le (h.base_le k hk) aU,fun id eD=>by rw[hm id (fun e=>by have:=Ztw hq;omega)];exact h.pin id eD,h.len⟩
 .simp only[Zbk]at aN;split at aN
  .rename_i e;subst e;cases aN;rw[ZfL];exact hB
  .obtain⟨aN,ho⟩:=key aN;rw[hm id (kd aN)];refine((h.heap id b' aN).keepL (w':=w') hw (fun _ y=>y) hL fun k hk'=>hk k (h.own id b' aN k hk').2.2 fun i hi ⟨b0,hb0⟩ e'=>?_).other hm rfl (q3 id b' aN);exact h.inj i id _ _ (fun e=>ho (e ▸ hi)) hb0 aN k e' hk'
 .simp only[Zbk]at aN;split at aN
  .rename_i e;subst e;rw[ZfL]at hk';obtain⟨h1,h2,h3⟩:=hv k hk';refine⟨fun hs=>?_,h1,h2⟩;rcases h3 with⟨i,b0,_,hb0,h3⟩|h3
   .exact(h.own i b0 hb0 k h3).1 hs
   .have:=h.dom _ hs;omega
  .obtain⟨aN,ho⟩:=key aN;rw[hm id (kd aN)]at hk';obtain⟨h1,h2,h3⟩:=h.own id b' aN k hk';exact⟨h1,h2,by omega⟩
 .have other:∀{id b'},hget st.heap id=some b'->old≠some id->∀k,blk x=some k->blk (m id)≠some k:=by
   intro id b' aN ho k hk' hk2;obtain⟨h1,h2,h3⟩:=hv k hk';rcases h3 with⟨i,b0,hi,hb0,h3⟩|h3
   .exact h.inj i id _ _ (fun e=>ho (e ▸ hi)) hb0 aN k h3 hk2
   .have:=(h.own id b' aN k hk2).2.2;omega
  simp only[Zbk]at h1 h2;split at h1
  .rename_i e;subst e;rw[ZfL]at b9;split at h2
   .rename_i e2;exact hne e2
   .obtain⟨h2,ho⟩:=key h2;rw[hm i2 (kd h2)]at hk2;exact other h2 ho k b9 hk2
  .obtain⟨h1,ho⟩:=key h1;rw[hm i1 (kd h1)]at b9;split at h2
   .rename_i e2;subst e2;rw[ZfL]at hk2;exact other h1 ho k hk2 b9
   .obtain⟨h2,_⟩:=key h2;rw[hm i2 (kd h2)]at hk2;exact h.inj i1 i2 _ _ hne h1 h2 k b9 hk2
 .have:=h.dom k hs;omega
def B.mapC(f:C->C):B->B | .box l=>.box (l.map f) | .hole e len c k x=>.hole e len c k (f x)|b=>b
def St.map(st:St)(id:Nat)(f:C->C):St:=
 ⟨st.env.map fun p=>(p.1,match p.2 with
  | .one c=>.one (f c)
  | .agg l=>.agg (l.map f)
  | .tup l=>.tup (l.map fun q=>(q.1,q.2.map f))),(hdel st.heap id).map fun p=>(p.1,p.2.mapC f)⟩
theorem RepL.map{S S':Nat->Prop}{w w':World}{m m':Mp}{l:List C}{xs:List Value}{f:C->C}(h:RepL S w m l xs)(hf:∀c x,RepC S w m c x->RepC S' w' m' (f c) x):RepL S' w' m' (l.map f) xs:=by
 refine⟨by simpa using h.1,fun j c hc=>?_,h.2.2⟩;simp only[List.getElem?_map,Option.map_eq_some_iff]at hc;obtain⟨c0,h0,rfl⟩:=hc;obtain⟨x,h1,h2⟩:=h.2.1 j c0 h0;exact⟨x,h1,hf _ _ h2⟩
def frz(id:Nat)(b:B):C->C
 | .osl k n=>match Nat.beq k id,b with
  |true,.rows _ sz len c=>.sl sz len c
  |_,_=>.osl k n
 | .eptr k sz' i off=>.eptr k sz' i off
 | .ptr k off=>match Nat.beq k id,b with
  |true,.box l=>match l.all C.pure with
   |true=>.rp false (l.length-off) fun j=>l.getD (off+j) .junk
   |false=>.ptr k off
  |_,_=>.ptr k off
 | .ifc t c=>match c with
  | .ptr k off=>match Nat.beq k id,b with
   |true,.box l=>match l.all C.pure with
    |true=>.ifc t (.rp false (l.length-off) fun j=>l.getD (off+j) .junk)
    |false=>.ifc t (.ptr k off)
   |_,_=>.ifc t (.ptr k off)
  |c=>.ifc t c
 |c=>c
theorem ZaH{a b:Nat}(h:Nat.beq a b=true):a=b:=Nat.eq_of_beq_eq_true h
theorem Zkh{w:World}{b:Nat}{a8:Array Value}{t:TypeId}{fr:Nat×Nat}(h:w.heap[b]?=some (.cells a8 t fr))(o:Nat):w.cell? ⟨b,o,none⟩=a8[o]?:=by
 simp[World.cell?,h]
theorem ZpU{S:Nat->Prop}{w:World}{e:TypeId}{sz len:Nat}{c:Nat->Nat->C}{m:Mp}{n cap b:Nat}(h:RepB S w m (.slice (some ⟨b,0,none⟩) n cap) (.rows e sz len c)) :
  n=len/\len<=cap/\cap<=maxLen/\0<=b/\b<w.heap.size/\∀i j,i<len->j<sz->∃x,w.cell? ⟨b,i*sz+j,none⟩=some x/\x.oneCell'=true/\RepC S w ZcK (c i j) x:=by
 obtain⟨xs,h1,h2,h3⟩:=h;have bf:=h1;obtain⟨hl,h1⟩:=h1;rcases h1 with⟨h1,_⟩|⟨g,fS,cur,h1,hb,hg,hn,hm,hs,ht⟩
 .cases h1
 .simp only[Value.slice.injEq,Option.some.injEq,Addr.mk.injEq,and_true]at h1;obtain⟨rfl,rfl,rfl⟩:=h1;refine⟨rfl,hn,hm,hb,(Array.getElem?_eq_some_iff.1 hg).1,fun i j hi hj=>?_⟩;obtain⟨x,h4,h5⟩:=h2 i j hi hj;have hlt:i*sz+j<n*sz:=by
   have:(i+1)*sz<=n*sz:=Nat.mul_le_mul_right _ (by omega);rw[Nat.add_mul]at this;omega
  refine⟨x,?_,h3 x (List.mem_of_getElem? h4),h5⟩;rw[Zkh hg];rw[<-ht,List.getElem?_take,if_pos hlt]at h4;rw[<-Array.getElem?_toList];exact h4
theorem ZkC{S:Nat->Prop}{w:World}{e:TypeId}{sz len:Nat}{c:Nat->Nat->C}{m:Mp}{a:Option Addr}{n cap:Nat}(h:RepB S w m (.slice a n cap) (.rows e sz len c)) :
  n=len/\len<=cap/\cap<=maxLen/\((a=none/\n=0/\cap=0)\/∃b,a=some ⟨b,0,none⟩):=by
 obtain⟨xs,⟨hl,h1⟩,h2,h3⟩:=h;rcases h1 with⟨h1,rfl⟩|⟨g,fS,cur,h1,hb,hg,hn,hm,hs,ht⟩
 .cases h1;exact⟨rfl,Nat.le_refl _,by simp[maxLen],.inl ⟨rfl,rfl,rfl⟩⟩
 .simp only[Value.slice.injEq]at h1;obtain⟨rfl,rfl,rfl⟩:=h1;exact⟨rfl,hn,hm,.inr ⟨g,rfl⟩⟩
theorem RepC.of_rows{S S':Nat->Prop}{w:World}{e:TypeId}{sz len:Nat}{c:Nat->Nat->C}{m m':Mp}{v:Value}{n:Nat}(h:RepB S w m v (.rows e sz len c))(hv:∃a cap,v=.slice a n cap)
  (hS:∀b,S b->S' b) (hb:∀k,blk v=some k->S' k):n=len/\RepC S' w m' (.sl sz len c) v:=by
 obtain⟨a,cap,rfl⟩:=hv;obtain⟨rfl,h2,h3,h4⟩:=ZkC h;refine⟨rfl,?_⟩;rcases h4 with⟨rfl,rfl,rfl⟩|⟨b,rfl⟩
 .exact .sl 0 0 (fun _ _=>undef) (Nat.le_refl _) (fun h=>absurd h (by omega)) (fun i j h=>absurd h (by omega)) (fun i j h=>absurd h (by omega)) (fun i j h=>absurd h (by omega))
 .obtain⟨_,_,_,_,_,hc⟩:=ZpU h;have key:∀i j,∃x,i<n->j<sz->w.cell? ⟨b,i*sz+j,none⟩=some x/\x.oneCell'=true/\RepC S w ZcK (c i j) x:=by
   intro i j;by_cases hi:i<n/\j<sz
   .obtain⟨x,hx⟩:=hc i j hi.1 hi.2;exact⟨x,fun _ _=>hx⟩
   .exact⟨undef,fun h1 h2=>absurd ⟨h1,h2⟩ hi⟩
  let vals:Nat->Nat->Value:=fun i j=>(key i j).choose
  have hv:∀i j,i<n->j<sz->w.cell? ⟨b,i*sz+j,none⟩=some (vals i j)/\(vals i j).oneCell'=true/\RepC S w ZcK (c i j) (vals i j):=fun i j=>(key i j).choose_spec;exact .sl b 0 vals h2 (fun _=>⟨rfl,hb b rfl⟩) (fun i j hi hj=>by rw[Nat.zero_add];exact(hv i j hi hj).1) (fun i j hi hj=>(hv i j hi hj).2.1) (fun i j hi hj=>((hv i j hi hj).2.2).keep (fun _ _=>rfl) hS)
theorem RepC.of_box{S S':Nat->Prop}{w:World}{l:List C}{m m':Mp}{b off:Nat}(h:RepB S w m (.pointer (some ⟨b,0,none⟩)) (.box l))(hp:l.all C.pure=true)
  (hS:∀b,S b->S' b) (hb:S' b):RepC S' w m' (.rp false (l.length-off) fun j=>l.getD (off+j) .junk) (.pointer (some ⟨b,off,none⟩)):=by
 obtain⟨b',a8,t,h1,h2,h3⟩:=h;simp only[Value.pointer.injEq,Option.some.injEq,Addr.mk.injEq,and_true]at h1;subst h1;have hl:a8.size=l.length:=by simpa using h3.1
 have hv:∀j,j<l.length-off->a8[off+j]?=some (a8.getD (off+j) undef):=by
  intro j hj;have:off+j<a8.size:=by omega
  simp[Array.getD_eq_getD_getElem?,this]
 refine .rp b off (fun j=>a8.getD (off+j) undef) hb (fun j hj=>?_) (fun j hj=>?_) (fun j hj=>?_)
 .rw[Zkh h2];exact hv j hj
 .exact h3.2.2 _ (by have:=hv j hj;rw[<-Array.getElem?_toList]at this;exact List.mem_of_getElem? this)
 .have hlt:off+j<l.length:=by omega
  have hc:l[off+j]?=some (l.getD (off+j) .junk):=by simp[List.getD_eq_getElem?_getD,hlt]
  obtain⟨x,h4,h5⟩:=h3.2.1 _ _ hc;have h6:=hv j hj;rw[<-Array.getElem?_toList,h4]at h6;cases h6;exact((h5.anyM ZcK (List.all_eq_true.1 hp _ (List.mem_of_getElem? hc))).keep (fun _ _=>rfl) hS)
theorem ZPh{S S':Nat->Prop}{w:World}{m:Mp}{id:Nat}{b:B}(h:RepB S w m (m id) b)(hS:∀b,S b->S' b)(hb:∀k,blk (m id)=some k->S' k)(c:C)(x:Value)(hc:RepC S w m c x) :
  RepC S' w m (frz id b c) x:=by
 have hk:=hc.keepL (w':=w) (S':=S') (fun _ _=>rfl) hS (fun _ _=>rfl);unfold frz;split
 .rename_i k n;split
  .rename_i e sz len cc eD;obtain rfl:=ZaH eD;cases hc with
   |osl hm h0=>
    rw[hm]at h hb;obtain⟨rfl,h2⟩:=RepC.of_rows (m':=m) h ⟨_,_,rfl⟩ hS hb;exact h2
  .exact hk
 .exact hk
 .rename_i k off;split
  .rename_i l eD;split
   .rename_i hp;obtain rfl:=ZaH eD;cases hc with
    |ptr hm=>
     rw[hm]at h hb;exact RepC.of_box h hp hS (hb _ rfl)
   .exact hk
  .exact hk
 .rename_i t c;split
  .rename_i k off;split
   .rename_i l eD;split
    .rename_i hp;obtain rfl:=ZaH eD;cases hc with
     |ifc hc=>
      cases hc with
      |ptr hm=>
       rw[hm]at h hb;exact .ifc (RepC.of_box h hp hS (hb _ rfl))
    .exact hk
   .exact hk
  .exact hk
 .exact hk
def St.freeze(st:St)(id:Nat)(b:B):St:=st.map id (frz id b)
theorem Sim.freeze{N:Nat}{F:Keep}{S:Nat->Prop}{m:Mp}{st:St}{a:Act}{w:World}(h:Sim N F S m st a w){id:Nat}{b:B}(hb:hget st.heap id=some b) :
  Sim N F (fun k=>S k\/blk (m id)=some k) m (st.freeze id b) a w:=by
 have hrep:=h.heap id b hb;have hf:=ZPh hrep (S':=fun k=>S k\/blk (m id)=some k) (fun _ x=>.inl x) (fun _ x=>.inr x);have key:∀{id' b'},hget (st.freeze id b).heap id'=some b'->id≠id'/\∃b2,hget st.heap id'=some b2/\b'=b2.mapC (frz id b):=by
  intro id' b' aN;unfold St.freeze St.map at aN;rw[ZFU (fun b2=>b2.mapC (frz id b)),Zlk]at aN;split at aN
  .cases aN
  .rename_i e;cases hq:hget st.heap id' with
   |none=>simp[hq]at aN
   |some b2=>exact⟨e,b2,rfl,by simpa[hq]using aN.symm⟩
 have he:∀t,(st.freeze id b).get t=(match st.get t with
   | .one c=>.one (frz id b c)
   | .agg l=>.agg (l.map (frz id b))
   | .tup l=>.tup (l.map fun q=>(q.1,q.2.map (frz id b)))):=by
  intro t;unfold St.get St.freeze St.map;exact ZsS (α:=V) (β:=V) (.one .junk) (fun v=>match v with
    | .one c=>.one (frz id b c)
    | .agg l=>.agg (l.map (frz id b))
    | .tup l=>.tup (l.map fun q=>(q.1,q.2.map (frz id b)))) st.env t
 refine⟨h.size,fun t=>?_,fun t ht=>by rw[he,h.far t ht];rfl,fun id' b' aN=>?_,fun id' b' aN k hk'=>?_,fun i1 i2 jf b2' hne h1 h2=>?_,fun k hs=>?_,h.defers,h.base_le,h.pin,h.len⟩
 .rw[he];have h0:=h.env t;cases hg:st.get t with
  |one c=>rw[hg]at h0;exact hf _ _ h0
  |agg l=>rw[hg]at h0;obtain⟨xs,h1,h2⟩:=h0;exact⟨xs,h1,h2.map hf⟩
  |tup l=>
   rw[hg]at h0;obtain⟨xs,h1,h2,h3⟩:=h0;refine⟨xs,h1,by simpa using h2,fun j p hp=>?_⟩;simp only[List.getElem?_map,Option.map_eq_some_iff]at hp;obtain⟨p0,h0,rfl⟩:=hp;obtain⟨y,h4,h5⟩:=h3 j p0 h0;refine⟨y,h4,?_⟩;obtain⟨b,cs⟩:=p0
   match b,cs,h5 with
   |true,cs,h5=>obtain⟨ys,h6,h7⟩:=h5;exact⟨ys,h6,h7.map hf⟩
   |false,[c],h5=>exact hf _ _ h5
   |false,[],_=>trivial
   |false,_ :: _ :: _,_=>trivial
 .obtain⟨e,b2,bk,rfl⟩:=key aN;have h0:=h.heap id' b2 bk;cases b2 with
  |box l=>
   obtain⟨k,a8,t,h1,h2,h3⟩:=h0;exact⟨k,a8,t,h1,h2,h3.map hf⟩
  |rows e sz len c=>exact h0.keepL (fun _ _=>rfl) (fun _ x=>.inl x) (fun _ _=>rfl) fun _ _=>rfl
  |map kt l=>exact h0.keepL (fun _ _=>rfl) (fun _ x=>.inl x) (fun _ _=>rfl) fun _ _=>rfl
  |hole e len c k x=>
   obtain⟨xs,h1,h2,h3⟩:=h0;exact⟨xs,h1,fun i hi=>by obtain⟨y,h4,h5,h6⟩:=h2 i hi;exact⟨y,h4,fun e=>(h5 e).keep (fun _ _=>rfl) (fun _ x=>.inl x),fun e=>hf _ _ (h6 e)⟩,h3⟩
 .obtain⟨e,b2,bk,rfl⟩:=key aN;obtain⟨h1,h2,h3⟩:=h.own id' b2 bk k hk';refine⟨fun hs=>?_,h2,h3⟩;rcases hs with hs|hs
  .exact h1 hs
  .exact h.inj id id' _ _ e hb bk k hs hk'
 .obtain⟨e1,c1,gy,rfl⟩:=key h1;obtain⟨e2,c2,hc2,rfl⟩:=key h2;exact h.inj i1 i2 _ _ hne gy hc2
 .rcases hs with hs|hs
  .exact h.dom k hs
  .exact(h.own id b hb k hs).2.2
end Go.Proofs.YtnigiacmmedkhaaGreat
