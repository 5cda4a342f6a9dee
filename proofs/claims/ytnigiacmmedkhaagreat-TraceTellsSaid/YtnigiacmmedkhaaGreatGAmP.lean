import Derived.Test.YtnigiacmmedkhaaGreatGAmO
namespace Go.Proofs.YtnigiacmmedkhaaGreat
open Go.RowKit
set_option linter.unusedSimpArgs false
set_option linter.unusedVariables false
def C.ren(d id:Nat):C->C
 | .ptr k off=>match Nat.beq k d with
  |true=>.ptr id off
  |false=>.ptr k off
 | .osl k n=>match Nat.beq k d with
  |true=>.osl id n
  |false=>.osl k n
 | .eptr k sz i off=>match Nat.beq k d with
  |true=>.eptr id sz i off
  |false=>.eptr k sz i off
 | .osub k sz lo len n=>match Nat.beq k d with
  |true=>.osub id sz lo len n
  |false=>.osub k sz lo len n
 | .mp k=>match Nat.beq k d with
  |true=>.mp id
  |false=>.mp k
 | .clo fn na nb a b=>match C.says d (.clo fn na nb a b)with
  |true=>.clo fn na nb (fun i=>(a i).ren d id) (fun i=>(b i).ren d id)
  |false=>.clo fn na nb a b
 | .ifc t c=>.ifc t (c.ren d id)
 | .ifa t n c=>match C.says d (.ifa t n c)with
  |true=>.ifa t n fun i=>(c i).ren d id
  |false=>.ifa t n c
 | .agv n c=>match C.says d (.agv n c)with
  |true=>.agv n fun i=>(c i).ren d id
  |false=>.agv n c
 |c=>c
def V.ren(d id:Nat):V->V | .one c=>.one (c.ren d id) | .agg l=>.agg (l.map (C.ren d id)) | .tup l=>.tup (l.map fun p=>(p.1,p.2.map (C.ren d id)))
def B.ren(d id:Nat):B->B | .box l=>.box (l.map (C.ren d id)) | .hole e len c k x=>.hole e len c k (x.ren d id)|b=>b
theorem RepC.ren{S:Nat->Prop}{w:World}{m:Mp}{c:C}{x:Value}(h:RepC S w m c x)(d id:Nat):c.says id=false->RepC S w (upd m id (m d)) (c.ren d id) x:=by
 have hm:=Zlf m id (m d);induction h with
 |lit=>exact fun _=>.lit
 |sl b off vals hcap ha hc h1 hr ih=>exact fun _=>.sl b off vals hcap ha hc h1 hr
 |rpn=>exact fun _=>.rpn
 |rp b off vals ha hc h1 hr ih=>exact fun _=>.rp b off vals ha hc h1 hr
 |lsl b off vals hcap ha hc h1 hr ih=>exact fun _=>.lsl b off vals hcap ha hc h1 hr
 |lrp b off vals ha hc h1 hr ih=>exact fun _=>.lrp b off vals ha hc h1 hr
 |ptr h=>
  intro hs;simp only[C.ren];split
  .rename_i hb;obtain rfl:=ZaH hb;exact .ptr (by rw[ZfL];exact h)
  .exact .ptr (by rw[hm _ (Nat.ne_of_beq_eq_false hs)];exact h)
 |osl h h0 hle=>
  intro hs;simp only[C.ren];split
  .rename_i hb;obtain rfl:=ZaH hb;exact .osl (by rw[ZfL];exact h) h0 hle
  .exact .osl (by rw[hm _ (Nat.ne_of_beq_eq_false hs)];exact h) h0 hle
 |eptr h=>
  intro hs;simp only[C.ren];split
  .rename_i hb;obtain rfl:=ZaH hb;exact .eptr (by rw[ZfL];exact h)
  .exact .eptr (by rw[hm _ (Nat.ne_of_beq_eq_false hs)];exact h)
 |osub h hc hl hn ha h0 h1=>
  intro hs;simp only[C.ren];split
  .rename_i hb;obtain rfl:=ZaH hb;exact .osub (by rw[ZfL];exact h) hc hl hn ha h0 h1
  .exact .osub (by rw[hm _ (Nat.ne_of_beq_eq_false hs)];exact h) hc hl hn ha h0 h1
 |mp h=>
  intro hs;simp only[C.ren];split
  .rename_i hb;obtain rfl:=ZaH hb;exact .mp (by rw[ZfL];exact h)
  .exact .mp (by rw[hm _ (Nat.ne_of_beq_eq_false hs)];exact h)
 |clo xs ys ha hb iha ihb=>
  intro hs;have bH:=hs;simp only[C.says,Bool.or_eq_false_iff,List.any_eq_false,List.mem_range,Bool.not_eq_true]at hs;rw[C.ren];split
  .exact .clo xs ys (fun i hi=>iha i hi hm (hs.1 i hi)) (fun i hi=>ihb i hi hm (hs.2 i hi))
  .exact(RepC.clo xs ys ha hb).other _ id hm rfl bH
 |ifc h ih=>exact fun hs=>.ifc (ih hm hs)
 |ifa xs h1 h ih=>
  intro hs;have bH:=hs;simp only[C.says,List.any_eq_false,List.mem_range,Bool.not_eq_true]at hs;rw[C.ren];split
  .exact .ifa xs h1 (fun i hi=>ih i hi hm (hs i hi))
  .exact(RepC.ifa xs h1 h).other _ id hm rfl bH
 |agv xs h1 h ih=>
  intro hs;have bH:=hs;simp only[C.says,List.any_eq_false,List.mem_range,Bool.not_eq_true]at hs;rw[C.ren];split
  .exact .agv xs h1 (fun i hi=>ih i hi hm (hs i hi))
  .exact(RepC.agv xs h1 h).other _ id hm rfl bH
 |junk=>exact fun _=>.junk
theorem RepL.ren{S:Nat->Prop}{w:World}{m:Mp}{l:List C}{xs:List Value}(h:RepL S w m l xs)(d id:Nat)(hs:l.any (C.says id)=false):RepL S w (upd m id (m d)) (l.map (C.ren d id)) xs:=by
 refine⟨by simpa using h.1,fun j c hc=>?_,h.2.2⟩;simp only[List.getElem?_map,Option.map_eq_some_iff]at hc;obtain⟨c0,h0,rfl⟩:=hc;obtain⟨x,h1,h2⟩:=h.2.1 j c0 h0;have:=List.any_eq_false.1 hs c0 (List.mem_of_getElem? h0);exact⟨x,h1,h2.ren d id (by simpa using this)⟩
theorem RepV.ren{S:Nat->Prop}{w:World}{m:Mp}{v:V}{x:Value}(h:RepV S w m v x)(d id:Nat)(hs:v.says id=false):RepV S w (upd m id (m d)) (v.ren d id) x:=by
 cases v with
 |one c=>exact RepC.ren h d id hs
 |agg l=>obtain⟨xs,h1,h2⟩:=h;exact⟨xs,h1,h2.ren d id hs⟩
 |tup l=>
  obtain⟨xs,h1,h2,h3⟩:=h;refine⟨xs,h1,by simpa using h2,fun j p hp=>?_⟩;simp only[List.getElem?_map,Option.map_eq_some_iff]at hp;obtain⟨p0,h0,rfl⟩:=hp;obtain⟨y,h4,h5⟩:=h3 j p0 h0;have hq:=List.any_eq_false.1 hs p0 (List.mem_of_getElem? h0);refine⟨y,h4,?_⟩;obtain⟨b,cs⟩:=p0
  match b,cs,h5,hq with
  |true,cs,h5,hq=>obtain⟨ys,h6,h7⟩:=h5;exact⟨ys,h6,h7.ren d id (by simpa using hq)⟩
  |false,[c],h5,hq=>exact RepC.ren h5 d id (by simpa using hq)
  |false,[],_,_=>trivial
  |false,_ :: _ :: _,_,_=>trivial
def renH(d id:Nat):List (Nat×B)->List (Nat×B)
 | []=>[]
 | (k,b) :: r=>match Nat.beq k d with
  |true=>(id,b.ren d id) :: renH d id r
  |false=>(k,b.ren d id) :: renH d id r
theorem ZtY{d id:Nat}:∀{l:List (Nat×B)}{t:Nat}{b:B},hget l id=none->hget (renH d id l) t=some b->∃t0 b0,hget l t0=some b0/\b=b0.ren d id/\((t0=d/\t=id)\/(t0≠d/\t0=t/\t≠id))
 | [],t,b,hn,h=>by cases h
 | (k,v) :: r,t,b,hn,h=>by
  rw[Zbk]at hn
  split at hn
  .cases hn
  rename_i hki
  simp only[renH]at h
  split at h
  .rename_i hb
   obtain rfl:=ZaH hb
   rw[Zbk]at h
   split at h
   .rename_i e
    cases h
    exact⟨k,v,by rw[Zbk,if_pos rfl],rfl,.inl ⟨rfl,e.symm⟩⟩
   .rename_i e
    obtain⟨t0,b0,h1,h2,h3⟩:=ZtY hn h
    rcases h3 with⟨_,h4⟩|⟨h3,h4,h5⟩
    .exact absurd h4.symm e
    .exact⟨t0,b0,by rw[Zbk,if_neg (Ne.symm h3)];exact h1,h2,.inr ⟨h3,h4,h5⟩⟩
  .rename_i hb
   have hkd:=Nat.ne_of_beq_eq_false hb
   rw[Zbk]at h
   split at h
   .rename_i e
    cases h
    exact⟨k,v,by rw[Zbk,if_pos rfl],rfl,.inr ⟨hkd,e,fun e'=>hki (e.trans e')⟩⟩
   .rename_i e
    obtain⟨t0,b0,h1,h2,h3⟩:=ZtY hn h
    refine⟨t0,b0,?_,h2,h3⟩
    rw[Zbk,if_neg ?_]
    .exact h1
    .rintro rfl
     rcases h3 with⟨h4,_⟩|⟨_,h4,_⟩
     .exact hkd h4
     .exact e h4
def St.ren(st:St)(d id:Nat):St:=⟨st.env.map fun p=>(p.1,p.2.ren d id),renH d id st.heap⟩
theorem St.get_ren(st:St)(d id t:Nat):(st.ren d id).get t=(st.get t).ren d id:=
 ZsS (α:=V) (β:=V) (.one .junk) (V.ren d id) st.env t
theorem ZcI.renamed{N:Nat}{S0:Nat->Prop}{w0:ZeC}{st:St}{a:Act}{w:World}(h:ZcI N S0 w0 st a w){d id:Nat}(hq:ZdC N id st=true):ZcI N S0 w0 (st.ren d id) a w:=by
 obtain⟨S,m,hs,hg⟩:=h;obtain⟨q1,q2,q3⟩:=hs.quieted hq;have hm:=Zlf m id (m d);have key:∀{t b},hget (st.ren d id).heap t=some b->∃t0 b0,hget st.heap t0=some b0/\b=b0.ren d id/\upd m id (m d) t=m t0/\((t0=d/\t=id)\/(t0≠d/\t0=t)):=by
  intro t b hb;obtain⟨t0,b0,h1,h2,h3⟩:=ZtY q2 hb;refine⟨t0,b0,h1,h2,?_,h3.imp (fun h=>h) fun h=>⟨h.1,h.2.1⟩⟩;rcases h3 with⟨rfl,rfl⟩|⟨_,rfl,h5⟩
  .exact ZfL _ _ _
  .exact hm _ h5
 refine⟨S,upd m id (m d),⟨hs.size,fun t=>?_,fun t ht=>?_,fun t b hb=>?_,fun t b hb k hk=>?_,fun i j b b' hne h1 h2 k hk hk2=>?_,hs.dom,hs.defers,hs.base_le,fun t ht=>by rw[hm t (fun e=>by have:=Ztw hq;omega)];exact hs.pin t ht,hs.len⟩,hg⟩
 .rw[St.get_ren];exact(hs.env t).ren d id (q1 t)
 .rw[St.get_ren,hs.far t ht];rfl
 .obtain⟨t0,b0,h1,rfl,h3,_⟩:=key hb;rw[h3];have h0:=hs.heap t0 b0 h1;cases b0 with
  |box l=>
   obtain⟨b,a8,ty,h4,h5,h6⟩:=h0;exact⟨b,a8,ty,h4,h5,h6.ren d id (q3 t0 _ h1)⟩
  |rows e sz len c=>exact h0
  |map kt l=>exact h0
  |hole e len c k x=>
   obtain⟨xs,h4,h5,h6⟩:=h0;exact⟨xs,h4,fun i hi=>by obtain⟨y,h7,h8,h9⟩:=h5 i hi;exact⟨y,h7,h8,fun e=>(h9 e).ren d id (q3 t0 _ h1)⟩,h6⟩
 .obtain⟨t0,b0,h1,rfl,h3,_⟩:=key hb;rw[h3]at hk;exact hs.own t0 b0 h1 k hk
 .obtain⟨t0,b0,h3,rfl,h4,h5⟩:=key h1;obtain⟨t1,b1,h6,rfl,h7,h8⟩:=key h2;rw[h4]at hk;rw[h7]at hk2;refine hs.inj t0 t1 _ _ ?_ h3 h6 k hk hk2;rintro rfl;rcases h5 with⟨e1,e2⟩|⟨e1,e2⟩<;>rcases h8 with⟨e3,e4⟩|⟨e3,e4⟩
  .exact hne (e2.trans e4.symm)
  .exact e3 e1
  .exact e1 e3
  .exact hne (e2.symm.trans e4)
def ZPA(N:Nat)(st:St)(t id:Nat)(e:TypeId)(sz:Nat)(c:Nat->Nat->C):Option St:=match st.get t,ZdC N id st,Nat.blt t N with
 | .one (.lit (.slice none 0 0)),true,true=>some ({ st with heap:=(id,.rows e sz 0 c) :: st.heap }.put t (.one (.osl id 0)))
 |_,_,_=>none
theorem Act.put_same(a:Act)(t:Nat)(x:Value)(h:a.tmps.getD t undef=x)(ht:t<a.tmps.size):a.put (some t) x=a:=by
 obtain⟨tmps,ds⟩:=a;simp only[Act.put,Act.mk.injEq,and_true];apply Array.ext
 .simp
 .intro i h1 h2;rw[Array.getElem_setIfInBounds];split
  .rename_i e;subst e;rw[<-h];simp[Array.getD_eq_getD_getElem?,h2]
  .rfl
theorem ZcI.adopted{N:Nat}{S0:Nat->Prop}{w0:ZeC}{st st':St}{a:Act}{w:World}(h:ZcI N S0 w0 st a w){t id e sz:Nat}{c:Nat->Nat->C}(ha:ZPA N st t id e sz c=some st'):ZcI N S0 w0 st' a w:=by
 obtain⟨S,m,hs,hg⟩:=h;unfold ZPA at ha;split at ha
 .rename_i hv hq hb;cases ha;have ht:t<N:=Nat.le_of_ble_eq_true hb;have he:=hs.env t;rw[hv]at he;have hx:a.tmps.getD t undef=.slice none 0 0:=by generalize a.tmps.getD t undef=q at he;cases he;rfl
  have h2:=hs.renew id hq (.slice none 0 0) (.rows e sz 0 c) none (Nat.le_refl _) (fun _ _ _=>rfl) (fun k hk=>by cases hk) ⟨[],World.ownsRow_nil _ _ _ _,fun i j hi=>absurd hi (by omega),by simp⟩;have h3:=h2.put (d:=t) (v:=.one (.osl id 0)) (x:=.slice none 0 0) (RepC.osl (ZfL _ _ _) (.inl rfl) (Nat.le_refl _)) ht;rw[Act.put_same a t _ hx (by rw[hs.size];exact ht)]at h3;exact⟨S,_,h3,hg⟩
 .cases ha
def ZLd(N:Nat)(st:St)(k j id:Nat)(e:TypeId)(sz:Nat)(c:Nat->Nat->C):Option St:=match hget st.heap k with
 |some (.box l)=>match l[j]?,ZdC N id st with
  |some (.lit (.slice none 0 0)),true=>some { st with heap:=hset ((id,.rows e sz 0 c) :: st.heap) k (.box (l.set j (.osl id 0))) }
  |_,_=>none
 |_=>none
theorem ZcI.adoptedB{N:Nat}{S0:Nat->Prop}{w0:ZeC}{st st':St}{a:Act}{w:World}(h:ZcI N S0 w0 st a w){k j id e sz:Nat}{c:Nat->Nat->C}(ha:ZLd N st k j id e sz c=some st'):ZcI N S0 w0 st' a w:=by
 obtain⟨S,m,hs,hg⟩:=h;unfold ZLd at ha;split at ha;rotate_left
 .cases ha
 rename_i l hl;split at ha;rotate_left
 .cases ha
 rename_i hj hq;cases ha;have hne:id≠k:=by
  rintro rfl;have:=(hs.quieted hq).2.1;rw[this]at hl;cases hl
 have h2:=hs.renew id hq (.slice none 0 0) (.rows e sz 0 c) none (Nat.le_refl _) (fun _ _ _=>rfl) (fun k hk=>by cases hk) ⟨[],World.ownsRow_nil _ _ _ _,fun i j hi=>absurd hi (by omega),by simp⟩;have hl2:hget ((id,.rows e sz 0 c) :: st.heap) k=some (.box l):=by rw[Zbk,if_neg hne];exact hl
 refine⟨S,_,h2.write (.box (l.set j (.osl id 0))) hl2 (Nat.le_refl _) (fun _ _ _=>rfl) ?_,hg⟩;obtain⟨b,a8,t,h3,h4,h5⟩:=h2.heap k _ hl2;refine⟨b,a8,t,h3,h4,by simp[h5.1],fun i ci hi=>?_,h5.2.2⟩;rw[List.getElem?_set]at hi;split at hi
 .rename_i ei;subst ei;split at hi
  .cases hi;obtain⟨x,h6,h7⟩:=h5.2.1 j _ hj;cases h7;exact⟨_,h6,RepC.osl (ZfL _ _ _) (.inl rfl) (Nat.le_refl _)⟩
  .cases hi
 .exact h5.2.1 i ci hi
def ZJq(st:St):List Nat->List (Nat×V) | []=>[]|t :: l=>(t,st.get t) :: ZJq st l
def ZJp(st:St):List Nat->Option (List (Nat×B))
 | []=>some []
 |id :: l=>match hget st.heap id,ZJp st l with
  |some b,some r=>some ((id,b) :: r)
  |_,_=>none
theorem ZvI(st:St):∀(l:List Nat)(t:Nat),look (.one .junk) (ZJq st l) t=st.get t\/look (.one .junk) (ZJq st l) t=.one .junk
 | [],t=>.inr rfl
 |s :: l,t=>by
  simp only[ZJq,Zrp]
  split
  .rename_i e;subst e;exact .inl rfl
  .exact ZvI st l t
theorem Zsi(st:St):∀{l:List Nat}{r:List (Nat×B)},ZJp st l=some r->∀id b,hget r id=some b->hget st.heap id=some b
 | [],r,h,id,b,hb=>by cases h;cases hb
 |s :: l,r,h,id,b,hb=>by
  simp only[ZJp]at h
  split at h
  .rename_i b0 r0 h1 h2
   cases h
   rw[Zbk]at hb
   split at hb
   .rename_i e;subst e;cases hb;exact h1
   .exact Zsi st h2 id b hb
  .cases h
def mask(st:St)(live ids:List Nat):Option St:=match ZJp st ids with
 |some h=>some ⟨ZJq st live,h⟩
 |none=>none
theorem ZOZ{N:Nat}{st st':St}{live ids:List Nat}(h:mask st live ids=some st'):St.le N st st':=by
 unfold mask at h;split at h
 .rename_i r hr;cases h;exact⟨fun t=>ZvI st live t,fun id b hb=>Zsi st hr id b hb⟩
 .cases h
def renL(N:Nat):List (Nat×Nat)->St->Option St
 | [],st=>some st
 | (d,id) :: r,st=>match ZdC N id st with
  |true=>renL N r (st.ren d id)
  |false=>none
def ZGw(N:Nat):List (Nat×Nat×TypeId×Nat×(Nat->Nat->C))->St->Option St
 | [],st=>some st
 | (t,id,e,sz,c) :: r,st=>match Nat.ble 200000 t with
  |true=>match ZLd N st ((t-200000) / 1000) ((t-200000) % 1000) id e sz c with
   |some st'=>ZGw N r st'
   |none=>none
  |false=>match ZPA N st t id e sz c with
   |some st'=>ZGw N r st'
   |none=>none
def ZGg(N:Nat):List (Nat×List (Nat×C))->St->Option St
 | [],st=>some st
 | (t,ps) :: r,st=>match dnV ps (st.get t),Nat.blt t N with
  |some v,true=>ZGg N r (st.put t v)
  |_,_=>none
theorem ZcI.denil{N:Nat}{S0:Nat->Prop}{w0:ZeC}{a:Act}{w:World}:∀{l:List (Nat×List (Nat×C))}{st st':St},ZcI N S0 w0 st a w->ZGg N l st=some st'->ZcI N S0 w0 st' a w
 | [],st,st',h,he=>by cases he;exact h
 | (t,ps) :: r,st,st',h,he=>by
  simp only[ZGg]at he
  split at he
  .rename_i v hv hb
   obtain⟨S,m,hs,hg⟩:=h
   have ht:t<N:=Nat.le_of_ble_eq_true hb
   have h3:=hs.put (d:=t) (ZEA (hs.env t) hv) ht
   rw[Act.put_same a t _ rfl (by rw[hs.size];exact ht)]at h3
   exact ZcI.denil ⟨S,m,h3,hg⟩ he
  .cases he
def ZGh:List (Nat×List (Nat×C))->St->Option St
 | [],st=>some st
 | (id,ps) :: r,st=>match hget st.heap id with
  |some (.box l)=>match dnL ps l with
   |some l'=>ZGh r { st with heap:=hset st.heap id (.box l') }
   |none=>none
  |_=>none
theorem ZcI.denilled{N:Nat}{S0:Nat->Prop}{w0:ZeC}{a:Act}{w:World}:∀{l:List (Nat×List (Nat×C))}{st st':St},ZcI N S0 w0 st a w->ZGh l st=some st'->ZcI N S0 w0 st' a w
 | [],st,st',h,he=>by cases he;exact h
 | (id,ps) :: r,st,st',h,he=>by
  simp only[ZGh]at he
  split at he
  .rename_i l hl
   split at he
   .rename_i l' ic
    obtain⟨S,m,hs,hg⟩:=h
    obtain⟨b,a8,t,h1,h2,h3⟩:=hs.heap id _ hl
    exact ZcI.denilled ⟨S,m,hs.write (.box l') hl (Nat.le_refl _) (fun _ _ _=>rfl) ⟨b,a8,t,h1,h2,ZEB h3 ic⟩,hg⟩ he
   .cases he
  .cases he
def relC(id n:Nat)(c:C):C:=match c with
 | .osl k m=>match Nat.beq k id with
  |true=>.osl k n
  |false=>.osl k m
 |c=>c
def relV(id n:Nat):V->V | .one c=>.one (relC id n c) | .agg l=>.agg (l.map (relC id n)) | .tup l=>.tup (l.map fun p=>(p.1,p.2.map (relC id n)))
def relB(id n:Nat):B->B | .box l=>.box (l.map (relC id n)) | .hole e len c k x=>.hole e len c k (relC id n x)|b=>b
def hplc:List (Nat×B)->Nat->B->List (Nat×B)
 | [],_,_=>[]
 | (k,v) :: r,d,b=>match Nat.beq k d with
  |true=>(d,b) :: r
  |false=>(k,v) :: hplc r d b
theorem ZBj{d t:Nat}{b x:B}:∀{h:List (Nat×B)},hget (hplc h d b) t=some x->(t=d/\x=b)\/hget h t=some x
 | [],h=>.inr h
 | (k,v) :: r,h=>by
  simp only[hplc]at h
  cases e:Nat.beq k d with
  |true=>
   rw[e]at h
   have e:=Nat.eq_of_beq_eq_true e
   simp only[Zbk]at h ⊢
   by_cases e2:d=t
   .rw[if_pos e2]at h;cases h;exact .inl ⟨e2.symm,rfl⟩
   .rw[if_neg e2]at h;rw[if_neg (by rw[e];exact e2)];exact .inr h
  |false=>
   rw[e]at h
   simp only[Zbk]at h ⊢
   by_cases e2:k=t
   .rw[if_pos e2]at h ⊢;exact .inr h
   .rw[if_neg e2]at h ⊢;exact ZBj h
def relen(st:St)(id n:Nat):Option (St×Prop):=match hget st.heap id with
 |some (.rows e sz len c)=>some (⟨st.env.map fun p=>(p.1,relV id n p.2),hplc (st.heap.map fun p=>(p.1,relB id n p.2)) id (.rows e sz n c)⟩,n=len)
 |_=>none
theorem ZcI.relen{N:Nat}{S0:Nat->Prop}{w0:ZeC}{st st':St}{a:Act}{w:World}{id n:Nat}{p:Prop}(h:ZcI N S0 w0 st a w)(hr:Go.Proofs.YtnigiacmmedkhaaGreat.relen st id n=some (st',p))(hp:p):ZcI N S0 w0 st' a w:=by
 obtain⟨S,m,hs,hg⟩:=h;unfold Go.Proofs.YtnigiacmmedkhaaGreat.relen at hr;split at hr
 .rename_i e sz len c hl;simp only[Option.some.injEq,Prod.mk.injEq]at hr;obtain⟨rfl,rfl⟩:=hr;obtain rfl:n=len:=hp;have hB:=hs.heap id _ hl;have key:∀{c x},RepC S w m c x->relC id n c=c:=by
   intro c x hc;unfold relC;split
   .split
    .rename_i hb;obtain rfl:=ZaH hb;cases hc with
     |osl hm h0=>
      rw[hm]at hB;obtain⟨rfl,_⟩:=ZkC hB;rfl
    .rfl
   .rfl
  have gJ:∀{l xs},RepL S w m l xs->RepL S w m (l.map (relC id n)) xs:=by
   intro l xs hx;refine⟨by simpa using hx.1,fun j c hj=>?_,hx.2.2⟩;simp only[List.getElem?_map,Option.map_eq_some_iff]at hj;obtain⟨c0,h0,rfl⟩:=hj;obtain⟨x,h1,h2⟩:=hx.2.1 j c0 h0;exact⟨x,h1,by rw[key h2];exact h2⟩
  have eC:∀{k b},hget (hplc (st.heap.map fun p=>(p.1,relB id n p.2)) id (.rows e sz n c)) k=some b->∃b0,hget st.heap k=some b0/\(b=b0/\k=id\/b=relB id n b0):=by
   intro k b hb;rcases ZBj hb with⟨rfl,rfl⟩|hb
   .exact⟨_,hl,.inl ⟨rfl,rfl⟩⟩
   .rw[ZFU]at hb;cases hq:hget st.heap k with
    |none=>simp[hq]at hb
    |some b0=>rw[hq]at hb;cases hb;exact⟨b0,rfl,.inr rfl⟩
  refine⟨S,m,⟨hs.size,fun t=>?_,fun t ht=>?_,fun k b hb=>?_,fun k b hb=>?_,fun i j b b' hne h1 h2=>?_,hs.dom,hs.defers,hs.base_le,hs.pin,hs.len⟩,hg⟩
  .have he:(⟨st.env.map fun p=>(p.1,relV id n p.2),hplc (st.heap.map fun p=>(p.1,relB id n p.2)) id (.rows e sz n c)⟩ : St).get t=relV id n (st.get t):=ZsS (α:=V) (β:=V) (.one .junk) (relV id n) st.env t;rw[he];have h0:=hs.env t;cases hq:st.get t with
   |one c=>rw[hq]at h0;simp only[relV];rw[key h0];exact h0
   |agg l=>rw[hq]at h0;obtain⟨xs,h1,h2⟩:=h0;exact⟨xs,h1,gJ h2⟩
   |tup l=>
    rw[hq]at h0;obtain⟨xs,h1,h2,h3⟩:=h0;refine⟨xs,h1,by simpa using h2,fun j p hp=>?_⟩;simp only[List.getElem?_map,Option.map_eq_some_iff]at hp;obtain⟨p0,h0,rfl⟩:=hp;obtain⟨y,h4,h5⟩:=h3 j p0 h0;refine⟨y,h4,?_⟩;obtain⟨b,cs⟩:=p0
    match b,cs,h5 with
    |true,cs,h5=>obtain⟨ys,h6,h7⟩:=h5;exact⟨ys,h6,gJ h7⟩
    |false,[c],h5=>show RepC S w m (relC id n c) y;rw[key h5];exact h5
    |false,[],_=>trivial
    |false,_ :: _ :: _,_=>trivial
  .have he:(⟨st.env.map fun p=>(p.1,relV id n p.2),hplc (st.heap.map fun p=>(p.1,relB id n p.2)) id (.rows e sz n c)⟩ : St).get t=relV id n (st.get t):=ZsS (α:=V) (β:=V) (.one .junk) (relV id n) st.env t;rw[he,hs.far t ht];rfl
  .obtain⟨b0,h1,h2⟩:=eC hb;have h0:=hs.heap k b0 h1;rcases h2 with⟨rfl,_⟩|rfl
   .exact h0
   .cases b0 with
    |box l=>obtain⟨b,a8,ty,h4,h5,h6⟩:=h0;exact⟨b,a8,ty,h4,h5,gJ h6⟩
    |rows _ _ _ _=>exact h0
    |map _ _=>exact h0
    |hole e len c k x=>
     obtain⟨xs,h4,h5,h6⟩:=h0;exact⟨xs,h4,fun i hi=>by obtain⟨y,h7,h8,h9⟩:=h5 i hi;exact⟨y,h7,h8,fun e=>by rw[key (h9 e)];exact h9 e⟩,h6⟩
  .obtain⟨b0,h1,h2⟩:=eC hb;exact hs.own k b0 h1
  .obtain⟨b0,h3,_⟩:=eC h1;obtain⟨b1,h4,_⟩:=eC h2;exact hs.inj i j _ _ hne h3 h4
 .cases hr
def ZIV:List (Nat×Nat)->St->Option (St×List Prop)
 | [],st=>some (st,[])
 | (id,n) :: r,st=>match relen st id n with
  |some (st1,p)=>match ZIV r st1 with
   |some (st2,l)=>some (st2,p :: l)
   |none=>none
  |none=>none
theorem ZcI.relenL{N:Nat}{S0:Nat->Prop}{w0:ZeC}{a:Act}{w:World}:∀{l:List (Nat×Nat)}{st st':St}{obl:List Prop},ZcI N S0 w0 st a w->Go.Proofs.YtnigiacmmedkhaaGreat.ZIV l st=some (st',obl)->(∀q∈obl,q)->ZcI N S0 w0 st' a w
 | [],st,st',obl,h,he,ho=>by cases he;exact h
 | (id,n) :: r,st,st',obl,h,he,ho=>by
  simp only[Go.Proofs.YtnigiacmmedkhaaGreat.ZIV]at he
  split at he
  .rename_i st1 p h1
   split at he
   .rename_i st2 l h2
    cases he
    exact ZcI.relenL (h.relen h1 (ho _ List.mem_cons_self)) h2 fun q hq=>ho q (List.mem_cons_of_mem _ hq)
   .cases he
  .cases he
structure NA where
 fz:List Nat
 dh:List (Nat×List (Nat×C))
 dn:List (Nat×List (Nat×C))
 rl:List (Nat×Nat)
 ado:List (Nat×Nat×TypeId×Nat×(Nat->Nat->C))
 live:List Nat
 ids:List Nat
 ren:List (Nat×Nat)
def tidy(N:Nat)(fz:List Nat)(dh dn:List (Nat×List (Nat×C)))(st:St):Option St:=match Zsn fz st with
 |none=>none
 |some s1=>match ZGh dh s1 with
  |none=>none
  |some s2=>ZGg N dn s2
theorem ZcI.tidied{N:Nat}{S0:Nat->Prop}{w0:ZeC}{a:Act}{w:World}{fz:List Nat}{dh dn:List (Nat×List (Nat×C))}{st st':St}(h:ZcI N S0 w0 st a w)(he:tidy N fz dh dn st=some st'):ZcI N S0 w0 st' a w:=by
 unfold tidy at he;split at he
 .cases he
 rename_i s1 h1;split at he
 .cases he
 rename_i s2 h2;exact((h.frozen h1).denilled h2).denil he
def norm(N:Nat)(na:NA)(st:St):Option (St×List Prop):=match tidy N na.fz na.dh na.dn st with
 |none=>none
 |some st0=>match ZGw N na.ado st0 with
 |none=>none
 |some st1=>match mask st1 na.live na.ids with
  |none=>none
  |some st2=>match renL N na.ren st2 with
   |none=>none
   |some st3=>ZIV na.rl st3
theorem ZcI.renL{N:Nat}{S0:Nat->Prop}{w0:ZeC}{a:Act}{w:World}:∀{l:List (Nat×Nat)}{st st':St},ZcI N S0 w0 st a w->Go.Proofs.YtnigiacmmedkhaaGreat.renL N l st=some st'->ZcI N S0 w0 st' a w
 | [],st,st',h,he=>by cases he;exact h
 | (d,id) :: r,st,st',h,he=>by
  simp only[Go.Proofs.YtnigiacmmedkhaaGreat.renL]at he
  split at he
  .rename_i hq
   exact ZcI.renL (h.renamed hq) he
  .cases he
theorem ZcI.adoptL{N:Nat}{S0:Nat->Prop}{w0:ZeC}{a:Act}{w:World}:∀{l:List (Nat×Nat×TypeId×Nat×(Nat->Nat->C))}{st st':St},ZcI N S0 w0 st a w->Go.Proofs.YtnigiacmmedkhaaGreat.ZGw N l st=some st'->ZcI N S0 w0 st' a w
 | [],st,st',h,he=>by cases he;exact h
 | (t,id,e,sz,c) :: r,st,st',h,he=>by
  simp only[Go.Proofs.YtnigiacmmedkhaaGreat.ZGw]at he
  split at he
  .split at he
   .rename_i s1 hq
    exact ZcI.adoptL (h.adoptedB hq) he
   .cases he
  .split at he
   .rename_i s1 hq
    exact ZcI.adoptL (h.adopted hq) he
   .cases he
theorem ZcI.norm{N:Nat}{S0:Nat->Prop}{w0:ZeC}{a:Act}{w:World}{na:NA}{st st':St}{obl:List Prop}(h:ZcI N S0 w0 st a w)(he:Go.Proofs.YtnigiacmmedkhaaGreat.norm N na st=some (st',obl))(ho:∀q∈obl,q):ZcI N S0 w0 st' a w:=by
 unfold Go.Proofs.YtnigiacmmedkhaaGreat.norm at he;split at he
 .cases he
 rename_i st0 h0;split at he
 .cases he
 rename_i st1 h1;split at he
 .cases he
 rename_i st2 h2;split at he
 .cases he
 rename_i st3 h3;exact((((h.tidied h0).adoptL h1).le (ZOZ (N:=N) h2)).renL h3).relenL he ho
end Go.Proofs.YtnigiacmmedkhaaGreat
