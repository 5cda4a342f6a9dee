import Derived.Test.YtmcnjofonpkfmaaGreatHAmL
open Array renaming toArray_toList->Vg,getD_eq_getD_getElem?->T',replicate->VH,getElem?_append_left->VI
open Bool renaming false->Tm,true->Tl,not_eq_true->T8
open Go.Calls renaming mono->VG
open Go.Instr renaming sureAddr->Tw,loadAt->TU
open List renaming getD_eq_getElem?_getD->Ty,mem_append->T9,mem_cons_of_mem->U1,mem_cons_self->U0,any_eq_false->TO,mem_range->Ua,all_eq_true->Tt,mem_cons->VJ,getElem?_cons_zero->Vb,mem_map->Uf,mem_of_getElem?->Tk,map_congr_left->VL,getElem?_drop->Us,getElem?_set->VN,getElem?_map->TN,length->S7
open Nat renaming ne_of_beq_eq_false->Tn,beq->Tg,le_of_ble_eq_true->Td,eq_of_beq_eq_true->TF,le_refl->Tq,lt_of_lt_of_le->TC,ble->TB,blt->T6,add_comm->VP
open Go.Oper renaming wp->Vj
open Option renaming some->S8,none->S_,map_eq_some_iff->TD
open Option.some renaming injEq->S9
open Go.Region renaming wanted->VF
open Go.Sem renaming run_bind->Ta,run_pure->Tp,run->Vy
namespace Go.Proofs.YtmcnjofonpkfmaaGreat
open Go.RowKit
set_option linter.unusedSimpArgs false
set_option linter.unusedVariables false
section
structure BB (no S:Nat->Prop) (m:Mp) (h:List (Nat×B)) (w:World):Prop where
 rep:∀id b,oP h id=S8 b->se S w m (m id) b
 own:∀id b,oP h id=S8 b->∀k,sU (m id)=S8 k->¬S k/\¬no k/\k<w.heap.size
 inj:∀id xn b b',id≠xn->oP h id=S8 b->oP h xn=S8 b'->∀k,sU (m id)=S8 k->sU (m xn)≠S8 k
 C7:∀b,m.L b->no b
structure FT (m' m:Mp):Prop where
 xg:∀id,BD<=id->m' id=m id
 L:m'.L=m.L
def rX(P:Program)(f:FuncId)(h0:S5 (Nat×B))(args:S5 V)(h1:S5 (Nat×B))(res:V):Prop:=xc P f/\∀(no S:Nat->Prop)(m:Mp)(w:World)(vs:S5 Value),(∀b,S b->b<w.heap.size)->(∀k,no k->k<w.heap.size)->BB no S m h0 w->Af S w m args vs->Calls P f vs.toArray w λe w'=>∃x S' m',e=.returned x/\p9 no S S' w w'/\(∀b,S' b->b<w'.heap.size)/\BB no S' m' h1 w'/\o6 S' w' m' res x/\FT m' m
def As:S5 (Nat×Nat)->Nat->S6 Nat
 | [],_=>S_
 | (k,v) :: r,t=>match Tg k t with
  |true=>S8 v
  |false=>As r t
theorem R0:∀{l:S5 (Nat×Nat)}{t v:Nat},As l t=S8 v->(t,v)∈l
 | (k,v') :: r,t,v,h=>by
  simp only[As]at h
  split at h
  .simp_all
  .exact U1 _ (R0 h)
def bwd(l:S5 (Nat×Nat))(t:Nat):S6 Nat:=As (l.map λp=>(p.2,p.1)) t
variable{S S0 S':Nat->Prop}{w:World}{m m':Mp}{st pH:St}{N d sz n t:Nat}{g:Nat->S6 Nat}{P:Program}{a:Act}{c:Callee}{an:S6 sF}{v v':V}{o:Oper}{args:Array Operand}{bA:Array TypeId}{x:Value}{w0:t_}{o_:S5 Prop}{K:Act->World->Prop}{Q:Exit->Act->World->Prop}{c':C}{F:tK}{b b':B}{l:S5 (Nat×Nat)}{l':S5 C}{xs:S5 Value}{hp h:S5 (Nat×B)}{vs g6:S5 V}{f:FuncId}{e:TypeId}{r:V×S5 Prop×St}
theorem ZDh{v:Nat}(h:bwd l t=S8 v):(v,t)∈l:=by
 have:=R0 h
 grind
def isO:S6 Nat->Nat->Bool|some a,b=>Tg a b|none,_=>Tm
theorem acM:∀{o:S6 Nat}{b:Nat},isO o b=Tl->o=S8 b
 |some a,b,h=>by rw[ta h]
def biB(l:S5 (Nat×Nat)):Bool:=l.all λp=>isO (As l p.1) p.2&&isO (bwd l p.2) p.1
theorem Jw(h:biB l=Tl){a b:Nat}(hm:(a,b)∈l):As l a=S8 b/\bwd l b=S8 a:=by
 have:=Tt.1 h _ hm;simp_all;exact⟨acM this.1,acM this.2⟩
theorem ZLb{l:S5 (Nat×Nat)}(h:biB l=Tl){a b:Nat}:As l a=S8 b↔bwd l b=S8 a:=
 ⟨λh1=>(Jw h (R0 h1)).2,λh1=>(Jw h (ZDh h1)).1⟩
def H9(g:Nat->S6 Nat):C->S6 C
 | .p8 k n=>match g k with
  |some k'=>S8 (.p8 k' n)
  |none=>S_
 | .ptr k off=>match g k with
  |some k'=>S8 (.ptr k' off)
  |none=>S_
 | .rK k sz i off=>match g k with
  |some k'=>S8 (.rK k' sz i off)
  |none=>S_
 | .mp k=>match g k with
  |some k'=>S8 (.mp k')
  |none=>S_
 | .th t (.ptr k off)=>match g k with
  |some k'=>S8 (.th t (.ptr k' off))
  |none=>S_
 | .vd sz n c=>S8 (.vd sz n c)
 | .yN n c=>S8 (.yN n c)
 |c=>match c.pure with
  |true=>S8 c
  |false=>S_
structure Rn (g:Nat->Option Nat) (m m':Mp):Prop where
 at_:∀k k',g k=S8 k'->m' k'=m k
 L:∀b,m.L b->m'.L b
theorem ZBV(hg:Rn g m m'){c:C}(h:oI S w m c x)(hr:H9 g c=S8 c'):oI S w m' c' x:=by
 unfold H9 at hr;split at hr
 .split at hr
  .rename_i h1;cases hr;cases h with
   |p8 hm h0 hle=>exact .p8 (by rw[hg.at_ _ _ h1];exact hm) h0 hle
  .cases hr
 .split at hr
  .rename_i h1;cases hr;cases h with
   |ptr hm=>exact .ptr (by rw[hg.at_ _ _ h1];exact hm)
  .cases hr
 .split at hr
  .rename_i h1;cases hr;cases h with
   |rK hm=>exact .rK (by rw[hg.at_ _ _ h1];exact hm)
  .cases hr
 .split at hr
  .rename_i h1;cases hr;cases h with
   |mp hm=>exact .mp (by rw[hg.at_ _ _ h1];exact hm)
  .cases hr
 .split at hr
  .rename_i h1;cases hr;cases h with
   |th hm=>
    cases hm with
    |ptr hm=>exact .th (.ptr (by rw[hg.at_ _ _ h1];exact hm))
  .cases hr
 .cases hr;cases h with
  |vd b off qe rN ha hc h1 hr=>exact .vd b _ _ rN (λhl=>⟨(ha hl).1,hg.L _ (ha hl).2⟩) hc h1 hr
 .cases hr;cases h with
  |yN b off qe ha hc h1 hr=>exact .yN b _ _ (hg.L _ ha) hc h1 hr
 .split at hr
  .rename_i hp;cases hr;exact h.anyM _ hp
  .cases hr
def A4(g:Nat->S6 Nat):C->S6 C
 | .qs fn na nb a b=>match (C.qs fn na nb a b).pure with
  |true=>S8 (.qs fn na nb a b)
  |false=>match tI (H9 g) (xX na a),tI (H9 g) (xX nb b)with
   |some xs,S8 ys=>S8 (.qs fn na nb (λi=>xs.getD i .oF) λi=>ys.getD i .oF)
   |_,_=>S_
 |c=>H9 g c
theorem ZFA(hg:Rn g m m'){c:C}(h:oI S w m c x)(hr:A4 g c=S8 c'):oI S w m' c' x:=by
 unfold A4 at hr;split at hr
 .split at hr
  .rename_i hp;cases hr;exact h.anyM _ hp
  .split at hr
   .rename_i xs ys h1 h2;cases hr;cases h with
    |qs vs us ha hb=>exact .qs _ _ (λi hi=>ZBV hg (ha i hi) (OJ h1 _ hi)) λi hi=>ZBV hg (hb i hi) (OJ h2 _ hi)
   .cases hr
 .exact ZBV hg h hr
def KB(g:Nat->S6 Nat):S5 C->S6 (S5 C):=tI (A4 g)
theorem ZBU(hg:Rn g m m'){l:S5 C}(h:qk S w m l xs)(hr:KB g l=S8 l'):qk S w m' l' xs:=h.Ba (λ_ _ _=>ZFA hg) hr
def ak'(g:Nat->S6 Nat):S5 (Bool×S5 C)->S6 (S5 (Bool×S5 C)):=tI λp=>(KB g p.2).map (Prod.mk p.1)
def A3(g:Nat->S6 Nat):V->S6 V | .one c=>(A4 g c).map .one | .agg l=>(KB g l).map .agg | .qw l=>(ak' g l).map .qw
theorem RC(hg:Rn g m m')(h:o6 S w m v x)(hr:A3 g v=S8 v'):o6 S w m' v' x:=by
 cases v with
 |one c=>
  simp[A3]at hr;obtain⟨c',h1,rfl⟩:=hr;exact ZFA hg h h1
 |agg l=>
  simp[A3]at hr;obtain⟨c',h1,rfl⟩:=hr;obtain⟨xs,h2,h3⟩:=h;exact⟨xs,h2,ZBU hg h3 h1⟩
 |qw l=>
  simp[A3]at hr;obtain⟨l',h1,rfl⟩:=hr;obtain⟨xs,h2,h3,h4⟩:=h;obtain⟨h5,h6⟩:=Lk h1;refine⟨xs,h2,by omega,λj p' hp=>?_⟩;obtain⟨p,h7,h8⟩:=h6 j p' hp;obtain⟨y,Db,wN⟩:=h4 j p h7;refine⟨y,Db,?_⟩;obtain⟨b,cs⟩:=p;simp only[TD]at h8;obtain⟨i9,h9,rfl⟩:=h8;cases b with
  |true=>obtain⟨ys,zm,EJ⟩:=wN;exact⟨ys,zm,ZBU hg EJ h9⟩
  |false=>
   match cs,i9,h9,wN with
   | [c],i9,h9,wN=>
    simp only[KB,tI]at h9;split at h9
    .rename_i c1 l1 e1 e2;cases e2;cases h9;exact ZFA hg wN e1
    .cases h9
   | [],i9,h9,wN=>simp only[KB,tI]at h9;cases h9;trivial
   |a :: b :: r,i9,h9,wN=>
    have:=(Lk h9).1
    grind
def acD(g:Nat->S6 Nat):S5 V->S6 (S5 V):=tI (A3 g)
def vq(g:Nat->S6 Nat):B->S6 B | .box l=>(KB g l).map .box | .rows e sz len c=>S8 (.rows e sz len c) | .map kt l=>S8 (.map kt l) | .hole _ _ _ _ _=>S_
theorem ZPn(hg:Rn g m m')(h:se S w m x b)(hr:vq g b=S8 b'):se S w m' x b':=by
 cases b with
 |box l=>
  simp[vq]at hr;obtain⟨l',h1,rfl⟩:=hr;obtain⟨b,bB,t,h2,h3,h4⟩:=h;exact⟨b,_,t,h2,h3,ZBU hg h4 h1⟩
 |rows e sz len c=>cases hr;exact h
 |map kt l=>cases hr;exact h
 |hole _ _ _ _ _=>cases hr
def De(g:Nat->S6 Nat):S5 (Nat×B)->S6 (S5 (Nat×B))
 | []=>S8 []
 | (j,b) :: l=>match g j,vq g b,De g l with
  |some i,S8 b',S8 l'=>S8 ((i,b') :: l')
  |_,_,_=>S_
theorem ZIg{g:Nat->S6 Nat}:∀{l l':S5 (Nat×B)},De g l=S8 l'->∀i b',oP l' i=S8 b'->∃j b,g j=S8 i/\oP l j=S8 b/\vq g b=S8 b'
 | [],l',h=>by cases h;exact λi b' hb=>by cases hb
 | (j,b) :: l,l',h=>by
  simp[De]at h
  split at h
  .rename_i i0 b0 l0 h1 h2 h3
   cases h
   intro i b' hb
   rw[tD]at hb
   split at hb
   .rename_i e
    cases hb
    exact⟨j,b,e ▸ h1,by rw[tD,aFa rfl],h2⟩
   .obtain⟨j2,b2,h4,h5,h6⟩:=ZIg h3 i b' hb
    refine⟨j2,_,h4,?_,h6⟩
    rw[tD,aE_ ?_]
    all_goals grind
  .cases h
def hIn(g:Nat->S6 Nat)(h:S5 (Nat×B)):S5 (Nat×Nat)->S6 (S5 (Nat×B))
 | []=>S8 []
 | (c,i) :: l=>match oP h i with
  |some b=>match vq g b,hIn g h l with
   |some b',S8 l'=>S8 ((c,b') :: l')
   |_,_=>S_
  |none=>S_
theorem ZVA{g:Nat->S6 Nat}{h:S5 (Nat×B)}:∀{l:S5 (Nat×Nat)}{r:S5 (Nat×B)},hIn g h l=S8 r->(∀c b',oP r c=S8 b'->∃i b,(c,i)∈l/\oP h i=S8 b/\vq g b=S8 b')/\∀c i,(c,i)∈l->∃b,oP h i=S8 b
 | [],r,e=>by cases e;exact⟨λc b' hb=>(by cases hb),λc i hm=>by cases hm⟩
 | (c0,i0) :: l,r,e=>by
  simp only[hIn]at e
  split at e
  .rename_i b hb
   split at e
   .rename_i b0 l0 h1 h2
    cases e
    obtain⟨h3,h4⟩:=ZVA h2
    refine⟨λc b' bg=>?_,λc i hm=>?_⟩
    .rw[tD]at bg
     grind
    grind
   .cases e
  .cases e
def Au(h:S5 (Nat×B)):S5 (Nat×Nat)->S5 (Nat×B) | []=>h | (_,i) :: l=>ug (Au h l) i
theorem ZuB(h:S5 (Nat×B)):∀(l:S5 (Nat×Nat))(t:Nat)(b:B),oP (Au h l) t=S8 b->oP h t=S8 b/\∀c,(c,t) ∉ l
 | [],t,b,e=>⟨e,λc hm=>by cases hm⟩
 | (c0,i) :: l,t,b,e=>by
  simp only[Au,Ha]at e
  split at e
  .cases e
  .rename_i qN
   obtain⟨h1,h2⟩:=ZuB h l t b e
   grind
def Df:S5 (Nat×B)->S5 (Nat×B)->S5 (Nat×B) | [],h=>h | (d,b) :: r,h=>q_ (Df r h) d b
theorem Sm(k:S5 (Nat×B))(t:Nat)(b:B):∀(h:S5 (Nat×B)),oP (Df h k) t=S8 b->oP h t=S8 b\/oP k t=S8 b
 | [],e=>.inr e
 | (d,c) :: r,e=>by
  simp[Df,Az]at e
  rw[tD]
  split at e
  .simp_all
  simp_all[Sm]
theorem o6.others{S:Nat->Prop}{w:World}{v:V}{x:Value}:∀{l:S5 Nat}{m m':Mp},o6 S w m v x->(∀i∈l,v.pI i=Tm)->(∀k,k ∉ l->m' k=m k)->m'.L=m.L->o6 S w m' v x
 | [],m,m',h,_,hm,hL=>by
  grind[Mp.ext']
 |i :: l,m,m',h,hs,hm,hL=>
  o6.others (m:=zz m i (m' i)) (h.other _ i (JH m i _) rfl (hs i U0)) (λk hk=>hs k (U1 _ hk)) (λk hk=>by
   grind[zr,JH]) hL
theorem se.others{S:Nat->Prop}{w:World}{v:B}{x:Value}:∀{l:S5 Nat}{m m':Mp},se S w m x v->(∀i∈l,v.pI i=Tm)->(∀k,k ∉ l->m' k=m k)->m'.L=m.L->se S w m' x v
 | [],m,m',h,_,hm,hL=>by
  grind[Mp.ext']
 |i :: l,m,m',h,hs,hm,hL=>
  se.others (m:=zz m i (m' i)) (h.other (JH m i _) rfl (hs i U0)) (λk hk=>hs k (U1 _ hk)) (λk hk=>by
   grind[zr,JH]) hL
structure HA where
 qD:List (Nat×Nat)
 new:List (Nat×Nat)
 h1:List (Nat×B)
 res:V
def tx(ha:HA)(j:Nat):S6 Nat:=match As ha.qD j with
 |some i=>S8 i
 |none=>As ha.new j
def sZ(N:Nat)(st:St)(ha:HA):Bool:=match biB ha.qD,biB ha.new,ha.qD.all (λp=>TB BD p.1),ha.new.all (λp=>so N p.2 st)with
 |true,Tl,Tl,Tl=>Tl
 |_,_,_,_=>Tm
def BS(P:Program)(st:St)(c:Callee)(an:S6 sF):S6 (FuncId×S5 C×S5 C×S5 Prop):=match c with
 | .value f=>match ER st f with
  |some (g,a,b)=>S8 (g,a,b,[])
  |none=>S_
 | .invoke r name=>match pT st r,an with
  | .one (.th t c),S8 (.id g)=>S8 (g,[c],[],[BO P t name g])
  |_,_=>S_
 | .builtin _=>S_
def pQ:S5 (Nat×B)->Nat->B->S5 (Nat×B)
 | [],_,_=>[]
 | (k,v) :: r,d,b=>match Tg k d with
  |true=>(d,b) :: r
  |false=>(k,v) :: pQ r d b
theorem ZyH(d:Nat)(b:B)(t:Nat):∀(h:S5 (Nat×B)),oP (pQ h d b) t=if d=t then(oP h t).map (λ_=>b)else oP h t
 | []=>by simp[pQ,oP]
 | (k,v) :: r=>by
  simp only[pQ]
  split
  .rename_i e
   have e:=TF e
   subst e
   simp only[tD]
   split<;>rfl
  .rename_i e
   have e:=Tn e
   simp only[tD,ZyH d b t r]
   grind
def ZIf:S5 (Nat×B)->S5 (Nat×B)->S5 (Nat×B) | [],h=>h | (d,b) :: r,h=>pQ (ZIf r h) d b
def ZBN:S5 (Nat×B)->S5 (Nat×Nat)->Bool
 | [],[]=>Tl
 | (d,_) :: r,(_,i) :: l=>match Tg d i with
  |true=>ZBN r l
  |false=>Tm
 |_,_=>Tm
def ZIt(hp:S5 (Nat×B))(qD:S5 (Nat×Nat))(h:S5 (Nat×B)):S5 (Nat×B):=match ZBN hp qD with
 |true=>ZIf hp h
 |false=>Df hp (Au h qD)
theorem Ztz{X Y:S5 (Nat×B)}{t:Nat}(e:oP X t=oP Y t):∀r:S5 (Nat×B),oP (Df r X) t=oP (Df r Y) t
 | []=>e
 | (d,b) :: r=>by simp only[Df,Az,Ztz e r]
theorem ZCy{h:S5 (Nat×B)}{t:Nat}{b:B}:∀{hp:S5 (Nat×B)}{l:S5 (Nat×Nat)},ZBN hp l=Tl->oP (ZIf hp h) t=S8 b->oP (Df hp (Au h l)) t=S8 b
 | [],[],_,e=>e
 | [],_ :: _,hs,_=>by cases hs
 |_ :: _,[],hs,_=>by cases hs
 | (d,b0) :: r,(c,i) :: l,hs,e=>by
  simp[ZBN]at hs
  split at hs
  rotate_left
  .cases hs
  rename_i hd
  obtain rfl:=TF hd
  simp[ZIf,ZyH]at e
  simp[Df,Au,Az]
  by_cases h1:d=t
  .simp_all
  .rw[aE_ h1]at e ⊢
   rw[Ztz (Y:=Au h l) (by rw[Ha,aE_ h1])]
   exact ZCy hs e
theorem ZNQ(e:oP (ZIt hp l h) t=S8 b):oP (Df hp (Au h l)) t=S8 b:=by
 grind[ZCy,ZIt]
theorem qB.less{e:S5 (Nat×V)}{h':S5 (Nat×B)}(hs:qB N F S m ⟨e,h⟩ a w)(hl:∀id b,oP h' id=S8 b->oP h id=S8 b):qB N F S m ⟨e,h'⟩ a w:=
 ⟨hs.size,hs.env,hs.CG,λid b hb=>hs.heap id b (hl id b hb),λid b hb=>hs.own id b (hl id b hb),λi j b b' qN h1 h2=>hs.inj i j b b' qN (hl i b h1) (hl j b' h2),hs.u5,hs.defers,hs.pJ,hs.xg,hs.len⟩
def yU(P:Program)(N:Nat)(st:St)(c:Callee)(args:S5 Operand)(ha:HA)(an:S6 sF):S6 (V×S5 Prop×St):=match BS P st c an with
 |some (g,a,b,om)=>match sZ N st ha,hIn (bwd ha.qD) st.heap ha.qD,acD (bwd ha.qD) (vU st args a b),De (tx ha) ha.h1,A3 (tx ha) ha.res with
  |true,S8 h0,S8 vs,S8 hp,S8 r=>S8 (r,rX P g h0 vs ha.h1 ha.res :: om,⟨st.env,ZIt hp ha.qD st.heap⟩)
  |_,_,_,_,_=>S_
 |none=>S_
theorem qB.I'(hs:qB N F S m st a w){ha:HA}(qb:sZ N st ha=Tl){h0:S5 (Nat×B)}(hi:hIn (bwd ha.qD) st.heap ha.qD=S8 h0)(hr:De (tx ha) ha.h1=S8 hp) :
  ∃(no:Nat->Prop)(m0:Mp),(∀k,no k->k<w.heap.size)/\(∀k,F.no k->no k)/\((∀b,S b->no b)/\∀id b,oP (Au st.heap ha.qD) id=S8 b->∀k,sU (m id)=S8 k->no k)/\Rn (bwd ha.qD) m m0/\BB no S m0 h0 w /\
   ∀(w':World)(S':Nat->Prop)(m':Mp),p9 no S S' w w'->(∀b,S' b->b<w'.heap.size)->BB no S' m' ha.h1 w'->FT m' m0 ->
    ∃eG,qB N F S' eG ⟨st.env,Df hp (Au st.heap ha.qD)⟩ a w'/\Rn (tx ha) m' eG:=by
 unfold sZ at qb;split at qb;rotate_left
 .cases qb
 rename_i b1 b2 b3 b4;have hbi:=@ZLb _ b1;have mj:=@ZLb _ b2;have mQ:∀c i,(c,i)∈ha.qD->BD<=c:=λc i hm=>Td (Tt.1 b3 _ hm);have mR:∀c i,(c,i)∈ha.new->so N i st=Tl:=λc i hm=>Tt.1 b4 _ hm;obtain⟨i1,i2⟩:=ZVA hi
 let no:Nat->Prop:=λk=>k<w.heap.size/\∀c i,(c,i)∈ha.qD->sU (m i)≠S8 k
 let m0:Mp:=⟨λj=>match As ha.qD j with
  |some i=>m i
  |none=>m j,m.L⟩
 have fM:∀c i,As ha.qD c=S8 i->m0 c=m i:=λc i h=>by grind
 have hF:∀k,F.no k->no k:=λk hk=>⟨hs.pJ k hk,λc i hm e=>by
  obtain⟨b,hb⟩:=i2 c i hm;exact(hs.own i b hb k e).2.1 hk⟩
 have kP:Rn (bwd ha.qD) m m0:=⟨λk k' h=>fM k' k (hbi.2 h),λ_ h=>h⟩;have hS:∀b,S b->no b:=λb hb=>⟨hs.u5 b hb,λc i hm e=>by
  obtain⟨b0,cn⟩:=i2 c i hm;exact(hs.own i _ cn b e).1 hb⟩
 have hO:∀id b,oP (Au st.heap ha.qD) id=S8 b->∀k,sU (m id)=S8 k->no k:=λid b hb k hk=>by
  obtain⟨q1,q2⟩:=ZuB _ _ _ _ hb;refine⟨(hs.own _ b q1 k hk).2.2,λc i hm e=>?_⟩;obtain⟨b0,cn⟩:=i2 c i hm;refine hs.inj _ i _ _ ?_ q1 cn k hk e
  grind
 refine⟨no,_,λk hk=>hk.1,hF,⟨hS,hO⟩,kP,⟨λc b' bg=>?_,λc b' bg k hk=>?_,λc c' b b' qN h1 h2 k hk sR=>?_,λb hb=>hF b (hs.len.2 b hb)⟩,λw' S' m' dV mS pQ hpm=>?_⟩
 .obtain⟨i,b,h1,h2,h3⟩:=i1 c b' bg;rw[fM c i (Jw b1 h1).1];exact ZPn kP (hs.heap i b h2) h3
 .obtain⟨i,b,h1,h2,h3⟩:=i1 c b' bg;rw[fM c i (Jw b1 h1).1]at hk;obtain⟨h4,h5,h6⟩:=hs.own i b h2 k hk
  grind
 .obtain⟨i,b,h3,h4,h5⟩:=i1 c b h1;obtain⟨i',b',h6,h7,h8⟩:=i1 c' b' h2;rw[fM c i (Jw b1 h3).1]at hk;rw[fM _ _ (Jw b1 h6).1]at sR;refine hs.inj i _ _ _ ?_ h4 h7 k hk sR;rintro rfl;have e1:=(Jw b1 h3).2;rw[(Jw b1 h6).2]at e1;simp_all
 .let eG:Mp:=⟨λi=>match bwd ha.new i with
   |some j=>m' j
   |none=>m i,m.L⟩
  have eu:∀i,bwd ha.new i≠S_->so N i st=Tl:=λi h=>by
   cases e:bwd ha.new i with
   |none=>exact aFe e h
   |some j=>exact mR j i (ZDh e)
  have cQ:∀i b,oP st.heap i=S8 b->bwd ha.new i=S_:=λi b hb=>by
   cases e:bwd ha.new i with
   |none=>rfl
   |some j=>
    have:=(hs.vE (mR j i (ZDh e))).2.1;simp_all
  have GP:∀i,bwd ha.new i=S_->eG i=m i:=λi h=>by grind
  have hg:Rn (tx ha) m' eG:=by
   refine⟨λk k' h=>?_,λb hb=>by rw[hpm.L]at hb;exact hb⟩;unfold tx at h;split at h
   .rename_i i hl;cases h;obtain⟨b,hb⟩:=i2 k k' (R0 hl);rw[GP k' (cQ k' b hb),hpm.xg k (mQ k k' (R0 hl)),fM k k' hl]
   grind
  have cK:tj S w w':=λb hb=>dV.below.block b ⟨hs.u5 b hb,λc i hm e=>by
   grind⟩
  have eq:tj m.L w w':=λb hb=>dV.below.block b (hF b (hs.len.2 b hb))
  let bC:=ha.new.map λp=>p.2
  have cw:∀k,k ∉ bC->eG k=m k:=λk hk=>GP k (by
   cases e:bwd ha.new k with
   |none=>rfl
   |some j=>exact aFe (Uf.2 ⟨_,ZDh e,rfl⟩) hk)
  have hqn:∀i,i∈bC->so N i st=Tl:=λi hi=>by
   grind
  -- a block that is not lent
  have cN:∀id b,oP (Au st.heap ha.qD) id=S8 b->oP st.heap id=S8 b/\eG id=m id/\∀k,sU (m id)=S8 k->no k/\¬S k/\¬F.no k:=by
   intro id b hb;obtain⟨h1,h2⟩:=ZuB _ _ _ _ hb;refine⟨h1,GP id (cQ id b h1),λk hk=>?_⟩;obtain⟨h3,h4,h5⟩:=hs.own id b h1 k hk
   grind
  have co:∀id b,oP hp id=S8 b->∃j b0,tx ha j=S8 id/\eG id=m' j/\oP ha.h1 j=S8 b0/\vq (tx ha) b0=S8 b:=by
   intro id b hb;obtain⟨j,b0,h1,h2,h3⟩:=ZIg hr id b hb;exact⟨j,b0,h1,hg.at_ j id h1,h2,h3⟩
  refine⟨eG,⟨hs.size,λt=>?_,hs.CG,λid b hb=>?_,λid b hb k hk=>?_,λi1' i2' c1 c2 qN h1 h2 k cC sR=>?_,mS,hs.defers,λk hk=>TC (hs.pJ k hk) dV.below.size,λid hid=>?_,hs.len⟩,hg⟩
  .exact((hs.env t).rm cK dV.sub eq).others (l:=bC) (λi hi=>(hs.vE (hqn i hi)).1 t) cw rfl
  .rcases Sm _ _ _ _ hb with hb|hb
   .obtain⟨j,b0,h1,h2,h3,h4⟩:=co id b hb;rw[h2];exact ZPn hg (pQ.rep j b0 h3) h4
   .obtain⟨h1,h2,h3⟩:=cN id b hb;rw[h2];exact((hs.heap id b h1).rm cK dV.sub eq λk hk=>dV.below.block k (h3 k hk).1).others (l:=bC) (λi hi=>(hs.vE (hqn i hi)).2.2 id b h1) cw rfl
  .rcases Sm _ _ _ _ hb with hb|hb
   .obtain⟨j,b0,h1,h2,h3,h4⟩:=co id b hb;rw[h2]at hk;obtain⟨h5,h6,h7⟩:=pQ.own j b0 h3 k hk
    grind
   .obtain⟨h1,h2,h3⟩:=cN id b hb;rw[h2]at hk;obtain⟨h4,h5,h6⟩:=h3 k hk;refine⟨λhS=>?_,h6,TC h4.1 dV.below.size⟩;rcases dV.sup k hS with h|h
    all_goals simp_all
  .rcases Sm _ _ _ _ h1 with h1|h1<;>rcases Sm _ _ _ _ h2 with h2|h2
   .obtain⟨j1,ly,e1,e2,e3,e4⟩:=co _ _ h1;obtain⟨j2,b2',e5,e6,e7,e8⟩:=co _ _ h2;rw[e2]at cC;rw[e6]at sR;refine pQ.inj j1 j2 _ _ ?_ e3 e7 k cC sR
    grind
   .obtain⟨j1,ly,e1,e2,e3,e4⟩:=co _ _ h1;obtain⟨e5,e6,e7⟩:=cN _ _ h2;rw[e2]at cC;rw[e6]at sR;exact(pQ.own j1 _ e3 k cC).2.1 (e7 k sR).1
   .obtain⟨j1,ly,e1,e2,e3,e4⟩:=co _ _ h2;obtain⟨e5,e6,e7⟩:=cN _ _ h1;rw[e2]at sR;rw[e6]at cC;exact(pQ.own j1 _ e3 k sR).2.1 (e7 k cC).1
   .obtain⟨e1,e2,e3⟩:=cN _ _ h1;obtain⟨e5,e6,e7⟩:=cN _ _ h2;rw[e2]at cC;rw[e6]at sR;exact hs.inj i1' i2' _ _ qN e1 e5 k cC sR
  .rw[GP id (by
    cases e:bwd ha.new id with
    |none=>rfl
    |some j=>have:=ZCb (mR j id (ZDh e));omega)]
   exact hs.xg id hid
theorem Sr(hs:qB N F S m st a w)
      (ho:o.op=.call { callee:=c,args:=args,argTypes:=bA })  {g:FuncId} {ca cb:S5 C} {om:S5 Prop} (hc:BS P st c an=S8 (g,ca,cb,om)) (hom:∀q∈om,q) :
  ∃vs:Array Value,Af S w m (vU st args.toList ca cb) vs.toList/\(xc P g->(execOp a.eval o).run P w=.ok (.enter g vs) w):=by
 cases c with
 |builtin b=>cases hc
 |value f=>
  simp[BS]at hc;split at hc
  .rename_i g' a' b' h1;cases hc;exact ZEX hs ho h1
  .cases hc
 |invoke r name=>
  simp[BS]at hc;split at hc
  .rename_i t c' g' hv;cases hc;have hr:=hs.pT r;rw[hv]at hr;obtain⟨x,gf,dQ⟩ : ∃x,a.eval r=.iface t x/\oI S w m c' x:=by
    generalize hq:a.eval r=q at hr;cases hr with
    |th h=>grind
   refine⟨#[x]++args.map a.eval,⟨by simp[vU],λj v hj=>?_⟩,λmi=>?_⟩
   .unfold vU at hj;simp only[List.map_cons,List.map_nil,List.append_nil]at hj;cases j with
    |zero=>
     simp at hj;subst hj;exact⟨x,by simp,dQ.GO⟩
    |succ j=>
     simp at hj;obtain⟨y,h1,rfl⟩:=hj;exact⟨a.eval y,by simp_all,hs.pT y⟩
   .have hm:=hom _ (List.mem_singleton.2 rfl) x w;unfold execOp;simp only[ho,Ta,resolve,Tp,Result.andThen_ok,invoke];have e0:(#[a.eval r]++args.map a.eval)[0]?=S8 (.iface t x):=by grind
    have e1:(#[a.eval r]++args.map a.eval).extract 1 (#[a.eval r]++args.map a.eval).size=args.map a.eval:=by
     simp_all
    rw[e0,e1];simp[callMethod,Ta,hm,Zvz mi]
  .cases hc
theorem ZSn(hs:qB N w0.F S m st a w)(hg:p9 w0.F.no S0 S w0.w w)
      (ho:o.op=.call { callee:=c,args:=args,argTypes:=bA }) {ha:HA}    (h:yU P N st c args.toList ha an=S8 (v,o_,pH)) (dj:∀q∈o_,q)  
  (hk:∀x w' S' m',qB N w0.F S' m' pH a w'->p9 w0.F.no S0 S' w0.w w'->o6 S' w' m' v x->K (a.put o.dst x) w'):o.wp P a w K Q:=by
 unfold yU at h;split at h;rotate_left
 .cases h
 rename_i g ca cb om hc;split at h;rotate_left
 .cases h
 rename_i h0 vs hp r qb uQ tV hr ew;cases h;have dl:rX P g h0 vs ha.h1 ha.res:=dj _ (by simp);obtain⟨xs,rr,cF⟩:=Sr (P:=P) hs ho hc λq hq=>dj q (by simp[hq]);obtain⟨no,m0,bu,hF,_,fM,pQ,dZ⟩:=hs.I' qb uQ hr;have dH:Af S w m0 vs xs.toList:=by
  exact rr.Ba (λ_ _ _=>RC fM) tV
 unfold Vj;rw[cF dl.1];have:=dl.2 no S m0 w _ hs.u5 bu pQ dH;rw[Vg]at this;refine VG this ?_;rintro e w' ⟨x,S',m',rfl,h1,h2,h3,h4,h5⟩;obtain⟨eG,bV,jc⟩:=dZ w' S' m' h1 h2 h3 h5;exact hk x w' S' eG (bV.less λ_ _ hb=>ZNQ hb) (hg.step (h1.below.mono hF) h1.sub λb hb=>(h1.sup b hb).imp id λh mT=>h (hF b mT)) (RC jc h4 ew)
def ZCs:S5 (Nat×B)->S6 (S5 Prop)
 | []=>S8 []
 | (_,.rows _ sz n c) :: l=>match ZCs l with
  |some ps=>S8 ((∀i j,i<n->j<sz->∃x,c i j=.lit x) :: ps)
  |none=>S_
 |_=>S_
def NI(st:St):S5 C->S6 (S5 C):=tI (yv st)
def CA(st:St)(v:V):S6 V:=match v with
 | .one (.qs fn na nb a b)=>match NI st (xX na a),NI st (xX nb b)with
  |some la,S8 lb=>S8 (.one (.qs fn na nb (λi=>la.getD i .oF) λi=>lb.getD i .oF))
  |_,_=>S_
 |v=>zh st v
def CB(st:St)(g:Nat->S6 Nat):S5 V->S6 (S5 V):=tI λv=>match v with
 | .one (.p8 id n)=>match g id with
  |some k=>S8 (V.one (.p8 k n))
  |none=>CA st v
 |v=>CA st v
theorem ZQM(hS:∀b,S b->S' b)(hO:∀id b,oP st.heap id=S8 b->se S w m (m id) b/\∀k,sU (m id)=S8 k->S' k)(hv:o6 S w m v x)(h:CA st v=S8 v'):o6 S' w ru v' x:=by
 unfold CA at h;split at h
 .split at h
  .rename_i la lb h1 h2;cases h;cases hv with
   |qs xs ys ha hb=>exact oI.qs _ _ (λi hi=>ZBx hS hO (ha i hi) (OJ h1 _ hi)) λi hi=>ZBx hS hO (hb i hi) (OJ h2 _ hi)
  .cases h
 .exact ZQN hS hO hv h
theorem amK{m0:Mp}(hg:Rn g m m0)(hS:∀b,S b->S' b)(hO:∀id b,oP st.heap id=S8 b->se S w m (m id) b/\∀k,sU (m id)=S8 k->S' k)
    (hv:Af S w m vs xs) (h:CB st g vs=S8 g6):Af S' w m0 g6 xs:=
 hv.Ba (λv v1 x h4 h1=>by
  split at h1
  .split at h1
   .rename_i k hk
    cases h1
    cases h4 with
    |p8 hm h0 hle=>exact oI.p8 (by rw[hg.at_ _ _ hk];exact hm) h0 hle
   .exact(ZQM hS hO h4 h1).tR
  .exact(ZQM hS hO h4 h1).tR) h
def Gj(P:Program)(N:Nat)(st:St)(c:Callee)(args:S5 Operand)(ha:HA)(an:S6 sF):S6 (V×S5 Prop×St):=match ha.qD,ha.res with
 | [],.one (.p8 k n)=>match BS P st c an with
  |some (g,a,b,om)=>match sZ N st ha,yw st (vU st args a b),De (tx ha) ha.h1,A3 (tx ha) ha.res,ZCs ha.h1 with
   |true,S8 vs,S8 hp,S8 r,S8 ps=>S8 (r,rX P g [] vs ha.h1 ha.res :: (ps++om),⟨st.env,Df hp (Au st.heap ha.qD)⟩)
   |_,_,_,_,_=>S_
  |none=>S_
 |_,_=>S_
def Rt(P:Program)(N:Nat)(st:St)(c:Callee)(args:S5 Operand)(ha:HA)(an:S6 sF):S6 (V×S5 Prop×St):=match ha.res with
 | .one (.p8 k n)=>match BS P st c an with
  |some (g,a,b,om)=>match sZ N st ha,hIn (bwd ha.qD) st.heap ha.qD,CB ⟨st.env,Au st.heap ha.qD⟩ (bwd ha.qD) (vU st args a b),De (tx ha) ha.h1,A3 (tx ha) ha.res,ZCs ha.h1 with
   |true,S8 h0,S8 vs,S8 hp,S8 r,S8 ps=>S8 (r,rX P g h0 vs ha.h1 ha.res :: (ps++om),⟨st.env,Df hp (Au st.heap ha.qD)⟩)
   |_,_,_,_,_,_=>S_
  |none=>S_
 |_=>S_
theorem Zxx:∀{h:S5 (Nat×B)}{ps:S5 Prop},ZCs h=S8 ps->∀id b,oP h id=S8 b->∃e sz n c,b=.rows e sz n c/\(∀i j,i<n->j<sz->∃x,c i j=C.lit x)∈ps
 | [],ps,hl,id,b,hb=>by cases hb
 | (k,b0) :: l,ps,hl,id,b,hb=>by
  cases b0<;>simp only[ZCs]at hl<;>try (cases hl;done)
  rename_i e sz n c
  split at hl
  .rename_i ps' b9
   cases hl
   rw[tD]at hb
   split at hb
   .grind
   .obtain⟨e',vQ,n',c',h1,h2⟩:=Zxx b9 id b hb
    grind
  .cases hl
theorem ZOp(hs:qB N w0.F S m st a w)(hg:p9 w0.F.no S0 S w0.w w)
      (ho:o.op=.call { callee:=c,args:=args,argTypes:=bA }) {ha:HA}    (h:Rt P N st c args.toList ha an=S8 (v,o_,pH)) (dj:∀q∈o_,q)  
  (hk:∀x w' S' m',qB N w0.F S' m' pH a w'->p9 w0.F.no S0 S' w0.w w'->o6 S' w' m' v x->K (a.put o.dst x) w'):o.wp P a w K Q:=by
 unfold Rt at h;split at h;rotate_left
 .cases h
 rename_i k n gC;split at h;rotate_left
 .cases h
 rename_i g ca cb om hc;split at h;rotate_left
 .cases h
 rename_i h0 vs hp r ps qb uQ tV hr ew b9;cases h;have dl:rX P g h0 vs ha.h1 ha.res:=dj _ (by simp);obtain⟨xs,rr,cF⟩:=Sr (P:=P) hs ho hc λq hq=>dj q (by simp[hq]);obtain⟨no,m0,bu,hF,⟨hSn,hOn⟩,fM,pQ,dZ⟩:=hs.I' qb uQ hr;have dH:Af no w m0 vs xs.toList:=amK fM hSn (λid b hb=>⟨hs.heap id b (ZuB _ _ _ _ hb).1,hOn id b hb⟩) rr tV;unfold Vj;rw[cF dl.1];have:=dl.2 no no m0 w _ bu bu ⟨λid b hb=>(pQ.rep id b hb).rm (λ_ _=>rfl) hSn (λ_ _=>rfl) λ_ _=>rfl,λid b hb k hk=>⟨(pQ.own id b hb k hk).2.1,(pQ.own id b hb k hk).2⟩,pQ.inj,pQ.C7⟩ dH;rw[Vg]at this;refine VG this ?_;rintro e w' ⟨x,S',m',rfl,h1,h2,h3,h4,h5⟩;have jk:p9 no S S w w':=⟨h1.below,λ_ h=>h,λ_ h=>.inl h⟩;have gB:∀id b,oP ha.h1 id=S8 b->se S w' m' (m' id) b:=λid b hb=>by
  obtain⟨e,sz,n',c',rfl,cA⟩:=Zxx b9 id b hb;obtain⟨ys,q1,q2,q3⟩:=h3.rep id _ hb;refine⟨ys,q1,λi j hi hj=>?_,q3⟩;obtain⟨y,r1,r2⟩:=q2 i j hi hj;have hq:∀i j,i<n'->j<sz->∃x,c' i j=C.lit x:=dj _ (U1 _ (T9.2 (.inl cA)));obtain⟨z,hz⟩:=hq i j hi hj;refine⟨y,r1,?_⟩;rw[hz]at r2 ⊢;cases r2;exact .lit
 have bm:∀id b,oP ha.h1 id=S8 b->∀k,sU (m' id)=S8 k->¬S k/\¬no k/\k<w'.heap.size:=λid b hb k hk=>by
  obtain⟨q1,q2,q3⟩:=h3.own id b hb k hk
  grind
 obtain⟨eG,bV,jc⟩:=dZ w' S m' jk (λb hb=>TC (hs.u5 b hb) h1.below.size) ⟨gB,bm,h3.inj,λb hb=>pQ.C7 b (by rw[<-h5.L];exact hb)⟩ h5;have mU:o6 S w' m' ha.res x:=by
  rw[gC]at h4 ⊢;cases h4 with
  |p8 hm h0 hle=>exact oI.p8 hm h0 hle
 exact hk x w' S eG bV (hg.step (h1.below.mono λk hk=>hF k hk) (λ_ h=>h) λ_ h=>.inl h) (RC jc mU ew)
theorem ZOr(hs:qB N w0.F S m st a w)(hg:p9 w0.F.no S0 S w0.w w)
      (ho:o.op=.call { callee:=c,args:=args,argTypes:=bA }) {ha:HA}    (h:Gj P N st c args.toList ha an=S8 (v,o_,pH)) (dj:∀q∈o_,q)  
  (hk:∀x w' S' m',qB N w0.F S' m' pH a w'->p9 w0.F.no S0 S' w0.w w'->o6 S' w' m' v x->K (a.put o.dst x) w'):o.wp P a w K Q:=by
 unfold Gj at h;split at h;rotate_left
 .cases h
 rename_i k n kT gC;split at h;rotate_left
 .cases h
 rename_i g ca cb om hc;split at h;rotate_left
 .cases h
 rename_i vs hp r ps qb tV hr ew b9;cases h;have dl:rX P g [] vs ha.h1 ha.res:=dj _ (by simp);obtain⟨xs,rr,cF⟩:=Sr (P:=P) hs ho hc λq hq=>dj q (by simp[hq]);have uQ:hIn (bwd ha.qD) st.heap ha.qD=S8 []:=by rw[kT];rfl
 obtain⟨no,m0,bu,hF,_,fM,pQ,dZ⟩:=hs.I' qb uQ hr;have dH:Af (λb=>b<w.heap.size) w m0 vs xs.toList:=by
  obtain⟨e1,e2⟩:=ZQO hs rr tV;exact⟨e1,λj v hj=>by obtain⟨x,h3,h4⟩:=e2 j v hj;exact⟨x,h3,h4.tR⟩⟩
 unfold Vj;rw[cF dl.1];have:=dl.2 (λk=>k<w.heap.size) (λb=>b<w.heap.size) m0 w _ (λ_ h=>h) (λ_ h=>h) ⟨λid b hb=>(by cases hb),λid b hb=>(by cases hb),λi j b b' qN hb=>(by cases hb),λb hb=>bu b (pQ.C7 b hb)⟩ dH;rw[Vg]at this;refine VG this ?_;rintro e w' ⟨x,S',m',rfl,h1,h2,h3,h4,h5⟩;have jk:p9 no S S w w':=⟨h1.below.mono bu,λ_ h=>h,λ_ h=>.inl h⟩;have gB:∀id b,oP ha.h1 id=S8 b->se S w' m' (m' id) b:=λid b hb=>by
  obtain⟨e,sz,n',c',rfl,cA⟩:=Zxx b9 id b hb;obtain⟨ys,q1,q2,q3⟩:=h3.rep id _ hb;refine⟨ys,q1,λi j hi hj=>?_,q3⟩;obtain⟨y,r1,r2⟩:=q2 i j hi hj;have hq:∀i j,i<n'->j<sz->∃x,c' i j=C.lit x:=dj _ (U1 _ (T9.2 (.inl cA)));obtain⟨z,hz⟩:=hq i j hi hj;refine⟨y,r1,?_⟩;rw[hz]at r2 ⊢;cases r2;exact .lit
 have bm:∀id b,oP ha.h1 id=S8 b->∀k,sU (m' id)=S8 k->¬S k/\¬no k/\k<w'.heap.size:=λid b hb k hk=>by
  obtain⟨q1,q2,q3⟩:=h3.own id b hb k hk
  grind
 obtain⟨eG,bV,jc⟩:=dZ w' S m' jk (λb hb=>TC (hs.u5 b hb) h1.below.size) ⟨gB,bm,h3.inj,λb hb=>pQ.C7 b (by rw[<-h5.L];exact hb)⟩ h5;have mU:o6 S w' m' ha.res x:=by
  rw[gC]at h4 ⊢;cases h4 with
  |p8 hm h0 hle=>exact oI.p8 hm h0 hle
 exact hk x w' S eG bV (hg.step (h1.below.mono λk hk=>hs.pJ k hk) (λ_ h=>h) λ_ h=>.inl h) (RC jc mU ew)
def JD(P:Program)(N:Nat)(st:St)(c:Callee)(args:S5 Operand)(ha:HA)(an:S6 sF):S6 (V×S5 Prop×St):=match ha.qD with
 | []=>Gj P N st c args ha an
 |_ :: _=>Rt P N st c args ha an
theorem Zvb{args:S5 Operand}{ha:HA}(h:ha.qD=[]):JD P N st c args ha an=Gj P N st c args ha an:=by
 unfold JD;rw[h]
def wc(P:Program)(f:FuncId)(args:S5 V)(res:V):Prop:=xc P f/\∀(no S:Nat->Prop)(m:Mp)(w:World)(vs:S5 Value),(∀b,S b->b<w.heap.size)->(∀k,no k->k<w.heap.size)->(∀b,m.L b->no b)->Af S w m args vs->Calls P f vs.toArray w λe w'=>∃x S',e=.returned x/\p9 no S S' w w'/\(∀b,S' b->b<w'.heap.size)/\o6 S' w' ru res x
theorem wc.u9{args:S5 V}{res:V}(h:wc P f args res):yh P f args res:=
 ⟨h.1,λS w vs hS rr=>h.2 (λk=>k<w.heap.size) S ru w vs hS (λ_ h=>h) (λ_ h=>h.elim) rr⟩
def ND(st:St)(v:V):S6 V:=match v with
 | .one (.p8 id n)=>match oP st.heap id with
  |some (.rows _ sz len cc)=>S8 (.one (.vd sz len cc))
  |_=>S_
 | .one (.sl sz n c)=>S8 (.one (.vd sz n c))
 |v=>match v.pure with
  |true=>S8 v
  |false=>S_
def acm(st:St):S5 V->S6 (S5 V):=tI (ND st)
theorem oI.qD{c:Nat->Nat->C}(h:oI S w m (.sl sz n c) x)(hL:∀b,S b->m'.L b)(fH:∀c x,oI S w ru c x->oI S' w ru c x):oI S' w m' (.vd sz n c) x:=by
 cases h with
 |sl b off qe rN ha hc h1 hr=>exact .vd b _ _ rN (λhl=>⟨(ha hl).1,hL _ (ha hl).2⟩) hc h1 λi j hi hj=>fH _ _ (hr i j hi hj)
theorem oI.D6{len:Nat}{c:Nat->Nat->C}{a:S6 Addr}{cap:Nat}(h:se S w m (.slice a n cap) (.rows e sz len c))(hb:∀k,sU (.slice a n cap)=S8 k->m'.L k) :
  oI S w m' (.vd sz len c) (.slice a n cap):=by
 obtain⟨rfl,h2,h3,h4⟩:=Lu h;rcases h4 with⟨rfl,rfl,rfl⟩|⟨b,rfl⟩
 .exact .vd 0 0 (λ_ _=>undef) (Tq _) (λh=>aFe h (by omega)) (λi j h=>aFe h (by omega)) (λi j h=>aFe h (by omega)) (λi j h=>aFe h (by omega))
 .obtain⟨_,_,_,_,_,hc⟩:=Zwq h;have key:∀i j,∃x,i<n->j<sz->w.cell? ⟨b,i*sz+j,S_⟩=S8 x/\x.oneCell'=Tl/\oI S w ru (c i j) x:=by
   intro i j;by_cases hi:i<n/\j<sz
   .simp_all
   .exact⟨undef,λh1 h2=>aFe ⟨h1,h2⟩ hi⟩
  let qe:Nat->Nat->Value:=λi j=>(key i j).choose
  have hv:∀i j,i<n->j<sz->w.cell? ⟨b,i*sz+j,S_⟩=S8 (qe i j)/\(qe i j).oneCell'=Tl/\oI S w ru (c i j) (qe i j):=λi j=>(key i j).choose_spec;exact .vd b 0 qe h2 (λ_=>⟨rfl,hb b rfl⟩) (λi j hi hj=>by simp_all) (λi j hi hj=>(hv i j hi hj).2.1) (λi j hi hj=>(hv i j hi hj).2.2)
theorem ZZk(hs:qB N F S m st a w)(hv:o6 S w m v x)(h:ND st v=S8 v'):o6 S w ⟨ru.f,λk=>k<w.heap.size⟩ v' x:=by
 unfold ND at h;split at h
 .rename_i id n;split at h
  .rename_i e sz len cc hl;cases h;cases hv with
   |p8 hm EK=>
    have hB:=hs.heap id _ hl;rw[hm]at hB;exact oI.D6 (m':=⟨ru.f,λk=>k<w.heap.size⟩) hB λk hk=>(hs.own id _ hl k (by grind)).2.2
  .cases h
 .cases h;exact oI.qD hv hs.u5 λ_ _ h=>h
 .split at h
  .rename_i hp;cases h;exact hv.anyM _ hp
  .cases h
theorem ZZl(hs:qB N F S m st a w)(hv:Af S w m vs xs)(h:acm st vs=S8 g6):Af S w ⟨ru.f,λk=>k<w.heap.size⟩ g6 xs:=
 hv.Ba (λ_ _ _=>ZZk hs) h
def ZGH(P:Program)(st:St)(c:Callee)(args:S5 Operand)(ha:HA)(an:S6 sF):S6 (V×S5 Prop×St):=match BS P st c an with
 |some (g,a,b,om)=>match acm st (vU st args a b),ha.res.pure with
  |some vs,Tl=>S8 (ha.res,wc P g vs ha.res :: om,st)
  |_,_=>S_
 |none=>S_
theorem ZOq(hs:qB N w0.F S m st a w)(hg:p9 w0.F.no S0 S w0.w w)
      (ho:o.op=.call { callee:=c,args:=args,argTypes:=bA }) {ha:HA}    (h:ZGH P st c args.toList ha an=S8 (v,o_,pH)) (dj:∀q∈o_,q)  
  (hk:∀x w' S' m',qB N w0.F S' m' pH a w'->p9 w0.F.no S0 S' w0.w w'->o6 S' w' m' v x->K (a.put o.dst x) w'):o.wp P a w K Q:=by
 unfold ZGH at h;split at h;rotate_left
 .cases h
 rename_i g ca cb om hc;split at h;rotate_left
 .cases h
 rename_i vs tV hp;cases h;have dl:wc P g vs ha.res:=dj _ (by simp);obtain⟨xs,rr,cF⟩:=Sr (P:=P) hs ho hc λq hq=>dj q (by simp[hq]);have dH:=ZZl hs rr tV;unfold Vj;rw[cF dl.1];have:=dl.2 (λk=>k<w.heap.size) S ⟨ru.f,λk=>k<w.heap.size⟩ w _ hs.u5 (λ_ h=>h) (λ_ h=>h) dH;rw[Vg]at this;refine VG this ?_;rintro e w' ⟨x,S',rfl,h1,h2,h3⟩;have bV:=hs.grow (S':=S') h1.below.size h1.below.block h1.sub λb hb=>(h1.sup b hb).imp id λh=>⟨Nat.le_of_not_lt h,h2 b hb⟩;exact hk x w' S' m bV (hg.step (h1.below.mono hs.pJ) h1.sub λb hb=>(h1.sup b hb).imp id λh hF=>h (hs.pJ _ hF)) h3.tR
def Aw(P:Program)(N:Nat)(st:St)(c:Callee)(args:S5 Operand)(ha:HA)(an:S6 sF):S6 (V×S5 Prop×St):=match yU P N st c args ha an with
 |some r=>S8 r
 |none=>JD P N st c args ha an
theorem ZCP{args:S5 Operand}{ha:HA}(h:yU P N st c args ha an=S8 r):Aw P N st c args ha an=S8 r:=by
 unfold Aw;rw[h]
theorem ZOo(hs:qB N w0.F S m st a w)(hg:p9 w0.F.no S0 S w0.w w)
      (ho:o.op=.call { callee:=c,args:=args,argTypes:=bA }) {ha:HA}    (h:Aw P N st c args.toList ha an=S8 (v,o_,pH)) (dj:∀q∈o_,q)  
  (hk:∀x w' S' m',qB N w0.F S' m' pH a w'->p9 w0.F.no S0 S' w0.w w'->o6 S' w' m' v x->K (a.put o.dst x) w'):o.wp P a w K Q:=by
 grind[ZSn,ZOr,ZOp,Aw,JD]
def Ru(P:Program)(N:Nat)(st:St)(c:Callee)(args:S5 Operand)(ha:HA)(an:S6 sF):S6 (V×S5 Prop×St):=match Aw P N st c args ha an with
 |some r=>S8 r
 |none=>ZGH P st c args ha an
theorem ZOn{args:S5 Operand}{ha:HA}(h:Aw P N st c args ha an=S8 r):Ru P N st c args ha an=S8 r:=by
 unfold Ru;rw[h]
theorem ZOm(hs:qB N w0.F S m st a w)(hg:p9 w0.F.no S0 S w0.w w)
      (ho:o.op=.call { callee:=c,args:=args,argTypes:=bA }) {ha:HA}    (h:Ru P N st c args.toList ha an=S8 (v,o_,pH)) (dj:∀q∈o_,q)  
  (hk:∀x w' S' m',qB N w0.F S' m' pH a w'->p9 w0.F.no S0 S' w0.w w'->o6 S' w' m' v x->K (a.put o.dst x) w'):o.wp P a w K Q:=by
 grind[ZOo,ZOq,Ru]
def Ao(P:Program)(f:FuncId)(h0:S5 (Nat×B))(args:S5 V)(pv:V):Prop:=xc P f/\∀(no S:Nat->Prop)(m:Mp)(w:World)(vs:S5 Value),(∀b,S b->b<w.heap.size)->(∀k,no k->k<w.heap.size)->BB no S m h0 w->Af S w m args vs->Calls P f vs.toArray w λe w'=>∃x S',e=.panicked [{ v:=x,recovered:=Tm }]/\p9 no S S' w w'/\(∀b,S' b->b<w'.heap.size)/\o6 S' w' ru pv x
structure PA where
 qD:List (Nat×Nat)
 pv:V
def Q6(P:Program)(N:Nat)(st:St)(c:Callee)(args:S5 Operand)(pa:PA)(an:S6 sF):S6 (S5 Prop):=match BS P st c an with
 |some (g,a,b,om)=>match sZ N st ⟨pa.qD,[],[],pa.pv⟩,hIn (bwd pa.qD) st.heap pa.qD,acD (bwd pa.qD) (vU st args a b)with
  |true,S8 h0,S8 vs=>S8 (Ao P g h0 vs pa.pv :: om)
  |_,_,_=>S_
 |none=>S_
theorem ZEL(hs:qB N w0.F S m st a w)(hg:p9 w0.F.no S0 S w0.w w)
      (ho:o.op=.call { callee:=c,args:=args,argTypes:=bA }) {pa:PA}   (h:Q6 P N st c args.toList pa an=S8 o_) (dj:∀q∈o_,q)  
  (hk:∀x w' S',p9 w0.F.no S0 S' w0.w w'->(∀b,S' b->b<w'.heap.size)->o6 S' w' ru pa.pv x->Q (.panic [{ v:=x,recovered:=Tm }]) a w'):o.wp P a w K Q:=by
 unfold Q6 at h;split at h;rotate_left
 .cases h
 rename_i g ca cb om hc;split at h;rotate_left
 .cases h
 rename_i h0 vs qb uQ tV;cases h;have dl:Ao P g h0 vs pa.pv:=dj _ (by simp);obtain⟨xs,rr,cF⟩:=Sr (P:=P) hs ho hc λq hq=>dj q (by simp[hq]);obtain⟨no,m0,bu,hF,_,fM,pQ,_⟩:=hs.I' (ha:=⟨pa.qD,[],[],pa.pv⟩) qb uQ (hp:=[]) rfl;have dH:Af S w m0 vs xs.toList:=by
  exact rr.Ba (λ_ _ _=>RC fM) tV
 unfold Vj;rw[cF dl.1];have:=dl.2 no S m0 w _ hs.u5 bu pQ dH;rw[Vg]at this;refine VG this ?_;rintro e w' ⟨x,S',rfl,h1,h2,h3⟩;exact hk x w' S' (hg.step (h1.below.mono hF) h1.sub λb hb=>(h1.sup b hb).imp id λh mT=>h (hF b mT)) h2 h3
theorem rX.pure{args:S5 V}{id:Nat}{c:Nat->Nat->C}(h:rX P f [] args [(id,.rows e sz n c)] (.one (.p8 id n))):yh P f args (.one (.sl sz n c)):=by
 refine⟨h.1,λS w vs hS rr=>?_⟩;refine VG (h.2 (λk=>k<w.heap.size) S ru w vs hS (λ_ h=>h) ⟨λid b hb=>by simp[oP]at hb,λid b hb=>by simp[oP]at hb,λi j b b' qN h1=>by simp[oP]at h1,λb hb=>hb.elim⟩ rr) ?_;rintro e' w' ⟨x,S',m',rfl,h1,h2,h3,h4,h5⟩;have hg:oP [(id,B.rows e sz n c)] id=S8 (.rows e sz n c):=by rw[tD,aFa rfl]
 have pQ:=h3.rep id _ hg;have jT:∃a cap,m' id=.slice a n cap/\x=.slice a n cap:=by
  cases h4 with
  |p8 hm h0=>simp_all
 obtain⟨a,cap,e1,e2⟩:=jT;refine⟨x,λk=>S' k\/sU (m' id)=S8 k,rfl,⟨h1.below,λb hb=>.inl (h1.sub b hb),λb hb=>?_⟩,λb hb=>?_,?_⟩
 .rcases hb with hb|hb
  .exact h1.sup b hb
  .exact .inr (h3.own _ _ hg b hb).2.1
 .rcases hb with hb|hb
  .exact h2 b hb
  .exact(h3.own id _ hg b hb).2.2
 .have:=(oI.wL (m':=ru) pQ ⟨a,cap,e1⟩ (λb hb=>(.inl hb:S' b\/sU (m' id)=S8 b)) λk hk=>.inr hk).2;have e3:m' id=x:=by rw[e1,e2]
  rw[e3]at this ⊢;exact this
theorem ZJU{e:Nat}(qN:d≠e)(b c:B):∀(h:S5 (Nat×B)),pQ (q_ h d b) e c=q_ (pQ h e c) d b:=by
 have f1:∀{x y:Nat},x≠y->Tg x y=Tm:=λ{x y} h=>by
  cases hb:Tg x y
  all_goals simp_all
 intro h;induction h with
 |nil=>simp[q_,pQ,f1 qN]
 |cons p r ih=>
  grind[q_,pQ]
theorem ZKf{g:Nat->S6 Nat}{h h':S5 (Nat×B)}:∀{l:S5 (Nat×Nat)},(∀p∈l,oP h' p.2=oP h p.2)->hIn g h' l=hIn g h l
 | [],_=>rfl
 | (c,i) :: l,e=>by
  simp only[hIn]
  rw[e _ U0,ZKf λp hp=>e p (U1 _ hp)]
theorem C.vG:∀{c:C},c.pure=Tl->c.pI d=Tm:=by
 intro c;induction c with
 |qs fn na nb a b F9 F8=>
  simp_all[C.pure,C.pI]
 |th t c ih=>exact λh=>ih h
 |ve t n c ih=>
  simp_all[C.pure,C.pI]
 |uR n c ih=>
  simp_all[C.pure,C.pI]
 |_=>intro h;first|rfl | (simp[C.pure]at h)
theorem ZzF   (hg:g d = S_) {c:C} (h:H9 g c = S8 c'):c.pI d = Tm:=by
  have key : ∀ k k',g k = S8 k'->Tg k d = Tm:=λk k' hk =>by
    cases hb:Tg k d
    all_goals simp_all
  unfold H9 at h
  split at h
  all_goals first
    | rfl
    | (split at h
       . rename_i hk; exact key _ _ hk
       . cases h)
    | grind[C.vG]
theorem ZIi   (hg : ∀ k,g k ≠ S8 d) {c:C} (h:H9 g c = S8 c'):c'.pI d = Tm:=by
  have key : ∀ k k',g k = S8 k'->Tg k' d = Tm:=λk k' hk =>by
    cases hb:Tg k' d
    all_goals simp_all
  unfold H9 at h
  split at h
  all_goals first
    | (cases h; rfl)
    | (split at h
       . rename_i hk; cases h; exact key _ _ hk
       . cases h)
    | grind[C.vG]
theorem ZTR(hg:g d=S_){c:C}(h:A4 g c=S8 c'):c.pI d=Tm:=by
 unfold A4 at h;split at h
 .split at h
  .rename_i hp;exact C.vG hp
  .split at h
   .rename_i xs ys hx hy;simp[C.pI];exact⟨λi hi=>ZzF hg (OJ hx .oF hi),λi hi=>ZzF hg (OJ hy .oF hi)⟩
   .cases h
 .exact ZzF hg h
theorem ZYF(hg:∀k,g k≠S8 d){c:C}(h:A4 g c=S8 c'):c'.pI d=Tm:=by
 unfold A4 at h;split at h
 .split at h
  .grind[C.vG]
  .split at h
   .rename_i xs ys hx hy;cases h;have hj:∀(l:S5 C)(i:Nat),(∀c∈l,c.pI d=Tm)->(l.getD i .oF).pI d=Tm:=λl i hl=>by
     rw[Ty];cases hq:l[i]? with
     |none=>rfl
     |some q=>grind
    simp only[C.pI,Bool.or_eq_false_iff,TO,Ua,T8]
    grind[ZPS,ZIi]
   .cases h
 .exact ZIi hg h
theorem ZRq(hg:g d=S_){l:S5 C}(h:KB g l=S8 l'):l.any (C.pI d)=Tm:=
 TO.2 λc hc=>(ZPR h c hc).elim λ_ h=>by simp[ZTR hg h]
theorem ZTQ(hg:∀k,g k≠S8 d){l:S5 C}(h:KB g l=S8 l'):l'.any (C.pI d)=Tm:=
 TO.2 λc hc=>(ZPS h c hc).elim λ_ h=>by simp[ZYF hg h]
theorem ZTS(hg:g d=S_)(h:vq g b=S8 b'):b.pI d=Tm:=by
 cases b with
 |box l=>
  simp[vq]at h;obtain⟨l',h1,rfl⟩:=h;exact ZRq hg h1
 |rows e sz len c=>rfl
 |map kt l=>rfl
 |hole _ _ _ _ _=>cases h
theorem ZYG(hg:∀k,g k≠S8 d)(h:vq g b=S8 b'):b'.pI d=Tm:=by
 cases b with
 |box l=>
  simp[vq]at h;obtain⟨l',h1,rfl⟩:=h;exact ZTQ hg h1
 |rows e sz len c=>cases h;rfl
 |map kt l=>cases h;rfl
 |hole _ _ _ _ _=>cases h
theorem Zxk{d e:Nat}{c:B}(qN:e≠d):∀{h:S5 (Nat×B)},(∀b,oP h e=S8 b->b.pI d=Tm)->xW d (pQ h e c)=Tl->xW d h=Tl
 | [],_,_=>rfl
 | (k,v) :: r,hb,hq=>by
  simp[pQ]at hq
  split at hq
  .rename_i hk
   obtain rfl:=TF hk
   have hv:=hb v (by rw[tD,aFa rfl])
   simp[xW]at hq ⊢
   grind
  .rename_i hk
   have hk:=Tn hk
   simp[xW]at hq ⊢
   split at hq
   .exact Zxk qN (λb bg=>hb b (by rw[tD,aE_ hk];exact bg)) hq
   .cases hq
theorem ZCc{d e:Nat}{c:B}(hc:c.pI d=Tm):∀{h:S5 (Nat×B)},xW d h=Tl->xW d (pQ h e c)=Tl
 | [],_=>rfl
 | (k,v) :: r,hq=>by
  simp only[xW]at hq
  split at hq
  .rename_i h1 h2
   simp only[pQ]
   split
   .rename_i hk
    obtain rfl:=TF hk
    simp only[xW,h1,hc]
    exact hq
   .simp only[xW,h1,h2]
    exact ZCc hc hq
  .cases hq
end
section
def rD{α:Type}:S5 (Nat×α)->Nat->S6 α
 | [],_=>S_
 | (k,v) :: r,t=>match Tg k t with
  |true=>S8 v
  |false=>rD r t
structure RA where
 an:List (Nat×sF)
 bl:List (Nat×Bool)
 fz:List (Nat×List Nat)
 ct:List (List Nat)
 dn:List (Nat×List (Nat×C))
 rl:List (Nat×Nat×(Nat->Nat->C))
 hc:List (Nat×HA)
def rz:RA:=⟨[],[],[],[],[],[],[]⟩
def rA(an:S5 (Nat×sF)):RA:=⟨an,[],[],[],[],[],[]⟩
def rB(bl:S5 (Nat×Bool)):RA:=⟨[],bl,[],[],[],[],[]⟩
def rH(an:S5 (Nat×sF))(hc:S5 (Nat×HA)):RA:=⟨an,[],[],[],[],[],hc⟩
def aI(x:Int):sF:=.r (.one (.lit (.int .i64 x))) []
def aB(x:Bool):sF:=.r (.one (.lit (.bool x))) []
def aG(l:S5 C):sF:=.r (.agg l) []
def Q8:S5 Nat->St->S6 St
 | [],st=>S8 st
 |id :: r,st=>match oP st.heap id with
  |some b=>Q8 r (st.freeze id b)
  |none=>S_
def yf(ops:Array Oper)(st:St)(o:Oper):S6 Bool:=match o.guard with
 |none=>S8 Tl
 |some (j,want)=>match (ops[j]?).bind (·.dst)with
  |some t=>match st.get t with
   | .one (.lit (.bool b))=>S8 (b==want)
   | .one (.lit (.tuple _))=>S8 Tm
   |_=>S_
  |none=>S_
def wq(N:Nat)(st:St)(dst:S6 Nat)(v:V):S6 St:=match dst with
 |none=>S8 st
 |some d=>match T6 d N with
  |true=>S8 (st.put d v)
  |false=>S_
def ZGN(b:S6 Bool)(v:V)(o_:S5 Prop):S6 (V×S5 Prop):=match b,v with
 |none,v=>S8 (v,o_)
 |some b,.one (.lit (.bool e))=>S8 (.one (.lit (.bool b)),(e=b) :: o_)
 |_,_=>S_
def dnC(c e:C):S6 C:=match c,e with
 | .lit (.slice S_ 0 0),.sl sz 0 f=>S8 (.sl sz 0 f)
 | .lit (.pointer S_),.rp Tl n f=>S8 (.rp Tl n f)
 |_,_=>S_
variable{w:World}{o_ tw:S5 Prop}{N i:Nat}{st pH:St}{a:Act}{ops:Array Oper}{S0 S:Nat->Prop}{w0:t_}{m:Mp}{o:Oper}{P:Program}{Q:Exit->Act->World->Prop}{x:Value}{v v':V}{T:qP}{K:Act->World->Prop}{r:S6 (Nat×(Nat->Nat->C))}
theorem ZWm{c e c':C}(h:oI S w m c x)(hd:dnC c e=S8 c'):oI S w m c' x/\(x.oneCell'=Tl->x.oneCell'=Tl):=by
 unfold dnC at hd;split at hd
 .cases hd;cases h;exact⟨.sl 0 0 (λ_ _=>undef) (Tq _) (λh=>aFe h (by omega)) (λi j h=>aFe h (by omega)) (λi j h=>aFe h (by omega)) (λi j h=>aFe h (by omega)),λh=>h⟩
 .cases hd;cases h;exact⟨.EH,λh=>h⟩
 .cases hd
def Rk:S5 (Nat×C)->S5 C->S6 (S5 C)
 | [],l=>S8 l
 | (k,e) :: r,l=>match l[k]? with
  |some c=>match dnC c e with
   |some c'=>Rk r (l.set k c')
   |none=>S_
  |none=>S_
theorem ZOB{S:Nat->Prop}{w:World}{m:Mp}:∀{ps:S5 (Nat×C)}{l l':S5 C}{xs:S5 Value},qk S w m l xs->Rk ps l=S8 l'->qk S w m l' xs
 | [],l,l',xs,h,hd=>by cases hd;exact h
 | (k,e) :: r,l,l',xs,h,hd=>by
  simp only[Rk]at hd
  split at hd
  .rename_i c hc
   split at hd
   .rename_i c' D_
    refine ZOB ?_ hd
    refine⟨by simp[h.1],λj c2 hj=>?_,h.2.2⟩
    rw[VN]at hj
    split at hj
    .rename_i e
     subst e
     split at hj
     .cases hj
      obtain⟨x,h1,h2⟩:=h.2.1 k c hc
      exact⟨x,h1,(ZWm h2 D_).1⟩
     .cases hj
    .exact h.2.1 j c2 hj
   .cases hd
  .cases hd
def Od(ps:S5 (Nat×C))(v:V):S6 V:=match ps with
 | []=>S8 v
 |p :: r=>match v with
  | .one c=>match p.1,r with
   | 0,[]=>match dnC c p.2 with
    |some c'=>S8 (.one c')
    |none=>S_
   |_,_=>S_
  | .agg l=>match Rk (p :: r) l with
   |some l'=>S8 (.agg l')
   |none=>S_
  | .qw _=>S_
theorem ZOA{ps:S5 (Nat×C)}(h:o6 S w m v x)(hd:Od ps v=S8 v'):o6 S w m v' x:=by
 cases ps with
 |nil=>cases hd;exact h
 |cons p r=>
  simp only[Od]at hd;split at hd
  .split at hd
   .split at hd
    .rename_i hq;cases hd;exact(ZWm h hq).1
    .cases hd
   .cases hd
  .split at hd
   .rename_i l' hl;cases hd;obtain⟨xs,rfl,h1⟩:=h;exact⟨xs,rfl,ZOB h1 hl⟩
   .cases hd
  .cases hd
def KP(r:S6 (Nat×(Nat->Nat->C)))(v:V)(o_:S5 Prop):S6 (V×S5 Prop):=match r with
 |none=>S8 (v,o_)
 |some (n,c')=>match v with
  | .one (.sl sz len c)=>S8 (.one (.sl sz n c'),(n=len/\∀i j,i<len->j<sz->c' i j=c i j) :: o_)
  | .one (.vd sz len c)=>S8 (.one (.vd sz n c'),(n=len/\∀i j,i<len->j<sz->c' i j=c i j) :: o_)
  |_=>S_
theorem ZTM(h:o6 S w m v x)(hr:KP r v o_=S8 (v',tw))(ho:∀q∈tw,q):o6 S w m v' x:=by
 unfold KP at hr;split at hr
 .cases hr;exact h
 .split at hr
  .rename_i sz len c;cases hr;obtain⟨rfl,h2⟩:=ho _ U0;cases h with
   |sl b off qe rN ha hc h1 hr=>
    exact oI.sl b off qe rN ha hc h1 λi j hi hj=>by simp_all
  .rename_i sz len c;cases hr;obtain⟨rfl,h2⟩:=ho _ U0;cases h with
   |vd b off qe rN ha hc h1 hr=>
    exact oI.vd b off qe rN ha hc h1 λi j hi hj=>by simp_all
  .cases hr
theorem ami(hr:KP r v o_=S8 (v',tw)):∀q∈o_,q∈tw:=by
 unfold KP at hr
 grind
def kdn:S5 (Nat×S5 (Nat×C))->Nat->S5 (Nat×C)
 | [],_=>[]
 | (k,v) :: r,t=>match Tg k t with
  |true=>v
  |false=>kdn r t
def yH(P:Program)(N:Nat)(T:qP)(ops:Array Oper)(ra:RA)(i:Nat)(o:Oper)(st:St):S6 (V×S5 Prop×St):=match yf ops st o with
 |none=>S_
 |some Tm=>S8 (.one (.lit undef),[],st)
 |some Tl=>match qf P N T o st (rD ra.an i)with
  |none=>S_
  |some (v,o_,pH)=>match ZGN (rD ra.bl i) v o_ with
   |none=>S_
   |some (v',tw)=>match Od (kdn ra.dn i) v' with
    |some v''=>match KP (rD ra.rl i) v'' tw with
     |some (v3,Cq)=>S8 (v3,Cq,pH)
     |none=>S_
    |none=>S_
def ZPB(P:Program)(N:Nat)(T:qP)(ops:Array Oper)(ra:RA)(i:Nat)(o:Oper)(st:St):S6 (St×S5 Prop):=match yH P N T ops ra i o st with
 |none=>S_
 |some (v,o_,pH)=>match wq N pH o.dst v with
  |none=>S_
  |some Cl=>S8 (Cl,o_)
def ZPD(P:Program)(N:Nat)(ops:Array Oper)(ha:HA)(an:S6 sF)(o:Oper)(st:St):S6 (St×S5 Prop):=match yf ops st o with
 |some Tl=>match o.op with
  | .call { callee:=c,args:=args,argTypes:=_ }=>match Ru P N st c args.toList ha an with
   |some (v,o_,pH)=>match wq N pH o.dst v with
    |some Cl=>S8 (Cl,o_)
    |none=>S_
   |none=>S_
  |_=>S_
 |some Tm=>match wq N st o.dst (.one (.lit undef))with
  |some Cl=>S8 (Cl,[])
  |none=>S_
 |none=>S_
def Ef(P:Program)(N:Nat)(T:qP)(ops:Array Oper)(ra:RA)(i:Nat)(o:Oper)(st:St):S6 (St×S5 Prop):=match rD ra.hc i with
 |none=>ZPB P N T ops ra i o st
 |some ha=>ZPD P N ops ha (rD ra.an i) o st
def Cp(ra:RA)(i:Nat)(st:St):S6 St:=match rD ra.fz i with
 |none=>S8 st
 |some l=>Q8 l st
def Bz(P:Program)(N:Nat)(T:qP)(ops:Array Oper)(ra:RA):Nat->S5 Oper->St->S6 (St×S5 Prop)
 |_,[],st=>S8 (st,[])
 |i,o :: r,st=>match Cp ra i st with
  |none=>S_
  |some xf=>match Ef P N T ops ra i o xf with
   |none=>S_
   |some (st1,o1)=>match Bz P N T ops ra (i+1) r st1 with
    |none=>S_
    |some (st2,o2)=>S8 (st2,o1++o2)
theorem qZ.frozen{N:Nat}{S0:Nat->Prop}{w0:t_}{a:Act}{w:World}:∀{l:S5 Nat}{st pH:St},qZ N S0 w0 st a w->Q8 l st=S8 pH->qZ N S0 w0 pH a w
 | [],st,pH,h,he=>by cases he;exact h
 |id :: r,st,pH,h,he=>by
  simp only[Q8]at he
  split at he
  .rename_i b hb
   obtain⟨S,m,hs,hg⟩:=h
   refine qZ.frozen ⟨_,m,hs.freeze hb,hg.step (x_.refl _ _) (λ_ h=>.inl h) λk hk=>?_⟩ he
   rcases hk with hk|hk
   .exact .inl hk
   .exact .inr (hs.own id b hb k hk).2.1
  .cases he
theorem SJ{F:tK}(hs:qB N F S m st a w){r:Bool}(h:yf ops st o=S8 r):VF o (yielded ops a.tmps)=r:=by
 unfold yf at h;unfold VF;split at h
 .simp_all
 .rename_i j want hg;rw[hg];simp only;split at h
  .rename_i t ht;have he:=hs.env t;split at h
   .rename_i b hb;rw[hb]at he;cases h;have hq:a.tmps.getD t undef=.bool b:=by generalize a.tmps.getD t undef=q at he;cases he;rfl
    have dw:a.tmps[t]?=S8 (.bool b):=by
     rw[T']at hq;cases hx:a.tmps[t]? with
     |none=>rw[hx]at hq;cases hq
     |some x=>simp_all
    simp[yielded,ht,dw]
   .rename_i vs hb;rw[hb]at he;cases h;have hq:a.tmps.getD t undef=.tuple vs:=by generalize a.tmps.getD t undef=q at he;cases he;rfl
    have:yielded ops a.tmps j=S_:=by
     unfold yielded;rw[ht];simp only[Option.bind_some];cases hx:a.tmps[t]? with
     |none=>rfl
     |some x=>
      simp_all
    simp[this]
   .cases h
  .cases h
theorem qZ.yz(hs:qB N w0.F S m st a w)(hg:p9 w0.F.no S0 S w0.w w){dst:S6 Nat}(hv:o6 S w m v x)(h:wq N st dst v=S8 pH) :
  qZ N S0 w0 pH (a.put dst x) w:=by
 unfold wq at h;split at h
 .cases h;exact⟨S,m,hs,hg⟩
 .split at h
  .rename_i d _ hb;cases h;have hd:d<N:=Td hb;exact⟨S,m,hs.put hv hd,hg⟩
  .cases h
theorem ZUq(hT:rZ P T)(tW:qZ N S0 w0 st a w){ra:RA}
  (h:ZPB P N T ops ra i o st=S8 (pH,o_)) (ho:∀q∈o_,q)   (hk:∀a' w',qZ N S0 w0 pH a' w'->K a' w') :
  if VF o (yielded ops a.tmps)then o.wp P a w K Q else K (a.put o.dst undef) w:=by
 obtain⟨S,m,hs,hg⟩:=tW;unfold ZPB at h;split at h
 .cases h
 rename_i v dE st1 hr;split at h
 .cases h
 rename_i st2 hp;cases h;unfold yH at hr;split at hr
 .cases hr
 .rename_i bY;cases hr;rw[SJ hs bY];exact hk _ _ (qZ.yz (v:=.one (.lit undef)) hs hg oI.lit hp)
 .rename_i bY;rw[SJ hs bY];split at hr
  .cases hr
  rename_i v0 ce xf bk;split at hr
  .cases hr
  rename_i v' tw hd;split at hr;rotate_left
  .cases hr
  rename_i v'' jK;split at hr;rotate_left
  .cases hr
  rename_i v3 Cq g8;cases hr;have cG:=ami g8;unfold ZGN at hd;split at hd
  .cases hd;exact ZVZ hT hs hg bk (λq hq=>ho q (cG q hq)) λx w' S' m' h1 h2 h3=>hk _ _ (qZ.yz h1 h2 (ZTM (ZOA h3 jK) g8 ho) hp)
  .rename_i b e _;cases hd;refine ZVZ hT hs hg bk (λq hq=>ho q (cG q (U1 _ hq))) λx w' S' m' h1 h2 h3=>hk _ _ (qZ.yz h1 h2 (ZTM (ZOA (v:=.one (.lit (.bool b))) ?_ jK) g8 ho) hp);have:e=b:=ho _ (cG _ U0);simp_all
  .cases hd
theorem ZUt(hT:rZ P T)(tW:qZ N S0 w0 st a w){ha:HA}{an:S6 sF}
  (h:ZPD P N ops ha an o st=S8 (pH,o_)) (ho:∀q∈o_,q)   (hk:∀a' w',qZ N S0 w0 pH a' w'->K a' w') :
  if VF o (yielded ops a.tmps)then o.wp P a w K Q else K (a.put o.dst undef) w:=by
 obtain⟨S,m,hs,hg⟩:=tW;unfold ZPD at h;split at h
 .rename_i bY;rw[SJ hs bY];split at h
  .rename_i c args bA cM;split at h
   .rename_i v dE st1 he;split at h
    .rename_i st2 hp;cases h;exact ZOm hs hg cM he ho λx w' S' m' h1 h2 h3=>hk _ _ (qZ.yz h1 h2 h3 hp)
    .cases h
   .cases h
  .cases h
 .rename_i bY;rw[SJ hs bY];split at h
  .rename_i st2 hp;cases h;exact hk _ _ (qZ.yz (v:=.one (.lit undef)) hs hg oI.lit hp)
  .cases h
 .cases h
theorem OK(hT:rZ P T)(tW:qZ N S0 w0 st a w){ra:RA}
  (h:Ef P N T ops ra i o st=S8 (pH,o_)) (ho:∀q∈o_,q)   (hk:∀a' w',qZ N S0 w0 pH a' w'->K a' w') :
  if VF o (yielded ops a.tmps)then o.wp P a w K Q else K (a.put o.dst undef) w:=by
 unfold Ef at h;split at h
 .exact ZUq hT tW h ho hk
 .exact ZUt hT tW h ho hk
theorem ZBQ{P:Program}{T:qP}(hT:rZ P T){N:Nat}{S0:Nat->Prop}{w0:t_}{ops:Array Oper}{ra:RA}{Q:Exit->Act->World->Prop}:∀{l:S5 Oper}{i:Nat}{st pH:St}{a:Act}{w:World}{o_:S5 Prop},qZ N S0 w0 st a w ->
  Bz P N T ops ra i l st=S8 (pH,o_)->(∀q∈o_,q)->(∀a' w',qZ N S0 w0 pH a' w'->Q .normal a' w')->wpList P ops Q l a w
 | [],i,st,pH,a,w,o_,tW,h,ho,hk=>by cases h;exact hk _ _ tW
 |o :: r,i,st,pH,a,w,o_,tW,h,ho,hk=>by
  simp only[Bz]at h
  split at h
  .cases h
  rename_i xf h0
  split at h
  .cases h
  rename_i st1 o1 h1
  split at h
  .cases h
  rename_i st2 o2 h2
  cases h
  have eA:qZ N S0 w0 xf a w:=by
   unfold Cp at h0;split at h0
   .cases h0;exact tW
   .exact qZ.frozen tW h0
  refine wpList_step λK hK=>OK hT eA h1 (λq hq=>ho q (T9.2 (.inl hq))) λa' w' bV=>hK _ _ ?_;exact ZBQ hT bV h2 (λq hq=>ho q (T9.2 (.inr hq))) hk
def H8(P:Program)(N:Nat)(ops:Array Oper)(pa:PA)(an:S6 sF)(o:Oper)(st:St):S6 (V×S5 Prop):=match yf ops st o with
 |some Tl=>match o.op with
  | .call { callee:=c,args:=args,argTypes:=_ }=>match Q6 P N st c args.toList pa an with
   |some o_=>S8 (pa.pv,o_)
   |none=>S_
  | .panic x=>match pT st x with
   | .one (.th t c)=>match c.pure with
    |true=>S8 (.one (.th t c),[])
    |false=>S_
   | .one (.ve t n c)=>match (C.ve t n c).pure with
    |true=>S8 (.one (.ve t n c),[])
    |false=>S_
   |_=>S_
  |_=>S_
 |_=>S_
def D5(S0:Nat->Prop)(w0:t_)(pv:V)(Q:Exit->Act->World->Prop):Prop:=∀a x w' S',a.defers=[]->p9 w0.F.no S0 S' w0.w w'->(∀b,S' b->b<w'.heap.size)->o6 S' w' ru pv x->Q (.panic [{ v:=x,recovered:=Tm }]) a w'
theorem ZPC(tW:qZ N S0 w0 st a w){pa:PA}{an:S6 sF}{pv:V}
  (h:H8 P N ops pa an o st=S8 (pv,o_)) (ho:∀q∈o_,q)   (hk:D5 S0 w0 pv Q) :
  VF o (yielded ops a.tmps)=Tl/\o.wp P a w K Q:=by
 obtain⟨S,m,hs,hg⟩:=tW;unfold H8 at h;split at h;rotate_left
 .cases h
 rename_i bY;refine⟨SJ hs bY,?_⟩;split at h
 .rename_i c args bA cM;split at h
  .rename_i dE he;cases h;exact ZEL hs hg cM he ho λx w' S' h1 h2 h3=>hk a x w' S' hs.defers h1 h2 h3
  .cases h
 .rename_i x cM;have hx:=hs.pT x;have bD:∀t y,a.eval x=.iface t y->o6 S w ru pv (.iface t y)->o.wp P a w K Q:=by
   intro t y hv hr;have:(execOp a.eval o).run P w=.halt (.panic (.iface t y)) w:=by
    unfold execOp;simp only[cM,hv];rfl
   unfold Vj;rw[this];exact hk a _ w S hs.defers hg hs.u5 hr
  split at h
  .rename_i t c hv;rw[hv]at hx;split at h
   .rename_i hp;cases h;generalize hq:a.eval x=q at hx;cases hx with
    |th hy=>exact bD t _ hq (oI.th (hy.anyM ru hp))
   .cases h
  .rename_i t n c hv;rw[hv]at hx;split at h
   .rename_i hp;cases h;have gW:=oI.anyM (m':=ru) hx hp;generalize hq:a.eval x=q at hx gW;cases hx with
    |ve ys hy1 hy=>exact bD t _ hq gW
   .cases h
  .cases h
 .cases h
def ZIy(P:Program)(N:Nat)(T:qP)(ops:Array Oper)(ra:RA)(i:Nat)(pa:PA):Nat->S5 Oper->St->S6 (V×S5 Prop)
 |_,[],_=>S_
 |k,o :: r,st=>match Tg k i with
  |true=>match Cp ra k st with
   |none=>S_
   |some xf=>H8 P N ops pa (rD ra.an k) o xf
  |false=>match Cp ra k st with
   |none=>S_
   |some xf=>match Ef P N T ops ra k o xf with
    |none=>S_
    |some (st1,o1)=>match ZIy P N T ops ra i pa (k+1) r st1 with
     |none=>S_
     |some (v,o2)=>S8 (v,o1++o2)
theorem ZCg{P:Program}{T:qP}(hT:rZ P T){N:Nat}{S0:Nat->Prop}{w0:t_}{ops:Array Oper}{ra:RA}{i:Nat}{pa:PA}{Q:Exit->Act->World->Prop}:∀{l:S5 Oper}{k:Nat}{st:St}{a:Act}{w:World}{pv:V}{o_:S5 Prop},qZ N S0 w0 st a w ->
  ZIy P N T ops ra i pa k l st=S8 (pv,o_)->(∀q∈o_,q)->D5 S0 w0 pv Q->wpList P ops Q l a w
 | [],k,st,a,w,pv,o_,tW,h,ho,hk=>by cases h
 |o :: r,k,st,a,w,pv,o_,tW,h,ho,hk=>by
  simp only[ZIy]at h
  split at h
  .split at h
   .cases h
   rename_i xf h0
   have eA:qZ N S0 w0 xf a w:=by
    unfold Cp at h0;split at h0
    .cases h0;exact tW
    .exact qZ.frozen tW h0
   refine wpList_step λK hK=>?_;obtain⟨h1,h2⟩:=ZPC (K:=K) eA h ho hk;simp_all
  .split at h
   .cases h
   rename_i xf h0;split at h
   .cases h
   rename_i st1 o1 h1;split at h
   .cases h
   rename_i v2 o2 h2;cases h;have eA:qZ N S0 w0 xf a w:=by
    unfold Cp at h0;split at h0
    .cases h0;exact tW
    .exact qZ.frozen tW h0
   refine wpList_step λK hK=>OK hT eA h1 (λq hq=>ho q (T9.2 (.inl hq))) λa' w' bV=>hK _ _ ?_;exact ZCg hT bV h2 (λq hq=>ho q (T9.2 (.inr hq))) hk
theorem ZTU(hT:rZ P T){id:Nat}{ra:RA}(tW:qZ N S0 w0 st a w)
  (h:Bz P N T ops ra 0 ops.toList st=S8 (pH,o_)) (ho:∀q∈o_,q) (hk:∀a' w',qZ N S0 w0 pH a' w'->Q .normal a' w'):(Code.region id ops Tm).wp P Q a w:=
 wp_region_list (ZBQ hT tW h ho hk)
end
section
variable{P:Program}{w:World}
theorem Zwn{m m₁ m':Machine}(h:step P m=.next m₁)(hs:Steps P m m')(qN:m≠m'):Steps P m₁ m':=by
 obtain⟨n,hn⟩:=hs;cases n with
 |zero=>simp[runN]at hn;exact aFe hn qN
 |succ n=>simp only[runN,h]at hn;exact⟨n,hn⟩
theorem Zyz{fr fr':Frame}{cs i9:S5 Frame}{w':World}(h:lone fr cs w=lone fr' i9 w'):fr=fr':=by
 have:=aFj (λm:Machine=>(m.gs[0]?).map (·.frame)) h;simpa[lone]using this
theorem Zza{id:Nat}:∀{k k':S5 Item},exitTo id k=S8 k'->S7 k'<S7 k
 | [],k',h=>by simp[exitTo]at h
 |x :: k,k',h=>by
  have key:exitTo id k=S8 k'->S7 k'<(x :: k).length:=λh=>by have:=Zza h;simp;omega
  cases x<;>simp only[exitTo]at h<;>try exact key h
  split at h
  .cases h;simp
  .exact key h
theorem ZTm{Q:Exit->Act->World->Prop}{body:Code}{a:Act}(co:∀a w,¬Q .outgrown a w)(kg:∀l a w,¬Q (.goto l) a w)(h:body.wp P (Exit.then ((Code.loop body).wp P Q) Q) a w):(Code.loop body).wp P Q a w:=by
 intro b k cs;obtain⟨e,a₁,w₁,hq,fG⟩:=h b (.inLoop body :: k) cs;cases e with
 |normal=>
  obtain⟨e₂,a₂,w₂,mq,fg⟩:=hq b k cs;refine⟨e₂,a₂,w₂,mq,?_⟩;have bZ:step P (lone (b.at a₁ (.code (.loop body) :: k)) cs w₁)=.next (lone (b.at a₁ (.code body :: .inLoop body :: k)) cs w₁):=step_loop
  have dV:Steps P (lone (b.at a (.code (.loop body) :: k)) cs w) (lone (b.at a₁ (.code body :: .inLoop body :: k)) cs w₁):=(Steps.one step_loop).trans (Steps.trans fG (.one step_inLoop));cases e₂ with
  |normal=>
   refine dV.trans (Zwn bZ fg λhe=>?_);have:=aFj (λfr:Frame=>S7 fr.todo) (Zyz he);simp[Frame.at]at this
  |exit id=>
   intro k' ur;refine dV.trans (Zwn bZ (fg k' ur) λhe=>?_);have:=aFj (λfr:Frame=>S7 fr.todo) (Zyz he);have h2:=Zza ur;simp[Frame.at]at this;omega
  |goto l=>exact aFe mq (kg _ _ _)
  |ret=>
   obtain⟨todo,h3⟩:=fg;refine⟨todo,dV.trans (Zwn bZ h3 λhe=>?_)⟩;have:=aFj (λfr:Frame=>fr.mode) (Zyz he);simp[Frame.at]at this
  |panic ch=>
   obtain⟨todo,h3⟩:=fg;refine⟨todo,dV.trans (Zwn bZ h3 λhe=>?_)⟩;have:=aFj (λfr:Frame=>fr.mode) (Zyz he);simp[Frame.at]at this
  |outgrown=>exact aFe mq (co _ _)
 |exit id=>exact⟨_,a₁,w₁,hq,.of_steps (.one step_loop) (.pass (x:=.inLoop body) rfl (λ_ _=>.inl (by simp)) fG)⟩
 |goto l=>exact⟨_,a₁,w₁,hq,.of_steps (.one step_loop) (.pass (x:=.inLoop body) rfl (λ_ _=>.inl (by simp)) fG)⟩
 |ret=>exact⟨_,a₁,w₁,hq,.of_steps (.one step_loop) (.pass (x:=.inLoop body) rfl (λ_ _=>.inl (by simp)) fG)⟩
 |panic ch=>exact⟨_,a₁,w₁,hq,.of_steps (.one step_loop) (.pass (x:=.inLoop body) rfl (λ_ _=>.inl (by simp)) fG)⟩
 |outgrown=>exact⟨_,a₁,w₁,hq,.of_steps (.one step_loop) (.pass (x:=.inLoop body) rfl (λ_ _=>.inl (by simp)) fG)⟩
inductive It where
 |code (c:Code)
 |xN (id:Nat)
 |yr (body:Code)
def zH(P:Program)(Q:Exit->Act->World->Prop):S5 It->Exit->Act->World->Prop
 | [],e,a,w=>Q e a w
 | .code c :: k,e,a,w=>match e with
  | .normal=>c.wp P (zH P Q k) a w
  |e=>zH P Q k e a w
 | .xN id :: k,e,a,w=>match e with
  | .normal=>zH P Q k .normal a w
  | .exit xn=>if xn=id then zH P Q k .normal a w else zH P Q k (.exit xn) a w
  |e=>zH P Q k e a w
 | .yr body :: k,e,a,w=>match e with
  | .normal=>(Code.loop body).wp P (zH P Q k) a w
  |e=>zH P Q k e a w
structure Ends (Q:Exit->Act->World->Prop):Prop where
 out:∀a w,¬Q .outgrown a w
 goto:∀l a w,¬Q (.goto l) a w
theorem Zzm{P:Program}{Q:Exit->Act->World->Prop}(h:Ends Q):∀k a w,¬zH P Q k .outgrown a w
 | [],a,w=>h.out a w
 | .code c :: k,a,w=>Zzm h k a w
 | .xN id :: k,a,w=>Zzm h k a w
 | .yr b :: k,a,w=>Zzm h k a w
theorem ZwJ{P:Program}{Q:Exit->Act->World->Prop}(h:Ends Q):∀k l a w,¬zH P Q k (.goto l) a w
 | [],l,a,w=>h.goto l a w
 | .code c :: k,l,a,w=>ZwJ h k l a w
 | .xN id :: k,l,a,w=>ZwJ h k l a w
 | .yr b :: k,l,a,w=>ZwJ h k l a w
def Good(P:Program)(N:Nat)(S0:Nat->Prop)(w0:t_)(Q:Exit->Act->World->Prop)(pF:S5 It)(st:St):Prop:=∀a w,qZ N S0 w0 st a w->zH P Q pF .normal a w
section
variable {P:Program} {N:Nat} {S0:Nat->Prop} {w0:t_} {Q:Exit->Act->World->Prop} {k:S5 It} {st pH : St}
theorem ZVG(h:Good P N S0 w0 Q k st):Good P N S0 w0 Q (.code .skip :: k) st:=λa w hs=>wp_skip (h a w hs)
variable{id:Nat}{x y body:Code}
theorem ZGx(h:Good P N S0 w0 Q (.code x :: .code y :: k) st):Good P N S0 w0 Q (.code (.seq x y) :: k) st:=by
 intro a w hs;refine wp_seq (wp_mono (h a w hs) λe a w hq=>?_);cases e<;>exact hq
theorem ZSf(h:Good P N S0 w0 Q (.code x :: .xN id :: k) st):Good P N S0 w0 Q (.code (.block id x) :: k) st:=by
 intro a w hs;refine wp_block (wp_mono (h a w hs) λe a w hq=>?_);cases e<;>exact hq
theorem ZVK(h:Good P N S0 w0 Q k st):Good P N S0 w0 Q (.xN id :: k) st:=h
theorem ZVH(hE:Ends Q)(h:Good P N S0 w0 Q (.code body :: .yr body :: k) st):Good P N S0 w0 Q (.code (.loop body) :: k) st:=by
 intro a w hs;refine ZTm (Zzm hE k) (ZwJ hE k) (wp_mono (h a w hs) λe a w hq=>?_);cases e<;>exact hq
theorem ZVJ(h:Good P N S0 w0 Q (.code (.loop body) :: k) st):Good P N S0 w0 Q (.yr body :: k) st:=h
def QK(id:Nat):S5 It->S6 (S5 It)
 | []=>S_
 | .xN i :: k=>match Tg id i with
  |true=>S8 k
  |false=>QK id k
 |_ :: k=>QK id k
theorem ZwH{id:Nat}{a:Act}{w:World}:∀{k k':S5 It},QK id k=S8 k'->zH P Q k' .normal a w->zH P Q k (.exit id) a w
 | [],k',h,hc=>by cases h
 | .code c :: k,k',h,hc=>ZwH (k:=k) h hc
 | .yr b :: k,k',h,hc=>ZwH (k:=k) h hc
 | .xN i :: k,k',h,hc=>by
  simp only[QK]at h
  simp only[zH]
  split at h
  .rename_i hb
   cases h
   rw[aFa (ta hb)]
   exact hc
  .rename_i hb
   rw[aE_ (Tn hb)]
   exact ZwH (k:=k) h hc
theorem ZVI{k':S5 It}(he:QK id k=S8 k')(h:Good P N S0 w0 Q k' st):Good P N S0 w0 Q (.code (.exit id) :: k) st:=
 λa w hs=>wp_exit (ZwH he (h a w hs))
theorem ZVL{c:Operand}{b e:Bool}(hc:pT st c=.one (.lit (.bool e)))(he:e=b)(h:Good P N S0 w0 Q (.code (if b then x else y) :: k) st):Good P N S0 w0 Q (.code (.cond c x y) :: k) st:=by
 intro a w hs;obtain⟨S,m,bZ,hg⟩:=hs;have:=bZ.pT c;rw[hc]at this;have hv:a.eval c=.bool e:=by generalize a.eval c=q at this;cases this;rfl
 subst he;exact wp_cond hv (h a w ⟨S,m,bZ,hg⟩)
theorem ZCC{T:qP}(hT:rZ P T){ops:Array Oper}{ra:RA}{o_:S5 Prop}(h:Bz P N T ops ra 0 ops.toList st=S8 (pH,o_))(ho:∀q∈o_,q)(hk:Good P N S0 w0 Q k pH):Good P N S0 w0 Q (.code (.region id ops Tm) :: k) st:=
 λa w hs=>ZTU hT hs h ho λa' w' bV=>hk a' w' bV
structure St.le (N:Nat) (st pH:St):Prop where
 env:∀t,pH.get t=st.get t\/pH.get t=.one .oF
 heap:∀id b,oP pH.heap id=S8 b->oP st.heap id=S8 b
theorem qZ.le{a:Act}{w:World}(h:qZ N S0 w0 st a w)(hl:St.le N st pH):qZ N S0 w0 pH a w:=by
 obtain⟨S,m,hs,hg⟩:=h;refine⟨S,m,⟨hs.size,λt=>?_,λt ht=>?_,λid b hb=>hs.heap id b (hl.heap id b hb),λid b hb=>hs.own id b (hl.heap id b hb),λi j b b' qN h1 h2=>hs.inj i j b b' qN (hl.heap i b h1) (hl.heap j b' h2),hs.u5,hs.defers,hs.pJ,hs.xg,hs.len⟩,hg⟩
 .rcases hl.env t with h|h
  .rw[h];exact hs.env t
  .rw[h];exact oI.oF
 .rcases hl.env t with h|h
  .rw[h];exact hs.CG t ht
  .exact h
end
end
section
def ZVX(T:qP)(st:St):ResultVar->S6 V
 | .tmp t=>S8 (st.get t)
 | .cell p t=>match EM T st t (st.get p)with
  |some (v,[])=>S8 v
  |_=>S_
def ZKr(T:qP)(st:St):S5 ResultVar->S6 (S5 V)
 | []=>S8 []
 |r :: l=>match ZVX T st r,ZKr T st l with
  |some v,S8 vs=>S8 (v :: vs)
  |_,_=>S_
def MQ:S5 V->S6 (S5 (Bool×S5 C))
 | []=>S8 []
 | .one c :: l=>match MQ l with
  |some r=>S8 ((Tm,[c]) :: r)
  |none=>S_
 | .agg cs :: l=>match MQ l with
  |some r=>S8 ((Tl,cs) :: r)
  |none=>S_
 | .qw _ :: _=>S_
def Ag(T:qP)(st:St)(rs:S5 ResultVar):S6 V:=match ZKr T st rs with
 |some [v]=>S8 v
 |some vs=>match MQ vs with
  |some l=>S8 (.qw l)
  |none=>S_
 |none=>S_
variable{P:Program}{fn:Func}{N:Nat}{res v:V}{w:World}{T:qP}{a:Act}{S0 S:Nat->Prop}{w0:t_}{F:tK}{m:Mp}{f:FuncId}{c:Code}{args:S5 V}{h1:S5 (Nat×B)}
theorem ZBO{t:TypeId}{px x:Value}(h:(TU t px).run P w=.ok x w):(do loadVar t (<-asAddr px):Sem Value).run P w=.ok x w:=by
 unfold TU at h;cases px<;>try (simp[Tw,Ta,stuck,Vy]at h;done)
 rename_i a;cases a with
 |none=>simp[Tw,Ta,stuck,Vy]at h
 |some a=>simpa[Tw,asAddr,Ta]using h
def ZPl(a:Act):ResultVar->Sem Value
 | .tmp t=>pure (a.tmps.getD t undef)
 | .cell p t=>do loadVar t (<-asAddr (a.tmps.getD p undef))
theorem ZRp(fn:Func)(a:Act):results fn a.tmps=(do
  let vs <-fn.results.mapM (ZPl a)
  pure (if h:vs.size=1 then vs[0]else .tuple vs)):=rfl
def NZ(S:Nat->Prop)(w:World)(m:Mp):Bool×S5 C->Value->Prop | (Tl,cs),y=>∃ys,y=.agg ys/\qk S w m cs ys.toList | (Tm,[c]),y=>oI S w m c y|_,_=>True
theorem ZSk(hT:rZ P T){st:St}(hs:qB N F S m st a w){r:ResultVar}(h:ZVX T st r=S8 v) :
  ∃x,(ZPl a r).run P w=.ok x w/\o6 S w m v x:=by
 cases r with
 |tmp t=>cases h;exact⟨_,rfl,hs.env t⟩
 |cell p t=>
  simp only[ZVX]at h;split at h
  .rename_i v' hv;cases h;obtain⟨x,h1,h2⟩:=ZEN hT hs (hs.env p) hv (by simp);exact⟨x,ZBO h1,h2⟩
  .cases h
theorem ZEJ{P:Program}{T:qP}(hT:rZ P T){N:Nat}{F:tK}{S:Nat->Prop}{m:Mp}{st:St}{a:Act}{w:World}(hs:qB N F S m st a w):∀{rs:S5 ResultVar}{vs:S5 V}(acc:Array Value),ZKr T st rs=S8 vs ->
  ∃xs:S5 Value,(rs.foldlM (λbs r=>bs.push <$> (ZPl a r)) acc).run P w=.ok (acc++xs.toArray) w/\S7 xs=S7 vs /\
   ∀(j:Nat)(v:V),vs[j]?=S8 v->∃x,xs[j]?=S8 x/\o6 S w m v x
 | [],vs,acc,h=>by cases h;exact⟨[],by simp,rfl,λj v h=>by simp at h⟩
 |r :: rs,vs,acc,h=>by
  simp only[ZKr]at h
  split at h
  .rename_i v g6 hv tV
   cases h
   obtain⟨x,h1,h2⟩:=ZSk hT hs hv
   obtain⟨xs,h3,h4,h5⟩:=ZEJ hT hs (acc.push x) tV
   refine⟨x :: xs,?_,by simp[h4],λj u hj=>?_⟩
   .simp only[List.foldlM_cons,Ta,map_eq_pure_bind,h1,Result.andThen_ok,Tp]
    simp only[map_eq_pure_bind]at h3
    rw[h3]
    simp
   .cases j with
    |zero=>simp only[Vb,S9]at hj;subst hj;exact⟨x,rfl,h2⟩
    |succ j=>simpa using h5 j u (by simpa using hj)
  .cases h
theorem ZHQ{S:Nat->Prop}{w:World}{m:Mp}:∀{vs:S5 V}{l:S5 (Bool×S5 C)}{xs:S5 Value},MQ vs=S8 l->(∀(j:Nat)(v:V),vs[j]?=S8 v->∃x,xs[j]?=S8 x/\o6 S w m v x) ->
  l.length=S7 vs/\∀(j:Nat)(p:Bool×S5 C),l[j]?=S8 p->∃y,xs[j]?=S8 y/\NZ S w m p y
 | [],l,xs,h,hx=>by cases h;exact⟨rfl,λj p h=>by simp at h⟩
 |v :: vs,l,xs,h,hx=>by
  have key:∀{q:Bool×S5 C}{r},MQ vs=S8 r->l=q :: r->(∃y,xs[0]?=S8 y/\NZ S w m q y)->S7 l=(v :: vs).length/\∀(j:Nat)(p:Bool×S5 C),l[j]?=S8 p->∃y,xs[j]?=S8 y/\NZ S w m p y:=by
   rintro q r hr rfl h0;obtain⟨h1,h2⟩:=ZHQ (xs:=xs.drop 1) hr (λj u hj=>by
    obtain⟨x,h3,h4⟩:=hx (j+1) u (by simpa using hj);exact⟨x,by rw[Us,VP];exact h3,h4⟩)
   refine⟨by simp[h1],λj p hj=>?_⟩;cases j with
   |zero=>simp only[Vb,S9]at hj;subst hj;exact h0
   |succ j=>
    obtain⟨y,h3,h4⟩:=h2 j p (by simpa using hj);exact⟨y,by rw[Us,VP]at h3;exact h3,h4⟩
  obtain⟨x,h0,h1⟩:=hx 0 v rfl;cases v with
  |one c=>
   simp only[MQ]at h;split at h
   .rename_i r hr;cases h;exact key hr rfl ⟨x,h0,h1⟩
   .cases h
  |agg cs=>
   simp only[MQ]at h;split at h
   .rename_i r hr;cases h;exact key hr rfl ⟨x,h0,h1⟩
   .cases h
  |qw l'=>cases h
theorem ZKq(hT:rZ P T){st:St}(hs:qB N F S m st a w)(h:Ag T st fn.results.toList=S8 v) :
  ∃x,(results fn a.tmps).run P w=.ok x w/\o6 S w m v x:=by
 unfold Ag at h;have aF:∀{vs},ZKr T st fn.results.toList=S8 vs->∃xs:S5 Value,(results fn a.tmps).run P w=.ok (if h:xs.toArray.size=1 then xs.toArray[0]else .tuple xs.toArray) w/\S7 xs=S7 vs /\
   ∀(j:Nat)(v:V),vs[j]?=S8 v->∃x,xs[j]?=S8 x/\o6 S w m v x:=by
  intro vs tV;obtain⟨xs,h1,h2,h3⟩:=ZEJ hT hs #[] tV;refine⟨xs,?_,h2,h3⟩;rw[ZRp];have:(fn.results.mapM (ZPl a)).run P w=.ok xs.toArray w:=by
   rw[Array.mapM_eq_foldlM,<-Array.foldlM_toList,h1];simp
  rw[Ta,this];rfl
 split at h
 .rename_i v' hv;cases h;obtain⟨xs,h1,h2,h3⟩:=aF hv;obtain⟨x,h4,h5⟩:=h3 0 _ rfl;have gS:xs=[x]:=by
   cases xs with
   |nil=>simp at h4
   |cons y ys=>
    simp at h4 h2;rw[h4,h2]
  subst gS;exact⟨x,h1,h5⟩
 .rename_i vs bu hv;split at h
  .rename_i l hl;cases h;obtain⟨xs,h1,h2,h3⟩:=aF hv;obtain⟨h4,h5⟩:=ZHQ hl h3;have qN:¬xs.toArray.size=1:=by
    intro e;simp at e;cases vs with
    |nil=>rw[h2]at e;simp at e
    |cons u us=>
     cases us with
     |nil=>exact bu u rfl
     |cons _ _=>rw[h2]at e;simp at e
   rw[dif_neg qN]at h1;refine⟨_,h1,xs.toArray,rfl,by simp;omega,λj p hj=>?_⟩;obtain⟨y,h6,h7⟩:=h5 j p hj;refine⟨y,by simpa using h6,?_⟩;obtain⟨b,cs⟩:=p
   match b,cs,h7 with
   |true,cs,h7=>exact h7
   |false,[c],h7=>exact h7
   |false,[],_=>trivial
   |false,_ :: _ :: _,_=>trivial
  .cases h
 .cases h
def St.init(args:S5 V):St:=⟨(List.range args.length).zip args,[]⟩
theorem ZPW{d:V}:∀(args:S5 V)(k t:Nat),look d (((List.range' k args.length)).zip args) t=if t<k then d else args.getD (t-k) d
 | [],k,t=>by simp[look]
 |v :: l,k,t=>by
  simp only[List.length_cons,List.range'_succ,List.zip_cons_cons,Ox]
  rw[ZPW l (k+1) t]
  by_cases h:k=t
  .subst h;simp
  .rw[aE_ h]
   by_cases h2:t<k
   .rw[aFa (by omega),aFa h2]
   .rw[aE_ (by omega),aE_ h2]
    obtain⟨n,hn⟩ : ∃n,t-k=n+1:=⟨t-k-1,by omega⟩
    rw[hn,show t-(k+1)=n by omega]
    simp
theorem St.uN(args:S5 V)(t:Nat):(St.init args).get t=args.getD t (.one .oF):=by
 unfold St.get St.init;rw[List.range_eq_range',ZPW args 0 t];simp
def uB(S0:Nat->Prop)(w0:t_)(res:V):Ending->World->Prop:=λe w'=>∃x S',e=.returned x/\p9 w0.F.no S0 S' w0.w w'/\(∀b,S' b->b<w'.heap.size)/\o6 S' w' ru res x
theorem uB.ends:Ends (bodyPost P fn (uB S0 w0 res)):=by
 refine⟨λa w h=>?_,λl a w h=>h⟩;obtain⟨x,S',h,_⟩:=h;cases h
theorem Lr{P:Program}{Q:Exit->Act->World->Prop}{a:Act}{w:World}(h:Q .ret a w):∀k,zH P Q k .ret a w
 | []=>h
 | .code c :: k=>Lr h k
 | .xN id :: k=>Lr h k
 | .yr b :: k=>Lr h k
theorem ZCf(hT:rZ P T){st1:St}(hs:qZ N S0 w0 st1 a w)(hr:Ag T st1 fn.results.toList=S8 res)(hp:res.pure=Tl) :
  a.defers=[]/\∃v,(results fn a.tmps).run P w=.ok v w/\uB S0 w0 res (.returned v) w:=by
 obtain⟨S,m,bZ,hg⟩:=hs;obtain⟨x,h1,h2⟩:=ZKq (P:=P) hT bZ hr;exact⟨bZ.defers,x,h1,x,S,rfl,hg,bZ.u5,h2.anyM ru hp⟩
theorem yh.of        (hf : P.funcs[f]? = S8 fn) (hb : fn.body = S8 c) (hn : (fn.name == "runtime.NumGoroutine") = Tm) (hN : fn.ntmps = N) (hl : TB args.length N = Tl)
  (h:∀S0 w0,Good P N S0 w0 (bodyPost P fn (uB S0 w0 res)) [.code c] (St.init args)):yh P f args res:=by
 refine⟨⟨fn,hf,hn,by rw[hb];rfl⟩,λS w vs hS rr=>?_⟩;have hle:=Td hl;have tW:qZ N S ⟨w,λk=>k<w.heap.size,ru⟩ (St.init args) { tmps:=vs.toArray++VH (fn.ntmps-vs.toArray.size) undef,defers:=[] } w:=by
  refine⟨S,ru,⟨by simp;have:=rr.1;omega,λt=>?_,λt ht=>?_,λid b hb=>by simp[St.init,oP]at hb,λid b hb=>by simp[St.init,oP]at hb,λi j b b' qN h1 h2=>by simp[St.init,oP]at h1,hS,rfl,λ_ h=>h,λ_ _=>rfl,rfl,λ_ h=>h.elim⟩,p9.refl _ _ _⟩
  .rw[St.uN];by_cases ht:t<S7 args
   .have hv:args[t]?=S8 (args.getD t (.one .oF)):=by simp[Ty,ht]
    obtain⟨x,h1,h2⟩:=rr.2 t _ hv;have:(vs.toArray++VH (fn.ntmps-vs.toArray.size) undef).getD t undef=x:=by
     have qI:t<S7 vs:=by rw[rr.1];exact ht
     rw[T',VI (by simpa using qI)];simp[h1]
    rw[this];exact h2
   .have:args.getD t (.one .oF)=.one .oF:=by simp[Ty,show ¬t<args.length from ht]
    rw[this];exact oI.oF
  .rw[St.uN];simp[Ty,show ¬t<args.length by omega]
 exact calls_of_wp hf hb (h S ⟨w,λk=>k<w.heap.size,ru⟩ _ w tW)
def wb(S0:Nat->Prop)(w0:t_)(h1:S5 (Nat×B))(res:V):Ending->World->Prop:=λe w'=>∃x S' m',e=.returned x/\p9 w0.F.no S0 S' w0.w w'/\(∀b,S' b->b<w'.heap.size)/\BB w0.F.no S' m' h1 w'/\o6 S' w' m' res x/\FT m' w0.F.xg
theorem wb.ends:Ends (bodyPost P fn (wb S0 w0 h1 res)):=by
 refine⟨λa w h=>?_,λl a w h=>h⟩;obtain⟨x,S',m',h,_⟩:=h;cases h
theorem Ou(hT:rZ P T){st1:St}(hs:qZ N S0 w0 st1 a w)(hr:Ag T st1 fn.results.toList=S8 res)
  (hh:∀id b,oP h1 id=S8 b->oP st1.heap id=S8 b):a.defers=[]/\∃v,(results fn a.tmps).run P w=.ok v w/\wb S0 w0 h1 res (.returned v) w:=by
 obtain⟨S,m,bZ,hg⟩:=hs;obtain⟨x,h2,h3⟩:=ZKq (P:=P) hT bZ hr;exact⟨bZ.defers,x,h2,x,S,m,rfl,hg,bZ.u5,⟨λid b hb=>bZ.heap id b (hh id b hb),λid b hb=>bZ.own id b (hh id b hb),λi j b b' qN e1 e2=>bZ.inj i j b b' qN (hh i b e1) (hh j b' e2),λb hb=>bZ.len.2 b hb⟩,h3,bZ.xg,bZ.len.1⟩
def St.tS(args:S5 V)(h0:S5 (Nat×B)):St:=⟨(St.init args).env,h0⟩
theorem rX.of      {h0 : S5 (Nat × B)}  {h1 : S5 (Nat × B)}  (hf : P.funcs[f]? = S8 fn) (hb : fn.body = S8 c) (hn : (fn.name == "runtime.NumGoroutine") = Tm) (hN : fn.ntmps = N) (hl : TB args.length N = Tl)
  (h:∀S0 w0,Good P N S0 w0 (bodyPost P fn (wb S0 w0 h1 res)) [.code c] (St.tS args h0)):rX P f h0 args h1 res:=by
 refine⟨⟨fn,hf,hn,by rw[hb];rfl⟩,λno S m w vs hS bu pQ rr=>?_⟩;have hle:=Td hl;have oP:∀t,(St.tS args h0).get t=args.getD t (.one .oF):=λt=>St.uN args t;have tW:qZ N S ⟨w,no,m⟩ (St.tS args h0) { tmps:=vs.toArray++VH (fn.ntmps-vs.toArray.size) undef,defers:=[] } w:=by
  refine⟨S,m,⟨by simp;have:=rr.1;omega,λt=>?_,λt ht=>?_,pQ.rep,pQ.own,pQ.inj,hS,rfl,bu,λ_ _=>rfl,rfl,pQ.C7⟩,p9.refl _ _ _⟩
  .rw[oP];by_cases ht:t<S7 args
   .have hv:args[t]?=S8 (args.getD t (.one .oF)):=by simp[Ty,ht]
    obtain⟨x,h1,h2⟩:=rr.2 t _ hv;have:(vs.toArray++VH (fn.ntmps-vs.toArray.size) undef).getD t undef=x:=by
     have qI:t<S7 vs:=by rw[rr.1];exact ht
     rw[T',VI (by simpa using qI)];simp[h1]
    rw[this];exact h2
   .have:args.getD t (.one .oF)=.one .oF:=by simp[Ty,show ¬t<args.length from ht]
    rw[this];exact oI.oF
  .rw[oP];simp[Ty,show ¬t<args.length by omega]
 exact calls_of_wp hf hb (h S ⟨w,no,m⟩ _ w tW)
end
section
def C.sS(d id:Nat):C->C
 | .ptr k off=>match Tg k d with
  |true=>.ptr id off
  |false=>.ptr k off
 | .p8 k n=>match Tg k d with
  |true=>.p8 id n
  |false=>.p8 k n
 | .rK k sz i off=>match Tg k d with
  |true=>.rK id sz i off
  |false=>.rK k sz i off
 | .rL k sz lo len n=>match Tg k d with
  |true=>.rL id sz lo len n
  |false=>.rL k sz lo len n
 | .mp k=>match Tg k d with
  |true=>.mp id
  |false=>.mp k
 | .qs fn na nb a b=>match C.pI d (.qs fn na nb a b)with
  |true=>.qs fn na nb (λi=>(a i).sS d id) (λi=>(b i).sS d id)
  |false=>.qs fn na nb a b
 | .th t c=>.th t (c.sS d id)
 | .ve t n c=>match C.pI d (.ve t n c)with
  |true=>.ve t n λi=>(c i).sS d id
  |false=>.ve t n c
 | .uR n c=>match C.pI d (.uR n c)with
  |true=>.uR n λi=>(c i).sS d id
  |false=>.uR n c
 |c=>c
def V.sS(d id:Nat):V->V | .one c=>.one (c.sS d id) | .agg l=>.agg (l.map (C.sS d id)) | .qw l=>.qw (l.map λp=>(p.1,p.2.map (C.sS d id)))
def B.sS(d id:Nat):B->B | .box l=>.box (l.map (C.sS d id)) | .hole e len c k x=>.hole e len c k (x.sS d id)|b=>b
variable{w:World}{N id:Nat}{S0 S:Nat->Prop}{w0:t_}{a:Act}{m:Mp}{x:Value}
theorem oI.sS{c:C}(h:oI S w m c x)(d id:Nat):c.pI id=Tm->oI S w (zz m id (m d)) (c.sS d id) x:=by
 have hm:=JH m id (m d);induction h with
 |lit=>exact λ_=>.lit
 |sl b off qe rN ha hc h1 hr ih=>exact λ_=>.sl b _ _ rN ha hc h1 hr
 |EH=>exact λ_=>.EH
 |rp b off qe ha hc h1 hr ih=>exact λ_=>.rp b _ _ ha hc h1 hr
 |vd b off qe rN ha hc h1 hr ih=>exact λ_=>.vd b _ _ rN ha hc h1 hr
 |yN b off qe ha hc h1 hr ih=>exact λ_=>.yN b _ _ ha hc h1 hr
 |ptr h=>
  intro hs;simp[C.sS];split
  .rename_i hb;obtain rfl:=ta hb;exact .ptr (by rw[zr];exact h)
  .exact .ptr (by rw[hm _ (Tn hs)];exact h)
 |p8 h h0 hle=>
  intro hs;simp[C.sS];split
  .rename_i hb;obtain rfl:=ta hb;exact .p8 (by rw[zr];exact h) h0 hle
  .exact .p8 (by rw[hm _ (Tn hs)];exact h) h0 hle
 |rK h=>
  intro hs;simp[C.sS];split
  .rename_i hb;obtain rfl:=ta hb;exact .rK (by rw[zr];exact h)
  .exact .rK (by rw[hm _ (Tn hs)];exact h)
 |rL h hc hl hn ha h0 h1=>
  intro hs;simp[C.sS];split
  .rename_i hb;obtain rfl:=ta hb;exact .rL (by rw[zr];exact h) hc hl hn ha h0 h1
  .exact .rL (by rw[hm _ (Tn hs)];exact h) hc hl hn ha h0 h1
 |mp h=>
  intro hs;simp[C.sS];split
  .rename_i hb;obtain rfl:=ta hb;exact .mp (by rw[zr];exact h)
  .exact .mp (by rw[hm _ (Tn hs)];exact h)
 |qs xs ys ha hb F9 F8=>
  intro hs;have bN:=hs;simp[C.pI]at hs;rw[C.sS];split
  .exact .qs _ _ (λi hi=>F9 i hi hm (hs.1 i hi)) (λi hi=>F8 i hi hm (hs.2 i hi))
  .exact(oI.qs _ _ ha hb).other _ _ hm rfl bN
 |th h ih=>exact λhs=>.th (ih hm hs)
 |ve xs h1 h ih=>
  intro hs;have bN:=hs;simp only[C.pI,TO,Ua,T8]at hs;rw[C.sS];split
  .exact .ve xs h1 (λi hi=>ih i hi hm (hs i hi))
  .exact(oI.ve xs h1 h).other _ id hm rfl bN
 |uR xs h1 h ih=>
  intro hs;have bN:=hs;simp only[C.pI,TO,Ua,T8]at hs;rw[C.sS];split
  .exact .uR xs h1 (λi hi=>ih i hi hm (hs i hi))
  .exact(oI.uR xs h1 h).other _ id hm rfl bN
 |oF=>exact λ_=>.oF
theorem qk.sS{l:S5 C}{xs:S5 Value}(h:qk S w m l xs)(d id:Nat)(hs:l.any (C.pI id)=Tm):qk S w (zz m id (m d)) (l.map (C.sS d id)) xs:=by
 refine⟨by simpa using h.1,λj c hc=>?_,h.2.2⟩;simp at hc;obtain⟨c0,h0,rfl⟩:=hc;obtain⟨x,h1,h2⟩:=h.2.1 j c0 h0;have:=TO.1 hs c0 (Tk h0);exact⟨x,h1,h2.sS d id (by grind)⟩
theorem o6.sS{v:V}(h:o6 S w m v x)(d id:Nat)(hs:v.pI id=Tm):o6 S w (zz m id (m d)) (v.sS d id) x:=by
 cases v with
 |one c=>exact oI.sS h d _ hs
 |agg l=>obtain⟨xs,h1,h2⟩:=h;exact⟨xs,h1,h2.sS d _ hs⟩
 |qw l=>
  obtain⟨xs,h1,h2,h3⟩:=h;refine⟨xs,h1,by simpa using h2,λj p hp=>?_⟩;simp only[TN,TD]at hp;obtain⟨p0,h0,rfl⟩:=hp;obtain⟨y,h4,h5⟩:=h3 j p0 h0;have hq:=TO.1 hs p0 (Tk h0);refine⟨y,h4,?_⟩;obtain⟨b,cs⟩:=p0
  match b,cs,h5,hq with
  |true,cs,h5,hq=>obtain⟨ys,h6,h7⟩:=h5;exact⟨ys,h6,h7.sS d id (by simpa using hq)⟩
  |false,[c],h5,hq=>exact oI.sS h5 d id (by simpa using hq)
  |false,[],_,_=>trivial
  |false,_ :: _ :: _,_,_=>trivial
def FI(d id:Nat):S5 (Nat×B)->S5 (Nat×B)
 | []=>[]
 | (k,b) :: r=>match Tg k d with
  |true=>(id,b.sS d id) :: FI d id r
  |false=>(k,b.sS d id) :: FI d id r
theorem ZCz{d id:Nat}:∀{l:S5 (Nat×B)}{t:Nat}{b:B},oP l id=S_->oP (FI d id l) t=S8 b->∃t0 b0,oP l t0=S8 b0/\b=b0.sS d id/\((t0=d/\t=id)\/(t0≠d/\t0=t/\t≠id))
 | [],t,b,hn,h=>by cases h
 | (k,v) :: r,t,b,hn,h=>by
  rw[tD]at hn
  split at hn
  .cases hn
  rename_i C'
  simp[FI]at h
  split at h
  .rename_i hb
   obtain rfl:=ta hb
   rw[tD]at h
   split at h
   .rename_i e
    cases h
    exact⟨k,v,by rw[tD,aFa rfl],rfl,.inl ⟨rfl,e.symm⟩⟩
   .rename_i e
    obtain⟨t0,b0,h1,h2,h3⟩:=ZCz hn h
    rcases h3 with⟨_,h4⟩|⟨h3,h4,h5⟩
    .omega
    .exact⟨t0,b0,by simp_all[tD,Ne.symm],h2,.inr ⟨h3,h4,h5⟩⟩
  .rename_i hb
   have hkd:=Tn hb
   rw[tD]at h
   split at h
   .rename_i e
    cases h
    exact⟨k,v,by rw[tD,aFa rfl],rfl,.inr ⟨hkd,e,λe'=>C' (e.trans e')⟩⟩
   .obtain⟨t0,b0,h1,h2,h3⟩:=ZCz hn h
    refine⟨t0,_,?_,h2,h3⟩
    simp_all[tD];omega
def St.sS(st:St)(d id:Nat):St:=⟨st.env.map λp=>(p.1,p.2.sS d id),FI d id st.heap⟩
theorem St.C3(st:St)(d id t:Nat):(st.sS d id).get t=(st.get t).sS d id:=
 ZBi (α:=V) (β:=V) (.one .oF) (V.sS d id) st.env t
theorem qZ.renamed{st:St}(h:qZ N S0 w0 st a w){d:Nat}(hq:so N id st=Tl):qZ N S0 w0 (st.sS d id) a w:=by
 obtain⟨S,m,hs,hg⟩:=h;obtain⟨q1,q2,q3⟩:=hs.vE hq;have hm:=JH m id (m d);have key:∀{t b},oP (st.sS d id).heap t=S8 b->∃t0 b0,oP st.heap t0=S8 b0/\b=b0.sS d id/\zz m id (m d) t=m t0/\((t0=d/\t=id)\/(t0≠d/\t0=t)):=by
  intro t b hb;obtain⟨t0,b0,h1,h2,h3⟩:=ZCz q2 hb
  grind[zr]
 refine⟨S,zz m id (m d),⟨hs.size,λt=>?_,λt ht=>?_,λt b hb=>?_,λt b hb k hk=>?_,λi j b b' qN h1 h2 k hk sR=>?_,hs.u5,hs.defers,hs.pJ,λt ht=>by rw[hm t (λe=>by have:=ZCb hq;omega)];exact hs.xg t ht,hs.len⟩,hg⟩
 .rw[St.C3];exact(hs.env t).sS d _ (q1 t)
 .rw[St.C3,hs.CG t ht];rfl
 .obtain⟨t0,b0,h1,rfl,h3,_⟩:=key hb;rw[h3];have h0:=hs.heap t0 b0 h1;cases b0 with
  |box l=>
   obtain⟨b,bB,ty,h4,h5,h6⟩:=h0;exact⟨b,_,_,h4,h5,h6.sS d _ (q3 _ _ h1)⟩
  |rows e sz len c=>exact h0
  |map kt l=>exact h0
  |hole e len c k x=>
   obtain⟨xs,h4,h5,h6⟩:=h0;exact⟨xs,h4,λi hi=>by obtain⟨y,h7,h8,h9⟩:=h5 i hi;exact⟨y,h7,h8,λe=>(h9 e).sS d _ (q3 _ _ h1)⟩,h6⟩
 .obtain⟨t0,b0,h1,rfl,h3,_⟩:=key hb;rw[h3]at hk;exact hs.own _ _ h1 k hk
 .obtain⟨t0,b0,h3,rfl,h4,h5⟩:=key h1;obtain⟨t1,b1,h6,rfl,h7,h8⟩:=key h2;rw[h4]at hk;rw[h7]at sR;refine hs.inj _ _ _ _ ?_ h3 h6 k hk sR;omega
def NK(N:Nat)(st:St)(t id:Nat)(e:TypeId)(sz:Nat)(c:Nat->Nat->C):S6 St:=match st.get t,so N id st,T6 t N with
 | .one (.lit (.slice S_ 0 0)),Tl,Tl=>S8 ({ st with heap:=(id,.rows e sz 0 c) :: st.heap }.put t (.one (.p8 id 0)))
 |_,_,_=>S_
theorem Act.Bh(a:Act)(t:Nat)(x:Value)(h:a.tmps.getD t undef=x)(ht:t<a.tmps.size):a.put (S8 t) x=a:=by
 obtain⟨tmps,ds⟩:=a;simp[Act.put];apply Array.ext
 .simp
 .intro i h1 h2;rw[Array.getElem_setIfInBounds];split
  .simp_all
  .rfl
theorem qZ.Jn{st pH:St}(h:qZ N S0 w0 st a w){t e sz:Nat}{c:Nat->Nat->C}(ha:NK N st t id e sz c=S8 pH):qZ N S0 w0 pH a w:=by
 obtain⟨S,m,hs,hg⟩:=h;unfold NK at ha;split at ha
 .rename_i hv hq hb;cases ha;have ht:t<N:=Td hb;have he:=hs.env t;rw[hv]at he;have hx:a.tmps.getD t undef=.slice S_ 0 0:=by generalize a.tmps.getD t undef=q at he;cases he;rfl
  have h2:=hs.renew id hq (.slice S_ 0 0) (.rows e sz 0 c) S_ (Tq _) (λ_ _ _=>rfl) (λk hk=>by cases hk) ⟨[],World.ownsRow_nil _ _ _ _,λi j hi=>aFe hi (by omega),by simp⟩;have h3:=h2.put (d:=t) (v:=.one (.p8 id 0)) (x:=.slice S_ 0 0) (oI.p8 (zr _ _ _) (.inl rfl) (Tq _)) ht;rw[Act.Bh a t _ hx (by rw[hs.size];exact ht)]at h3;exact⟨S,_,h3,hg⟩
 .cases ha
def ZWX(N:Nat)(st:St)(k j id:Nat)(e:TypeId)(sz:Nat)(c:Nat->Nat->C):S6 St:=match oP st.heap k with
 |some (.box l)=>match l[j]?,so N id st with
  |some (.lit (.slice S_ 0 0)),Tl=>S8 { st with heap:=uK ((id,.rows e sz 0 c) :: st.heap) k (.box (l.set j (.p8 id 0))) }
  |_,_=>S_
 |_=>S_
theorem qZ.F4{st pH:St}(h:qZ N S0 w0 st a w){k j e sz:Nat}{c:Nat->Nat->C}(ha:ZWX N st k j id e sz c=S8 pH):qZ N S0 w0 pH a w:=by
 obtain⟨S,m,hs,hg⟩:=h;unfold ZWX at ha;split at ha;rotate_left
 .cases ha
 rename_i l hl;split at ha;rotate_left
 .cases ha
 rename_i hj hq;cases ha;have qN:id≠k:=by
  rintro rfl;have:=(hs.vE hq).2.1;simp_all
 have h2:=hs.renew id hq (.slice S_ 0 0) (.rows e sz 0 c) S_ (Tq _) (λ_ _ _=>rfl) (λk hk=>by cases hk) ⟨[],World.ownsRow_nil _ _ _ _,λi j hi=>aFe hi (by omega),by simp⟩;have Rc:oP ((id,.rows e sz 0 c) :: st.heap) k=S8 (.box l):=by rw[tD,aE_ qN];exact hl
 refine⟨S,_,h2.write _ Rc (Tq _) (λ_ _ _=>rfl) ?_,hg⟩;obtain⟨b,bB,t,h3,h4,h5⟩:=h2.heap k _ Rc;refine⟨b,bB,t,h3,h4,by simp[h5.1],λi ci hi=>?_,h5.2.2⟩;rw[VN]at hi;split at hi
 .rename_i ei;subst ei;split at hi
  .cases hi;obtain⟨x,h6,h7⟩:=h5.2.1 j _ hj;cases h7;exact⟨_,h6,oI.p8 (zr _ _ _) (.inl rfl) (Tq _)⟩
  .cases hi
 .exact h5.2.1 i _ hi
def ZUo(st:St):S5 Nat->S5 (Nat×V) | []=>[]|t :: l=>(t,st.get t) :: ZUo st l
def KA(st:St):S5 Nat->S6 (S5 (Nat×B))
 | []=>S8 []
 |id :: l=>match oP st.heap id,KA st l with
  |some b,S8 r=>S8 ((id,b) :: r)
  |_,_=>S_
theorem ZEo(st:St):∀(l:S5 Nat)(t:Nat),look (.one .oF) (ZUo st l) t=st.get t\/look (.one .oF) (ZUo st l) t=.one .oF
 | [],t=>.inr rfl
 |s :: l,t=>by
  simp only[ZUo,Ox]
  split
  .simp_all
  .exact ZEo st l t
theorem OI(st:St):∀{l:S5 Nat}{r:S5 (Nat×B)},KA st l=S8 r->∀id b,oP r id=S8 b->oP st.heap id=S8 b
 | [],r,h,id,b,hb=>by cases h;cases hb
 |s :: l,r,h,id,b,hb=>by
  simp only[KA]at h
  split at h
  .rename_i b0 r0 h1 h2
   cases h
   rw[tD]at hb
   split at hb
   .simp_all
   .exact OI st h2 id b hb
  .cases h
def mask(st:St)(live ids:S5 Nat):S6 St:=match KA st ids with
 |some h=>S8 ⟨ZUo st live,h⟩
 |none=>S_
theorem amA{st pH:St}{live ids:S5 Nat}(h:mask st live ids=S8 pH):St.le N st pH:=by
 unfold mask at h;split at h
 .rename_i r hr;cases h;exact⟨λt=>ZEo _ _ t,λid b hb=>OI _ hr _ b hb⟩
 .cases h
def Cn(N:Nat):S5 (Nat×Nat)->St->S6 St
 | [],st=>S8 st
 | (d,id) :: r,st=>match so N id st with
  |true=>Cn N r (st.sS d id)
  |false=>S_
def ZQS(N:Nat):S5 (Nat×Nat×TypeId×Nat×(Nat->Nat->C))->St->S6 St
 | [],st=>S8 st
 | (t,id,e,sz,c) :: r,st=>match TB 200000 t with
  |true=>match ZWX N st ((t-200000) / 1000) ((t-200000) % 1000) id e sz c with
   |some pH=>ZQS N r pH
   |none=>S_
  |false=>match NK N st t id e sz c with
   |some pH=>ZQS N r pH
   |none=>S_
def ZQA(N:Nat):S5 (Nat×S5 (Nat×C))->St->S6 St
 | [],st=>S8 st
 | (t,ps) :: r,st=>match Od ps (st.get t),T6 t N with
  |some v,Tl=>ZQA N r (st.put t v)
  |_,_=>S_
theorem qZ.KO{N:Nat}{S0:Nat->Prop}{w0:t_}{a:Act}{w:World}:∀{l:S5 (Nat×S5 (Nat×C))}{st pH:St},qZ N S0 w0 st a w->ZQA N l st=S8 pH->qZ N S0 w0 pH a w
 | [],st,pH,h,he=>by cases he;exact h
 | (t,ps) :: r,st,pH,h,he=>by
  simp only[ZQA]at he
  split at he
  .rename_i v hv hb
   obtain⟨S,m,hs,hg⟩:=h
   have ht:t<N:=Td hb
   have h3:=hs.put (d:=t) (ZOA (hs.env t) hv) ht
   rw[Act.Bh a t _ rfl (by rw[hs.size];exact ht)]at h3
   exact qZ.KO ⟨S,m,h3,hg⟩ he
  .cases he
def ZQB:S5 (Nat×S5 (Nat×C))->St->S6 St
 | [],st=>S8 st
 | (id,ps) :: r,st=>match oP st.heap id with
  |some (.box l)=>match Rk ps l with
   |some l'=>ZQB r { st with heap:=uK st.heap id (.box l') }
   |none=>S_
  |_=>S_
theorem qZ.Bj{N:Nat}{S0:Nat->Prop}{w0:t_}{a:Act}{w:World}:∀{l:S5 (Nat×S5 (Nat×C))}{st pH:St},qZ N S0 w0 st a w->ZQB l st=S8 pH->qZ N S0 w0 pH a w
 | [],st,pH,h,he=>by cases he;exact h
 | (id,ps) :: r,st,pH,h,he=>by
  simp[ZQB]at he
  split at he
  .rename_i l hl
   split at he
   .rename_i l' iQ
    obtain⟨S,m,hs,hg⟩:=h
    obtain⟨b,bB,t,h1,h2,h3⟩:=hs.heap id _ hl
    exact qZ.Bj ⟨S,m,hs.write (.box _) hl (Tq _) (λ_ _ _=>rfl) ⟨b,_,t,h1,h2,ZOB h3 iQ⟩,hg⟩ he
   .cases he
  .cases he
def A6(id n:Nat)(c:C):C:=match c with
 | .p8 k m=>match Tg k id with
  |true=>.p8 k n
  |false=>.p8 k m
 |c=>c
def A5(id n:Nat):V->V | .one c=>.one (A6 id n c) | .agg l=>.agg (l.map (A6 id n)) | .qw l=>.qw (l.map λp=>(p.1,p.2.map (A6 id n)))
def FJ(id n:Nat):B->B | .box l=>.box (l.map (A6 id n)) | .hole e len c k x=>.hole e len c k (A6 id n x)|b=>b
def Cs:S5 (Nat×B)->Nat->B->S5 (Nat×B)
 | [],_,_=>[]
 | (k,v) :: r,d,b=>match Tg k d with
  |true=>(d,b) :: r
  |false=>(k,v) :: Cs r d b
theorem ZJW{d t:Nat}{b x:B}:∀{h:S5 (Nat×B)},oP (Cs h d b) t=S8 x->(t=d/\x=b)\/oP h t=S8 x
 | [],h=>.inr h
 | (k,v) :: r,h=>by
  simp[Cs]at h
  cases e:Tg k d with
  |true=>
   grind[TF,tD]
  |false=>
   rw[e]at h
   simp[tD]at h ⊢
   by_cases e2:k=t
   .simp_all
   simp_all[ZJW]
def Bc(st:St)(id n:Nat):S6 (St×Prop):=match oP st.heap id with
 |some (.rows e sz len c)=>S8 (⟨st.env.map λp=>(p.1,A5 id n p.2),Cs (st.heap.map λp=>(p.1,FJ id n p.2)) id (.rows e sz n c)⟩,n=len)
 |_=>S_
theorem qZ.Bc{st pH:St}{n:Nat}{p:Prop}(h:qZ N S0 w0 st a w)(hr:Go.Proofs.YtmcnjofonpkfmaaGreat.Bc st id n=S8 (pH,p))(hp:p):qZ N S0 w0 pH a w:=by
 obtain⟨S,m,hs,hg⟩:=h;unfold Go.Proofs.YtmcnjofonpkfmaaGreat.Bc at hr;split at hr
 .rename_i e sz len c hl;simp only[S9,Prod.mk.injEq]at hr;obtain⟨rfl,rfl⟩:=hr;obtain rfl:n=len:=hp;have hB:=hs.heap id _ hl;have key:∀{c x},oI S w m c x->A6 id n c=c:=by
   intro c x hc;unfold A6;split
   .split
    .rename_i hb;obtain rfl:=ta hb;cases hc with
     |p8 hm h0=>
      rw[hm]at hB;obtain⟨rfl,_⟩:=Lu hB;rfl
    .rfl
   .rfl
  have kh:∀{l xs},qk S w m l xs->qk S w m (l.map (A6 id n)) xs:=by
   intro l xs hx;refine⟨by simpa using hx.1,λj c hj=>?_,hx.2.2⟩;simp_all;obtain⟨c0,h0,rfl⟩:=hj;obtain⟨x,h1,h2⟩:=hx.2.1 j c0 h0
   grind
  have fh:∀{k b},oP (Cs (st.heap.map λp=>(p.1,FJ id n p.2)) id (.rows e sz n c)) k=S8 b->∃b0,oP st.heap k=S8 b0/\(b=b0/\k=id\/b=FJ id n b0):=by
   intro k b hb;rcases ZJW hb with⟨rfl,rfl⟩|hb
   .simp_all
   .rw[ZQl]at hb;cases hq:oP st.heap k with
    |none=>simp_all
    |some b0=>simp_all
  refine⟨S,m,⟨hs.size,λt=>?_,λt ht=>?_,λk b hb=>?_,λk b hb=>?_,λi j b b' qN h1 h2=>?_,hs.u5,hs.defers,hs.pJ,hs.xg,hs.len⟩,hg⟩
  .have he:(⟨st.env.map λp=>(p.1,A5 id n p.2),Cs (st.heap.map λp=>(p.1,FJ id n p.2)) id (.rows e sz n c)⟩ : St).get t=A5 id n (st.get t):=ZBi (α:=V) (β:=V) (.one .oF) (A5 id n) st.env t;rw[he];have h0:=hs.env t;cases hq:st.get t with
   |one c=>rw[hq]at h0;simp only[A5];rw[key h0];exact h0
   |agg l=>rw[hq]at h0;obtain⟨xs,h1,h2⟩:=h0;exact⟨xs,h1,kh h2⟩
   |qw l=>
    rw[hq]at h0;obtain⟨xs,h1,h2,h3⟩:=h0;refine⟨xs,h1,by simpa using h2,λj p hp=>?_⟩;simp only[TN,TD]at hp;obtain⟨p0,h0,rfl⟩:=hp;obtain⟨y,h4,h5⟩:=h3 j p0 h0;refine⟨y,h4,?_⟩;obtain⟨b,cs⟩:=p0
    match b,cs,h5 with
    |true,cs,h5=>grind
    |false,[c],h5=>grind
    |false,[],_=>trivial
    |false,_ :: _ :: _,_=>trivial
  .have he:(⟨st.env.map λp=>(p.1,A5 id n p.2),Cs (st.heap.map λp=>(p.1,FJ id n p.2)) id (.rows e sz n c)⟩ : St).get t=A5 id n (st.get t):=ZBi (α:=V) (β:=V) (.one .oF) (A5 id n) st.env t;rw[he,hs.CG t ht];rfl
  .obtain⟨b0,h1,h2⟩:=fh hb;have h0:=hs.heap k b0 h1;rcases h2 with⟨rfl,_⟩|rfl
   .exact h0
   .cases b0 with
    |box l=>obtain⟨b,bB,ty,h4,h5,h6⟩:=h0;exact⟨b,_,_,h4,h5,kh h6⟩
    |rows _ _ _ _=>exact h0
    |map _ _=>exact h0
    |hole e len c k x=>
     obtain⟨xs,h4,h5,h6⟩:=h0;exact⟨xs,h4,λi hi=>by grind,h6⟩
  .obtain⟨b0,h1,h2⟩:=fh hb;exact hs.own k _ h1
  .obtain⟨b0,h3,_⟩:=fh h1;obtain⟨b1,h4,_⟩:=fh h2;exact hs.inj i j _ _ qN h3 h4
 .cases hr
def ZTT:S5 (Nat×Nat)->St->S6 (St×S5 Prop)
 | [],st=>S8 (st,[])
 | (id,n) :: r,st=>match Bc st id n with
  |some (st1,p)=>match ZTT r st1 with
   |some (st2,l)=>S8 (st2,p :: l)
   |none=>S_
  |none=>S_
theorem qZ.FW{N:Nat}{S0:Nat->Prop}{w0:t_}{a:Act}{w:World}:∀{l:S5 (Nat×Nat)}{st pH:St}{o_:S5 Prop},qZ N S0 w0 st a w->Go.Proofs.YtmcnjofonpkfmaaGreat.ZTT l st=S8 (pH,o_)->(∀q∈o_,q)->qZ N S0 w0 pH a w
 | [],st,pH,o_,h,he,ho=>by cases he;exact h
 | (id,n) :: r,st,pH,o_,h,he,ho=>by
  simp only[Go.Proofs.YtmcnjofonpkfmaaGreat.ZTT]at he
  split at he
  .rename_i st1 p h1
   split at he
   .rename_i st2 l h2
    cases he
    exact qZ.FW (h.Bc h1 (ho _ U0)) h2 λq hq=>ho q (U1 _ hq)
   .cases he
  .cases he
structure NA where
 fz:List Nat
 dh:List (Nat×List (Nat×C))
 dn:List (Nat×List (Nat×C))
 rl:List (Nat×Nat)
 Rm:List (Nat×Nat×TypeId×Nat×(Nat->Nat->C))
 live:List Nat
 ids:List Nat
 sS:List (Nat×Nat)
def tidy(N:Nat)(fz:S5 Nat)(dh dn:S5 (Nat×S5 (Nat×C)))(st:St):S6 St:=match Q8 fz st with
 |none=>S_
 |some s1=>match ZQB dh s1 with
  |none=>S_
  |some s2=>ZQA N dn s2
theorem qZ.xd{fz:S5 Nat}{dh dn:S5 (Nat×S5 (Nat×C))}{st pH:St}(h:qZ N S0 w0 st a w)(he:tidy N fz dh dn st=S8 pH):qZ N S0 w0 pH a w:=by
 unfold tidy at he;split at he
 .cases he
 rename_i s1 h1;split at he
 .cases he
 rename_i s2 h2;exact((h.frozen h1).Bj h2).KO he
def norm(N:Nat)(na:NA)(st:St):S6 (St×S5 Prop):=match tidy N na.fz na.dh na.dn st with
 |none=>S_
 |some xf=>match ZQS N na.Rm xf with
 |none=>S_
 |some st1=>match mask st1 na.live na.ids with
  |none=>S_
  |some st2=>match Cn N na.sS st2 with
   |none=>S_
   |some zk=>ZTT na.rl zk
theorem qZ.Cn{N:Nat}{S0:Nat->Prop}{w0:t_}{a:Act}{w:World}:∀{l:S5 (Nat×Nat)}{st pH:St},qZ N S0 w0 st a w->Go.Proofs.YtmcnjofonpkfmaaGreat.Cn N l st=S8 pH->qZ N S0 w0 pH a w
 | [],st,pH,h,he=>by cases he;exact h
 | (d,id) :: r,st,pH,h,he=>by
  simp only[Go.Proofs.YtmcnjofonpkfmaaGreat.Cn]at he
  split at he
  .rename_i hq
   exact qZ.Cn (h.renamed hq) he
  .cases he
theorem qZ.CF{N:Nat}{S0:Nat->Prop}{w0:t_}{a:Act}{w:World}:∀{l:S5 (Nat×Nat×TypeId×Nat×(Nat->Nat->C))}{st pH:St},qZ N S0 w0 st a w->Go.Proofs.YtmcnjofonpkfmaaGreat.ZQS N l st=S8 pH->qZ N S0 w0 pH a w
 | [],st,pH,h,he=>by cases he;exact h
 | (t,id,e,sz,c) :: r,st,pH,h,he=>by
  simp only[Go.Proofs.YtmcnjofonpkfmaaGreat.ZQS]at he
  split at he
  .split at he
   .rename_i s1 hq
    exact qZ.CF (h.F4 hq) he
   .cases he
  .split at he
   .rename_i s1 hq
    exact qZ.CF (h.Jn hq) he
   .cases he
theorem qZ.norm{na:NA}{st pH:St}{o_:S5 Prop}(h:qZ N S0 w0 st a w)(he:Go.Proofs.YtmcnjofonpkfmaaGreat.norm N na st=S8 (pH,o_))(ho:∀q∈o_,q):qZ N S0 w0 pH a w:=by
 unfold Go.Proofs.YtmcnjofonpkfmaaGreat.norm at he;split at he
 .cases he
 rename_i xf h0;split at he
 .cases he
 rename_i st1 h1;split at he
 .cases he
 rename_i st2 h2;split at he
 .cases he
 rename_i zk h3;exact((((h.xd h0).CF h1).le (amA (N:=N) h2)).Cn h3).FW he ho
end
section
def rC:Op->S5 Operand | .move x | .assign x | .box _ x | .load _ x | .nilCheck x | .makeInterface _ x | .unOp _ _ x | .convert _ _ x | .fieldAddr _ x _ | .field _ x _ | .extract x _=>[x] | .pick c x y=>[c,x,y] | .build _ ps | .buildSlice _ _ ps=>ps.toList.map (·.2) | .store _ p x=>[p,x] | .binOp _ _ x y _=>[x,y] | .lookup _ x k _=>[x,k] | .mapEntry _ x k=>[x,k] | .entryStore _ x s v=>[x,s,v] | .makeSlice _ l c=>[l,c] | .slice _ x lo hi mx=>x :: (lo.toList++hi.toList++mx.toList) | .indexAddr _ x i | .index _ x i=>[x,i] | .makeFunc _ a b=>a.toList++b.toList | .call { callee:=.value f,args,.. }=>f :: args.toList | .call { callee:=.builtin _,args,.. }=>args.toList | .call { callee:=.invoke r _,args,.. }=>r :: args.toList|_=>[]
def uD(ra:RA)(i:Nat):Op->Nat
 | .move _ | .assign _=>match rD ra.an i with
  |some (.c _ _)=>4
  |_=>0
 | .pick .. | .binOp .. | .unOp .. | .convert .. | .extract .. | .field .. | .fieldAddr .. | .nilCheck _ | .indexAddr .. | .index .. | .build .. | .slice .. | .makeFunc .. | .makeInterface ..=>0
 | .call { callee:=.builtin .len,.. } | .call { callee:=.builtin .min,.. } | .call { callee:=.builtin .max,.. }=>0
 | .buildSlice ..=>match rD ra.an i with
  |some (.c _ _)=>3
  |_=>0
 | .load .. | .lookup ..=>1
 | .call { callee:=.value _,.. }=>1
 | .store .. | .mapEntry .. | .entryStore ..=>2
 | .makeSlice ..=>match rD ra.an i with
  |some (.r _ _)=>0
  |_=>3
 | .alloc _ | .box ..=>3
 | .call { callee:=.builtin .append,.. }=>match rD ra.an i with
  |some (.r _ _)=>2
  |_=>3
 |_=>4
variable{st st2:St}{T:qP}{P:Program}{N i t d:Nat}{o:Oper}{ra:RA}{an:S6 sF}{v:V}{o_:S5 Prop}{r:V×S5 Prop}{p:V×S5 Prop×St}{l args:S5 Operand}{f:Operand}
theorem ZFX(h:∀x∈l,pT st2 x=pT st x):l.map (pT st2)=l.map (pT st):=VL h
theorem Zyr{l:S5 (Nat×Operand)}(h:∀x∈l.map (·.2),pT st2 x=pT st x):(l.map λp=>(p.1,pT st2 p.2))=l.map λp=>(p.1,pT st p.2):=
 VL λp hp=>by grind
theorem ZFN{x:S6 Operand}(h:∀y∈x.toList,pT st2 y=pT st y):wE st2 x=wE st x:=by
 cases x with
 |none=>rfl
 |some x=>simp only[wE];grind
theorem ZDi(hh:st2.heap=st.heap)(c:C):yv st2 c=yv st c:=by
 unfold yv;rw[hh]
theorem ZWM(hh:st2.heap=st.heap)(l:S5 C):D0 st2 l=D0 st l:=by
 unfold D0;rw[funext (ZDi hh)]
theorem ZKV(hh:st2.heap=st.heap)(v:V):zh st2 v=zh st v:=by
 unfold zh;simp[ZDi hh,ZWM hh]
theorem ZKY(hh:st2.heap=st.heap)(l:S5 V):yw st2 l=yw st l:=by
 unfold yw;rw[funext (ZKV hh)]
theorem Hm(h:∀x∈l,pT st2 x=pT st x)(a b:S5 C):vU st2 l a b=vU st l a b:=by
 unfold vU;rw[ZFX h]
theorem ZOv(h:∀x∈f :: args,pT st2 x=pT st x)(hh:st2.heap=st.heap)(r:V):GW P st2 f args r=GW P st f args r:=by
 have hf:pT st2 f=pT st f:=h f (by simp);have ha:∀x∈args,pT st2 x=pT st x:=λx hx=>h x (by simp_all);unfold GW ER;simp[hf,Hm ha,ZKY hh]
theorem ZKy{n:Nat}{ps:S5 (Nat×V)}:∀{an:S6 sF},(∀k c,an≠S8 (.c k c))->BX N T st2 d t n ps an=(BX N T st d t n ps an).map λp=>(p.1,p.2.1,st2):=by
 intro an bu;cases an with
 |none=>
  unfold BX
  repeat' split
  all_goals simp_all
 |some a=>
  cases a with
  |c k c=>simp_all
  |_=>
   unfold BX
   repeat' split
   all_goals simp_all
theorem ZVV(hh:st2.heap=st.heap)(t:Nat)(p v:V)(an:S6 sF):G1 T st2 t p v an=(G1 T st t p v an).map λq=>(q.1,{ st2 with heap:=q.2.heap }):=by
 unfold G1;rw[hh]
 repeat' split
 all_goals rfl
theorem ZDK(hh:st2.heap=st.heap)(x s v:V)(an:S6 sF):LI st2 x s v an=(LI st x s v an).map λq=>(q.1,{ st2 with heap:=q.2.heap }):=by
 unfold LI Bu
 grind
theorem ac4(hc:uD ra i o.op=0)(h:∀x∈rC o.op,pT st2 x=pT st x) :
  qf P N T o st2 (rD ra.an i)=(qf P N T o st (rD ra.an i)).map λp=>(p.1,p.2.1,st2):=by
 obtain⟨dst,op,type,ff,after,guard⟩:=o;simp only at hc h;cases op<;>(try (simp only[uD]at hc))<;>(try (exact aFe hc (by decide)))
 case move x=>
  split at hc
  .cases hc
  .rename_i bu;simp only[qf,h x (by simp[rC])];rfl
 case assign x=>
  split at hc
  .cases hc
  .rename_i bu;simp only[qf,h x (by simp[rC])];rfl
 case pick c x y=>
  simp only[qf,h x (by simp[rC]),h y (by simp[rC]),h c (by simp[rC])]
  grind
 case build t ps=>
  simp only[qf,Zyr (st2:=st2) (st:=st) (l:=ps.toList) (by simpa[rC]using h)];have:∀q,ZCS T st2 t q=ZCS T st t q:=λq=>rfl
  grind
 case buildSlice t n ps=>
  split at hc
  .cases hc
  .rename_i bu;simp only[qf,Zyr (st2:=st2) (st:=st) (l:=ps.toList) (by simpa[rC]using h)];exact ZKy λk c hk=>bu k c hk
 case makeSlice t l c=>
  split at hc
  .rename_i v0 l0 hk;simp only[qf,h l (by simp[rC]),h c (by simp[rC]),hk];split
   .unfold ZCM;split<;>rfl
   all_goals simp_all
  .cases hc
 case nilCheck x=>
  simp only[qf,h x (by simp[rC])]
  repeat' split
  all_goals rfl
 case makeInterface t x=>simp only[qf,h x (by simp[rC])];split<;>rfl
 case binOp op t x y u=>
  simp only[qf,h x (by simp[rC]),h y (by simp[rC])]
  repeat' split
  all_goals rfl
 case unOp op t x=>simp only[qf,h x (by simp[rC])];split<;>rfl
 case convert s d x=>simp only[qf,h x (by simp[rC])];split<;>rfl
 case slice t x lo hi mx=>
  have hx:=h x (by simp[rC]);have h1:wE st2 lo=wE st lo:=ZFN λy hy=>h y (by simp only[rC,VJ,T9];simp_all);have h2:wE st2 hi=wE st hi:=ZFN λy hy=>h y (by simp only[rC,VJ,T9];simp_all);have h3:wE st2 mx=wE st mx:=ZFN λy hy=>h y (by simp only[rC,VJ,T9];exact .inr (.inr hy));simp only[qf,hx,h1,h2,h3];split<;>rfl
 case fieldAddr t x f=>simp only[qf,h x (by simp[rC])];split<;>rfl
 case field t x f=>simp only[qf,h x (by simp[rC])];split<;>rfl
 case indexAddr t x j=>simp only[qf,h x (by simp[rC]),h j (by simp[rC])];split<;>rfl
 case index t x j=>simp only[qf,h x (by simp[rC]),h j (by simp[rC])];split<;>rfl
 case extract x j=>simp only[qf,h x (by simp[rC])];split<;>rfl
 case makeFunc fn a b=>
  have h1:a.toList.map (pT st2)=a.toList.map (pT st):=ZFX λx hx=>h x (by simp only[rC,T9];exact .inl hx);have h2:b.toList.map (pT st2)=b.toList.map (pT st):=ZFX λx hx=>h x (by simp only[rC,T9];exact .inr hx);simp only[qf,h1,h2];split<;>rfl
 case call c=>
  obtain⟨callee,args,bA⟩:=c;cases callee with
  |value f=>simp_all
  |invoke r n=>rfl
  |builtin b=>
   have hm:args.toList.map (pT st2)=args.toList.map (pT st):=ZFX λx hx=>h x (by simpa[rC]using hx);cases b<;>(try (simp only[uD]at hc))<;>(try (exact aFe hc (by decide)))
   case append=>grind
   case len=>
    simp only[qf];split
    .rename_i x t hx ht;rw[h x (by simp[rC,hx])];have:∀q,ZWd T st2 t q=ZWd T st t q:=λq=>rfl
     grind
    .rfl
   case max=>simp only[qf,hm];split<;>rfl
   case min=>simp only[qf,hm];split<;>rfl
theorem ac3(hc:uD ra i o.op=1)(h:∀x∈rC o.op,pT st2 x=pT st x)(hh:st2.heap=st.heap) :
  qf P N T o st2 (rD ra.an i)=(qf P N T o st (rD ra.an i)).map λp=>(p.1,p.2.1,st2):=by
 obtain⟨dst,op,type,ff,after,guard⟩:=o;cases op<;>(try (simp only[uD]at hc))<;>(try (exact aFe hc (by decide)))
 case move x=>grind
 case assign x=>grind
 case buildSlice t n ps=>grind
 case makeSlice t l c=>grind
 case lookup t x k ok=>
  have:∀q r,CP P T st2 t q r ok (rD ra.an i)=CP P T st t q r ok (rD ra.an i):=λq r=>by unfold CP Bu;rw[hh]
  simp only[qf,h x (by simp[rC]),h k (by simp[rC]),this];split<;>rfl
 case load t p=>
  have:∀q,BT T st2 t q (rD ra.an i)=BT T st t q (rD ra.an i):=λq=>ZKx hh t q _;simp only[qf,h p (by simp[rC]),this];split<;>rfl
 case call c=>
  obtain⟨callee,args,bA⟩:=c;cases callee with
  |value f=>
   simp only[qf];have:=λr=>ZOv (P:=P) (f:=f) (args:=args.toList) (by simpa[rC]using h) hh r
   grind
  |invoke r n=>rfl
  |builtin b=>
   grind
theorem aly(hc:uD ra i o.op=2)(h:∀x∈rC o.op,pT st2 x=pT st x)(hh:st2.heap=st.heap) :
  qf P N T o st2 (rD ra.an i)=(qf P N T o st (rD ra.an i)).map λp=>(p.1,p.2.1,{ st2 with heap:=p.2.2.heap }):=by
 obtain⟨dst,op,type,ff,after,guard⟩:=o;cases op<;>(try (simp only[uD]at hc))<;>(try (exact aFe hc (by decide)))
 case move x=>grind
 case assign x=>grind
 case buildSlice t n ps=>grind
 case makeSlice t l c=>grind
 case store t p x=>
  simp only[qf,h p (by simp[rC]),h x (by simp[rC]),ZVV hh]
  grind
 case mapEntry t x k=>
  simp only[qf,h x (by simp[rC]),h k (by simp[rC]),Gu,Bu,hh]
  grind
 case entryStore t x s v=>
  simp only[qf,h x (by simp[rC]),h s (by simp[rC]),h v (by simp[rC]),ZDK hh]
  grind
 case call c=>
  obtain⟨callee,args,bA⟩:=c;cases callee with
  |value f=>simp_all
  |invoke r n=>rfl
  |builtin b=>
   cases b<;>simp only[uD]at hc
   case append=>
    split at hc
    .rename_i v0 fz0 hk;simp only[qf,hk];split
     .rename_i s x t t' hx ht;rw[h s (by simp[rC,hx]),h x (by simp[rC,hx])];split
      .unfold ZKB ZKC ZCT;rw[hh]
       repeat' split
       all_goals rfl
      .rfl
     .rfl
    .cases hc
   all_goals cases hc
theorem ZRj(hh:st2.heap=st.heap)(n:Nat)(v:V):MP st2 n v=MP st n v:=by
 unfold MP;rw[hh]
theorem alx(hc:uD ra i o.op=3)(h:∀x∈rC o.op,pT st2 x=pT st x)(hh:st2.heap=st.heap)(hq:so N (o.dst.getD 0) st2=so N (o.dst.getD 0) st) :
  qf P N T o st2 (rD ra.an i)=(qf P N T o st (rD ra.an i)).map λp=>(p.1,p.2.1,{ st2 with heap:=p.2.2.heap }):=by
 obtain⟨dst,op,type,ff,after,guard⟩:=o;simp only at hc h hq;have eD:∀l,Aq N st2 (dst.getD 0) l=(Aq N st (dst.getD 0) l).map λp=>(p.1,p.2.1,{ st2 with heap:=p.2.2.heap }):=by
  intro l;unfold Aq St.new
  grind
 cases op<;>(try (simp only[uD]at hc))<;>(try (exact aFe hc (by decide)))
 case move x=>grind
 case assign x=>grind
 case alloc e=>
  simp only[qf,eD]
  repeat' split
  all_goals rfl
 case box e x=>
  simp only[qf,eD,h x (by simp[rC])]
  grind
 case makeSlice t l c=>
  split at hc
  .cases hc
  rename_i hx;simp only[qf,h l (by simp[rC]),h c (by simp[rC])];split
  .simp_all
  .rfl
  unfold BQ St.new;rw[hq,hh]
  repeat' split
  all_goals rfl
 case buildSlice t n ps=>
  split at hc
  .rename_i n' c' bu;simp only[qf,Zyr (st2:=st2) (st:=st) (l:=ps.toList) (by simpa[rC]using h)];unfold BX St.new;rw[hq,hh,bu]
   repeat' split
   all_goals rfl
  .cases hc
 case call c=>
  obtain⟨callee,args,bA⟩:=c;cases callee with
  |value f=>simp_all
  |invoke r n=>rfl
  |builtin b=>
   cases b<;>(try (simp only[uD]at hc))<;>(try (exact aFe hc (by decide)))
   case append=>
    split at hc
    .cases hc
    rename_i bu;simp only[qf];split
    .rename_i s x t t' hx ht;rw[h s (by simp[rC,hx]),h x (by simp[rC,hx])];split
     .unfold Eg St.new;rw[hq,hh];simp only[ZRj hh]
      repeat' split
      all_goals rfl
     .rfl
    .rfl
theorem ZQx{pH:St}(h:qf P N T o st an=S8 (v,o_,pH)):pH.env=st.env:=by
 obtain⟨dst,op,type,ff,after,guard⟩:=o;have eD:∀l,Aq N st (dst.getD 0) l=S8 (v,o_,pH)->pH.env=st.env:=by
  intro l hb;unfold Aq at hb;split at hb
  .cases hb;rfl
  .cases hb
 unfold qf at h;cases op<;>(try simp only at h)<;>(try (cases h;done))<;>(try (cases h;rfl))
 case move=>
  unfold QJ at h
  grind
 case assign=>
  unfold QJ at h
  grind
 case pick=>grind
 case alloc=>grind
 case box=>grind
 case buildSlice=>
  unfold BX at h
  repeat' split at h
  all_goals first | (cases h;done) | (cases h;rfl)
 case makeSlice=>
  split at h
  .unfold ZCM at h
   grind
  .cases h
  unfold BQ at h
  repeat' split at h
  all_goals first | (cases h;done) | (cases h;rfl)
 case makeMap=>
  unfold Zzb at h
  repeat' split at h
  all_goals first | (cases h;done) | (cases h;rfl)
 case mapUpdate=>
  split at h
  .rename_i hv;cases h;unfold ZGD at hv
   grind
  .cases h
 case mapEntry=>
  unfold Gu at h
  grind
 case entryStore=>
  split at h
  .rename_i hv;cases h;unfold LI at hv
   grind
  .cases h
 case store=>
  split at h
  .rename_i hv;cases h;unfold G1 at hv
   repeat' split at hv
   all_goals grind
  .cases h
 case call c=>
  obtain⟨callee,args,bA⟩:=c;cases callee with
  |invoke r n=>cases h
  |value f=>
   grind
  |builtin b=>
   cases b<;>(try simp only at h)<;>(try (cases h;done))
   case append=>
    unfold Eg ZKB ZKC ZCT at h
    repeat' split at h
    all_goals first | (cases h;done) | (cases h;rfl)
   case clear=>
    unfold ZGJ at h
    repeat' split at h
    all_goals grind
   case delete=>
    split at h
    .split at h
     .rename_i hv;cases h;unfold ZBt at hv
      grind
     .cases h
    .cases h
   all_goals grind
 all_goals
  grind
def Has(st st2:St)(pI:Nat->Bool):Prop:=∀id b,pI id=Tl->oP st.heap id=S8 b->oP st2.heap id=S8 b
theorem ZKW{c c':C}(hm:Has st st2 λid=>c.pI id)(h:yv st c=S8 c'):yv st2 c=S8 c':=by
 unfold yv at h ⊢;split at h
 .split at h
  .rename_i hh;cases h;rw[hm _ _ (by simp[C.pI]) hh]
  .cases h
 .split at h
  .rename_i hh;rw[hm _ _ (by simp[C.pI]) hh];exact h
  .cases h
 .exact h
theorem ZWL{l l':S5 C}(hm:∀c∈l,Has st st2 λid=>c.pI id)(h:D0 st l=S8 l'):D0 st2 l=S8 l':=ZCp (λc hc _=>ZKW (hm c hc)) h
theorem ZWK{v':V}(hm:Has st st2 λid=>v.pI id)(h:zh st v=S8 v'):zh st2 v=S8 v':=by
 unfold zh at h ⊢;split at h
 .exact h
 .split at h
  .split at h
   .rename_i h1;cases h;rw[ZKW hm h1]
   .cases h
  .split at h
   .rename_i l l' h1;cases h;rw[ZWL (λc hc id b hs=>hm id b (by simp only[V.pI];grind)) h1]
   .cases h
  .cases h
theorem ZKX{l l':S5 V}(hm:∀v∈l,Has st st2 λid=>v.pI id)(h:yw st l=S8 l'):yw st2 l=S8 l':=ZCp (λc hc _=>ZWK (hm c hc)) h
theorem ZOg{p:V}(hm:Has st st2 λid=>p.pI id)(h:EM T st t p=S8 r):EM T st2 t p=S8 r:=by
 unfold EM at h ⊢;split at h
 .cases h
 split at h
 .cases h
 split at h
 .split at h
  .rename_i hh;rw[hm _ _ (by simp[V.pI,C.pI]) hh];exact h
  .cases h
 .exact h
 .exact h
 .split at h
  .rename_i hh;rw[hm _ _ (by simp[V.pI,C.pI]) hh];exact h
  .cases h
 .cases h
theorem ZKw{p:V}(hm:Has st st2 λid=>p.pI id)(h:BT T st t p an=S8 r):BT T st2 t p an=S8 r:=by
 unfold BT at h ⊢;split
 .simp only at h;unfold Q5 at h ⊢;split at h;rotate_left
  .cases h
  split at h;rotate_left
  .cases h
  rename_i h1 h2 h3 h4 h5 hh;rw[h1];simp only[h2,h3,h4,h5,hm _ _ (by simp[V.pI,C.pI]) hh];exact h
 grind[ZOg]
theorem ZOw(he:∀x∈f :: args,pT st2 x=pT st x)(hm:∀x∈f :: args,Has st st2 λid=>(pT st x).pI id){r:V}(h:GW P st f args r=S8 o_):GW P st2 f args r=S8 o_:=by
 have hf:pT st2 f=pT st f:=he f (by simp);have ha:∀x∈args,pT st2 x=pT st x:=λx hx=>he x (by simp[hx]);have hc:ER st2 f=ER st f:=by unfold ER;rw[hf]
 unfold GW at h ⊢;rw[hc];split at h
 .rename_i g a b wH;rw[Hm ha];split at h
  .exact h
  .split at h
   .rename_i vs hb fX;have cE:∀v∈vU st args a b,Has st st2 λid=>v.pI id:=by
     intro v hv;unfold vU at hv;simp only[T9,Uf]at hv;have kl:∀c,c∈a\/c∈b->Has st st2 λid=>c.pI id:=by
      intro c iS id bb hs;refine hm f (by simp) id bb ?_;unfold ER at wH;split at wH
      .grind
      .rename_i g' na nb fa fb dA;cases wH;rw[dA];simp only[V.pI,C.pI,Bool.or_eq_true,List.any_eq_true,Ua];simp only[xX,Uf,Ua]at iS
       grind
      .cases wH
     rcases hv with (⟨c,h1,rfl⟩|⟨x,h1,rfl⟩)|⟨c,h1,rfl⟩
     .intro id bb hs;exact kl c (.inl h1) id bb (by show C.pI id c=Tl;rw[<-C.Bg];exact hs)
     .simp_all
     .intro id bb hs;exact kl c (.inr h1) id bb (by show C.pI id c=Tl;rw[<-C.Bg];exact hs)
    rw[ZKX cE hb,fX];exact h
   .cases h
 .cases h
theorem ZGF{x k:V}{ok:Bool}(hm:Has st st2 λid=>x.pI id)(h:CP P T st t x k ok an=S8 r):CP P T st2 t x k ok an=S8 r:=by
 unfold CP at h ⊢;split at h;rotate_left
 .cases h
 rename_i kt vt id wS l kv v' fz fY fF gV;obtain⟨rfl,hl⟩:=K_ fF;have aEc:Bu st2 (.one (.mp id))=S8 (id,wS,l):=by
  have:=hm id _ (by simp[V.pI,C.pI]) hl;simp only[Bu,this]
 simp_all
theorem alw(hc:uD ra i o.op=1)(h:∀x∈rC o.op,pT st2 x=pT st x)(hm:∀x∈rC o.op,Has st st2 λid=>(pT st x).pI id){st1:St}
  (he:qf P N T o st (rD ra.an i)=S8 (v,o_,st1)):qf P N T o st2 (rD ra.an i)=S8 (v,o_,st2):=by
 obtain⟨dst,op,type,ff,after,guard⟩:=o;cases op<;>(try (simp only[uD]at hc))<;>(try (exact aFe hc (by decide)))
 case move x=>grind
 case assign x=>grind
 case buildSlice t n ps=>grind
 case makeSlice t l c=>grind
 case lookup t x k ok=>
  simp only[qf,h x (by simp[rC]),h k (by simp[rC])]at he ⊢;split at he
  .rename_i v' tw hv;cases he;rw[ZGF (hm x (by simp[rC])) hv]
  .cases he
 case load t p=>
  simp only[qf,h p (by simp[rC])]at he ⊢;split at he
  .rename_i r hr;cases he;rw[ZKw (hm p (by simp[rC])) hr]
  .cases he
 case call c=>
  obtain⟨callee,args,bA⟩:=c;cases callee with
  |value f=>
   simp only[qf]at he ⊢;split at he
   .rename_i r fz han;split at he
    .rename_i tw hv;cases he;rw[ZOw (by simpa[rC]using h) (by simpa[rC]using hm) hv]
    .cases he
   .cases he
  |invoke r n=>simp_all
  |builtin b=>
   grind
theorem ZEO{l:S5 C}(h:Aq N st d l=S8 p):∀id b,oP p.2.2.heap id=S8 b->id=d\/oP st.heap id=S8 b:=by
 grind[Az,Aq,St.new]
theorem ZOc(hc:uD ra i o.op=3)(h:qf P N T o st (rD ra.an i)=S8 p):∀id b,oP p.2.2.heap id=S8 b->id=o.dst.getD 0\/oP st.heap id=S8 b:=by
 obtain⟨dst,op,type,ff,after,guard⟩:=o;have eu:∀{d:Nat}{b0:B},∀id b,oP (st.new d b0).heap id=S8 b->id=d\/oP st.heap id=S8 b:=by
  intro d b0 id b hb;simp only[St.new,Az]at hb
  grind
 cases op<;>(try (simp only[uD]at hc))<;>(try (exact aFe hc (by decide)))
 case move x=>grind
 case assign x=>grind
 case alloc e=>
  simp only[qf]at h
  repeat' split at h
  all_goals first | (cases h;done)|exact ZEO h
 case box e x=>
  simp only[qf]at h
  repeat' split at h
  all_goals first | (cases h;done)|exact ZEO h
 case makeSlice t l c=>
  split at hc
  .cases hc
  rename_i hx;simp only[qf]at h;split at h
  .simp_all
  .cases h
  unfold BQ at h
  repeat' split at h
  all_goals grind
 case buildSlice t n ps=>
  split at hc
  .rename_i n' c' bu;simp only[qf]at h;unfold BX at h;rw[bu]at h
   repeat' split at h
   all_goals grind
  .cases hc
 case call c=>
  obtain⟨callee,args,bA⟩:=c;cases callee with
  |value f=>simp_all
  |invoke r n=>simp_all
  |builtin b=>
   cases b<;>(try (simp only[uD]at hc))<;>(try (exact aFe hc (by decide)))
   case append=>
    split at hc
    .cases hc
    rename_i bu;simp only[qf]at h;split at h;rotate_left
    .cases h
    split at h;rotate_left
    .cases h
    unfold Eg at h
    repeat' split at h
    all_goals first | (cases h;done) | (cases h;exact eu)|skip
    all_goals
     cases h;intro id b hb;simp only[tD,Ha]at hb
     grind
def ZPP:Op->Bool | .alloc _ | .box .. | .makeSlice .. | .buildSlice ..=>Tl|_=>Tm
theorem ZKs(hc:uD ra i o.op=3)(hk:ZPP o.op=Tl)(hq:oP st.heap (o.dst.getD 0)=S_)(h:qf P N T o st (rD ra.an i)=S8 p) :
  ∀id b,oP st.heap id=S8 b->oP p.2.2.heap id=S8 b:=by
 obtain⟨dst,op,type,ff,after,guard⟩:=o;have eu:∀{b0:B},∀id b,oP st.heap id=S8 b->oP (st.new (dst.getD 0) b0).heap id=S8 b:=by
  intro b0 id b hb;simp only[St.new,Az]
  grind
 have eD:∀{l:S5 C}{p:V×S5 Prop×St},Aq N st (dst.getD 0) l=S8 p->∀id b,oP st.heap id=S8 b->oP p.2.2.heap id=S8 b:=by
  intro l p h;unfold Aq at h
  grind
 cases op<;>(try (simp only[ZPP]at hk))<;>(simp_all)
 case alloc e=>
  simp only[qf]at h
  grind
 case box e x=>
  simp only[qf]at h
  grind
 case makeSlice t l c=>
  simp only[uD]at hc;split at hc
  .cases hc
  rename_i hx;simp only[qf]at h;split at h
  .simp_all
  .cases h
  unfold BQ at h
  repeat' split at h
  all_goals grind
 case buildSlice t n ps=>
  simp only[uD]at hc;split at hc
  .rename_i n' c' bu;simp only[qf]at h;unfold BX at h;rw[bu]at h
   repeat' split at h
   all_goals grind
  .cases hc
theorem ZRC(x:Value)(d:Nat):(V.vW x).pI d=Tm:=by
 unfold V.vW
 grind[V.pI,C.pI]
end
end Go.Proofs.YtmcnjofonpkfmaaGreat
