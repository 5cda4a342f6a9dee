import Derived.Test.YtlpdogaifdeomaaGreatFAmL
namespace Go.Proofs.YtlpdogaifdeomaaGreat
open Go.RowKit
set_option linter.unusedSimpArgs false
set_option linter.unusedVariables false
structure Zsk (no S:Nat->Prop) (m:Mp) (h:List (Nat×B)) (w:World):Prop where
 rep:∀id b,hget h id=some b->RepB S w m (m id) b
 own:∀id b,hget h id=some b->∀k,blk (m id)=some k->¬S k/\¬no k/\k<w.heap.size
 inj:∀id id' b b',id≠id'->hget h id=some b->hget h id'=some b'->∀k,blk (m id)=some k->blk (m id')≠some k
 lno:∀b,m.L b->no b
structure Pins (m' m:Mp):Prop where
 pin:∀id,Zpq<=id->m' id=m id
 L:m'.L=m.L
def ZDf(S:Nat->Prop)(w:World)(m:Mp)(args:List V)(vs:List Value):Prop:=vs.length=args.length/\∀(j:Nat)(v:V),args[j]?=some v->∃x,vs[j]?=some x/\RepV S w m v x
def Zdh(P:Program)(f:FuncId)(h0:List (Nat×B))(args:List V)(h1:List (Nat×B))(res:V):Prop:=FnOk P f/\∀(no S:Nat->Prop)(m:Mp)(w:World)(vs:List Value),(∀b,S b->b<w.heap.size)->(∀k,no k->k<w.heap.size)->Zsk no S m h0 w->ZDf S w m args vs->Calls P f vs.toArray w fun e w'=>∃x S' m',e=.returned x/\Goes no S S' w w'/\(∀b,S' b->b<w'.heap.size)/\Zsk no S' m' h1 w'/\RepV S' w' m' res x/\Pins m' m
def Zqb:List (Nat×Nat)->Nat->Option Nat
 | [],_=>none
 | (k,v) :: r,t=>match Nat.beq k t with
  |true=>some v
  |false=>Zqb r t
theorem Zqq:∀{l:List (Nat×Nat)}{t v:Nat},Zqb l t=some v->(t,v)∈l
 | (k,v') :: r,t,v,h=>by
  simp only[Zqb]at h
  split at h
  .rename_i hb
   cases h
   rw[ZaB hb]
   exact List.mem_cons_self
  .exact List.mem_cons_of_mem _ (Zqq h)
def bwd(l:List (Nat×Nat))(t:Nat):Option Nat:=Zqb (l.map fun p=>(p.2,p.1)) t
theorem Zwx{l:List (Nat×Nat)}{t v:Nat}(h:bwd l t=some v):(v,t)∈l:=by
 have:=Zqq h;simp only[List.mem_map]at this;obtain⟨p,h1,h2⟩:=this;cases h2;exact h1
def isO:Option Nat->Nat->Bool|some a,b=>Nat.beq a b|none,_=>false
theorem ZPy:∀{o:Option Nat}{b:Nat},isO o b=true->o=some b
 |some a,b,h=>by rw[ZaB h]
def biB(l:List (Nat×Nat)):Bool:=l.all fun p=>isO (Zqb l p.1) p.2&&isO (bwd l p.2) p.1
theorem ZqO{l:List (Nat×Nat)}(h:biB l=true){a b:Nat}(hm:(a,b)∈l):Zqb l a=some b/\bwd l b=some a:=by
 have:=List.all_eq_true.1 h _ hm;simp only[Bool.and_eq_true]at this;exact⟨ZPy this.1,ZPy this.2⟩
theorem ZCW{l:List (Nat×Nat)}(h:biB l=true){a b:Nat}:Zqb l a=some b↔bwd l b=some a:=
 ⟨fun h1=>(ZqO h (Zqq h1)).2,fun h1=>(ZqO h (Zwx h1)).1⟩
def Zyy(g:Nat->Option Nat):C->Option C
 | .osl k n=>match g k with
  |some k'=>some (.osl k' n)
  |none=>none
 | .ptr k off=>match g k with
  |some k'=>some (.ptr k' off)
  |none=>none
 | .eptr k sz i off=>match g k with
  |some k'=>some (.eptr k' sz i off)
  |none=>none
 | .mp k=>match g k with
  |some k'=>some (.mp k')
  |none=>none
 | .ifc t (.ptr k off)=>match g k with
  |some k'=>some (.ifc t (.ptr k' off))
  |none=>none
 | .lsl sz n c=>some (.lsl sz n c)
 | .lrp n c=>some (.lrp n c)
 |c=>match c.pure with
  |true=>some c
  |false=>none
structure Rn (g:Nat->Option Nat) (m m':Mp):Prop where
 at_:∀k k',g k=some k'->m' k'=m k
 L:∀b,m.L b->m'.L b
theorem Zvk{g:Nat->Option Nat}{S:Nat->Prop}{w:World}{m m':Mp}(hg:Rn g m m'){c c':C}{x:Value}(h:RepC S w m c x)(hr:Zyy g c=some c'):RepC S w m' c' x:=by
 unfold Zyy at hr;split at hr
 .split at hr
  .rename_i h1;cases hr;cases h with
   |osl hm h0 hle=>exact .osl (by rw[hg.at_ _ _ h1];exact hm) h0 hle
  .cases hr
 .split at hr
  .rename_i h1;cases hr;cases h with
   |ptr hm=>exact .ptr (by rw[hg.at_ _ _ h1];exact hm)
  .cases hr
 .split at hr
  .rename_i h1;cases hr;cases h with
   |eptr hm=>exact .eptr (by rw[hg.at_ _ _ h1];exact hm)
  .cases hr
 .split at hr
  .rename_i h1;cases hr;cases h with
   |mp hm=>exact .mp (by rw[hg.at_ _ _ h1];exact hm)
  .cases hr
 .split at hr
  .rename_i h1;cases hr;cases h with
   |ifc hm=>
    cases hm with
    |ptr hm=>exact .ifc (.ptr (by rw[hg.at_ _ _ h1];exact hm))
  .cases hr
 .cases hr;cases h with
  |lsl b off vals hcap ha hc h1 hr=>exact .lsl b off vals hcap (fun hl=>⟨(ha hl).1,hg.L _ (ha hl).2⟩) hc h1 hr
 .cases hr;cases h with
  |lrp b off vals ha hc h1 hr=>exact .lrp b off vals (hg.L _ ha) hc h1 hr
 .split at hr
  .rename_i hp;cases hr;exact h.anyM m' hp
  .cases hr
def Zsu(g:Nat->Option Nat):List C->Option (List C)
 | []=>some []
 |c :: l=>match Zyy g c,Zsu g l with
  |some c',some l'=>some (c' :: l')
  |_,_=>none
theorem ZrC{g:Nat->Option Nat}:∀{l l':List C},Zsu g l=some l'->l'.length=l.length/\∀(j:Nat) c',l'[j]?=some c'->∃c,l[j]?=some c/\Zyy g c=some c'
 | [],l',h=>by cases h;exact⟨rfl,fun j c' hc=>by simp at hc⟩
 |c :: l,l',h=>by
  simp only[Zsu]at h
  split at h
  .rename_i c1 l1 h1 h2
   cases h
   obtain⟨h3,h4⟩:=ZrC h2
   refine⟨by simp[h3],fun j c' hc=>?_⟩
   cases j with
   |zero=>simp at hc;exact⟨c,rfl,hc ▸ h1⟩
   |succ j=>simpa using h4 j c' (by simpa using hc)
  .cases h
def renC(g:Nat->Option Nat):C->Option C
 | .clo fn na nb a b=>match (C.clo fn na nb a b).pure with
  |true=>some (.clo fn na nb a b)
  |false=>match Zsu g (Zfe na a),Zsu g (Zfe nb b)with
   |some xs,some ys=>some (.clo fn na nb (fun i=>xs.getD i .junk) fun i=>ys.getD i .junk)
   |_,_=>none
 |c=>Zyy g c
theorem Zyx{g:Nat->Option Nat}{S:Nat->Prop}{w:World}{m m':Mp}(hg:Rn g m m'){c c':C}{x:Value}(h:RepC S w m c x)(hr:renC g c=some c'):RepC S w m' c' x:=by
 unfold renC at hr;split at hr
 .rename_i fn na nb a b;split at hr
  .rename_i hp;cases hr;exact h.anyM m' hp
  .split at hr
   .rename_i xs ys h1 h2;cases hr;obtain⟨e1,e2⟩:=ZrC h1;obtain⟨e3,e4⟩:=ZrC h2;cases h with
    |clo vs us ha hb=>
     refine .clo vs us (fun i hi=>?_) fun i hi=>?_
     .have hl:i<xs.length:=by rw[e1];simpa[Zfe]using hi
      obtain⟨c,f1,f2⟩:=e2 i (xs.getD i .junk) (by simp[List.getD_eq_getElem?_getD,hl]);obtain⟨_,rfl⟩:=ZhO f1;exact Zvk hg (ha i hi) f2
     .have hl:i<ys.length:=by rw[e3];simpa[Zfe]using hi
      obtain⟨c,f1,f2⟩:=e4 i (ys.getD i .junk) (by simp[List.getD_eq_getElem?_getD,hl]);obtain⟨_,rfl⟩:=ZhO f1;exact Zvk hg (hb i hi) f2
   .cases hr
 .exact Zvk hg h hr
def Zsv(g:Nat->Option Nat):List C->Option (List C)
 | []=>some []
 |c :: l=>match renC g c,Zsv g l with
  |some c',some l'=>some (c' :: l')
  |_,_=>none
theorem Ztq{g:Nat->Option Nat}:∀{l l':List C},Zsv g l=some l'->l'.length=l.length/\∀(j:Nat) c',l'[j]?=some c'->∃c,l[j]?=some c/\renC g c=some c'
 | [],l',h=>by cases h;exact⟨rfl,fun j c' hc=>by simp at hc⟩
 |c :: l,l',h=>by
  simp only[Zsv]at h
  split at h
  .rename_i c1 l1 h1 h2
   cases h
   obtain⟨h3,h4⟩:=Ztq h2
   refine⟨by simp[h3],fun j c' hc=>?_⟩
   cases j with
   |zero=>simp at hc;exact⟨c,rfl,hc ▸ h1⟩
   |succ j=>simpa using h4 j c' (by simpa using hc)
  .cases h
theorem Zvj{g:Nat->Option Nat}{S:Nat->Prop}{w:World}{m m':Mp}(hg:Rn g m m'){l l':List C}{xs:List Value}(h:RepL S w m l xs)(hr:Zsv g l=some l'):RepL S w m' l' xs:=by
 obtain⟨h1,h2⟩:=Ztq hr;refine⟨by rw[h1];exact h.1,fun j c' hc=>?_,h.2.2⟩;obtain⟨c,h3,h4⟩:=h2 j c' hc;obtain⟨x,h5,h6⟩:=h.2.1 j c h3;exact⟨x,h5,Zyx hg h6 h4⟩
def renP(g:Nat->Option Nat):List (Bool×List C)->Option (List (Bool×List C))
 | []=>some []
 | (b,c) :: l=>match Zsv g c,renP g l with
  |some c',some l'=>some ((b,c') :: l')
  |_,_=>none
theorem ZAP{g:Nat->Option Nat}:∀{l l':List (Bool×List C)},renP g l=some l'->l'.length=l.length/\∀(j:Nat)(p':Bool×List C),l'[j]?=some p'->∃p:Bool×List C,l[j]?=some p/\p'.1=p.1/\Zsv g p.2=some p'.2
 | [],l',h=>by cases h;exact⟨rfl,fun j c' hc=>by simp at hc⟩
 | (b,c) :: l,l',h=>by
  simp only[renP]at h
  split at h
  .rename_i c1 l1 h1 h2
   cases h
   obtain⟨h3,h4⟩:=ZAP h2
   refine⟨by simp[h3],fun j c' hc=>?_⟩
   cases j with
   |zero=>simp at hc;subst hc;exact⟨_,rfl,rfl,h1⟩
   |succ j=>simpa using h4 j c' (by simpa using hc)
  .cases h
def renV(g:Nat->Option Nat):V->Option V | .one c=>(renC g c).map .one | .agg l=>(Zsv g l).map .agg | .tup l=>(renP g l).map .tup
theorem Zyw{g:Nat->Option Nat}{S:Nat->Prop}{w:World}{m m':Mp}(hg:Rn g m m'){v v':V}{x:Value}(h:RepV S w m v x)(hr:renV g v=some v'):RepV S w m' v' x:=by
 cases v with
 |one c=>
  simp only[renV,Option.map_eq_some_iff]at hr;obtain⟨c',h1,rfl⟩:=hr;exact Zyx hg h h1
 |agg l=>
  simp only[renV,Option.map_eq_some_iff]at hr;obtain⟨c',h1,rfl⟩:=hr;obtain⟨xs,h2,h3⟩:=h;exact⟨xs,h2,Zvj hg h3 h1⟩
 |tup l=>
  simp only[renV,Option.map_eq_some_iff]at hr;obtain⟨l',h1,rfl⟩:=hr;obtain⟨xs,h2,h3,h4⟩:=h;obtain⟨h5,h6⟩:=ZAP h1;refine⟨xs,h2,by omega,fun j p' hp=>?_⟩;obtain⟨p,h7,h8,h9⟩:=h6 j p' hp;obtain⟨y,lK,gO⟩:=h4 j p h7;refine⟨y,lK,?_⟩;obtain⟨b,cs⟩:=p;obtain⟨b',gX⟩:=p';simp only at h8 h9;subst h8;cases b' with
  |true=>obtain⟨ys,h12,h13⟩:=gO;exact⟨ys,h12,Zvj hg h13 h9⟩
  |false=>
   match cs,gX,h9,gO with
   | [c],gX,h9,gO=>
    simp only[Zsv]at h9;split at h9
    .rename_i c1 l1 e1 e2;cases e2;cases h9;exact Zyx hg gO e1
    .cases h9
   | [],gX,h9,gO=>simp only[Zsv]at h9;cases h9;trivial
   |a :: b :: r,gX,h9,gO=>
    have:=(Ztq h9).1
    match gX,this with
    |x :: y :: z,_=>trivial
def ZJW(g:Nat->Option Nat):List V->Option (List V)
 | []=>some []
 |v :: l=>match renV g v,ZJW g l with
  |some v',some l'=>some (v' :: l')
  |_,_=>none
theorem Zxj{g:Nat->Option Nat}:∀{l l':List V},ZJW g l=some l'->l'.length=l.length/\∀(j:Nat) c',l'[j]?=some c'->∃c,l[j]?=some c/\renV g c=some c'
 | [],l',h=>by cases h;exact⟨rfl,fun j c' hc=>by simp at hc⟩
 |c :: l,l',h=>by
  simp only[ZJW]at h
  split at h
  .rename_i c1 l1 h1 h2
   cases h
   obtain⟨h3,h4⟩:=Zxj h2
   refine⟨by simp[h3],fun j c' hc=>?_⟩
   cases j with
   |zero=>simp at hc;exact⟨c,rfl,hc ▸ h1⟩
   |succ j=>simpa using h4 j c' (by simpa using hc)
  .cases h
def renB(g:Nat->Option Nat):B->Option B | .box l=>(Zsv g l).map .box | .rows e sz len c=>some (.rows e sz len c) | .map kt l=>some (.map kt l)
theorem ZGh{g:Nat->Option Nat}{S:Nat->Prop}{w:World}{m m':Mp}(hg:Rn g m m'){b b':B}{x:Value}(h:RepB S w m x b)(hr:renB g b=some b'):RepB S w m' x b':=by
 cases b with
 |box l=>
  simp only[renB,Option.map_eq_some_iff]at hr;obtain⟨l',h1,rfl⟩:=hr;obtain⟨b,br,t,h2,h3,h4⟩:=h;exact⟨b,br,t,h2,h3,Zvj hg h4 h1⟩
 |rows e sz len c=>cases hr;exact h
 |map kt l=>cases hr;exact h
def Zst(g:Nat->Option Nat):List (Nat×B)->Option (List (Nat×B))
 | []=>some []
 | (j,b) :: l=>match g j,renB g b,Zst g l with
  |some i,some b',some l'=>some ((i,b') :: l')
  |_,_,_=>none
theorem ZAQ{g:Nat->Option Nat}:∀{l l':List (Nat×B)},Zst g l=some l'->∀i b',hget l' i=some b'->∃j b,g j=some i/\hget l j=some b/\renB g b=some b'
 | [],l',h=>by cases h;exact fun i b' hb=>by cases hb
 | (j,b) :: l,l',h=>by
  simp only[Zst]at h
  split at h
  .rename_i i0 b0 l0 h1 h2 h3
   cases h
   intro i b' hb
   rw[Zbh]at hb
   split at hb
   .rename_i e
    cases hb
    exact⟨j,b,e ▸ h1,by rw[Zbh,if_pos rfl],h2⟩
   .rename_i e
    obtain⟨j2,b2,h4,h5,h6⟩:=ZAQ h3 i b' hb
    refine⟨j2,b2,h4,?_,h6⟩
    rw[Zbh,if_neg ?_]
    .exact h5
    .rintro rfl
     rw[h1]at h4
     exact e (Option.some.inj h4)
  .cases h
def hIn(g:Nat->Option Nat)(h:List (Nat×B)):List (Nat×Nat)->Option (List (Nat×B))
 | []=>some []
 | (c,i) :: l=>match hget h i with
  |some b=>match renB g b,hIn g h l with
   |some b',some l'=>some ((c,b') :: l')
   |_,_=>none
  |none=>none
theorem ZLx{g:Nat->Option Nat}{h:List (Nat×B)}:∀{l:List (Nat×Nat)}{r:List (Nat×B)},hIn g h l=some r->(∀c b',hget r c=some b'->∃i b,(c,i)∈l/\hget h i=some b/\renB g b=some b')/\∀c i,(c,i)∈l->∃b,hget h i=some b
 | [],r,e=>by cases e;exact⟨fun c b' hb=>(by cases hb),fun c i hm=>by cases hm⟩
 | (c0,i0) :: l,r,e=>by
  simp only[hIn]at e
  split at e
  .rename_i b hb
   split at e
   .rename_i b0 l0 h1 h2
    cases e
    obtain⟨h3,h4⟩:=ZLx h2
    refine⟨fun c b' aQ=>?_,fun c i hm=>?_⟩
    .rw[Zbh]at aQ
     split at aQ
     .rename_i e
      cases aQ
      subst e
      exact⟨i0,b,List.mem_cons_self,hb,h1⟩
     .obtain⟨i,b2,h5,h6,h7⟩:=h3 c b' aQ
      exact⟨i,b2,List.mem_cons_of_mem _ h5,h6,h7⟩
    .rcases List.mem_cons.1 hm with hm|hm
     .cases hm;exact⟨b,hb⟩
     .exact h4 c i hm
   .cases e
  .cases e
def ZqL(h:List (Nat×B)):List (Nat×Nat)->List (Nat×B) | []=>h | (_,i) :: l=>hdel (ZqL h l) i
theorem ZvR(h:List (Nat×B)):∀(l:List (Nat×Nat))(t:Nat)(b:B),hget (ZqL h l) t=some b->hget h t=some b/\∀c,(c,t) ∉ l
 | [],t,b,e=>⟨e,fun c hm=>by cases hm⟩
 | (c0,i) :: l,t,b,e=>by
  simp only[ZqL,Zmg]at e
  split at e
  .cases e
  .rename_i hne
   obtain⟨h1,h2⟩:=ZvR h l t b e
   refine⟨h1,fun c hm=>?_⟩
   rcases List.mem_cons.1 hm with hm|hm
   .cases hm;exact hne rfl
   .exact h2 c hm
def ZpY:List (Nat×B)->List (Nat×B)->List (Nat×B) | [],h=>h | (d,b) :: r,h=>hins (ZpY r h) d b
theorem Znh(k:List (Nat×B))(t:Nat)(b:B):∀(h:List (Nat×B)),hget (ZpY h k) t=some b->hget h t=some b\/hget k t=some b
 | [],e=>.inr e
 | (d,c) :: r,e=>by
  simp only[ZpY,ZeO]at e
  rw[Zbh]
  split at e
  .rename_i h1;rw[if_pos h1];exact .inl e
  .rename_i h1;rw[if_neg h1];exact Znh k t b r e
theorem RepV.others{S:Nat->Prop}{w:World}{v:V}{x:Value}:∀{l:List Nat}{m m':Mp},RepV S w m v x->(∀i∈l,v.says i=false)->(∀k,k ∉ l->m' k=m k)->m'.L=m.L->RepV S w m' v x
 | [],m,m',h,_,hm,hL=>by
  have:m'=m:=Mp.ext' (fun k=>hm k (by simp)) hL
  rw[this];exact h
 |i :: l,m,m',h,hs,hm,hL=>
  RepV.others (m:=upd m i (m' i)) (h.other _ i (Zmc m i _) rfl (hs i List.mem_cons_self)) (fun k hk=>hs k (List.mem_cons_of_mem _ hk)) (fun k hk=>by
   by_cases e:k=i
   .rw[e,ZfF]
   .rw[Zmc _ _ _ _ e];exact hm k (by simp[e,hk])) hL
theorem RepB.others{S:Nat->Prop}{w:World}{v:B}{x:Value}:∀{l:List Nat}{m m':Mp},RepB S w m x v->(∀i∈l,v.says i=false)->(∀k,k ∉ l->m' k=m k)->m'.L=m.L->RepB S w m' x v
 | [],m,m',h,_,hm,hL=>by
  have:m'=m:=Mp.ext' (fun k=>hm k (by simp)) hL
  rw[this];exact h
 |i :: l,m,m',h,hs,hm,hL=>
  RepB.others (m:=upd m i (m' i)) (h.other (Zmc m i _) rfl (hs i List.mem_cons_self)) (fun k hk=>hs k (List.mem_cons_of_mem _ hk)) (fun k hk=>by
   by_cases e:k=i
   .rw[e,ZfF]
   .rw[Zmc _ _ _ _ e];exact hm k (by simp[e,hk])) hL
structure HA where
 lend:List (Nat×Nat)
 new:List (Nat×Nat)
 h1:List (Nat×B)
 res:V
def gOut(ha:HA)(j:Nat):Option Nat:=match Zqb ha.lend j with
 |some i=>some i
 |none=>Zqb ha.new j
def okHA(N:Nat)(st:St)(ha:HA):Bool:=match biB ha.lend,biB ha.new,ha.lend.all (fun p=>Nat.ble Zpq p.1),ha.new.all (fun p=>Zdr N p.2 st)with
 |true,true,true,true=>true
 |_,_,_,_=>false
def ZlU(P:Program)(st:St)(c:Callee)(an:Option Ans):Option (FuncId×List C×List C×List Prop):=match c with
 | .value f=>match ZkP st f with
  |some (g,a,b)=>some (g,a,b,[])
  |none=>none
 | .invoke r name=>match evo st r,an with
  | .one (.ifc t c),some (.id g)=>some (g,[c],[],[ZRW P t name g])
  |_,_=>none
 | .builtin _=>none
def hrep:List (Nat×B)->Nat->B->List (Nat×B)
 | [],_,_=>[]
 | (k,v) :: r,d,b=>match Nat.beq k d with
  |true=>(d,b) :: r
  |false=>(k,v) :: hrep r d b
theorem ZsH(d:Nat)(b:B)(t:Nat):∀(h:List (Nat×B)),hget (hrep h d b) t=if d=t then(hget h t).map (fun _=>b)else hget h t
 | []=>by simp[hrep,hget]
 | (k,v) :: r=>by
  simp only[hrep]
  split
  .rename_i e
   have e:=Nat.eq_of_beq_eq_true e
   subst e
   simp only[Zbh]
   split<;>rfl
  .rename_i e
   have e:=Nat.ne_of_beq_eq_false e
   simp only[Zbh,ZsH d b t r]
   by_cases h1:k=t
   .rw[if_pos h1,if_pos h1,if_neg (by omega)]
   .rw[if_neg h1,if_neg h1]
def Zxi:List (Nat×B)->List (Nat×B)->List (Nat×B) | [],h=>h | (d,b) :: r,h=>hrep (Zxi r h) d b
def Zve:List (Nat×B)->List (Nat×Nat)->Bool
 | [],[]=>true
 | (d,_) :: r,(_,i) :: l=>match Nat.beq d i with
  |true=>Zve r l
  |false=>false
 |_,_=>false
def ZBd(hp:List (Nat×B))(lend:List (Nat×Nat))(h:List (Nat×B)):List (Nat×B):=match Zve hp lend with
 |true=>Zxi hp h
 |false=>ZpY hp (ZqL h lend)
theorem ZoQ{X Y:List (Nat×B)}{t:Nat}(e:hget X t=hget Y t):∀r:List (Nat×B),hget (ZpY r X) t=hget (ZpY r Y) t
 | []=>e
 | (d,b) :: r=>by simp only[ZpY,ZeO,ZoQ e r]
theorem ZvP{h:List (Nat×B)}{t:Nat}{b:B}:∀{hp:List (Nat×B)}{l:List (Nat×Nat)},Zve hp l=true->hget (Zxi hp h) t=some b->hget (ZpY hp (ZqL h l)) t=some b
 | [],[],_,e=>e
 | [],_ :: _,hs,_=>by cases hs
 |_ :: _,[],hs,_=>by cases hs
 | (d,b0) :: r,(c,i) :: l,hs,e=>by
  simp only[Zve]at hs
  split at hs
  rotate_left
  .cases hs
  rename_i hd
  obtain rfl:=Nat.eq_of_beq_eq_true hd
  simp only[Zxi,ZsH]at e
  simp only[ZpY,ZqL,ZeO]
  by_cases h1:d=t
  .rw[if_pos h1]at e ⊢
   cases hq:hget (Zxi r h) t with
   |none=>rw[hq]at e;cases e
   |some b1=>rw[hq]at e;exact e
  .rw[if_neg h1]at e ⊢
   rw[ZoQ (Y:=ZqL h l) (by rw[Zmg,if_neg h1])]
   exact ZvP hs e
theorem ZEQ{hp h:List (Nat×B)}{l:List (Nat×Nat)}{t:Nat}{b:B}(e:hget (ZBd hp l h) t=some b):hget (ZpY hp (ZqL h l)) t=some b:=by
 unfold ZBd at e;split at e
 .rename_i hs;exact ZvP hs e
 .exact e
theorem Sim.less{N:Nat}{F:Keep}{S:Nat->Prop}{m:Mp}{e:List (Nat×V)}{h h':List (Nat×B)}{a:Act}{w:World}(hs:Sim N F S m ⟨e,h⟩ a w)(hl:∀id b,hget h' id=some b->hget h id=some b):Sim N F S m ⟨e,h'⟩ a w:=
 ⟨hs.size,hs.env,hs.far,fun id b hb=>hs.heap id b (hl id b hb),fun id b hb=>hs.own id b (hl id b hb),fun i j b b' hne h1 h2=>hs.inj i j b b' hne (hl i b h1) (hl j b' h2),hs.dom,hs.defers,hs.base_le,hs.pin,hs.len⟩
def Zhf(P:Program)(N:Nat)(st:St)(c:Callee)(args:List Operand)(ha:HA)(an:Option Ans):Option (V×List Prop×St):=match ZlU P st c an with
 |some (g,a,b,om)=>match okHA N st ha,hIn (bwd ha.lend) st.heap ha.lend,ZJW (bwd ha.lend) (Zcl st args a b),Zst (gOut ha) ha.h1,renV (gOut ha) ha.res with
  |true,some h0,some vs,some hp,some r=>some (r,Zdh P g h0 vs ha.h1 ha.res :: om,⟨st.env,ZBd hp ha.lend st.heap⟩)
  |_,_,_,_,_=>none
 |none=>none
theorem Sim.lent{N:Nat}{F:Keep}{S:Nat->Prop}{m:Mp}{st:St}{a:Act}{w:World}(hs:Sim N F S m st a w){ha:HA}(aJ:okHA N st ha=true){h0:List (Nat×B)}(hi:hIn (bwd ha.lend) st.heap ha.lend=some h0){hp:List (Nat×B)}(hr:Zst (gOut ha) ha.h1=some hp) :
  ∃(no:Nat->Prop)(m0:Mp),(∀k,no k->k<w.heap.size)/\(∀k,F.no k->no k)/\Rn (bwd ha.lend) m m0/\Zsk no S m0 h0 w /\
   ∀(w':World)(S':Nat->Prop)(m':Mp),Goes no S S' w w'->(∀b,S' b->b<w'.heap.size)->Zsk no S' m' ha.h1 w'->Pins m' m0 ->
    ∃fG,Sim N F S' fG ⟨st.env,ZpY hp (ZqL st.heap ha.lend)⟩ a w'/\Rn (gOut ha) m' fG:=by
 unfold okHA at aJ;split at aJ;rotate_left
 .cases aJ
 rename_i b1 b2 b3 b4;have hbi:=@ZCW _ b1;have jJ:=@ZCW _ b2;have lT:∀c i,(c,i)∈ha.lend->Zpq<=c:=fun c i hm=>Nat.le_of_ble_eq_true (List.all_eq_true.1 b3 _ hm);have kY:∀c i,(c,i)∈ha.new->Zdr N i st=true:=fun c i hm=>List.all_eq_true.1 b4 _ hm;obtain⟨i1,i2⟩:=ZLx hi
 let no:Nat->Prop:=fun k=>k<w.heap.size/\∀c i,(c,i)∈ha.lend->blk (m i)≠some k
 let m0:Mp:=⟨fun j=>match Zqb ha.lend j with
  |some i=>m i
  |none=>m j,m.L⟩
 have g5:∀c i,Zqb ha.lend c=some i->m0 c=m i:=fun c i h=>by show (match Zqb ha.lend c with|some i=>m i|none=>m c)=m i;rw[h]
 have hF:∀k,F.no k->no k:=fun k hk=>⟨hs.base_le k hk,fun c i hm e=>by
  obtain⟨b,hb⟩:=i2 c i hm;exact(hs.own i b hb k e).2.1 hk⟩
 have jX:Rn (bwd ha.lend) m m0:=⟨fun k k' h=>g5 k' k (hbi.2 h),fun _ h=>h⟩;refine⟨no,m0,fun k hk=>hk.1,hF,jX,⟨fun c b' aQ=>?_,fun c b' aQ k hk=>?_,fun c c' b b' hne h1 h2 k hk hk2=>?_,fun b hb=>hF b (hs.len.2 b hb)⟩,fun w' S' m' eU lU hrep hpm=>?_⟩
 .obtain⟨i,b,h1,h2,h3⟩:=i1 c b' aQ;rw[g5 c i (ZqO b1 h1).1];exact ZGh jX (hs.heap i b h2) h3
 .obtain⟨i,b,h1,h2,h3⟩:=i1 c b' aQ;rw[g5 c i (ZqO b1 h1).1]at hk;obtain⟨h4,h5,h6⟩:=hs.own i b h2 k hk;exact⟨h4,fun hn=>hn.2 c i h1 hk,h6⟩
 .obtain⟨i,b,h3,h4,h5⟩:=i1 c b h1;obtain⟨i',b',h6,h7,h8⟩:=i1 c' b' h2;rw[g5 c i (ZqO b1 h3).1]at hk;rw[g5 c' i' (ZqO b1 h6).1]at hk2;refine hs.inj i i' _ _ ?_ h4 h7 k hk hk2;rintro rfl;have e1:=(ZqO b1 h3).2;rw[(ZqO b1 h6).2]at e1;exact hne (Option.some.inj e1).symm
 .let fG:Mp:=⟨fun i=>match bwd ha.new i with
   |some j=>m' j
   |none=>m i,m.L⟩
  have dw:∀i,bwd ha.new i≠none->Zdr N i st=true:=fun i h=>by
   cases e:bwd ha.new i with
   |none=>exact absurd e h
   |some j=>exact kY j i (Zwx e)
  have bT:∀i b,hget st.heap i=some b->bwd ha.new i=none:=fun i b hb=>by
   cases e:bwd ha.new i with
   |none=>rfl
   |some j=>
    have:=(hs.quieted (kY j i (Zwx e))).2.1;rw[this]at hb;cases hb
  have hm2:∀i,bwd ha.new i=none->fG i=m i:=fun i h=>by show (match bwd ha.new i with|some j=>m' j|none=>m i)=m i;rw[h]
  have hg:Rn (gOut ha) m' fG:=by
   refine⟨fun k k' h=>?_,fun b hb=>by rw[hpm.L]at hb;exact hb⟩;unfold gOut at h;split at h
   .rename_i i hl;cases h;obtain⟨b,hb⟩:=i2 k k' (Zqq hl);rw[hm2 k' (bT k' b hb),hpm.pin k (lT k k' (Zqq hl)),g5 k k' hl]
   .show (match bwd ha.new k' with|some j=>m' j|none=>m k')=m' k
    rw[jJ.1 h]
  have du:ZgA S w w':=fun b hb=>eU.below.block b ⟨hs.dom b hb,fun c i hm e=>by
   obtain⟨b0,bD⟩:=i2 c i hm;exact(hs.own i b0 bD b e).1 hb⟩
  have gd:ZgA m.L w w':=fun b hb=>eU.below.block b (hF b (hs.len.2 b hb))
  let bm:=ha.new.map fun p=>p.2
  have co:∀k,k ∉ bm->fG k=m k:=fun k hk=>hm2 k (by
   cases e:bwd ha.new k with
   |none=>rfl
   |some j=>exact absurd (List.mem_map.2 ⟨_,Zwx e,rfl⟩) hk)
  have hqn:∀i,i∈bm->Zdr N i st=true:=fun i hi=>by
   obtain⟨p,h1,rfl⟩:=List.mem_map.1 hi;exact kY p.1 p.2 h1
  -- a block that is not lent
  have dC:∀id b,hget (ZqL st.heap ha.lend) id=some b->hget st.heap id=some b/\fG id=m id/\∀k,blk (m id)=some k->no k/\¬S k/\¬F.no k:=by
   intro id b hb;obtain⟨h1,h2⟩:=ZvR _ _ _ _ hb;refine⟨h1,hm2 id (bT id b h1),fun k hk=>?_⟩;obtain⟨h3,h4,h5⟩:=hs.own id b h1 k hk;refine⟨⟨h5,fun c i hm e=>?_⟩,h3,h4⟩;obtain⟨b0,bD⟩:=i2 c i hm;refine hs.inj i id _ _ ?_ bD h1 k e hk;rintro rfl;exact h2 c hm
  have ck:∀id b,hget hp id=some b->∃j b0,gOut ha j=some id/\fG id=m' j/\hget ha.h1 j=some b0/\renB (gOut ha) b0=some b:=by
   intro id b hb;obtain⟨j,b0,h1,h2,h3⟩:=ZAQ hr id b hb;exact⟨j,b0,h1,hg.at_ j id h1,h2,h3⟩
  refine⟨fG,⟨hs.size,fun t=>?_,hs.far,fun id b hb=>?_,fun id b hb k hk=>?_,fun i1' i2' c1 c2 hne h1 h2 k cn hk2=>?_,lU,hs.defers,fun k hk=>Nat.lt_of_lt_of_le (hs.base_le k hk) eU.below.size,fun id hid=>?_,hs.len⟩,hg⟩
  .exact((hs.env t).keepL du eU.sub gd).others (l:=bm) (fun i hi=>(hs.quieted (hqn i hi)).1 t) co rfl
  .rcases Znh _ _ _ _ hb with hb|hb
   .obtain⟨j,b0,h1,h2,h3,h4⟩:=ck id b hb;rw[h2];exact ZGh hg (hrep.rep j b0 h3) h4
   .obtain⟨h1,h2,h3⟩:=dC id b hb;rw[h2];exact((hs.heap id b h1).keepL du eU.sub gd fun k hk=>eU.below.block k (h3 k hk).1).others (l:=bm) (fun i hi=>(hs.quieted (hqn i hi)).2.2 id b h1) co rfl
  .rcases Znh _ _ _ _ hb with hb|hb
   .obtain⟨j,b0,h1,h2,h3,h4⟩:=ck id b hb;rw[h2]at hk;obtain⟨h5,h6,h7⟩:=hrep.own j b0 h3 k hk;exact⟨h5,fun hn=>h6 (hF k hn),h7⟩
   .obtain⟨h1,h2,h3⟩:=dC id b hb;rw[h2]at hk;obtain⟨h4,h5,h6⟩:=h3 k hk;refine⟨fun hS=>?_,h6,Nat.lt_of_lt_of_le h4.1 eU.below.size⟩;rcases eU.sup k hS with h|h
    .exact h5 h
    .exact h h4
  .rcases Znh _ _ _ _ h1 with h1|h1<;>rcases Znh _ _ _ _ h2 with h2|h2
   .obtain⟨j1,kx,e1,e2,e3,e4⟩:=ck _ _ h1;obtain⟨j2,b2',e5,e6,e7,e8⟩:=ck _ _ h2;rw[e2]at cn;rw[e6]at hk2;refine hrep.inj j1 j2 _ _ ?_ e3 e7 k cn hk2;rintro rfl;rw[e1]at e5;exact hne (Option.some.inj e5)
   .obtain⟨j1,kx,e1,e2,e3,e4⟩:=ck _ _ h1;obtain⟨e5,e6,e7⟩:=dC _ _ h2;rw[e2]at cn;rw[e6]at hk2;exact(hrep.own j1 _ e3 k cn).2.1 (e7 k hk2).1
   .obtain⟨j1,kx,e1,e2,e3,e4⟩:=ck _ _ h2;obtain⟨e5,e6,e7⟩:=dC _ _ h1;rw[e2]at hk2;rw[e6]at cn;exact(hrep.own j1 _ e3 k hk2).2.1 (e7 k cn).1
   .obtain⟨e1,e2,e3⟩:=dC _ _ h1;obtain⟨e5,e6,e7⟩:=dC _ _ h2;rw[e2]at cn;rw[e6]at hk2;exact hs.inj i1' i2' _ _ hne e1 e5 k cn hk2
  .rw[hm2 id (by
    cases e:bwd ha.new id with
    |none=>rfl
    |some j=>have:=Zvp (kY j id (Zwx e));omega)]
   exact hs.pin id hid
theorem ZIT{P:Program}{N:Nat}{F:Keep}{st:St}{a:Act}{w:World}{S:Nat->Prop}{m:Mp}(hs:Sim N F S m st a w)
  {o:Oper} {f:Operand} {args:Array Operand} {bw:Array TypeId} (ho:o.op=.call { callee:=.value f,args:=args,argTypes:=bw }) {g:FuncId} {ca cb:List C} (hc:ZkP st f=some (g,ca,cb)) :
  ∃vs:Array Value,ZDf S w m (Zcl st args.toList ca cb) vs.toList/\(FnOk P g->(execOp a.eval o).run P w=.ok (.enter g vs) w):=by
 -- the call's values
 have eN:∃xs ys:Array Value,(resolve a.eval { callee:=.value f,args:=args,argTypes:=bw } o.type).run P w=.ok { target:=.fn (.func g) ys,args:=xs++args.map a.eval } w /\
   ((xs++args.map a.eval++ys).toList.length=(Zcl st args.toList ca cb).length)/\∀(j:Nat)(v:V),(Zcl st args.toList ca cb)[j]?=some v->∃x,(xs++args.map a.eval++ys).toList[j]?=some x/\RepV S w m v x:=by
  have hf:=hs.evo f;unfold ZkP at hc;have hmid:∀(j:Nat)(v:V),(args.toList.map (evo st))[j]?=some v->∃x,(args.map a.eval).toList[j]?=some x/\RepV S w m v x:=by
   intro j v hj;simp only[List.getElem?_map,Option.map_eq_some_iff,Array.getElem?_toList]at hj;obtain⟨y,h1,rfl⟩:=hj;exact⟨a.eval y,by simp[h1],hs.evo y⟩
  split at hc
  .rename_i g' xa xb hv;split at hc
   .rename_i h1 h2;cases hc;obtain rfl:xa = #[]:=Array.eq_empty_of_size_eq_zero h1;obtain rfl:xb = #[]:=Array.eq_empty_of_size_eq_zero h2;rw[hv]at hf;have gS:a.eval f=.func (.func g) #[] #[]:=by
     generalize a.eval f=q at hf;cases hf;rfl
    refine⟨#[],#[],by simp[resolve,gS,Deferred.ofValue],by simp[Zcl],?_⟩;simpa[Zcl]using hmid
   .cases hc
  .rename_i g' na nb fa fb hv;cases hc;rw[hv]at hf;obtain⟨xs,ys,gS,e1,e2,h1,h2⟩ : ∃xs ys:Array Value,a.eval f=.func (.func g) xs ys/\xs.size=na/\ys.size=nb/\(∀i,i<xs.size->RepC S w m (fa i) (xs.getD i undef))/\∀i,i<ys.size->RepC S w m (fb i) (ys.getD i undef):=by
    generalize hq:a.eval f=q at hf;cases hf with
    |clo xs ys ha hb=>exact⟨xs,ys,rfl,rfl,rfl,ha,hb⟩
   subst e1;subst e2;refine⟨xs,ys,by simp[resolve,gS,Deferred.ofValue],by simp[Zcl,Zfe],?_⟩;intro j v hj;unfold Zcl at hj;by_cases hj1:j<xs.size
   .rw[List.append_assoc,List.getElem?_append_left (by simp[Zfe];exact hj1)]at hj;simp only[List.getElem?_map,Option.map_eq_some_iff]at hj;obtain⟨c,h3,rfl⟩:=hj;obtain⟨h4,rfl⟩:=ZhO h3;refine⟨xs.getD j undef,?_,(h1 j hj1).toV⟩;simp[Array.getD_eq_getD_getElem?,List.getElem?_append_left,hj1,Array.getElem?_append,show j<xs.size+args.size by omega]
   .by_cases hj2:j<xs.size+args.size
    .rw[List.append_assoc,List.getElem?_append_right (by simp[Zfe];omega),List.getElem?_append_left (by simp[Zfe];omega)]at hj;obtain⟨x,h3,h4⟩:=hmid _ v hj;refine⟨x,?_,h4⟩;simp only[List.length_map,ZhN]at h3;simp only[Array.toList_append,List.append_assoc];rw[List.getElem?_append_right (by simp;omega),List.getElem?_append_left (by simp;omega),<-h3];simp
    .rw[List.getElem?_append_right (by simp[Zfe];omega)]at hj;simp only[List.getElem?_map,Option.map_eq_some_iff,List.length_append,List.length_map,ZhN,Array.length_toList]at hj;obtain⟨c,h3,rfl⟩:=hj;obtain⟨h4,rfl⟩:=ZhO h3;refine⟨ys.getD (j-(xs.size+args.size)) undef,?_,(h2 _ h4).toV⟩;simp only[Array.toList_append];rw[List.getElem?_append_right (by simp;omega)];simp[Array.getD_eq_getD_getElem?,h4]
  .cases hc
 obtain⟨xs,ys,eO,hlen,hrep⟩:=eN;have dJ:FnOk P g->(execOp a.eval o).run P w=.ok (.enter g (xs++args.map a.eval++ys)) w:=by
  intro jH;unfold execOp;simp only[ho,Sem.run_bind,eO,Result.andThen_ok,invoke,ZnU jH]
 exact⟨_,⟨hlen,hrep⟩,dJ⟩
theorem Zsh{P:Program}{N:Nat}{F:Keep}{st:St}{a:Act}{w:World}{S:Nat->Prop}{m:Mp}(hs:Sim N F S m st a w)
  {o:Oper} {c:Callee} {args:Array Operand} {bw:Array TypeId} (ho:o.op=.call { callee:=c,args:=args,argTypes:=bw }) {an:Option Ans} {g:FuncId} {ca cb:List C} {om:List Prop} (hc:ZlU P st c an=some (g,ca,cb,om)) (hom:∀q∈om,q) :
  ∃vs:Array Value,ZDf S w m (Zcl st args.toList ca cb) vs.toList/\(FnOk P g->(execOp a.eval o).run P w=.ok (.enter g vs) w):=by
 cases c with
 |builtin b=>cases hc
 |value f=>
  simp only[ZlU]at hc;split at hc
  .rename_i g' a' b' h1;cases hc;exact ZIT hs ho h1
  .cases hc
 |invoke r name=>
  simp only[ZlU]at hc;split at hc
  .rename_i t c' g' hv;cases hc;have hr:=hs.evo r;rw[hv]at hr;obtain⟨x,gl,dR⟩ : ∃x,a.eval r=.iface t x/\RepC S w m c' x:=by
    generalize hq:a.eval r=q at hr;cases hr with
    |ifc h=>exact⟨_,rfl,h⟩
   refine⟨#[x]++args.map a.eval,⟨by simp[Zcl],fun j v hj=>?_⟩,fun jH=>?_⟩
   .unfold Zcl at hj;simp only[List.map_cons,List.map_nil,List.append_nil]at hj;cases j with
    |zero=>
     simp at hj;subst hj;exact⟨x,by simp,dR.toV⟩
    |succ j=>
     simp only[List.singleton_append,List.getElem?_cons_succ,List.getElem?_map,Option.map_eq_some_iff,Array.getElem?_toList]at hj;obtain⟨y,h1,rfl⟩:=hj;exact⟨a.eval y,by simp[h1],hs.evo y⟩
   .have hm:=hom _ (List.mem_singleton.2 rfl) x w;unfold execOp;simp only[ho,Sem.run_bind,resolve,Sem.run_pure,Result.andThen_ok,invoke];have e0:(#[a.eval r]++args.map a.eval)[0]?=some (.iface t x):=by rw[gl,Array.getElem?_append_left (by simp)];rfl
    have e1:(#[a.eval r]++args.map a.eval).extract 1 (#[a.eval r]++args.map a.eval).size=args.map a.eval:=by
     apply Array.ext';simp[List.take_of_length_le]
    rw[e0,e1];simp[callMethod,Sem.run_bind,hm,ZnU jH]
  .cases hc
theorem ZIE{P:Program}{N:Nat}{S0:Nat->Prop}{w0:ZeU}{st st':St}{a:Act}{w:World}{S:Nat->Prop}{m:Mp}(hs:Sim N w0.F S m st a w)(hg:Goes w0.F.no S0 S w0.w w)
  {o:Oper} {c:Callee} {args:Array Operand} {bw:Array TypeId} (ho:o.op=.call { callee:=c,args:=args,argTypes:=bw }) {ha:HA} {an:Option Ans} {v:V} {obl:List Prop} (h:Zhf P N st c args.toList ha an=some (v,obl,st')) (dO:∀q∈obl,q) {K:Act->World->Prop} {Q:Exit->Act->World->Prop}
  (hk:∀x w' S' m',Sim N w0.F S' m' st' a w'->Goes w0.F.no S0 S' w0.w w'->RepV S' w' m' v x->K (a.put o.dst x) w'):o.wp P a w K Q:=by
 unfold Zhf at h;split at h;rotate_left
 .cases h
 rename_i g ca cb om hc;split at h;rotate_left
 .cases h
 rename_i h0 vs hp r aJ hin bW hr eO;cases h;have eP:Zdh P g h0 vs ha.h1 ha.res:=dO _ (by simp);obtain⟨xs,hra,dJ⟩:=Zsh (P:=P) hs ho hc fun q hq=>dO q (by simp[hq]);obtain⟨no,m0,bu,hF,g5,hrep,gn⟩:=hs.lent aJ hin hr;have gp:ZDf S w m0 vs xs.toList:=by
  obtain⟨e1,e2⟩:=Zxj bW;refine⟨by rw[e1];exact hra.1,fun j v' dA=>?_⟩;obtain⟨v0,h3,h4⟩:=e2 j v' dA;obtain⟨x,h5,h6⟩:=hra.2 j v0 h3;exact⟨x,h5,Zyw g5 h6 h4⟩
 unfold Oper.wp;rw[dJ eP.1];have:=eP.2 no S m0 w _ hs.dom bu hrep gp;rw[Array.toArray_toList]at this;refine Calls.mono this ?_;rintro e w' ⟨x,S',m',rfl,h1,h2,h3,h4,h5⟩;obtain⟨fG,cW,lV⟩:=gn w' S' m' h1 h2 h3 h5;exact hk x w' S' fG (cW.less fun _ _ hb=>ZEQ hb) (hg.step (h1.below.mono hF) h1.sub fun b hb=>(h1.sup b hb).imp id fun h hF'=>h (hF b hF')) (Zyw lV h4 eO)
def ZvH:List (Nat×B)->Option (List Prop)
 | []=>some []
 | (_,.rows _ sz n c) :: l=>match ZvH l with
  |some ps=>some ((∀i j,i<n->j<sz->∃x,c i j=.lit x) :: ps)
  |none=>none
 |_=>none
def ZlA(P:Program)(N:Nat)(st:St)(c:Callee)(args:List Operand)(ha:HA)(an:Option Ans):Option (V×List Prop×St):=match ha.lend,ha.res with
 | [],.one (.osl k n)=>match ZlU P st c an with
  |some (g,a,b,om)=>match okHA N st ha,borA st (Zcl st args a b),Zst (gOut ha) ha.h1,renV (gOut ha) ha.res,ZvH ha.h1 with
   |true,some vs,some hp,some r,some ps=>some (r,Zdh P g [] vs ha.h1 ha.res :: (ps++om),⟨st.env,ZpY hp (ZqL st.heap ha.lend)⟩)
   |_,_,_,_,_=>none
  |none=>none
 |_,_=>none
theorem ZvG:∀{h:List (Nat×B)}{ps:List Prop},ZvH h=some ps->∀id b,hget h id=some b->∃e sz n c,b=.rows e sz n c/\(∀i j,i<n->j<sz->∃x,c i j=C.lit x)∈ps
 | [],ps,hl,id,b,hb=>by cases hb
 | (k,b0) :: l,ps,hl,id,b,hb=>by
  cases b0<;>simp only[ZvH]at hl<;>try (cases hl;done)
  rename_i e sz n c
  split at hl
  .rename_i ps' cj
   cases hl
   rw[Zbh]at hb
   split at hb
   .cases hb
    exact⟨e,sz,n,c,rfl,List.mem_cons_self⟩
   .obtain⟨e',sz',n',c',h1,h2⟩:=ZvG cj id b hb
    exact⟨e',sz',n',c',h1,List.mem_cons_of_mem _ h2⟩
  .cases hl
theorem ZFs{P:Program}{N:Nat}{S0:Nat->Prop}{w0:ZeU}{st st':St}{a:Act}{w:World}{S:Nat->Prop}{m:Mp}(hs:Sim N w0.F S m st a w)(hg:Goes w0.F.no S0 S w0.w w)
  {o:Oper} {c:Callee} {args:Array Operand} {bw:Array TypeId} (ho:o.op=.call { callee:=c,args:=args,argTypes:=bw }) {ha:HA} {an:Option Ans} {v:V} {obl:List Prop} (h:ZlA P N st c args.toList ha an=some (v,obl,st')) (dO:∀q∈obl,q) {K:Act->World->Prop} {Q:Exit->Act->World->Prop}
  (hk:∀x w' S' m',Sim N w0.F S' m' st' a w'->Goes w0.F.no S0 S' w0.w w'->RepV S' w' m' v x->K (a.put o.dst x) w'):o.wp P a w K Q:=by
 unfold ZlA at h;split at h;rotate_left
 .cases h
 rename_i k n jY jZ;split at h;rotate_left
 .cases h
 rename_i g ca cb om hc;split at h;rotate_left
 .cases h
 rename_i vs hp r ps aJ bW hr eO cj;cases h;have eP:Zdh P g [] vs ha.h1 ha.res:=dO _ (by simp);obtain⟨xs,hra,dJ⟩:=Zsh (P:=P) hs ho hc fun q hq=>dO q (by simp[hq]);have hin:hIn (bwd ha.lend) st.heap ha.lend=some []:=by rw[jY];rfl
 obtain⟨no,m0,bu,hF,g5,hrep,gn⟩:=hs.lent aJ hin hr;have gp:ZDf (fun b=>b<w.heap.size) w m0 vs xs.toList:=by
  obtain⟨e1,e2⟩:=ZzD hs hra.1 hra.2 bW;exact⟨e1,fun j v hj=>by obtain⟨x,h3,h4⟩:=e2 j v hj;exact⟨x,h3,h4.keepM⟩⟩
 unfold Oper.wp;rw[dJ eP.1];have:=eP.2 (fun k=>k<w.heap.size) (fun b=>b<w.heap.size) m0 w _ (fun _ h=>h) (fun _ h=>h) ⟨fun id b hb=>(by cases hb),fun id b hb=>(by cases hb),fun i j b b' hne hb=>(by cases hb),fun b hb=>bu b (hrep.lno b hb)⟩ gp;rw[Array.toArray_toList]at this;refine Calls.mono this ?_;rintro e w' ⟨x,S',m',rfl,h1,h2,h3,h4,h5⟩;have lW:Goes no S S w w':=⟨h1.below.mono bu,fun _ h=>h,fun _ h=>.inl h⟩;have lX:∀id b,hget ha.h1 id=some b->RepB S w' m' (m' id) b:=fun id b hb=>by
  obtain⟨e,sz,n',c',rfl,bJ⟩:=ZvG cj id b hb;obtain⟨ys,q1,q2,q3⟩:=h3.rep id _ hb;refine⟨ys,q1,fun i j hi hj=>?_,q3⟩;obtain⟨y,r1,r2⟩:=q2 i j hi hj;have hq:∀i j,i<n'->j<sz->∃x,c' i j=C.lit x:=dO _ (List.mem_cons_of_mem _ (List.mem_append.2 (.inl bJ)));obtain⟨z,hz⟩:=hq i j hi hj;refine⟨y,r1,?_⟩;rw[hz]at r2 ⊢;cases r2;exact .lit
 have bk:∀id b,hget ha.h1 id=some b->∀k,blk (m' id)=some k->¬S k/\¬no k/\k<w'.heap.size:=fun id b hb k hk=>by
  obtain⟨q1,q2,q3⟩:=h3.own id b hb k hk;exact⟨fun hS=>q2 (hs.dom k hS),fun hn=>q2 (bu k hn),q3⟩
 obtain⟨fG,cW,lV⟩:=gn w' S m' lW (fun b hb=>Nat.lt_of_lt_of_le (hs.dom b hb) h1.below.size) ⟨lX,bk,h3.inj,fun b hb=>hrep.lno b (by rw[<-h5.L];exact hb)⟩ h5;have h4':RepV S w' m' ha.res x:=by
  rw[jZ]at h4 ⊢;cases h4 with
  |osl hm h0 hle=>exact RepC.osl hm h0 hle
 exact hk x w' S fG cW (hg.step (h1.below.mono fun k hk=>hs.base_le k hk) (fun _ h=>h) fun _ h=>.inl h) (Zyw lV h4' eO)
def ZRX(P:Program)(f:FuncId)(args:List V)(res:V):Prop:=FnOk P f/\∀(no S:Nat->Prop)(m:Mp)(w:World)(vs:List Value),(∀b,S b->b<w.heap.size)->(∀k,no k->k<w.heap.size)->(∀b,m.L b->no b)->ZDf S w m args vs->Calls P f vs.toArray w fun e w'=>∃x S',e=.returned x/\Goes no S S' w w'/\(∀b,S' b->b<w'.heap.size)/\RepV S' w' Zde res x
def lenV(st:St)(v:V):Option V:=match v with
 | .one (.osl id n)=>match hget st.heap id with
  |some (.rows _ sz len cc)=>some (.one (.lsl sz len cc))
  |_=>none
 | .one (.sl sz n c)=>some (.one (.lsl sz n c))
 |v=>match v.pure with
  |true=>some v
  |false=>none
def lenA(st:St):List V->Option (List V)
 | []=>some []
 |v :: l=>match lenV st v,lenA st l with
  |some v',some l'=>some (v' :: l')
  |_,_=>none
theorem RepC.lend{S:Nat->Prop}{w:World}{m:Mp}{sz n:Nat}{c:Nat->Nat->C}{x:Value}(h:RepC S w m (.sl sz n c) x){S':Nat->Prop}{m':Mp}(hL:∀b,S b->m'.L b)(gY:∀c x,RepC S w Zde c x->RepC S' w Zde c x):RepC S' w m' (.lsl sz n c) x:=by
 cases h with
 |sl b off vals hcap ha hc h1 hr=>exact .lsl b off vals hcap (fun hl=>⟨(ha hl).1,hL _ (ha hl).2⟩) hc h1 fun i j hi hj=>gY _ _ (hr i j hi hj)
theorem RepC.lend_rows{S:Nat->Prop}{w:World}{e:TypeId}{sz len:Nat}{c:Nat->Nat->C}{m m':Mp}{a:Option Addr}{n cap:Nat}(h:RepB S w m (.slice a n cap) (.rows e sz len c))(hb:∀k,blk (.slice a n cap)=some k->m'.L k) :
  RepC S w m' (.lsl sz len c) (.slice a n cap):=by
 obtain⟨rfl,h2,h3,h4⟩:=ZlH h;rcases h4 with⟨rfl,rfl,rfl⟩|⟨b,rfl⟩
 .exact .lsl 0 0 (fun _ _=>undef) (Nat.le_refl _) (fun h=>absurd h (by omega)) (fun i j h=>absurd h (by omega)) (fun i j h=>absurd h (by omega)) (fun i j h=>absurd h (by omega))
 .obtain⟨_,_,_,_,_,hc⟩:=ZqV h;have key:∀i j,∃x,i<n->j<sz->w.cell? ⟨b,i*sz+j,none⟩=some x/\x.oneCell'=true/\RepC S w Zde (c i j) x:=by
   intro i j;by_cases hi:i<n/\j<sz
   .obtain⟨x,hx⟩:=hc i j hi.1 hi.2;exact⟨x,fun _ _=>hx⟩
   .exact⟨undef,fun h1 h2=>absurd ⟨h1,h2⟩ hi⟩
  let vals:Nat->Nat->Value:=fun i j=>(key i j).choose
  have hv:∀i j,i<n->j<sz->w.cell? ⟨b,i*sz+j,none⟩=some (vals i j)/\(vals i j).oneCell'=true/\RepC S w Zde (c i j) (vals i j):=fun i j=>(key i j).choose_spec;exact .lsl b 0 vals h2 (fun _=>⟨rfl,hb b rfl⟩) (fun i j hi hj=>by rw[Nat.zero_add];exact(hv i j hi hj).1) (fun i j hi hj=>(hv i j hi hj).2.1) (fun i j hi hj=>(hv i j hi hj).2.2)
theorem ZOk{N:Nat}{F:Keep}{S:Nat->Prop}{m:Mp}{st:St}{a:Act}{w:World}(hs:Sim N F S m st a w){v v':V}{x:Value}(hv:RepV S w m v x)(h:lenV st v=some v'):RepV S w ⟨Zde.f,fun k=>k<w.heap.size⟩ v' x:=by
 unfold lenV at h;split at h
 .rename_i id n;split at h
  .rename_i e sz len cc hl;cases h;cases hv with
   |osl hm h00=>
    have hB:=hs.heap id _ hl;rw[hm]at hB;exact RepC.lend_rows (m':=⟨Zde.f,fun k=>k<w.heap.size⟩) hB fun k hk=>(hs.own id _ hl k (by rw[hm];exact hk)).2.2
  .cases h
 .cases h;exact RepC.lend hv hs.dom fun _ _ h=>h
 .split at h
  .rename_i hp;cases h;exact hv.anyM _ hp
  .cases h
theorem ZGA{N:Nat}{F:Keep}{S:Nat->Prop}{m:Mp}{st:St}{a:Act}{w:World}(hs:Sim N F S m st a w):∀{vs gK:List V}{xs:List Value},ZDf S w m vs xs->lenA st vs=some gK->ZDf S w ⟨Zde.f,fun k=>k<w.heap.size⟩ gK xs
 | [],gK,xs,hl,h=>by cases h;exact⟨hl.1,fun j v h=>by simp at h⟩
 |v :: vs,gK,xs,hl,h=>by
  simp only[lenA]at h
  split at h
  .rename_i v1 l1 h1 h2
   cases h
   obtain⟨e1,e2⟩:=hl
   cases xs with
   |nil=>simp at e1
   |cons x xs=>
    have ht:=ZGA (xs:=xs) hs ⟨by simpa using e1,fun j v hj=>by have:=e2 (j+1) v (by simpa using hj);simpa using this⟩ h2
    obtain⟨x',h3,h4⟩:=e2 0 v rfl
    cases h3
    refine⟨by simp[ht.1],fun j c hj=>?_⟩
    cases j with
    |zero=>simp only[List.getElem?_cons_zero,Option.some.injEq]at hj;subst hj;exact⟨x,rfl,ZOk hs h4 h1⟩
    |succ j=>simpa using ht.2 j c (by simpa using hj)
  .cases h
def Zzt(P:Program)(st:St)(c:Callee)(args:List Operand)(ha:HA)(an:Option Ans):Option (V×List Prop×St):=match ZlU P st c an with
 |some (g,a,b,om)=>match lenA st (Zcl st args a b),ha.res.pure with
  |some vs,true=>some (ha.res,ZRX P g vs ha.res :: om,st)
  |_,_=>none
 |none=>none
theorem ZFr{P:Program}{N:Nat}{S0:Nat->Prop}{w0:ZeU}{st st':St}{a:Act}{w:World}{S:Nat->Prop}{m:Mp}(hs:Sim N w0.F S m st a w)(hg:Goes w0.F.no S0 S w0.w w)
  {o:Oper} {c:Callee} {args:Array Operand} {bw:Array TypeId} (ho:o.op=.call { callee:=c,args:=args,argTypes:=bw }) {ha:HA} {an:Option Ans} {v:V} {obl:List Prop} (h:Zzt P st c args.toList ha an=some (v,obl,st')) (dO:∀q∈obl,q) {K:Act->World->Prop} {Q:Exit->Act->World->Prop}
  (hk:∀x w' S' m',Sim N w0.F S' m' st' a w'->Goes w0.F.no S0 S' w0.w w'->RepV S' w' m' v x->K (a.put o.dst x) w'):o.wp P a w K Q:=by
 unfold Zzt at h;split at h;rotate_left
 .cases h
 rename_i g ca cb om hc;split at h;rotate_left
 .cases h
 rename_i vs bW hp;cases h;have eP:ZRX P g vs ha.res:=dO _ (by simp);obtain⟨xs,hra,dJ⟩:=Zsh (P:=P) hs ho hc fun q hq=>dO q (by simp[hq]);have gp:=ZGA hs hra bW;unfold Oper.wp;rw[dJ eP.1];have:=eP.2 (fun k=>k<w.heap.size) S ⟨Zde.f,fun k=>k<w.heap.size⟩ w _ hs.dom (fun _ h=>h) (fun _ h=>h) gp;rw[Array.toArray_toList]at this;refine Calls.mono this ?_;rintro e w' ⟨x,S',rfl,h1,h2,h3⟩;have cW:=hs.grow (S':=S') h1.below.size h1.below.block h1.sub fun b hb=>(h1.sup b hb).imp id fun h=>⟨Nat.le_of_not_lt h,h2 b hb⟩;exact hk x w' S' m cW (hg.step (h1.below.mono hs.base_le) h1.sub fun b hb=>(h1.sup b hb).imp id fun h hF=>h (hs.base_le _ hF)) h3.keepM
def ZhH(P:Program)(N:Nat)(st:St)(c:Callee)(args:List Operand)(ha:HA)(an:Option Ans):Option (V×List Prop×St):=match Zhf P N st c args ha an with
 |some r=>some r
 |none=>ZlA P N st c args ha an
theorem Zwi{P:Program}{N:Nat}{st:St}{c:Callee}{args:List Operand}{ha:HA}{an:Option Ans}{r:V×List Prop×St}(h:Zhf P N st c args ha an=some r):ZhH P N st c args ha an=some r:=by
 unfold ZhH;rw[h]
theorem ZFq{P:Program}{N:Nat}{S0:Nat->Prop}{w0:ZeU}{st st':St}{a:Act}{w:World}{S:Nat->Prop}{m:Mp}(hs:Sim N w0.F S m st a w)(hg:Goes w0.F.no S0 S w0.w w)
  {o:Oper} {c:Callee} {args:Array Operand} {bw:Array TypeId} (ho:o.op=.call { callee:=c,args:=args,argTypes:=bw }) {ha:HA} {an:Option Ans} {v:V} {obl:List Prop} (h:ZhH P N st c args.toList ha an=some (v,obl,st')) (dO:∀q∈obl,q) {K:Act->World->Prop} {Q:Exit->Act->World->Prop}
  (hk:∀x w' S' m',Sim N w0.F S' m' st' a w'->Goes w0.F.no S0 S' w0.w w'->RepV S' w' m' v x->K (a.put o.dst x) w'):o.wp P a w K Q:=by
 unfold ZhH at h;split at h
 .rename_i r hr;cases h;exact ZIE hs hg ho hr dO hk
 .exact ZFs hs hg ho h dO hk
def ZsZ(P:Program)(N:Nat)(st:St)(c:Callee)(args:List Operand)(ha:HA)(an:Option Ans):Option (V×List Prop×St):=match ZhH P N st c args ha an with
 |some r=>some r
 |none=>Zzt P st c args ha an
theorem Zwh{P:Program}{N:Nat}{st:St}{c:Callee}{args:List Operand}{ha:HA}{an:Option Ans}{r:V×List Prop×St}(h:ZhH P N st c args ha an=some r):ZsZ P N st c args ha an=some r:=by
 unfold ZsZ;rw[h]
theorem ZFp{P:Program}{N:Nat}{S0:Nat->Prop}{w0:ZeU}{st st':St}{a:Act}{w:World}{S:Nat->Prop}{m:Mp}(hs:Sim N w0.F S m st a w)(hg:Goes w0.F.no S0 S w0.w w)
  {o:Oper} {c:Callee} {args:Array Operand} {bw:Array TypeId} (ho:o.op=.call { callee:=c,args:=args,argTypes:=bw }) {ha:HA} {an:Option Ans} {v:V} {obl:List Prop} (h:ZsZ P N st c args.toList ha an=some (v,obl,st')) (dO:∀q∈obl,q) {K:Act->World->Prop} {Q:Exit->Act->World->Prop}
  (hk:∀x w' S' m',Sim N w0.F S' m' st' a w'->Goes w0.F.no S0 S' w0.w w'->RepV S' w' m' v x->K (a.put o.dst x) w'):o.wp P a w K Q:=by
 unfold ZsZ at h;split at h
 .rename_i r hr;cases h;exact ZFq hs hg ho hr dO hk
 .exact ZFr hs hg ho h dO hk
theorem Zdh.pure{P:Program}{f:FuncId}{args:List V}{id:Nat}{e:TypeId}{sz n:Nat}{c:Nat->Nat->C}(h:Zdh P f [] args [(id,.rows e sz n c)] (.one (.osl id n))):Zpi P f args (.one (.sl sz n c)):=by
 refine⟨h.1,fun S w vs hS hra=>?_⟩;refine Calls.mono (h.2 (fun k=>k<w.heap.size) S Zde w vs hS (fun _ h=>h) ⟨fun id b hb=>by simp[hget]at hb,fun id b hb=>by simp[hget]at hb,fun i j b b' hne h1=>by simp[hget]at h1,fun b hb=>hb.elim⟩ hra) ?_;rintro e' w' ⟨x,S',m',rfl,h1,h2,h3,h4,h5⟩;have hg:hget [(id,B.rows e sz n c)] id=some (.rows e sz n c):=by rw[Zbh,if_pos rfl]
 have hrep:=h3.rep id _ hg;have hsl:∃a cap,m' id=.slice a n cap/\x=.slice a n cap:=by
  cases h4 with
  |osl hm h0=>exact⟨_,_,hm,rfl⟩
 obtain⟨a,cap,e1,e2⟩:=hsl;refine⟨x,fun k=>S' k\/blk (m' id)=some k,rfl,⟨h1.below,fun b hb=>.inl (h1.sub b hb),fun b hb=>?_⟩,fun b hb=>?_,?_⟩
 .rcases hb with hb|hb
  .exact h1.sup b hb
  .exact .inr (h3.own id _ hg b hb).2.1
 .rcases hb with hb|hb
  .exact h2 b hb
  .exact(h3.own id _ hg b hb).2.2
 .have:=(RepC.of_rows (m':=Zde) hrep ⟨a,cap,e1⟩ (fun b hb=>(.inl hb:S' b\/blk (m' id)=some b)) fun k hk=>.inr hk).2;have e3:m' id=x:=by rw[e1,e2]
  rw[e3]at this ⊢;exact this
theorem ZBZ{d e:Nat}(hne:d≠e)(b c:B):∀(h:List (Nat×B)),hrep (hins h d b) e c=hins (hrep h e c) d b:=by
 have f1:∀{x y:Nat},x≠y->Nat.beq x y=false:=fun{x y} h=>by
  cases hb:Nat.beq x y
  .rfl
  .exact absurd (Nat.eq_of_beq_eq_true hb) h
 intro h;induction h with
 |nil=>simp[hins,hrep,f1 hne]
 |cons p r ih=>
  obtain⟨k,v⟩:=p;by_cases hk:k=d
  .subst hk;simp[hins,hrep,f1 hne]
  .by_cases he:k=e
   .subst he;by_cases h1:Nat.blt d k=true
    .simp[hins,hrep,f1 hk,h1,f1 hne]
    .simp[hins,hrep,f1 hk,h1]
   .by_cases h1:Nat.blt d k=true
    .simp[hins,hrep,f1 hk,h1,f1 hne,f1 he]
    .simp[hins,hrep,f1 hk,h1,f1 he,ih]
theorem ZCl{g:Nat->Option Nat}{h h':List (Nat×B)}:∀{l:List (Nat×Nat)},(∀p∈l,hget h' p.2=hget h p.2)->hIn g h' l=hIn g h l
 | [],_=>rfl
 | (c,i) :: l,e=>by
  simp only[hIn]
  rw[e _ List.mem_cons_self,ZCl fun p hp=>e p (List.mem_cons_of_mem _ hp)]
theorem C.pure_says{d:Nat}:∀{c:C},c.pure=true->c.says d=false:=by
 intro c;induction c with
 |clo fn na nb a b iha ihb=>
  intro h;simp only[C.pure,Bool.and_eq_true,List.all_eq_true,List.mem_range]at h;simp only[C.says,Bool.or_eq_false_iff,List.any_eq_false,List.mem_range,Bool.not_eq_true];exact⟨fun i hi=>iha i (h.1 i hi),fun i hi=>ihb i (h.2 i hi)⟩
 |ifc t c ih=>exact fun h=>ih h
 |ifa t n c ih=>
  intro h;simp only[C.pure,List.all_eq_true,List.mem_range]at h;simp only[C.says,List.any_eq_false,List.mem_range,Bool.not_eq_true];exact fun i hi=>ih i (h i hi)
 |agv n c ih=>
  intro h;simp only[C.pure,List.all_eq_true,List.mem_range]at h;simp only[C.says,List.any_eq_false,List.mem_range,Bool.not_eq_true];exact fun i hi=>ih i (h i hi)
 |_=>intro h;first|rfl | (simp[C.pure]at h)
theorem Zxl {g:Nat->Option Nat} {d:Nat} (hg:g d = none) {c c' : C} (h:Zyy g c = some c'):c.says d = false:=by
  have key : ∀ k k',g k = some k'->Nat.beq k d = false:=fun k k' hk =>by
    cases hb:Nat.beq k d
    . rfl
    . rw [Nat.eq_of_beq_eq_true hb,hg] at hk; cases hk
  unfold Zyy at h
  split at h
  all_goals first
    | rfl
    | (split at h
       . rename_i hk; exact key _ _ hk
       . cases h)
    | (split at h
       . rename_i hp; exact C.pure_says hp
       . cases h)
theorem ZAS {g:Nat->Option Nat} {d:Nat} (hg : ∀ k,g k ≠ some d) {c c' : C} (h:Zyy g c = some c'):c'.says d = false:=by
  have key : ∀ k k',g k = some k'->Nat.beq k' d = false:=fun k k' hk =>by
    cases hb:Nat.beq k' d
    . rfl
    . exact absurd (by rw [<- Nat.eq_of_beq_eq_true hb]; exact hk) (hg k)
  unfold Zyy at h
  split at h
  all_goals first
    | (cases h; rfl)
    | (split at h
       . rename_i hk; cases h; exact key _ _ hk
       . cases h)
    | (split at h
       . rename_i hp; cases h; exact C.pure_says hp
       . cases h)
theorem ZrD{g:Nat->Option Nat}{d:Nat}(hg:g d=none):∀{l l':List C},Zsu g l=some l'->∀c∈l,c.says d=false
 | [],_,_,c,hc=>by cases hc
 |x :: l,l',h,c,hc=>by
  simp only[Zsu]at h
  split at h
  .rename_i c1 l1 h1 h2
   rcases List.mem_cons.1 hc with rfl|hc
   .exact Zxl hg h1
   .exact ZrD hg h2 c hc
  .cases h
theorem Ztr{g:Nat->Option Nat}{d:Nat}(hg:∀k,g k≠some d):∀{l l':List C},Zsu g l=some l'->∀c∈l',c.says d=false
 | [],l',h,c,hc=>by cases h;cases hc
 |x :: l,l',h,c,hc=>by
  simp only[Zsu]at h
  split at h
  .rename_i c1 l1 h1 h2
   cases h
   rcases List.mem_cons.1 hc with rfl|hc
   .exact ZAS hg h1
   .exact Ztr hg h2 c hc
  .cases h
theorem ZJX{g:Nat->Option Nat}{d:Nat}(hg:g d=none){c c':C}(h:renC g c=some c'):c.says d=false:=by
 unfold renC at h;split at h
 .rename_i fn na nb a b;split at h
  .rename_i hp;exact C.pure_says hp
  .split at h
   .rename_i xs ys hx hy;simp only[C.says,Bool.or_eq_false_iff,List.any_eq_false,List.mem_range,Bool.not_eq_true];refine⟨fun i hi=>ZrD hg hx _ (List.mem_map.2 ⟨i,List.mem_range.2 hi,rfl⟩),fun i hi=>ZrD hg hy _ (List.mem_map.2 ⟨i,List.mem_range.2 hi,rfl⟩)⟩
   .cases h
 .exact Zxl hg h
theorem ZNV{g:Nat->Option Nat}{d:Nat}(hg:∀k,g k≠some d){c c':C}(h:renC g c=some c'):c'.says d=false:=by
 unfold renC at h;split at h
 .rename_i fn na nb a b;split at h
  .rename_i hp;cases h;exact C.pure_says hp
  .split at h
   .rename_i xs ys hx hy;cases h;have hj:∀(l:List C)(i:Nat),(∀c∈l,c.says d=false)->(l.getD i .junk).says d=false:=fun l i hl=>by
     rw[List.getD_eq_getElem?_getD];cases hq:l[i]? with
     |none=>rfl
     |some q=>exact hl q (List.mem_of_getElem? hq)
    simp only[C.says,Bool.or_eq_false_iff,List.any_eq_false,List.mem_range,Bool.not_eq_true];exact⟨fun i _=>hj xs i (Ztr hg hx),fun i _=>hj ys i (Ztr hg hy)⟩
   .cases h
 .exact ZAS hg h
theorem Zxk{g:Nat->Option Nat}{d:Nat}(hg:g d=none):∀{l l':List C},Zsv g l=some l'->l.any (C.says d)=false
 | [],_,_=>rfl
 |x :: l,l',h=>by
  simp only[Zsv]at h
  split at h
  .rename_i c1 l1 h1 h2
   rw[List.any_cons,ZJX hg h1,Zxk hg h2]
   rfl
  .cases h
theorem ZAR{g:Nat->Option Nat}{d:Nat}(hg:∀k,g k≠some d):∀{l l':List C},Zsv g l=some l'->l'.any (C.says d)=false
 | [],l',h=>by cases h;rfl
 |x :: l,l',h=>by
  simp only[Zsv]at h
  split at h
  .rename_i c1 l1 h1 h2
   cases h
   rw[List.any_cons,ZNV hg h1,ZAR hg h2]
   rfl
  .cases h
theorem ZJY{g:Nat->Option Nat}{d:Nat}(hg:g d=none){b b':B}(h:renB g b=some b'):b.says d=false:=by
 cases b with
 |box l=>
  simp only[renB,Option.map_eq_some_iff]at h;obtain⟨l',h1,rfl⟩:=h;exact Zxk hg h1
 |rows e sz len c=>rfl
 |map kt l=>rfl
theorem ZNW{g:Nat->Option Nat}{d:Nat}(hg:∀k,g k≠some d){b b':B}(h:renB g b=some b'):b'.says d=false:=by
 cases b with
 |box l=>
  simp only[renB,Option.map_eq_some_iff]at h;obtain⟨l',h1,rfl⟩:=h;exact ZAR hg h1
 |rows e sz len c=>cases h;rfl
 |map kt l=>cases h;rfl
theorem Zrw{d e:Nat}{c:B}(hne:e≠d):∀{h:List (Nat×B)},(∀b,hget h e=some b->b.says d=false)->Zie d (hrep h e c)=true->Zie d h=true
 | [],_,_=>rfl
 | (k,v) :: r,hb,hq=>by
  simp only[hrep]at hq
  split at hq
  .rename_i hk
   obtain rfl:=Nat.eq_of_beq_eq_true hk
   have hv:=hb v (by rw[Zbh,if_pos rfl])
   simp only[Zie]at hq ⊢
   rw[hv]
   split at hq
   .rename_i h1 _
    rw[h1]
    exact hq
   .cases hq
  .rename_i hk
   have hk:=Nat.ne_of_beq_eq_false hk
   simp only[Zie]at hq ⊢
   split at hq
   .rename_i h1 h2
    exact Zrw hne (fun b aQ=>hb b (by rw[Zbh,if_neg hk];exact aQ)) hq
   .cases hq
theorem Zvq{d e:Nat}{c:B}(hc:c.says d=false):∀{h:List (Nat×B)},Zie d h=true->Zie d (hrep h e c)=true
 | [],_=>rfl
 | (k,v) :: r,hq=>by
  simp only[Zie]at hq
  split at hq
  .rename_i h1 h2
   simp only[hrep]
   split
   .rename_i hk
    obtain rfl:=Nat.eq_of_beq_eq_true hk
    simp only[Zie,h1,hc]
    exact hq
   .simp only[Zie,h1,h2]
    exact Zvq hc hq
  .cases hq
end Go.Proofs.YtlpdogaifdeomaaGreat
