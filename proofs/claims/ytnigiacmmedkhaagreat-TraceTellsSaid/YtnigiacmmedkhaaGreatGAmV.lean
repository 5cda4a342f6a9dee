import Derived.Test.YtnigiacmmedkhaaGreatGAmL
namespace Go.Proofs.YtnigiacmmedkhaaGreat
open Go.RowKit
set_option linter.unusedSimpArgs false
set_option linter.unusedVariables false
structure ZuK (no S:Nat->Prop) (m:Mp) (h:List (Nat×B)) (w:World):Prop where
 rep:∀id b,hget h id=some b->RepB S w m (m id) b
 own:∀id b,hget h id=some b->∀k,blk (m id)=some k->¬S k/\¬no k/\k<w.heap.size
 inj:∀id id' b b',id≠id'->hget h id=some b->hget h id'=some b'->∀k,blk (m id)=some k->blk (m id')≠some k
 lno:∀b,m.L b->no b
structure Pins (m' m:Mp):Prop where
 pin:∀id,Zpq<=id->m' id=m id
 L:m'.L=m.L
def ZuI(S:Nat->Prop)(w:World)(m:Mp)(args:List V)(vs:List Value):Prop:=vs.length=args.length/\∀(j:Nat)(v:V),args[j]?=some v->∃x,vs[j]?=some x/\RepV S w m v x
def Zix(P:Program)(f:FuncId)(h0:List (Nat×B))(args:List V)(h1:List (Nat×B))(res:V):Prop:=FnOk P f/\∀(no S:Nat->Prop)(m:Mp)(w:World)(vs:List Value),(∀b,S b->b<w.heap.size)->(∀k,no k->k<w.heap.size)->ZuK no S m h0 w->ZuI S w m args vs->Calls P f vs.toArray w fun e w'=>∃x S' m',e=.returned x/\Goes no S S' w w'/\(∀b,S' b->b<w'.heap.size)/\ZuK no S' m' h1 w'/\RepV S' w' m' res x/\Pins m' m
def Zpb:List (Nat×Nat)->Nat->Option Nat
 | [],_=>none
 | (k,v) :: r,t=>match Nat.beq k t with
  |true=>some v
  |false=>Zpb r t
theorem Zps:∀{l:List (Nat×Nat)}{t v:Nat},Zpb l t=some v->(t,v)∈l
 | (k,v') :: r,t,v,h=>by
  simp only[Zpb]at h
  split at h
  .rename_i hb
   cases h
   rw[ZaH hb]
   exact List.mem_cons_self
  .exact List.mem_cons_of_mem _ (Zps h)
def bwd(l:List (Nat×Nat))(t:Nat):Option Nat:=Zpb (l.map fun p=>(p.2,p.1)) t
theorem Zuw{l:List (Nat×Nat)}{t v:Nat}(h:bwd l t=some v):(v,t)∈l:=by
 have:=Zps h;simp only[List.mem_map]at this;obtain⟨p,h1,h2⟩:=this;cases h2;exact h1
def isO:Option Nat->Nat->Bool|some a,b=>Nat.beq a b|none,_=>false
theorem ZNS:∀{o:Option Nat}{b:Nat},isO o b=true->o=some b
 |some a,b,h=>by rw[ZaH h]
def biB(l:List (Nat×Nat)):Bool:=l.all fun p=>isO (Zpb l p.1) p.2&&isO (bwd l p.2) p.1
theorem ZpL{l:List (Nat×Nat)}(h:biB l=true){a b:Nat}(hm:(a,b)∈l):Zpb l a=some b/\bwd l b=some a:=by
 have:=List.all_eq_true.1 h _ hm;simp only[Bool.and_eq_true]at this;exact⟨ZNS this.1,ZNS this.2⟩
theorem ZCj{l:List (Nat×Nat)}(h:biB l=true){a b:Nat}:Zpb l a=some b↔bwd l b=some a:=
 ⟨fun h1=>(ZpL h (Zps h1)).2,fun h1=>(ZpL h (Zuw h1)).1⟩
def ZwH(g:Nat->Option Nat):C->Option C
 | .osl k n=>match g k with
  |some k'=>some (.osl k' n)
  |none=>none
 | .ptr k off=>match g k with
  |some k'=>some (.ptr k' off)
  |none=>none
 | .eptr k sz i off=>match g k with
  |some k'=>some (.eptr k' sz i off)
  |none=>none
 | .mp k=>match g k with
  |some k'=>some (.mp k')
  |none=>none
 | .ifc t (.ptr k off)=>match g k with
  |some k'=>some (.ifc t (.ptr k' off))
  |none=>none
 | .lsl sz n c=>some (.lsl sz n c)
 | .lrp n c=>some (.lrp n c)
 |c=>match c.pure with
  |true=>some c
  |false=>none
structure Rn (g:Nat->Option Nat) (m m':Mp):Prop where
 at_:∀k k',g k=some k'->m' k'=m k
 L:∀b,m.L b->m'.L b
theorem Ztq{g:Nat->Option Nat}{S:Nat->Prop}{w:World}{m m':Mp}(hg:Rn g m m'){c c':C}{x:Value}(h:RepC S w m c x)(hr:ZwH g c=some c'):RepC S w m' c' x:=by
 unfold ZwH at hr;split at hr
 .split at hr
  .rename_i h1;cases hr;cases h with
   |osl hm h0 hle=>exact .osl (by rw[hg.at_ _ _ h1];exact hm) h0 hle
  .cases hr
 .split at hr
  .rename_i h1;cases hr;cases h with
   |ptr hm=>exact .ptr (by rw[hg.at_ _ _ h1];exact hm)
  .cases hr
 .split at hr
  .rename_i h1;cases hr;cases h with
   |eptr hm=>exact .eptr (by rw[hg.at_ _ _ h1];exact hm)
  .cases hr
 .split at hr
  .rename_i h1;cases hr;cases h with
   |mp hm=>exact .mp (by rw[hg.at_ _ _ h1];exact hm)
  .cases hr
 .split at hr
  .rename_i h1;cases hr;cases h with
   |ifc hm=>
    cases hm with
    |ptr hm=>exact .ifc (.ptr (by rw[hg.at_ _ _ h1];exact hm))
  .cases hr
 .cases hr;cases h with
  |lsl b off vals hcap ha hc h1 hr=>exact .lsl b off vals hcap (fun hl=>⟨(ha hl).1,hg.L _ (ha hl).2⟩) hc h1 hr
 .cases hr;cases h with
  |lrp b off vals ha hc h1 hr=>exact .lrp b off vals (hg.L _ ha) hc h1 hr
 .split at hr
  .rename_i hp;cases hr;exact h.anyM m' hp
  .cases hr
def Zrd(g:Nat->Option Nat):List C->Option (List C)
 | []=>some []
 |c :: l=>match ZwH g c,Zrd g l with
  |some c',some l'=>some (c' :: l')
  |_,_=>none
theorem ZqD{g:Nat->Option Nat}:∀{l l':List C},Zrd g l=some l'->l'.length=l.length/\∀(j:Nat) c',l'[j]?=some c'->∃c,l[j]?=some c/\ZwH g c=some c'
 | [],l',h=>by cases h;exact⟨rfl,fun j c' hc=>by simp at hc⟩
 |c :: l,l',h=>by
  simp only[Zrd]at h
  split at h
  .rename_i c1 l1 h1 h2
   cases h
   obtain⟨h3,h4⟩:=ZqD h2
   refine⟨by simp[h3],fun j c' hc=>?_⟩
   cases j with
   |zero=>simp at hc;exact⟨c,rfl,hc ▸ h1⟩
   |succ j=>simpa using h4 j c' (by simpa using hc)
  .cases h
def renC(g:Nat->Option Nat):C->Option C
 | .clo fn na nb a b=>match (C.clo fn na nb a b).pure with
  |true=>some (.clo fn na nb a b)
  |false=>match Zrd g (Zer na a),Zrd g (Zer nb b)with
   |some xs,some ys=>some (.clo fn na nb (fun i=>xs.getD i .junk) fun i=>ys.getD i .junk)
   |_,_=>none
 |c=>ZwH g c
theorem ZwG{g:Nat->Option Nat}{S:Nat->Prop}{w:World}{m m':Mp}(hg:Rn g m m'){c c':C}{x:Value}(h:RepC S w m c x)(hr:renC g c=some c'):RepC S w m' c' x:=by
 unfold renC at hr;split at hr
 .rename_i fn na nb a b;split at hr
  .rename_i hp;cases hr;exact h.anyM m' hp
  .split at hr
   .rename_i xs ys h1 h2;cases hr;obtain⟨e1,e2⟩:=ZqD h1;obtain⟨e3,e4⟩:=ZqD h2;cases h with
    |clo vs us ha hb=>
     refine .clo vs us (fun i hi=>?_) fun i hi=>?_
     .have hl:i<xs.length:=by rw[e1];simpa[Zer]using hi
      obtain⟨c,f1,f2⟩:=e2 i (xs.getD i .junk) (by simp[List.getD_eq_getElem?_getD,hl]);obtain⟨_,rfl⟩:=Zhv f1;exact Ztq hg (ha i hi) f2
     .have hl:i<ys.length:=by rw[e3];simpa[Zer]using hi
      obtain⟨c,f1,f2⟩:=e4 i (ys.getD i .junk) (by simp[List.getD_eq_getElem?_getD,hl]);obtain⟨_,rfl⟩:=Zhv f1;exact Ztq hg (hb i hi) f2
   .cases hr
 .exact Ztq hg h hr
def Zre(g:Nat->Option Nat):List C->Option (List C)
 | []=>some []
 |c :: l=>match renC g c,Zre g l with
  |some c',some l'=>some (c' :: l')
  |_,_=>none
theorem Zsa{g:Nat->Option Nat}:∀{l l':List C},Zre g l=some l'->l'.length=l.length/\∀(j:Nat) c',l'[j]?=some c'->∃c,l[j]?=some c/\renC g c=some c'
 | [],l',h=>by cases h;exact⟨rfl,fun j c' hc=>by simp at hc⟩
 |c :: l,l',h=>by
  simp only[Zre]at h
  split at h
  .rename_i c1 l1 h1 h2
   cases h
   obtain⟨h3,h4⟩:=Zsa h2
   refine⟨by simp[h3],fun j c' hc=>?_⟩
   cases j with
   |zero=>simp at hc;exact⟨c,rfl,hc ▸ h1⟩
   |succ j=>simpa using h4 j c' (by simpa using hc)
  .cases h
theorem Ztp{g:Nat->Option Nat}{S:Nat->Prop}{w:World}{m m':Mp}(hg:Rn g m m'){l l':List C}{xs:List Value}(h:RepL S w m l xs)(hr:Zre g l=some l'):RepL S w m' l' xs:=by
 obtain⟨h1,h2⟩:=Zsa hr;refine⟨by rw[h1];exact h.1,fun j c' hc=>?_,h.2.2⟩;obtain⟨c,h3,h4⟩:=h2 j c' hc;obtain⟨x,h5,h6⟩:=h.2.1 j c h3;exact⟨x,h5,ZwG hg h6 h4⟩
def renP(g:Nat->Option Nat):List (Bool×List C)->Option (List (Bool×List C))
 | []=>some []
 | (b,c) :: l=>match Zre g c,renP g l with
  |some c',some l'=>some ((b,c') :: l')
  |_,_=>none
theorem Zzv{g:Nat->Option Nat}:∀{l l':List (Bool×List C)},renP g l=some l'->l'.length=l.length/\∀(j:Nat)(p':Bool×List C),l'[j]?=some p'->∃p:Bool×List C,l[j]?=some p/\p'.1=p.1/\Zre g p.2=some p'.2
 | [],l',h=>by cases h;exact⟨rfl,fun j c' hc=>by simp at hc⟩
 | (b,c) :: l,l',h=>by
  simp only[renP]at h
  split at h
  .rename_i c1 l1 h1 h2
   cases h
   obtain⟨h3,h4⟩:=Zzv h2
   refine⟨by simp[h3],fun j c' hc=>?_⟩
   cases j with
   |zero=>simp at hc;subst hc;exact⟨_,rfl,rfl,h1⟩
   |succ j=>simpa using h4 j c' (by simpa using hc)
  .cases h
def renV(g:Nat->Option Nat):V->Option V | .one c=>(renC g c).map .one | .agg l=>(Zre g l).map .agg | .tup l=>(renP g l).map .tup
theorem ZsM{g:Nat->Option Nat}{S:Nat->Prop}{w:World}{m m':Mp}(hg:Rn g m m'){v v':V}{x:Value}(h:RepV S w m v x)(hr:renV g v=some v'):RepV S w m' v' x:=by
 cases v with
 |one c=>
  simp only[renV,Option.map_eq_some_iff]at hr;obtain⟨c',h1,rfl⟩:=hr;exact ZwG hg h h1
 |agg l=>
  simp only[renV,Option.map_eq_some_iff]at hr;obtain⟨c',h1,rfl⟩:=hr;obtain⟨xs,h2,h3⟩:=h;exact⟨xs,h2,Ztp hg h3 h1⟩
 |tup l=>
  simp only[renV,Option.map_eq_some_iff]at hr;obtain⟨l',h1,rfl⟩:=hr;obtain⟨xs,h2,h3,h4⟩:=h;obtain⟨h5,h6⟩:=Zzv h1;refine⟨xs,h2,by omega,fun j p' hp=>?_⟩;obtain⟨p,h7,h8,h9⟩:=h6 j p' hp;obtain⟨y,fO,h11⟩:=h4 j p h7;refine⟨y,fO,?_⟩;obtain⟨b,cs⟩:=p;obtain⟨b',fY⟩:=p';simp only at h8 h9;subst h8;cases b' with
  |true=>obtain⟨ys,h12,h13⟩:=h11;exact⟨ys,h12,Ztp hg h13 h9⟩
  |false=>
   match cs,fY,h9,h11 with
   | [c],fY,h9,h11=>
    simp only[Zre]at h9;split at h9
    .rename_i c1 l1 e1 e2;cases e2;cases h9;exact ZwG hg h11 e1
    .cases h9
   | [],fY,h9,h11=>simp only[Zre]at h9;cases h9;trivial
   |a :: b :: r,fY,h9,h11=>
    have:=(Zsa h9).1
    match fY,this with
    |x :: y :: z,_=>trivial
def ZIS(g:Nat->Option Nat):List V->Option (List V)
 | []=>some []
 |v :: l=>match renV g v,ZIS g l with
  |some v',some l'=>some (v' :: l')
  |_,_=>none
theorem Zvr{g:Nat->Option Nat}:∀{l l':List V},ZIS g l=some l'->l'.length=l.length/\∀(j:Nat) c',l'[j]?=some c'->∃c,l[j]?=some c/\renV g c=some c'
 | [],l',h=>by cases h;exact⟨rfl,fun j c' hc=>by simp at hc⟩
 |c :: l,l',h=>by
  simp only[ZIS]at h
  split at h
  .rename_i c1 l1 h1 h2
   cases h
   obtain⟨h3,h4⟩:=Zvr h2
   refine⟨by simp[h3],fun j c' hc=>?_⟩
   cases j with
   |zero=>simp at hc;exact⟨c,rfl,hc ▸ h1⟩
   |succ j=>simpa using h4 j c' (by simpa using hc)
  .cases h
def renB(g:Nat->Option Nat):B->Option B | .box l=>(Zre g l).map .box | .rows e sz len c=>some (.rows e sz len c) | .map kt l=>some (.map kt l) | .hole _ _ _ _ _=>none
theorem ZFs{g:Nat->Option Nat}{S:Nat->Prop}{w:World}{m m':Mp}(hg:Rn g m m'){b b':B}{x:Value}(h:RepB S w m x b)(hr:renB g b=some b'):RepB S w m' x b':=by
 cases b with
 |box l=>
  simp only[renB,Option.map_eq_some_iff]at hr;obtain⟨l',h1,rfl⟩:=hr;obtain⟨b,a8,t,h2,h3,h4⟩:=h;exact⟨b,a8,t,h2,h3,Ztp hg h4 h1⟩
 |rows e sz len c=>cases hr;exact h
 |map kt l=>cases hr;exact h
 |hole _ _ _ _ _=>cases hr
def Zqn(g:Nat->Option Nat):List (Nat×B)->Option (List (Nat×B))
 | []=>some []
 | (j,b) :: l=>match g j,renB g b,Zqn g l with
  |some i,some b',some l'=>some ((i,b') :: l')
  |_,_,_=>none
theorem Zzw{g:Nat->Option Nat}:∀{l l':List (Nat×B)},Zqn g l=some l'->∀i b',hget l' i=some b'->∃j b,g j=some i/\hget l j=some b/\renB g b=some b'
 | [],l',h=>by cases h;exact fun i b' hb=>by cases hb
 | (j,b) :: l,l',h=>by
  simp only[Zqn]at h
  split at h
  .rename_i i0 b0 l0 h1 h2 h3
   cases h
   intro i b' hb
   rw[Zbk]at hb
   split at hb
   .rename_i e
    cases hb
    exact⟨j,b,e ▸ h1,by rw[Zbk,if_pos rfl],h2⟩
   .rename_i e
    obtain⟨j2,b2,h4,h5,h6⟩:=Zzw h3 i b' hb
    refine⟨j2,b2,h4,?_,h6⟩
    rw[Zbk,if_neg ?_]
    .exact h5
    .rintro rfl
     rw[h1]at h4
     exact e (Option.some.inj h4)
  .cases h
def hIn(g:Nat->Option Nat)(h:List (Nat×B)):List (Nat×Nat)->Option (List (Nat×B))
 | []=>some []
 | (c,i) :: l=>match hget h i with
  |some b=>match renB g b,hIn g h l with
   |some b',some l'=>some ((c,b') :: l')
   |_,_=>none
  |none=>none
theorem ZJV{g:Nat->Option Nat}{h:List (Nat×B)}:∀{l:List (Nat×Nat)}{r:List (Nat×B)},hIn g h l=some r->(∀c b',hget r c=some b'->∃i b,(c,i)∈l/\hget h i=some b/\renB g b=some b')/\∀c i,(c,i)∈l->∃b,hget h i=some b
 | [],r,e=>by cases e;exact⟨fun c b' hb=>(by cases hb),fun c i hm=>by cases hm⟩
 | (c0,i0) :: l,r,e=>by
  simp only[hIn]at e
  split at e
  .rename_i b hb
   split at e
   .rename_i b0 l0 h1 h2
    cases e
    obtain⟨h3,h4⟩:=ZJV h2
    refine⟨fun c b' aN=>?_,fun c i hm=>?_⟩
    .rw[Zbk]at aN
     split at aN
     .rename_i e
      cases aN
      subst e
      exact⟨i0,b,List.mem_cons_self,hb,h1⟩
     .obtain⟨i,b2,h5,h6,h7⟩:=h3 c b' aN
      exact⟨i,b2,List.mem_cons_of_mem _ h5,h6,h7⟩
    .rcases List.mem_cons.1 hm with hm|hm
     .cases hm;exact⟨b,hb⟩
     .exact h4 c i hm
   .cases e
  .cases e
def Zkz(h:List (Nat×B)):List (Nat×Nat)->List (Nat×B) | []=>h | (_,i) :: l=>hdel (Zkz h l) i
theorem ZoE(h:List (Nat×B)):∀(l:List (Nat×Nat))(t:Nat)(b:B),hget (Zkz h l) t=some b->hget h t=some b/\∀c,(c,t) ∉ l
 | [],t,b,e=>⟨e,fun c hm=>by cases hm⟩
 | (c0,i) :: l,t,b,e=>by
  simp only[Zkz,Zlk]at e
  split at e
  .cases e
  .rename_i hne
   obtain⟨h1,h2⟩:=ZoE h l t b e
   refine⟨h1,fun c hm=>?_⟩
   rcases List.mem_cons.1 hm with hm|hm
   .cases hm;exact hne rfl
   .exact h2 c hm
def ZnW:List (Nat×B)->List (Nat×B)->List (Nat×B) | [],h=>h | (d,b) :: r,h=>hins (ZnW r h) d b
theorem ZlV(k:List (Nat×B))(t:Nat)(b:B):∀(h:List (Nat×B)),hget (ZnW h k) t=some b->hget h t=some b\/hget k t=some b
 | [],e=>.inr e
 | (d,c) :: r,e=>by
  simp only[ZnW,Zfb]at e
  rw[Zbk]
  split at e
  .rename_i h1;rw[if_pos h1];exact .inl e
  .rename_i h1;rw[if_neg h1];exact ZlV k t b r e
theorem RepV.others{S:Nat->Prop}{w:World}{v:V}{x:Value}:∀{l:List Nat}{m m':Mp},RepV S w m v x->(∀i∈l,v.says i=false)->(∀k,k ∉ l->m' k=m k)->m'.L=m.L->RepV S w m' v x
 | [],m,m',h,_,hm,hL=>by
  have:m'=m:=Mp.ext' (fun k=>hm k (by simp)) hL
  rw[this];exact h
 |i :: l,m,m',h,hs,hm,hL=>
  RepV.others (m:=upd m i (m' i)) (h.other _ i (Zlf m i _) rfl (hs i List.mem_cons_self)) (fun k hk=>hs k (List.mem_cons_of_mem _ hk)) (fun k hk=>by
   by_cases e:k=i
   .rw[e,ZfL]
   .rw[Zlf _ _ _ _ e];exact hm k (by simp[e,hk])) hL
theorem RepB.others{S:Nat->Prop}{w:World}{v:B}{x:Value}:∀{l:List Nat}{m m':Mp},RepB S w m x v->(∀i∈l,v.says i=false)->(∀k,k ∉ l->m' k=m k)->m'.L=m.L->RepB S w m' x v
 | [],m,m',h,_,hm,hL=>by
  have:m'=m:=Mp.ext' (fun k=>hm k (by simp)) hL
  rw[this];exact h
 |i :: l,m,m',h,hs,hm,hL=>
  RepB.others (m:=upd m i (m' i)) (h.other (Zlf m i _) rfl (hs i List.mem_cons_self)) (fun k hk=>hs k (List.mem_cons_of_mem _ hk)) (fun k hk=>by
   by_cases e:k=i
   .rw[e,ZfL]
   .rw[Zlf _ _ _ _ e];exact hm k (by simp[e,hk])) hL
structure HA where
 lend:List (Nat×Nat)
 new:List (Nat×Nat)
 h1:List (Nat×B)
 res:V
def gOut(ha:HA)(j:Nat):Option Nat:=match Zpb ha.lend j with
 |some i=>some i
 |none=>Zpb ha.new j
def okHA(N:Nat)(st:St)(ha:HA):Bool:=match biB ha.lend,biB ha.new,ha.lend.all (fun p=>Nat.ble Zpq p.1),ha.new.all (fun p=>ZdC N p.2 st)with
 |true,true,true,true=>true
 |_,_,_,_=>false
def ZjZ(P:Program)(st:St)(c:Callee)(an:Option Ans):Option (FuncId×List C×List C×List Prop):=match c with
 | .value f=>match ZjS st f with
  |some (g,a,b)=>some (g,a,b,[])
  |none=>none
 | .invoke r name=>match evo st r,an with
  | .one (.ifc t c),some (.id g)=>some (g,[c],[],[ZQt P t name g])
  |_,_=>none
 | .builtin _=>none
def hrep:List (Nat×B)->Nat->B->List (Nat×B)
 | [],_,_=>[]
 | (k,v) :: r,d,b=>match Nat.beq k d with
  |true=>(d,b) :: r
  |false=>(k,v) :: hrep r d b
theorem Zrw(d:Nat)(b:B)(t:Nat):∀(h:List (Nat×B)),hget (hrep h d b) t=if d=t then(hget h t).map (fun _=>b)else hget h t
 | []=>by simp[hrep,hget]
 | (k,v) :: r=>by
  simp only[hrep]
  split
  .rename_i e
   have e:=Nat.eq_of_beq_eq_true e
   subst e
   simp only[Zbk]
   split<;>rfl
  .rename_i e
   have e:=Nat.ne_of_beq_eq_false e
   simp only[Zbk,Zrw d b t r]
   by_cases h1:k=t
   .rw[if_pos h1,if_pos h1,if_neg (by omega)]
   .rw[if_neg h1,if_neg h1]
def Zvq:List (Nat×B)->List (Nat×B)->List (Nat×B) | [],h=>h | (d,b) :: r,h=>hrep (Zvq r h) d b
def Ztm:List (Nat×B)->List (Nat×Nat)->Bool
 | [],[]=>true
 | (d,_) :: r,(_,i) :: l=>match Nat.beq d i with
  |true=>Ztm r l
  |false=>false
 |_,_=>false
def ZzM(hp:List (Nat×B))(lend:List (Nat×Nat))(h:List (Nat×B)):List (Nat×B):=match Ztm hp lend with
 |true=>Zvq hp h
 |false=>ZnW hp (Zkz h lend)
theorem ZnX{X Y:List (Nat×B)}{t:Nat}(e:hget X t=hget Y t):∀r:List (Nat×B),hget (ZnW r X) t=hget (ZnW r Y) t
 | []=>e
 | (d,b) :: r=>by simp only[ZnW,Zfb,ZnX e r]
theorem ZtX{h:List (Nat×B)}{t:Nat}{b:B}:∀{hp:List (Nat×B)}{l:List (Nat×Nat)},Ztm hp l=true->hget (Zvq hp h) t=some b->hget (ZnW hp (Zkz h l)) t=some b
 | [],[],_,e=>e
 | [],_ :: _,hs,_=>by cases hs
 |_ :: _,[],hs,_=>by cases hs
 | (d,b0) :: r,(c,i) :: l,hs,e=>by
  simp only[Ztm]at hs
  split at hs
  rotate_left
  .cases hs
  rename_i hd
  obtain rfl:=Nat.eq_of_beq_eq_true hd
  simp only[Zvq,Zrw]at e
  simp only[ZnW,Zkz,Zfb]
  by_cases h1:d=t
  .rw[if_pos h1]at e ⊢
   cases hq:hget (Zvq r h) t with
   |none=>rw[hq]at e;cases e
   |some b1=>rw[hq]at e;exact e
  .rw[if_neg h1]at e ⊢
   rw[ZnX (Y:=Zkz h l) (by rw[Zlk,if_neg h1])]
   exact ZtX hs e
theorem ZDQ{hp h:List (Nat×B)}{l:List (Nat×Nat)}{t:Nat}{b:B}(e:hget (ZzM hp l h) t=some b):hget (ZnW hp (Zkz h l)) t=some b:=by
 unfold ZzM at e;split at e
 .rename_i hs;exact ZtX hs e
 .exact e
theorem Sim.less{N:Nat}{F:Keep}{S:Nat->Prop}{m:Mp}{e:List (Nat×V)}{h h':List (Nat×B)}{a:Act}{w:World}(hs:Sim N F S m ⟨e,h⟩ a w)(hl:∀id b,hget h' id=some b->hget h id=some b):Sim N F S m ⟨e,h'⟩ a w:=
 ⟨hs.size,hs.env,hs.far,fun id b hb=>hs.heap id b (hl id b hb),fun id b hb=>hs.own id b (hl id b hb),fun i j b b' hne h1 h2=>hs.inj i j b b' hne (hl i b h1) (hl j b' h2),hs.dom,hs.defers,hs.base_le,hs.pin,hs.len⟩
def ZgJ(P:Program)(N:Nat)(st:St)(c:Callee)(args:List Operand)(ha:HA)(an:Option Ans):Option (V×List Prop×St):=match ZjZ P st c an with
 |some (g,a,b,om)=>match okHA N st ha,hIn (bwd ha.lend) st.heap ha.lend,ZIS (bwd ha.lend) (ZbS st args a b),Zqn (gOut ha) ha.h1,renV (gOut ha) ha.res with
  |true,some h0,some vs,some hp,some r=>some (r,Zix P g h0 vs ha.h1 ha.res :: om,⟨st.env,ZzM hp ha.lend st.heap⟩)
  |_,_,_,_,_=>none
 |none=>none
theorem Sim.lent{N:Nat}{F:Keep}{S:Nat->Prop}{m:Mp}{st:St}{a:Act}{w:World}(hs:Sim N F S m st a w){ha:HA}(ar:okHA N st ha=true){h0:List (Nat×B)}(hi:hIn (bwd ha.lend) st.heap ha.lend=some h0){hp:List (Nat×B)}(hr:Zqn (gOut ha) ha.h1=some hp) :
  ∃(no:Nat->Prop)(m0:Mp),(∀k,no k->k<w.heap.size)/\(∀k,F.no k->no k)/\((∀b,S b->no b)/\∀id b,hget (Zkz st.heap ha.lend) id=some b->∀k,blk (m id)=some k->no k)/\Rn (bwd ha.lend) m m0/\ZuK no S m0 h0 w /\
   ∀(w':World)(S':Nat->Prop)(m':Mp),Goes no S S' w w'->(∀b,S' b->b<w'.heap.size)->ZuK no S' m' ha.h1 w'->Pins m' m0 ->
    ∃dX,Sim N F S' dX ⟨st.env,ZnW hp (Zkz st.heap ha.lend)⟩ a w'/\Rn (gOut ha) m' dX:=by
 unfold okHA at ar;split at ar;rotate_left
 .cases ar
 rename_i b1 b2 b3 b4;have hbi:=@ZCj _ b1;have iy:=@ZCj _ b2;have kp:∀c i,(c,i)∈ha.lend->Zpq<=c:=fun c i hm=>Nat.le_of_ble_eq_true (List.all_eq_true.1 b3 _ hm);have jr:∀c i,(c,i)∈ha.new->ZdC N i st=true:=fun c i hm=>List.all_eq_true.1 b4 _ hm;obtain⟨i1,i2⟩:=ZJV hi
 let no:Nat->Prop:=fun k=>k<w.heap.size/\∀c i,(c,i)∈ha.lend->blk (m i)≠some k
 let m0:Mp:=⟨fun j=>match Zpb ha.lend j with
  |some i=>m i
  |none=>m j,m.L⟩
 have ft:∀c i,Zpb ha.lend c=some i->m0 c=m i:=fun c i h=>by show (match Zpb ha.lend c with|some i=>m i|none=>m c)=m i;rw[h]
 have hF:∀k,F.no k->no k:=fun k hk=>⟨hs.base_le k hk,fun c i hm e=>by
  obtain⟨b,hb⟩:=i2 c i hm;exact(hs.own i b hb k e).2.1 hk⟩
 have iO:Rn (bwd ha.lend) m m0:=⟨fun k k' h=>ft k' k (hbi.2 h),fun _ h=>h⟩;have hS:∀b,S b->no b:=fun b hb=>⟨hs.dom b hb,fun c i hm e=>by
  obtain⟨b0,hb0⟩:=i2 c i hm;exact(hs.own i b0 hb0 b e).1 hb⟩
 have hO:∀id b,hget (Zkz st.heap ha.lend) id=some b->∀k,blk (m id)=some k->no k:=fun id b hb k hk=>by
  obtain⟨q1,q2⟩:=ZoE _ _ _ _ hb;refine⟨(hs.own id b q1 k hk).2.2,fun c i hm e=>?_⟩;obtain⟨b0,hb0⟩:=i2 c i hm;refine hs.inj id i _ _ ?_ q1 hb0 k hk e;rintro rfl;exact q2 c hm
 refine⟨no,m0,fun k hk=>hk.1,hF,⟨hS,hO⟩,iO,⟨fun c b' aN=>?_,fun c b' aN k hk=>?_,fun c c' b b' hne h1 h2 k hk hk2=>?_,fun b hb=>hF b (hs.len.2 b hb)⟩,fun w' S' m' dT kq hrep hpm=>?_⟩
 .obtain⟨i,b,h1,h2,h3⟩:=i1 c b' aN;rw[ft c i (ZpL b1 h1).1];exact ZFs iO (hs.heap i b h2) h3
 .obtain⟨i,b,h1,h2,h3⟩:=i1 c b' aN;rw[ft c i (ZpL b1 h1).1]at hk;obtain⟨h4,h5,h6⟩:=hs.own i b h2 k hk;exact⟨h4,fun hn=>hn.2 c i h1 hk,h6⟩
 .obtain⟨i,b,h3,h4,h5⟩:=i1 c b h1;obtain⟨i',b',h6,h7,h8⟩:=i1 c' b' h2;rw[ft c i (ZpL b1 h3).1]at hk;rw[ft c' i' (ZpL b1 h6).1]at hk2;refine hs.inj i i' _ _ ?_ h4 h7 k hk hk2;rintro rfl;have e1:=(ZpL b1 h3).2;rw[(ZpL b1 h6).2]at e1;exact hne (Option.some.inj e1).symm
 .let dX:Mp:=⟨fun i=>match bwd ha.new i with
   |some j=>m' j
   |none=>m i,m.L⟩
  have cT:∀i,bwd ha.new i≠none->ZdC N i st=true:=fun i h=>by
   cases e:bwd ha.new i with
   |none=>exact absurd e h
   |some j=>exact jr j i (Zuw e)
  have db:∀i b,hget st.heap i=some b->bwd ha.new i=none:=fun i b hb=>by
   cases e:bwd ha.new i with
   |none=>rfl
   |some j=>
    have:=(hs.quieted (jr j i (Zuw e))).2.1;rw[this]at hb;cases hb
  have hm2:∀i,bwd ha.new i=none->dX i=m i:=fun i h=>by show (match bwd ha.new i with|some j=>m' j|none=>m i)=m i;rw[h]
  have hg:Rn (gOut ha) m' dX:=by
   refine⟨fun k k' h=>?_,fun b hb=>by rw[hpm.L]at hb;exact hb⟩;unfold gOut at h;split at h
   .rename_i i hl;cases h;obtain⟨b,hb⟩:=i2 k k' (Zps hl);rw[hm2 k' (db k' b hb),hpm.pin k (kp k k' (Zps hl)),ft k k' hl]
   .show (match bwd ha.new k' with|some j=>m' j|none=>m k')=m' k
    rw[iy.1 h]
  have cQ:Zgs S w w':=fun b hb=>dT.below.block b ⟨hs.dom b hb,fun c i hm e=>by
   obtain⟨b0,hb0⟩:=i2 c i hm;exact(hs.own i b0 hb0 b e).1 hb⟩
  have dL:Zgs m.L w w':=fun b hb=>dT.below.block b (hF b (hs.len.2 b hb))
  let aZ:=ha.new.map fun p=>p.2
  have bX:∀k,k ∉ aZ->dX k=m k:=fun k hk=>hm2 k (by
   cases e:bwd ha.new k with
   |none=>rfl
   |some j=>exact absurd (List.mem_map.2 ⟨_,Zuw e,rfl⟩) hk)
  have hqn:∀i,i∈aZ->ZdC N i st=true:=fun i hi=>by
   obtain⟨p,h1,rfl⟩:=List.mem_map.1 hi;exact jr p.1 p.2 h1
  -- a block that is not lent
  have cl:∀id b,hget (Zkz st.heap ha.lend) id=some b->hget st.heap id=some b/\dX id=m id/\∀k,blk (m id)=some k->no k/\¬S k/\¬F.no k:=by
   intro id b hb;obtain⟨h1,h2⟩:=ZoE _ _ _ _ hb;refine⟨h1,hm2 id (db id b h1),fun k hk=>?_⟩;obtain⟨h3,h4,h5⟩:=hs.own id b h1 k hk;refine⟨⟨h5,fun c i hm e=>?_⟩,h3,h4⟩;obtain⟨b0,hb0⟩:=i2 c i hm;refine hs.inj i id _ _ ?_ hb0 h1 k e hk;rintro rfl;exact h2 c hm
  have bI:∀id b,hget hp id=some b->∃j b0,gOut ha j=some id/\dX id=m' j/\hget ha.h1 j=some b0/\renB (gOut ha) b0=some b:=by
   intro id b hb;obtain⟨j,b0,h1,h2,h3⟩:=Zzw hr id b hb;exact⟨j,b0,h1,hg.at_ j id h1,h2,h3⟩
  refine⟨dX,⟨hs.size,fun t=>?_,hs.far,fun id b hb=>?_,fun id b hb k hk=>?_,fun i1' i2' c1 c2 hne h1 h2 k b9 hk2=>?_,kq,hs.defers,fun k hk=>Nat.lt_of_lt_of_le (hs.base_le k hk) dT.below.size,fun id eD=>?_,hs.len⟩,hg⟩
  .exact((hs.env t).keepL cQ dT.sub dL).others (l:=aZ) (fun i hi=>(hs.quieted (hqn i hi)).1 t) bX rfl
  .rcases ZlV _ _ _ _ hb with hb|hb
   .obtain⟨j,b0,h1,h2,h3,h4⟩:=bI id b hb;rw[h2];exact ZFs hg (hrep.rep j b0 h3) h4
   .obtain⟨h1,h2,h3⟩:=cl id b hb;rw[h2];exact((hs.heap id b h1).keepL cQ dT.sub dL fun k hk=>dT.below.block k (h3 k hk).1).others (l:=aZ) (fun i hi=>(hs.quieted (hqn i hi)).2.2 id b h1) bX rfl
  .rcases ZlV _ _ _ _ hb with hb|hb
   .obtain⟨j,b0,h1,h2,h3,h4⟩:=bI id b hb;rw[h2]at hk;obtain⟨h5,h6,h7⟩:=hrep.own j b0 h3 k hk;exact⟨h5,fun hn=>h6 (hF k hn),h7⟩
   .obtain⟨h1,h2,h3⟩:=cl id b hb;rw[h2]at hk;obtain⟨h4,h5,h6⟩:=h3 k hk;refine⟨fun hS=>?_,h6,Nat.lt_of_lt_of_le h4.1 dT.below.size⟩;rcases dT.sup k hS with h|h
    .exact h5 h
    .exact h h4
  .rcases ZlV _ _ _ _ h1 with h1|h1<;>rcases ZlV _ _ _ _ h2 with h2|h2
   .obtain⟨j1,jf,e1,e2,e3,e4⟩:=bI _ _ h1;obtain⟨j2,b2',e5,e6,e7,e8⟩:=bI _ _ h2;rw[e2]at b9;rw[e6]at hk2;refine hrep.inj j1 j2 _ _ ?_ e3 e7 k b9 hk2;rintro rfl;rw[e1]at e5;exact hne (Option.some.inj e5)
   .obtain⟨j1,jf,e1,e2,e3,e4⟩:=bI _ _ h1;obtain⟨e5,e6,e7⟩:=cl _ _ h2;rw[e2]at b9;rw[e6]at hk2;exact(hrep.own j1 _ e3 k b9).2.1 (e7 k hk2).1
   .obtain⟨j1,jf,e1,e2,e3,e4⟩:=bI _ _ h2;obtain⟨e5,e6,e7⟩:=cl _ _ h1;rw[e2]at hk2;rw[e6]at b9;exact(hrep.own j1 _ e3 k hk2).2.1 (e7 k b9).1
   .obtain⟨e1,e2,e3⟩:=cl _ _ h1;obtain⟨e5,e6,e7⟩:=cl _ _ h2;rw[e2]at b9;rw[e6]at hk2;exact hs.inj i1' i2' _ _ hne e1 e5 k b9 hk2
  .rw[hm2 id (by
    cases e:bwd ha.new id with
    |none=>rfl
    |some j=>have:=Ztw (jr j id (Zuw e));omega)]
   exact hs.pin id eD
theorem ZHS{P:Program}{N:Nat}{F:Keep}{st:St}{a:Act}{w:World}{S:Nat->Prop}{m:Mp}(hs:Sim N F S m st a w)
  {o:Oper} {f:Operand} {args:Array Operand} {a9:Array TypeId} (ho:o.op=.call { callee:=.value f,args:=args,argTypes:=a9 }) {g:FuncId} {ca cb:List C} (hc:ZjS st f=some (g,ca,cb)) :
  ∃vs:Array Value,ZuI S w m (ZbS st args.toList ca cb) vs.toList/\(FnOk P g->(execOp a.eval o).run P w=.ok (.enter g vs) w):=by
 -- the call's values
 have dQ:∃xs ys:Array Value,(resolve a.eval { callee:=.value f,args:=args,argTypes:=a9 } o.type).run P w=.ok { target:=.fn (.func g) ys,args:=xs++args.map a.eval } w /\
   ((xs++args.map a.eval++ys).toList.length=(ZbS st args.toList ca cb).length)/\∀(j:Nat)(v:V),(ZbS st args.toList ca cb)[j]?=some v->∃x,(xs++args.map a.eval++ys).toList[j]?=some x/\RepV S w m v x:=by
  have hf:=hs.evo f;unfold ZjS at hc;have hmid:∀(j:Nat)(v:V),(args.toList.map (evo st))[j]?=some v->∃x,(args.map a.eval).toList[j]?=some x/\RepV S w m v x:=by
   intro j v hj;simp only[List.getElem?_map,Option.map_eq_some_iff,Array.getElem?_toList]at hj;obtain⟨y,h1,rfl⟩:=hj;exact⟨a.eval y,by simp[h1],hs.evo y⟩
  split at hc
  .rename_i g' xa xb hv;split at hc
   .rename_i h1 h2;cases hc;obtain rfl:xa = #[]:=Array.eq_empty_of_size_eq_zero h1;obtain rfl:xb = #[]:=Array.eq_empty_of_size_eq_zero h2;rw[hv]at hf;have fT:a.eval f=.func (.func g) #[] #[]:=by
     generalize a.eval f=q at hf;cases hf;rfl
    refine⟨#[],#[],by simp[resolve,fT,Deferred.ofValue],by simp[ZbS],?_⟩;simpa[ZbS]using hmid
   .cases hc
  .rename_i g' na nb fa fb hv;cases hc;rw[hv]at hf;obtain⟨xs,ys,fT,e1,e2,h1,h2⟩ : ∃xs ys:Array Value,a.eval f=.func (.func g) xs ys/\xs.size=na/\ys.size=nb/\(∀i,i<xs.size->RepC S w m (fa i) (xs.getD i undef))/\∀i,i<ys.size->RepC S w m (fb i) (ys.getD i undef):=by
    generalize hq:a.eval f=q at hf;cases hf with
    |clo xs ys ha hb=>exact⟨xs,ys,rfl,rfl,rfl,ha,hb⟩
   subst e1;subst e2;refine⟨xs,ys,by simp[resolve,fT,Deferred.ofValue],by simp[ZbS,Zer],?_⟩;intro j v hj;unfold ZbS at hj;by_cases hj1:j<xs.size
   .rw[List.append_assoc,List.getElem?_append_left (by simp[Zer];exact hj1)]at hj;simp only[List.getElem?_map,Option.map_eq_some_iff]at hj;obtain⟨c,h3,rfl⟩:=hj;obtain⟨h4,rfl⟩:=Zhv h3;refine⟨xs.getD j undef,?_,(h1 j hj1).toV⟩;simp[Array.getD_eq_getD_getElem?,List.getElem?_append_left,hj1,Array.getElem?_append,show j<xs.size+args.size by omega]
   .by_cases hj2:j<xs.size+args.size
    .rw[List.append_assoc,List.getElem?_append_right (by simp[Zer];omega),List.getElem?_append_left (by simp[Zer];omega)]at hj;obtain⟨x,h3,h4⟩:=hmid _ v hj;refine⟨x,?_,h4⟩;simp only[List.length_map,Zhu]at h3;simp only[Array.toList_append,List.append_assoc];rw[List.getElem?_append_right (by simp;omega),List.getElem?_append_left (by simp;omega),<-h3];simp
    .rw[List.getElem?_append_right (by simp[Zer];omega)]at hj;simp only[List.getElem?_map,Option.map_eq_some_iff,List.length_append,List.length_map,Zhu,Array.length_toList]at hj;obtain⟨c,h3,rfl⟩:=hj;obtain⟨h4,rfl⟩:=Zhv h3;refine⟨ys.getD (j-(xs.size+args.size)) undef,?_,(h2 _ h4).toV⟩;simp only[Array.toList_append];rw[List.getElem?_append_right (by simp;omega)];simp[Array.getD_eq_getD_getElem?,h4]
  .cases hc
 obtain⟨xs,ys,de,hlen,hrep⟩:=dQ;have cV:FnOk P g->(execOp a.eval o).run P w=.ok (.enter g (xs++args.map a.eval++ys)) w:=by
  intro iv;unfold execOp;simp only[ho,Sem.run_bind,de,Result.andThen_ok,invoke,Zpk iv]
 exact⟨_,⟨hlen,hrep⟩,cV⟩
theorem ZoX{P:Program}{N:Nat}{F:Keep}{st:St}{a:Act}{w:World}{S:Nat->Prop}{m:Mp}(hs:Sim N F S m st a w)
  {o:Oper} {c:Callee} {args:Array Operand} {a9:Array TypeId} (ho:o.op=.call { callee:=c,args:=args,argTypes:=a9 }) {an:Option Ans} {g:FuncId} {ca cb:List C} {om:List Prop} (hc:ZjZ P st c an=some (g,ca,cb,om)) (hom:∀q∈om,q) :
  ∃vs:Array Value,ZuI S w m (ZbS st args.toList ca cb) vs.toList/\(FnOk P g->(execOp a.eval o).run P w=.ok (.enter g vs) w):=by
 cases c with
 |builtin b=>cases hc
 |value f=>
  simp only[ZjZ]at hc;split at hc
  .rename_i g' a' b' h1;cases hc;exact ZHS hs ho h1
  .cases hc
 |invoke r name=>
  simp only[ZjZ]at hc;split at hc
  .rename_i t c' g' hv;cases hc;have hr:=hs.evo r;rw[hv]at hr;obtain⟨x,gz,eh⟩ : ∃x,a.eval r=.iface t x/\RepC S w m c' x:=by
    generalize hq:a.eval r=q at hr;cases hr with
    |ifc h=>exact⟨_,rfl,h⟩
   refine⟨#[x]++args.map a.eval,⟨by simp[ZbS],fun j v hj=>?_⟩,fun iv=>?_⟩
   .unfold ZbS at hj;simp only[List.map_cons,List.map_nil,List.append_nil]at hj;cases j with
    |zero=>
     simp at hj;subst hj;exact⟨x,by simp,eh.toV⟩
    |succ j=>
     simp only[List.singleton_append,List.getElem?_cons_succ,List.getElem?_map,Option.map_eq_some_iff,Array.getElem?_toList]at hj;obtain⟨y,h1,rfl⟩:=hj;exact⟨a.eval y,by simp[h1],hs.evo y⟩
   .have hm:=hom _ (List.mem_singleton.2 rfl) x w;unfold execOp;simp only[ho,Sem.run_bind,resolve,Sem.run_pure,Result.andThen_ok,invoke];have e0:(#[a.eval r]++args.map a.eval)[0]?=some (.iface t x):=by rw[gz,Array.getElem?_append_left (by simp)];rfl
    have e1:(#[a.eval r]++args.map a.eval).extract 1 (#[a.eval r]++args.map a.eval).size=args.map a.eval:=by
     apply Array.ext';simp[List.take_of_length_le]
    rw[e0,e1];simp[callMethod,Sem.run_bind,hm,Zpk iv]
  .cases hc
theorem ZHG{P:Program}{N:Nat}{S0:Nat->Prop}{w0:ZeC}{st st':St}{a:Act}{w:World}{S:Nat->Prop}{m:Mp}(hs:Sim N w0.F S m st a w)(hg:Goes w0.F.no S0 S w0.w w)
  {o:Oper} {c:Callee} {args:Array Operand} {a9:Array TypeId} (ho:o.op=.call { callee:=c,args:=args,argTypes:=a9 }) {ha:HA} {an:Option Ans} {v:V} {obl:List Prop} (h:ZgJ P N st c args.toList ha an=some (v,obl,st')) (cE:∀q∈obl,q) {K:Act->World->Prop} {Q:Exit->Act->World->Prop}
  (hk:∀x w' S' m',Sim N w0.F S' m' st' a w'->Goes w0.F.no S0 S' w0.w w'->RepV S' w' m' v x->K (a.put o.dst x) w'):o.wp P a w K Q:=by
 unfold ZgJ at h;split at h;rotate_left
 .cases h
 rename_i g ca cb om hc;split at h;rotate_left
 .cases h
 rename_i h0 vs hp r ar hin df hr de;cases h;have du:Zix P g h0 vs ha.h1 ha.res:=cE _ (by simp);obtain⟨xs,hra,cV⟩:=ZoX (P:=P) hs ho hc fun q hq=>cE q (by simp[hq]);obtain⟨no,m0,bt,hF,_,ft,hrep,dE⟩:=hs.lent ar hin hr;have dY:ZuI S w m0 vs xs.toList:=by
  obtain⟨e1,e2⟩:=Zvr df;refine⟨by rw[e1];exact hra.1,fun j v' cD=>?_⟩;obtain⟨v0,h3,h4⟩:=e2 j v' cD;obtain⟨x,h5,h6⟩:=hra.2 j v0 h3;exact⟨x,h5,ZsM ft h6 h4⟩
 unfold Oper.wp;rw[cV du.1];have:=du.2 no S m0 w _ hs.dom bt hrep dY;rw[Array.toArray_toList]at this;refine Calls.mono this ?_;rintro e w' ⟨x,S',m',rfl,h1,h2,h3,h4,h5⟩;obtain⟨dX,cn,iP⟩:=dE w' S' m' h1 h2 h3 h5;exact hk x w' S' dX (cn.less fun _ _ hb=>ZDQ hb) (hg.step (h1.below.mono hF) h1.sub fun b hb=>(h1.sup b hb).imp id fun h hF'=>h (hF b hF')) (ZsM iP h4 de)
def ZqH:List (Nat×B)->Option (List Prop)
 | []=>some []
 | (_,.rows _ sz n c) :: l=>match ZqH l with
  |some ps=>some ((∀i j,i<n->j<sz->∃x,c i j=.lit x) :: ps)
  |none=>none
 |_=>none
def borK(st:St):List C->Option (List C)
 | []=>some []
 |c :: l=>match borC st c,borK st l with
  |some c',some l'=>some (c' :: l')
  |_,_=>none
def borX(st:St)(v:V):Option V:=match v with
 | .one (.clo fn na nb a b)=>match borK st (Zer na a),borK st (Zer nb b)with
  |some la,some lb=>some (.one (.clo fn na nb (fun i=>la.getD i .junk) fun i=>lb.getD i .junk))
  |_,_=>none
 |v=>borV st v
def borW(st:St)(g:Nat->Option Nat):List V->Option (List V)
 | []=>some []
 |v :: l=>match (match v with
   | .one (.osl id n)=>match g id with
    |some k=>some (V.one (.osl k n))
    |none=>borX st v
   |v=>borX st v),borW st g l with
  |some v',some l'=>some (v' :: l')
  |_,_=>none
theorem ZrP{S S':Nat->Prop}{w:World}{m:Mp}{st:St}(hS:∀b,S b->S' b)(hO:∀id b,hget st.heap id=some b->RepB S w m (m id) b/\∀k,blk (m id)=some k->S' k){c c':C}{x:Value}(hc:RepC S w m c x)(h:borC st c=some c'):RepC S' w ZcK c' x:=by
 unfold borC at h;split at h
 .rename_i id n;split at h
  .rename_i e sz len cc hl;cases h;cases hc with
   |osl hm h00=>
    obtain⟨hB,hb⟩:=hO id _ hl;rw[hm]at hB;obtain⟨rfl,h2⟩:=RepC.of_rows (m':=ZcK) hB ⟨_,_,rfl⟩ hS fun k hk=>hb k (by rw[hm];exact hk);exact h2
  .cases h
 .rename_i id off;split at h
  .rename_i l hl;split at h
   .rename_i hp;cases h;cases hc with
    |ptr hm=>
     obtain⟨hB,hb⟩:=hO id _ hl;rw[hm]at hB;exact RepC.of_box hB hp hS (hb _ (by rw[hm];rfl))
   .cases h
  .cases h
 .split at h
  .rename_i hp;cases h;exact(hc.anyM ZcK hp).keep (fun _ _=>rfl) hS
  .cases h
theorem Zux{st:St}:∀{l l':List C},borK st l=some l'->l'.length=l.length/\∀(j:Nat) c,l[j]?=some c->borC st c=some (l'.getD j .junk)
 | [],l',h=>by cases h;exact⟨rfl,fun j c hc=>by simp at hc⟩
 |c :: l,l',h=>by
  simp only[borK]at h
  split at h
  .rename_i c1 l1 h1 h2
   cases h
   obtain⟨e1,e2⟩:=Zux h2
   refine⟨by simp[e1],fun j c2 hj=>?_⟩
   cases j with
   |zero=>simp at hj;subst hj;simpa using h1
   |succ j=>simpa using e2 j c2 (by simpa using hj)
  .cases h
theorem ZCe{S S':Nat->Prop}{w:World}{m:Mp}{st:St}(hS:∀b,S b->S' b)(hO:∀id b,hget st.heap id=some b->RepB S w m (m id) b/\∀k,blk (m id)=some k->S' k):∀{l l':List C}{xs:List Value},RepL S w m l xs->borL st l=some l'->RepL S' w ZcK l' xs
 | [],l',xs,hl,h=>by cases h;exact⟨hl.1,fun j c h=>by simp at h,hl.2.2⟩
 |c :: l,l',xs,hl,h=>by
  simp only[borL]at h
  split at h
  .rename_i c1 l1 h1 h2
   cases h
   obtain⟨e1,e2,e3⟩:=hl
   cases xs with
   |nil=>simp at e1
   |cons x xs=>
    have ht:=ZCe (xs:=xs) hS hO ⟨by simpa using e1,fun j c hj=>by have:=e2 (j+1) c (by simpa using hj);simpa using this,fun y hy=>e3 y (by simp[hy])⟩ h2
    obtain⟨x',h3,h4⟩:=e2 0 c rfl
    cases h3
    refine⟨by simp[ht.1],fun j c hj=>?_,e3⟩
    cases j with
    |zero=>simp only[List.getElem?_cons_zero,Option.some.injEq]at hj;subst hj;exact⟨x,rfl,ZrP hS hO h4 h1⟩
    |succ j=>simpa using ht.2.1 j c (by simpa using hj)
  .cases h
theorem ZCc{S S':Nat->Prop}{w:World}{m:Mp}{st:St}(hS:∀b,S b->S' b)(hO:∀id b,hget st.heap id=some b->RepB S w m (m id) b/\∀k,blk (m id)=some k->S' k){v v':V}{x:Value}(hv:RepV S w m v x)(h:borX st v=some v'):RepV S' w ZcK v' x:=by
 unfold borX at h;split at h
 .rename_i fn na nb a b;split at h
  .rename_i la lb h1 h2;cases h;obtain⟨e1,e2⟩:=Zux h1;obtain⟨e3,e4⟩:=Zux h2;cases hv with
   |clo xs ys ha hb=>
    refine RepC.clo xs ys (fun i hi=>?_) (fun i hi=>?_)
    .exact ZrP hS hO (ha i hi) (e2 i _ (by simp[Zer,hi]))
    .exact ZrP hS hO (hb i hi) (e4 i _ (by simp[Zer,hi]))
  .cases h
 .unfold borV at h;split at h
  .rename_i hp;cases h;exact(hv.anyM ZcK hp).keep (fun _ _=>rfl) hS
  .split at h
   .rename_i c hx;split at h
    .rename_i c' hc;cases h;exact ZrP hS hO hv hc
    .cases h
   .rename_i l hx;split at h
    .rename_i l' hl;cases h;obtain⟨xs,rfl,q⟩:=hv;exact⟨xs,rfl,ZCe hS hO q hl⟩
    .cases h
   .cases h
theorem ZGp{S S':Nat->Prop}{w:World}{m m0:Mp}{st:St}{g:Nat->Option Nat}(hg:Rn g m m0)(hS:∀b,S b->S' b)(hO:∀id b,hget st.heap id=some b->RepB S w m (m id) b/\∀k,blk (m id)=some k->S' k) :
  ∀{vs dO:List V}{xs:List Value},ZuI S w m vs xs->borW st g vs=some dO->ZuI S' w m0 dO xs
 | [],dO,xs,hl,h=>by cases h;exact⟨hl.1,fun j v h=>by simp at h⟩
 |v :: vs,dO,xs,hl,h=>by
  simp only[borW]at h
  split at h
  .rename_i v1 l1 h1 h2
   cases h
   obtain⟨e1,e2⟩:=hl
   cases xs with
   |nil=>simp at e1
   |cons x xs=>
    have ht:=ZGp (xs:=xs) hg hS hO ⟨by simpa using e1,fun j v hj=>by have:=e2 (j+1) v (by simpa using hj);simpa using this⟩ h2
    obtain⟨x',h3,h4⟩:=e2 0 v rfl
    cases h3
    have h5:RepV S' w m0 v1 x:=by
     split at h1
     .rename_i id n;split at h1
      .rename_i k hk;cases h1;cases h4 with
       |osl hm h0 hle=>exact RepC.osl (by rw[hg.at_ _ _ hk];exact hm) h0 hle
      .exact(ZCc hS hO h4 h1).keepM
     .exact(ZCc hS hO h4 h1).keepM
    refine⟨by simp[ht.1],fun j c hj=>?_⟩;cases j with
    |zero=>simp only[List.getElem?_cons_zero,Option.some.injEq]at hj;subst hj;exact⟨x,rfl,h5⟩
    |succ j=>simpa using ht.2 j c (by simpa using hj)
  .cases h
def Zlb(P:Program)(N:Nat)(st:St)(c:Callee)(args:List Operand)(ha:HA)(an:Option Ans):Option (V×List Prop×St):=match ha.lend,ha.res with
 | [],.one (.osl k n)=>match ZjZ P st c an with
  |some (g,a,b,om)=>match okHA N st ha,borA st (ZbS st args a b),Zqn (gOut ha) ha.h1,renV (gOut ha) ha.res,ZqH ha.h1 with
   |true,some vs,some hp,some r,some ps=>some (r,Zix P g [] vs ha.h1 ha.res :: (ps++om),⟨st.env,ZnW hp (Zkz st.heap ha.lend)⟩)
   |_,_,_,_,_=>none
  |none=>none
 |_,_=>none
def ZrE(P:Program)(N:Nat)(st:St)(c:Callee)(args:List Operand)(ha:HA)(an:Option Ans):Option (V×List Prop×St):=match ha.res with
 | .one (.osl k n)=>match ZjZ P st c an with
  |some (g,a,b,om)=>match okHA N st ha,hIn (bwd ha.lend) st.heap ha.lend,borW ⟨st.env,Zkz st.heap ha.lend⟩ (bwd ha.lend) (ZbS st args a b),Zqn (gOut ha) ha.h1,renV (gOut ha) ha.res,ZqH ha.h1 with
   |true,some h0,some vs,some hp,some r,some ps=>some (r,Zix P g h0 vs ha.h1 ha.res :: (ps++om),⟨st.env,ZnW hp (Zkz st.heap ha.lend)⟩)
   |_,_,_,_,_,_=>none
  |none=>none
 |_=>none
theorem ZqG:∀{h:List (Nat×B)}{ps:List Prop},ZqH h=some ps->∀id b,hget h id=some b->∃e sz n c,b=.rows e sz n c/\(∀i j,i<n->j<sz->∃x,c i j=C.lit x)∈ps
 | [],ps,hl,id,b,hb=>by cases hb
 | (k,b0) :: l,ps,hl,id,b,hb=>by
  cases b0<;>simp only[ZqH]at hl<;>try (cases hl;done)
  rename_i e sz n c
  split at hl
  .rename_i ps' bL
   cases hl
   rw[Zbk]at hb
   split at hb
   .cases hb
    exact⟨e,sz,n,c,rfl,List.mem_cons_self⟩
   .obtain⟨e',sz',n',c',h1,h2⟩:=ZqG bL id b hb
    exact⟨e',sz',n',c',h1,List.mem_cons_of_mem _ h2⟩
  .cases hl
theorem ZEo{P:Program}{N:Nat}{S0:Nat->Prop}{w0:ZeC}{st st':St}{a:Act}{w:World}{S:Nat->Prop}{m:Mp}(hs:Sim N w0.F S m st a w)(hg:Goes w0.F.no S0 S w0.w w)
  {o:Oper} {c:Callee} {args:Array Operand} {a9:Array TypeId} (ho:o.op=.call { callee:=c,args:=args,argTypes:=a9 }) {ha:HA} {an:Option Ans} {v:V} {obl:List Prop} (h:ZrE P N st c args.toList ha an=some (v,obl,st')) (cE:∀q∈obl,q) {K:Act->World->Prop} {Q:Exit->Act->World->Prop}
  (hk:∀x w' S' m',Sim N w0.F S' m' st' a w'->Goes w0.F.no S0 S' w0.w w'->RepV S' w' m' v x->K (a.put o.dst x) w'):o.wp P a w K Q:=by
 unfold ZrE at h;split at h;rotate_left
 .cases h
 rename_i k n fv;split at h;rotate_left
 .cases h
 rename_i g ca cb om hc;split at h;rotate_left
 .cases h
 rename_i h0 vs hp r ps ar hin df hr de bL;cases h;have du:Zix P g h0 vs ha.h1 ha.res:=cE _ (by simp);obtain⟨xs,hra,cV⟩:=ZoX (P:=P) hs ho hc fun q hq=>cE q (by simp[hq]);obtain⟨no,m0,bt,hF,⟨kr,hOn⟩,ft,hrep,dE⟩:=hs.lent ar hin hr;have dY:ZuI no w m0 vs xs.toList:=ZGp ft kr (fun id b hb=>⟨hs.heap id b (ZoE _ _ _ _ hb).1,hOn id b hb⟩) hra df;unfold Oper.wp;rw[cV du.1];have:=du.2 no no m0 w _ bt bt ⟨fun id b hb=>(hrep.rep id b hb).keepL (fun _ _=>rfl) kr (fun _ _=>rfl) fun _ _=>rfl,fun id b hb k hk=>⟨(hrep.own id b hb k hk).2.1,(hrep.own id b hb k hk).2⟩,hrep.inj,hrep.lno⟩ dY;rw[Array.toArray_toList]at this;refine Calls.mono this ?_;rintro e w' ⟨x,S',m',rfl,h1,h2,h3,h4,h5⟩;have gZ:Goes no S S w w':=⟨h1.below,fun _ h=>h,fun _ h=>.inl h⟩;have g0:∀id b,hget ha.h1 id=some b->RepB S w' m' (m' id) b:=fun id b hb=>by
  obtain⟨e,sz,n',c',rfl,dF⟩:=ZqG bL id b hb;obtain⟨ys,q1,q2,q3⟩:=h3.rep id _ hb;refine⟨ys,q1,fun i j hi hj=>?_,q3⟩;obtain⟨y,r1,r2⟩:=q2 i j hi hj;have hq:∀i j,i<n'->j<sz->∃x,c' i j=C.lit x:=cE _ (List.mem_cons_of_mem _ (List.mem_append.2 (.inl dF)));obtain⟨z,hz⟩:=hq i j hi hj;refine⟨y,r1,?_⟩;rw[hz]at r2 ⊢;cases r2;exact .lit
 have bf:∀id b,hget ha.h1 id=some b->∀k,blk (m' id)=some k->¬S k/\¬no k/\k<w'.heap.size:=fun id b hb k hk=>by
  obtain⟨q1,q2,q3⟩:=h3.own id b hb k hk;exact⟨fun hS=>q2 (kr k hS),fun hn=>q2 hn,q3⟩
 obtain⟨dX,cn,iP⟩:=dE w' S m' gZ (fun b hb=>Nat.lt_of_lt_of_le (hs.dom b hb) h1.below.size) ⟨g0,bf,h3.inj,fun b hb=>hrep.lno b (by rw[<-h5.L];exact hb)⟩ h5;have ku:RepV S w' m' ha.res x:=by
  rw[fv]at h4 ⊢;cases h4 with
  |osl hm h0 hle=>exact RepC.osl hm h0 hle
 exact hk x w' S dX cn (hg.step (h1.below.mono fun k hk=>hF k hk) (fun _ h=>h) fun _ h=>.inl h) (ZsM iP ku de)
theorem ZEq{P:Program}{N:Nat}{S0:Nat->Prop}{w0:ZeC}{st st':St}{a:Act}{w:World}{S:Nat->Prop}{m:Mp}(hs:Sim N w0.F S m st a w)(hg:Goes w0.F.no S0 S w0.w w)
  {o:Oper} {c:Callee} {args:Array Operand} {a9:Array TypeId} (ho:o.op=.call { callee:=c,args:=args,argTypes:=a9 }) {ha:HA} {an:Option Ans} {v:V} {obl:List Prop} (h:Zlb P N st c args.toList ha an=some (v,obl,st')) (cE:∀q∈obl,q) {K:Act->World->Prop} {Q:Exit->Act->World->Prop}
  (hk:∀x w' S' m',Sim N w0.F S' m' st' a w'->Goes w0.F.no S0 S' w0.w w'->RepV S' w' m' v x->K (a.put o.dst x) w'):o.wp P a w K Q:=by
 unfold Zlb at h;split at h;rotate_left
 .cases h
 rename_i k n iQ fv;split at h;rotate_left
 .cases h
 rename_i g ca cb om hc;split at h;rotate_left
 .cases h
 rename_i vs hp r ps ar df hr de bL;cases h;have du:Zix P g [] vs ha.h1 ha.res:=cE _ (by simp);obtain⟨xs,hra,cV⟩:=ZoX (P:=P) hs ho hc fun q hq=>cE q (by simp[hq]);have hin:hIn (bwd ha.lend) st.heap ha.lend=some []:=by rw[iQ];rfl
 obtain⟨no,m0,bt,hF,_,ft,hrep,dE⟩:=hs.lent ar hin hr;have dY:ZuI (fun b=>b<w.heap.size) w m0 vs xs.toList:=by
  obtain⟨e1,e2⟩:=ZxT hs hra.1 hra.2 df;exact⟨e1,fun j v hj=>by obtain⟨x,h3,h4⟩:=e2 j v hj;exact⟨x,h3,h4.keepM⟩⟩
 unfold Oper.wp;rw[cV du.1];have:=du.2 (fun k=>k<w.heap.size) (fun b=>b<w.heap.size) m0 w _ (fun _ h=>h) (fun _ h=>h) ⟨fun id b hb=>(by cases hb),fun id b hb=>(by cases hb),fun i j b b' hne hb=>(by cases hb),fun b hb=>bt b (hrep.lno b hb)⟩ dY;rw[Array.toArray_toList]at this;refine Calls.mono this ?_;rintro e w' ⟨x,S',m',rfl,h1,h2,h3,h4,h5⟩;have gZ:Goes no S S w w':=⟨h1.below.mono bt,fun _ h=>h,fun _ h=>.inl h⟩;have g0:∀id b,hget ha.h1 id=some b->RepB S w' m' (m' id) b:=fun id b hb=>by
  obtain⟨e,sz,n',c',rfl,dF⟩:=ZqG bL id b hb;obtain⟨ys,q1,q2,q3⟩:=h3.rep id _ hb;refine⟨ys,q1,fun i j hi hj=>?_,q3⟩;obtain⟨y,r1,r2⟩:=q2 i j hi hj;have hq:∀i j,i<n'->j<sz->∃x,c' i j=C.lit x:=cE _ (List.mem_cons_of_mem _ (List.mem_append.2 (.inl dF)));obtain⟨z,hz⟩:=hq i j hi hj;refine⟨y,r1,?_⟩;rw[hz]at r2 ⊢;cases r2;exact .lit
 have bf:∀id b,hget ha.h1 id=some b->∀k,blk (m' id)=some k->¬S k/\¬no k/\k<w'.heap.size:=fun id b hb k hk=>by
  obtain⟨q1,q2,q3⟩:=h3.own id b hb k hk;exact⟨fun hS=>q2 (hs.dom k hS),fun hn=>q2 (bt k hn),q3⟩
 obtain⟨dX,cn,iP⟩:=dE w' S m' gZ (fun b hb=>Nat.lt_of_lt_of_le (hs.dom b hb) h1.below.size) ⟨g0,bf,h3.inj,fun b hb=>hrep.lno b (by rw[<-h5.L];exact hb)⟩ h5;have ku:RepV S w' m' ha.res x:=by
  rw[fv]at h4 ⊢;cases h4 with
  |osl hm h0 hle=>exact RepC.osl hm h0 hle
 exact hk x w' S dX cn (hg.step (h1.below.mono fun k hk=>hs.base_le k hk) (fun _ h=>h) fun _ h=>.inl h) (ZsM iP ku de)
def Zlq(P:Program)(N:Nat)(st:St)(c:Callee)(args:List Operand)(ha:HA)(an:Option Ans):Option (V×List Prop×St):=match ha.lend with
 | []=>Zlb P N st c args ha an
 |_ :: _=>ZrE P N st c args ha an
theorem ZoW{P:Program}{N:Nat}{st:St}{c:Callee}{args:List Operand}{ha:HA}{an:Option Ans}(h:ha.lend=[]):Zlq P N st c args ha an=Zlb P N st c args ha an:=by
 unfold Zlq;rw[h]
def ZQv(P:Program)(f:FuncId)(args:List V)(res:V):Prop:=FnOk P f/\∀(no S:Nat->Prop)(m:Mp)(w:World)(vs:List Value),(∀b,S b->b<w.heap.size)->(∀k,no k->k<w.heap.size)->(∀b,m.L b->no b)->ZuI S w m args vs->Calls P f vs.toArray w fun e w'=>∃x S',e=.returned x/\Goes no S S' w w'/\(∀b,S' b->b<w'.heap.size)/\RepV S' w' ZcK res x
def lenV(st:St)(v:V):Option V:=match v with
 | .one (.osl id n)=>match hget st.heap id with
  |some (.rows _ sz len cc)=>some (.one (.lsl sz len cc))
  |_=>none
 | .one (.sl sz n c)=>some (.one (.lsl sz n c))
 |v=>match v.pure with
  |true=>some v
  |false=>none
def lenA(st:St):List V->Option (List V)
 | []=>some []
 |v :: l=>match lenV st v,lenA st l with
  |some v',some l'=>some (v' :: l')
  |_,_=>none
theorem RepC.lend{S:Nat->Prop}{w:World}{m:Mp}{sz n:Nat}{c:Nat->Nat->C}{x:Value}(h:RepC S w m (.sl sz n c) x){S':Nat->Prop}{m':Mp}(hL:∀b,S b->m'.L b)(fZ:∀c x,RepC S w ZcK c x->RepC S' w ZcK c x):RepC S' w m' (.lsl sz n c) x:=by
 cases h with
 |sl b off vals hcap ha hc h1 hr=>exact .lsl b off vals hcap (fun hl=>⟨(ha hl).1,hL _ (ha hl).2⟩) hc h1 fun i j hi hj=>fZ _ _ (hr i j hi hj)
theorem RepC.lend_rows{S:Nat->Prop}{w:World}{e:TypeId}{sz len:Nat}{c:Nat->Nat->C}{m m':Mp}{a:Option Addr}{n cap:Nat}(h:RepB S w m (.slice a n cap) (.rows e sz len c))(hb:∀k,blk (.slice a n cap)=some k->m'.L k) :
  RepC S w m' (.lsl sz len c) (.slice a n cap):=by
 obtain⟨rfl,h2,h3,h4⟩:=ZkC h;rcases h4 with⟨rfl,rfl,rfl⟩|⟨b,rfl⟩
 .exact .lsl 0 0 (fun _ _=>undef) (Nat.le_refl _) (fun h=>absurd h (by omega)) (fun i j h=>absurd h (by omega)) (fun i j h=>absurd h (by omega)) (fun i j h=>absurd h (by omega))
 .obtain⟨_,_,_,_,_,hc⟩:=ZpU h;have key:∀i j,∃x,i<n->j<sz->w.cell? ⟨b,i*sz+j,none⟩=some x/\x.oneCell'=true/\RepC S w ZcK (c i j) x:=by
   intro i j;by_cases hi:i<n/\j<sz
   .obtain⟨x,hx⟩:=hc i j hi.1 hi.2;exact⟨x,fun _ _=>hx⟩
   .exact⟨undef,fun h1 h2=>absurd ⟨h1,h2⟩ hi⟩
  let vals:Nat->Nat->Value:=fun i j=>(key i j).choose
  have hv:∀i j,i<n->j<sz->w.cell? ⟨b,i*sz+j,none⟩=some (vals i j)/\(vals i j).oneCell'=true/\RepC S w ZcK (c i j) (vals i j):=fun i j=>(key i j).choose_spec;exact .lsl b 0 vals h2 (fun _=>⟨rfl,hb b rfl⟩) (fun i j hi hj=>by rw[Nat.zero_add];exact(hv i j hi hj).1) (fun i j hi hj=>(hv i j hi hj).2.1) (fun i j hi hj=>(hv i j hi hj).2.2)
theorem ZML{N:Nat}{F:Keep}{S:Nat->Prop}{m:Mp}{st:St}{a:Act}{w:World}(hs:Sim N F S m st a w){v v':V}{x:Value}(hv:RepV S w m v x)(h:lenV st v=some v'):RepV S w ⟨ZcK.f,fun k=>k<w.heap.size⟩ v' x:=by
 unfold lenV at h;split at h
 .rename_i id n;split at h
  .rename_i e sz len cc hl;cases h;cases hv with
   |osl hm h00=>
    have hB:=hs.heap id _ hl;rw[hm]at hB;exact RepC.lend_rows (m':=⟨ZcK.f,fun k=>k<w.heap.size⟩) hB fun k hk=>(hs.own id _ hl k (by rw[hm];exact hk)).2.2
  .cases h
 .cases h;exact RepC.lend hv hs.dom fun _ _ h=>h
 .split at h
  .rename_i hp;cases h;exact hv.anyM _ hp
  .cases h
theorem ZFQ{N:Nat}{F:Keep}{S:Nat->Prop}{m:Mp}{st:St}{a:Act}{w:World}(hs:Sim N F S m st a w):∀{vs dO:List V}{xs:List Value},ZuI S w m vs xs->lenA st vs=some dO->ZuI S w ⟨ZcK.f,fun k=>k<w.heap.size⟩ dO xs
 | [],dO,xs,hl,h=>by cases h;exact⟨hl.1,fun j v h=>by simp at h⟩
 |v :: vs,dO,xs,hl,h=>by
  simp only[lenA]at h
  split at h
  .rename_i v1 l1 h1 h2
   cases h
   obtain⟨e1,e2⟩:=hl
   cases xs with
   |nil=>simp at e1
   |cons x xs=>
    have ht:=ZFQ (xs:=xs) hs ⟨by simpa using e1,fun j v hj=>by have:=e2 (j+1) v (by simpa using hj);simpa using this⟩ h2
    obtain⟨x',h3,h4⟩:=e2 0 v rfl
    cases h3
    refine⟨by simp[ht.1],fun j c hj=>?_⟩
    cases j with
    |zero=>simp only[List.getElem?_cons_zero,Option.some.injEq]at hj;subst hj;exact⟨x,rfl,ZML hs h4 h1⟩
    |succ j=>simpa using ht.2 j c (by simpa using hj)
  .cases h
def ZxI(P:Program)(st:St)(c:Callee)(args:List Operand)(ha:HA)(an:Option Ans):Option (V×List Prop×St):=match ZjZ P st c an with
 |some (g,a,b,om)=>match lenA st (ZbS st args a b),ha.res.pure with
  |some vs,true=>some (ha.res,ZQv P g vs ha.res :: om,st)
  |_,_=>none
 |none=>none
theorem ZEp{P:Program}{N:Nat}{S0:Nat->Prop}{w0:ZeC}{st st':St}{a:Act}{w:World}{S:Nat->Prop}{m:Mp}(hs:Sim N w0.F S m st a w)(hg:Goes w0.F.no S0 S w0.w w)
  {o:Oper} {c:Callee} {args:Array Operand} {a9:Array TypeId} (ho:o.op=.call { callee:=c,args:=args,argTypes:=a9 }) {ha:HA} {an:Option Ans} {v:V} {obl:List Prop} (h:ZxI P st c args.toList ha an=some (v,obl,st')) (cE:∀q∈obl,q) {K:Act->World->Prop} {Q:Exit->Act->World->Prop}
  (hk:∀x w' S' m',Sim N w0.F S' m' st' a w'->Goes w0.F.no S0 S' w0.w w'->RepV S' w' m' v x->K (a.put o.dst x) w'):o.wp P a w K Q:=by
 unfold ZxI at h;split at h;rotate_left
 .cases h
 rename_i g ca cb om hc;split at h;rotate_left
 .cases h
 rename_i vs df hp;cases h;have du:ZQv P g vs ha.res:=cE _ (by simp);obtain⟨xs,hra,cV⟩:=ZoX (P:=P) hs ho hc fun q hq=>cE q (by simp[hq]);have dY:=ZFQ hs hra df;unfold Oper.wp;rw[cV du.1];have:=du.2 (fun k=>k<w.heap.size) S ⟨ZcK.f,fun k=>k<w.heap.size⟩ w _ hs.dom (fun _ h=>h) (fun _ h=>h) dY;rw[Array.toArray_toList]at this;refine Calls.mono this ?_;rintro e w' ⟨x,S',rfl,h1,h2,h3⟩;have cn:=hs.grow (S':=S') h1.below.size h1.below.block h1.sub fun b hb=>(h1.sup b hb).imp id fun h=>⟨Nat.le_of_not_lt h,h2 b hb⟩;exact hk x w' S' m cn (hg.step (h1.below.mono hs.base_le) h1.sub fun b hb=>(h1.sup b hb).imp id fun h hF=>h (hs.base_le _ hF)) h3.keepM
def Zhm(P:Program)(N:Nat)(st:St)(c:Callee)(args:List Operand)(ha:HA)(an:Option Ans):Option (V×List Prop×St):=match ZgJ P N st c args ha an with
 |some r=>some r
 |none=>Zlq P N st c args ha an
theorem Zuk{P:Program}{N:Nat}{st:St}{c:Callee}{args:List Operand}{ha:HA}{an:Option Ans}{r:V×List Prop×St}(h:ZgJ P N st c args ha an=some r):Zhm P N st c args ha an=some r:=by
 unfold Zhm;rw[h]
theorem ZEn{P:Program}{N:Nat}{S0:Nat->Prop}{w0:ZeC}{st st':St}{a:Act}{w:World}{S:Nat->Prop}{m:Mp}(hs:Sim N w0.F S m st a w)(hg:Goes w0.F.no S0 S w0.w w)
  {o:Oper} {c:Callee} {args:Array Operand} {a9:Array TypeId} (ho:o.op=.call { callee:=c,args:=args,argTypes:=a9 }) {ha:HA} {an:Option Ans} {v:V} {obl:List Prop} (h:Zhm P N st c args.toList ha an=some (v,obl,st')) (cE:∀q∈obl,q) {K:Act->World->Prop} {Q:Exit->Act->World->Prop}
  (hk:∀x w' S' m',Sim N w0.F S' m' st' a w'->Goes w0.F.no S0 S' w0.w w'->RepV S' w' m' v x->K (a.put o.dst x) w'):o.wp P a w K Q:=by
 unfold Zhm at h;split at h
 .rename_i r hr;cases h;exact ZHG hs hg ho hr cE hk
 .unfold Zlq at h;split at h
  .exact ZEq hs hg ho h cE hk
  .exact ZEo hs hg ho h cE hk
def ZrD(P:Program)(N:Nat)(st:St)(c:Callee)(args:List Operand)(ha:HA)(an:Option Ans):Option (V×List Prop×St):=match Zhm P N st c args ha an with
 |some r=>some r
 |none=>ZxI P st c args ha an
theorem Zuj{P:Program}{N:Nat}{st:St}{c:Callee}{args:List Operand}{ha:HA}{an:Option Ans}{r:V×List Prop×St}(h:Zhm P N st c args ha an=some r):ZrD P N st c args ha an=some r:=by
 unfold ZrD;rw[h]
theorem ZEm{P:Program}{N:Nat}{S0:Nat->Prop}{w0:ZeC}{st st':St}{a:Act}{w:World}{S:Nat->Prop}{m:Mp}(hs:Sim N w0.F S m st a w)(hg:Goes w0.F.no S0 S w0.w w)
  {o:Oper} {c:Callee} {args:Array Operand} {a9:Array TypeId} (ho:o.op=.call { callee:=c,args:=args,argTypes:=a9 }) {ha:HA} {an:Option Ans} {v:V} {obl:List Prop} (h:ZrD P N st c args.toList ha an=some (v,obl,st')) (cE:∀q∈obl,q) {K:Act->World->Prop} {Q:Exit->Act->World->Prop}
  (hk:∀x w' S' m',Sim N w0.F S' m' st' a w'->Goes w0.F.no S0 S' w0.w w'->RepV S' w' m' v x->K (a.put o.dst x) w'):o.wp P a w K Q:=by
 unfold ZrD at h;split at h
 .rename_i r hr;cases h;exact ZEn hs hg ho hr cE hk
 .exact ZEp hs hg ho h cE hk
theorem Zix.pure{P:Program}{f:FuncId}{args:List V}{id:Nat}{e:TypeId}{sz n:Nat}{c:Nat->Nat->C}(h:Zix P f [] args [(id,.rows e sz n c)] (.one (.osl id n))):Zgo P f args (.one (.sl sz n c)):=by
 refine⟨h.1,fun S w vs hS hra=>?_⟩;refine Calls.mono (h.2 (fun k=>k<w.heap.size) S ZcK w vs hS (fun _ h=>h) ⟨fun id b hb=>by simp[hget]at hb,fun id b hb=>by simp[hget]at hb,fun i j b b' hne h1=>by simp[hget]at h1,fun b hb=>hb.elim⟩ hra) ?_;rintro e' w' ⟨x,S',m',rfl,h1,h2,h3,h4,h5⟩;have hg:hget [(id,B.rows e sz n c)] id=some (.rows e sz n c):=by rw[Zbk,if_pos rfl]
 have hrep:=h3.rep id _ hg;have js:∃a cap,m' id=.slice a n cap/\x=.slice a n cap:=by
  cases h4 with
  |osl hm h0=>exact⟨_,_,hm,rfl⟩
 obtain⟨a,cap,e1,e2⟩:=js;refine⟨x,fun k=>S' k\/blk (m' id)=some k,rfl,⟨h1.below,fun b hb=>.inl (h1.sub b hb),fun b hb=>?_⟩,fun b hb=>?_,?_⟩
 .rcases hb with hb|hb
  .exact h1.sup b hb
  .exact .inr (h3.own id _ hg b hb).2.1
 .rcases hb with hb|hb
  .exact h2 b hb
  .exact(h3.own id _ hg b hb).2.2
 .have:=(RepC.of_rows (m':=ZcK) hrep ⟨a,cap,e1⟩ (fun b hb=>(.inl hb:S' b\/blk (m' id)=some b)) fun k hk=>.inr hk).2;have e3:m' id=x:=by rw[e1,e2]
  rw[e3]at this ⊢;exact this
theorem ZBg{d e:Nat}(hne:d≠e)(b c:B):∀(h:List (Nat×B)),hrep (hins h d b) e c=hins (hrep h e c) d b:=by
 have f1:∀{x y:Nat},x≠y->Nat.beq x y=false:=fun{x y} h=>by
  cases hb:Nat.beq x y
  .rfl
  .exact absurd (Nat.eq_of_beq_eq_true hb) h
 intro h;induction h with
 |nil=>simp[hins,hrep,f1 hne]
 |cons p r ih=>
  obtain⟨k,v⟩:=p;by_cases hk:k=d
  .subst hk;simp[hins,hrep,f1 hne]
  .by_cases he:k=e
   .subst he;by_cases h1:Nat.blt d k=true
    .simp[hins,hrep,f1 hk,h1,f1 hne]
    .simp[hins,hrep,f1 hk,h1]
   .by_cases h1:Nat.blt d k=true
    .simp[hins,hrep,f1 hk,h1,f1 hne,f1 he]
    .simp[hins,hrep,f1 hk,h1,f1 he,ih]
theorem ZBq{g:Nat->Option Nat}{h h':List (Nat×B)}:∀{l:List (Nat×Nat)},(∀p∈l,hget h' p.2=hget h p.2)->hIn g h' l=hIn g h l
 | [],_=>rfl
 | (c,i) :: l,e=>by
  simp only[hIn]
  rw[e _ List.mem_cons_self,ZBq fun p hp=>e p (List.mem_cons_of_mem _ hp)]
theorem C.pure_says{d:Nat}:∀{c:C},c.pure=true->c.says d=false:=by
 intro c;induction c with
 |clo fn na nb a b iha ihb=>
  intro h;simp only[C.pure,Bool.and_eq_true,List.all_eq_true,List.mem_range]at h;simp only[C.says,Bool.or_eq_false_iff,List.any_eq_false,List.mem_range,Bool.not_eq_true];exact⟨fun i hi=>iha i (h.1 i hi),fun i hi=>ihb i (h.2 i hi)⟩
 |ifc t c ih=>exact fun h=>ih h
 |ifa t n c ih=>
  intro h;simp only[C.pure,List.all_eq_true,List.mem_range]at h;simp only[C.says,List.any_eq_false,List.mem_range,Bool.not_eq_true];exact fun i hi=>ih i (h i hi)
 |agv n c ih=>
  intro h;simp only[C.pure,List.all_eq_true,List.mem_range]at h;simp only[C.says,List.any_eq_false,List.mem_range,Bool.not_eq_true];exact fun i hi=>ih i (h i hi)
 |_=>intro h;first|rfl | (simp[C.pure]at h)
theorem Zvt {g:Nat->Option Nat} {d:Nat} (hg:g d = none) {c c' : C} (h:ZwH g c = some c'):c.says d = false:=by
  have key : ∀ k k',g k = some k'->Nat.beq k d = false:=fun k k' hk =>by
    cases hb:Nat.beq k d
    . rfl
    . rw [Nat.eq_of_beq_eq_true hb,hg] at hk; cases hk
  unfold ZwH at h
  split at h
  all_goals first
    | rfl
    | (split at h
       . rename_i hk; exact key _ _ hk
       . cases h)
    | (split at h
       . rename_i hp; exact C.pure_says hp
       . cases h)
theorem Zzy {g:Nat->Option Nat} {d:Nat} (hg : ∀ k,g k ≠ some d) {c c' : C} (h:ZwH g c = some c'):c'.says d = false:=by
  have key : ∀ k k',g k = some k'->Nat.beq k' d = false:=fun k k' hk =>by
    cases hb:Nat.beq k' d
    . rfl
    . exact absurd (by rw [<- Nat.eq_of_beq_eq_true hb]; exact hk) (hg k)
  unfold ZwH at h
  split at h
  all_goals first
    | (cases h; rfl)
    | (split at h
       . rename_i hk; cases h; exact key _ _ hk
       . cases h)
    | (split at h
       . rename_i hp; cases h; exact C.pure_says hp
       . cases h)
theorem ZqE{g:Nat->Option Nat}{d:Nat}(hg:g d=none):∀{l l':List C},Zrd g l=some l'->∀c∈l,c.says d=false
 | [],_,_,c,hc=>by cases hc
 |x :: l,l',h,c,hc=>by
  simp only[Zrd]at h
  split at h
  .rename_i c1 l1 h1 h2
   rcases List.mem_cons.1 hc with rfl|hc
   .exact Zvt hg h1
   .exact ZqE hg h2 c hc
  .cases h
theorem Zsb{g:Nat->Option Nat}{d:Nat}(hg:∀k,g k≠some d):∀{l l':List C},Zrd g l=some l'->∀c∈l',c.says d=false
 | [],l',h,c,hc=>by cases h;cases hc
 |x :: l,l',h,c,hc=>by
  simp only[Zrd]at h
  split at h
  .rename_i c1 l1 h1 h2
   cases h
   rcases List.mem_cons.1 hc with rfl|hc
   .exact Zzy hg h1
   .exact Zsb hg h2 c hc
  .cases h
theorem ZIT{g:Nat->Option Nat}{d:Nat}(hg:g d=none){c c':C}(h:renC g c=some c'):c.says d=false:=by
 unfold renC at h;split at h
 .rename_i fn na nb a b;split at h
  .rename_i hp;exact C.pure_says hp
  .split at h
   .rename_i xs ys hx hy;simp only[C.says,Bool.or_eq_false_iff,List.any_eq_false,List.mem_range,Bool.not_eq_true];refine⟨fun i hi=>ZqE hg hx _ (List.mem_map.2 ⟨i,List.mem_range.2 hi,rfl⟩),fun i hi=>ZqE hg hy _ (List.mem_map.2 ⟨i,List.mem_range.2 hi,rfl⟩)⟩
   .cases h
 .exact Zvt hg h
theorem ZMe{g:Nat->Option Nat}{d:Nat}(hg:∀k,g k≠some d){c c':C}(h:renC g c=some c'):c'.says d=false:=by
 unfold renC at h;split at h
 .rename_i fn na nb a b;split at h
  .rename_i hp;cases h;exact C.pure_says hp
  .split at h
   .rename_i xs ys hx hy;cases h;have hj:∀(l:List C)(i:Nat),(∀c∈l,c.says d=false)->(l.getD i .junk).says d=false:=fun l i hl=>by
     rw[List.getD_eq_getElem?_getD];cases hq:l[i]? with
     |none=>rfl
     |some q=>exact hl q (List.mem_of_getElem? hq)
    simp only[C.says,Bool.or_eq_false_iff,List.any_eq_false,List.mem_range,Bool.not_eq_true];exact⟨fun i _=>hj xs i (Zsb hg hx),fun i _=>hj ys i (Zsb hg hy)⟩
   .cases h
 .exact Zzy hg h
theorem Zvs{g:Nat->Option Nat}{d:Nat}(hg:g d=none):∀{l l':List C},Zre g l=some l'->l.any (C.says d)=false
 | [],_,_=>rfl
 |x :: l,l',h=>by
  simp only[Zre]at h
  split at h
  .rename_i c1 l1 h1 h2
   rw[List.any_cons,ZIT hg h1,Zvs hg h2]
   rfl
  .cases h
theorem Zzx{g:Nat->Option Nat}{d:Nat}(hg:∀k,g k≠some d):∀{l l':List C},Zre g l=some l'->l'.any (C.says d)=false
 | [],l',h=>by cases h;rfl
 |x :: l,l',h=>by
  simp only[Zre]at h
  split at h
  .rename_i c1 l1 h1 h2
   cases h
   rw[List.any_cons,ZMe hg h1,Zzx hg h2]
   rfl
  .cases h
theorem ZIU{g:Nat->Option Nat}{d:Nat}(hg:g d=none){b b':B}(h:renB g b=some b'):b.says d=false:=by
 cases b with
 |box l=>
  simp only[renB,Option.map_eq_some_iff]at h;obtain⟨l',h1,rfl⟩:=h;exact Zvs hg h1
 |rows e sz len c=>rfl
 |map kt l=>rfl
 |hole _ _ _ _ _=>cases h
theorem ZMf{g:Nat->Option Nat}{d:Nat}(hg:∀k,g k≠some d){b b':B}(h:renB g b=some b'):b'.says d=false:=by
 cases b with
 |box l=>
  simp only[renB,Option.map_eq_some_iff]at h;obtain⟨l',h1,rfl⟩:=h;exact Zzx hg h1
 |rows e sz len c=>cases h;rfl
 |map kt l=>cases h;rfl
 |hole _ _ _ _ _=>cases h
theorem Zqt{d e:Nat}{c:B}(hne:e≠d):∀{h:List (Nat×B)},(∀b,hget h e=some b->b.says d=false)->ZhS d (hrep h e c)=true->ZhS d h=true
 | [],_,_=>rfl
 | (k,v) :: r,hb,hq=>by
  simp only[hrep]at hq
  split at hq
  .rename_i hk
   obtain rfl:=Nat.eq_of_beq_eq_true hk
   have hv:=hb v (by rw[Zbk,if_pos rfl])
   simp only[ZhS]at hq ⊢
   rw[hv]
   split at hq
   .rename_i h1 _
    rw[h1]
    exact hq
   .cases hq
  .rename_i hk
   have hk:=Nat.ne_of_beq_eq_false hk
   simp only[ZhS]at hq ⊢
   split at hq
   .rename_i h1 h2
    exact Zqt hne (fun b aN=>hb b (by rw[Zbk,if_neg hk];exact aN)) hq
   .cases hq
theorem Ztx{d e:Nat}{c:B}(hc:c.says d=false):∀{h:List (Nat×B)},ZhS d h=true->ZhS d (hrep h e c)=true
 | [],_=>rfl
 | (k,v) :: r,hq=>by
  simp only[ZhS]at hq
  split at hq
  .rename_i h1 h2
   simp only[hrep]
   split
   .rename_i hk
    obtain rfl:=Nat.eq_of_beq_eq_true hk
    simp only[ZhS,h1,hc]
    exact hq
   .simp only[ZhS,h1,h2]
    exact Ztx hc hq
  .cases hq
end Go.Proofs.YtnigiacmmedkhaaGreat
