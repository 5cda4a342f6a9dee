import Derived.Test.YtdjfoojllbfcgaaGreatUAmJ
namespace Go.Proofs.YtdjfoojllbfcgaaGreat
open Go.RowKit
set_option linter.unusedSimpArgs false
set_option linter.unusedVariables false
def ZAI:List C->Option (List Value)
 | []=>some []
 | .lit x :: l=>match ZAI l with
  |some xs=>some (x :: xs)
  |none=>none
 |_=>none
def V.val:V->Option Value
 | .one (.lit x)=>some x
 | .agg l=>match ZAI l with
  |some xs=>some (.agg xs.toArray)
  |none=>none
 |_=>none
theorem ZvA{S:Nat->Prop}{w:World}{m:Mp}:∀{l:List C}{ys xs:List Value},RepL S w m l ys->ZAI l=some xs->ys=xs
 | [],ys,xs,h,hl=>by
  cases hl
  exact List.eq_nil_of_length_eq_zero h.1
 |c :: l,ys,xs,h,hl=>by
  cases c<;>simp only[ZAI]at hl<;>try (cases hl;done)
  rename_i x
  split at hl
  ·rename_i iO fI
   cases hl
   obtain⟨e1,e2,e3⟩:=h
   cases ys with
   |nil=>simp at e1
   |cons y ys=>
    have ht:=ZvA (ys:=ys) ⟨by simpa using e1,fun j c hj=>by have:=e2 (j+1) c (by simpa using hj);simpa using this,fun y hy=>e3 y (by simp[hy])⟩ fI
    obtain⟨z,h3,h4⟩:=e2 0 _ rfl
    cases h3
    cases h4
    rw[ht]
  ·cases hl
theorem V.val_rep{S:Nat->Prop}{w:World}{m:Mp}{v:V}{x y:Value}(h:RepV S w m v x)(hv:v.val=some y):x=y:=by
 unfold V.val at hv;split at hv
 ·cases hv;cases h;rfl
 ·split at hv
  ·rename_i l xs fI;cases hv;obtain⟨ys,rfl,h1⟩:=h;rw[<-ZvA h1 fI]
  ·cases hv
 ·cases hv
structure ZyM (P:Program) (kt:TypeId) (k:Value) (ks:List Value):Prop where
 check:∀(e:Bool)(w:World),(Instr.checkKey e 10000 kt k).run P w=.ok () w
 slow:∃d,P.underlying kt=some d/\∀k'∈ks,Instr.sameNow d k k'=none\/∃b,Instr.sameNow d k k'=some b/\(b=true↔k=k')
 eql:∀k'∈ks,∀w,∃b:Bool,(Op.equal kt k k').run P w=.ok b w/\(b=true↔k=k')
 same:Instr.sameBits 10000 k k=true
def ZCu(k:Value)(es:List MapEntry)(i:Nat)(r:Option (Nat×Value)):Prop:=(r=none/\∀e∈es,e.key≠k)\/∃j e,es[j]?=some e/\e.key=k/\r=some (i+j,e.val)
theorem ZCu.cons{k:Value}{e:MapEntry}{es:List MapEntry}{i:Nat}{r:Option (Nat×Value)}(he:e.key≠k)(h:ZCu k es (i+1) r):ZCu k (e :: es) i r:=by
 rcases h with⟨h1,h2⟩|⟨j,e',h1,h2,h3⟩
 ·exact .inl ⟨h1,fun x hx=>by rcases List.mem_cons.1 hx with rfl|hx;exact he;exact h2 x hx⟩
 ·exact .inr ⟨j+1,e',by simpa using h1,h2,by rw[h3];congr 2;omega⟩
theorem Zpl{P:Program}{kt:TypeId}{k:Value}(w:World):∀(es:List MapEntry)(i:Nat),(∀e∈es,∃b:Bool,(Op.equal kt k e.key).run P w=.ok b w/\(b=true↔k=e.key))->∃r,(Instr.findAsking kt k es i).run P w=.ok r w/\ZCu k es i r
 | [],i,h=>⟨none,by simp[Instr.findAsking],.inl ⟨rfl,by simp⟩⟩
 |e :: es,i,h=>by
  obtain⟨b,h1,h2⟩:=h e List.mem_cons_self
  simp only[Instr.findAsking,Sem.run_bind,h1,Result.andThen_ok]
  cases b with
  |true=>exact⟨some (i,e.val),by simp,.inr ⟨0,e,rfl,(h2.1 rfl).symm,rfl⟩⟩
  |false=>
   obtain⟨r,h3,h4⟩:=Zpl (P:=P) (kt:=kt) (k:=k) w es (i+1) fun e he=>h e (List.mem_cons_of_mem _ he)
   exact⟨r,by simpa using h3,h4.cons fun hk=>by have:=h2.2 hk.symm;cases this⟩
theorem ZAQ{d:TypeDesc}{k:Value}:∀(es:List MapEntry)(i:Nat),(∀e∈es,Instr.sameNow d k e.key=none\/∃b,Instr.sameNow d k e.key=some b/\(b=true↔k=e.key))->Instr.findNow d k es i=none\/∃r,Instr.findNow d k es i=some r/\ZCu k es i r
 | [],i,h=>.inr ⟨none,rfl,.inl ⟨rfl,by simp⟩⟩
 |e :: es,i,h=>by
  rcases h e List.mem_cons_self with h1|⟨b,h1,h2⟩
  ·left;simp[Instr.findNow,h1]
  ·cases b with
   |true=>exact .inr ⟨some (i,e.val),by simp[Instr.findNow,h1],.inr ⟨0,e,rfl,(h2.1 rfl).symm,rfl⟩⟩
   |false=>
    rcases ZAQ (d:=d) (k:=k) es (i+1) fun e he=>h e (List.mem_cons_of_mem _ he)with h3|⟨r,h3,h4⟩
    ·left;simp[Instr.findNow,h1,h3]
    ·exact .inr ⟨r,by simp[Instr.findNow,h1,h3],h4.cons fun hk=>by have:=h2.2 hk.symm;cases this⟩
theorem ZyM.find{P:Program}{kt:TypeId}{k:Value}{es:List MapEntry}(h:ZyM P kt k (es.map (·.key)))(w:World):∃r,(Instr.findKey kt k es).run P w=.ok r w/\ZCu k es 0 r:=by
 obtain⟨d,hd,hs⟩:=h.slow;have he:∀e∈es,e.key∈es.map (·.key):=fun e he=>List.mem_map.2 ⟨e,he,rfl⟩;unfold Instr.findKey;simp only[Sem.run_bind,run_underlying hd,Result.andThen_ok];rcases ZAQ (d:=d) (k:=k) es 0 fun e h=>hs _ (he e h)with h1|⟨r,h1,h2⟩
 ·rw[h1];exact Zpl w es 0 fun e hm=>h.eql _ (he e hm) w
 ·rw[h1];exact⟨r,by simp,h2⟩
theorem RepE.keysEq{S:Nat->Prop}{w:World}{l:List (Value×V)}{es:List MapEntry}{c:Nat}(h:RepE S w l es c):es.map (·.key)=l.map (·.1):=by
 apply List.ext_getElem
 ·simp[h.len]
 ·intro i h1 h2;have i1:i<es.length:=by simpa using h1
  have i2:i<l.length:=by simpa using h2
  simp only[List.getElem_map];exact(h.at_ i l[i] es[i] (by simp[i2]) (by simp[i1])).1
def ZIA(l:List (Value×V))(k z:Value)(v:V):Prop:=(∃p∈l,p.1=k/\p.2=v)\/((∀p∈l,p.1≠k)/\∀S w m,RepV S w m v z)
def MPut(l:List (Value×V))(k:Value)(v:V)(l':List (Value×V)):Prop:=(∃j,(l[j]?).map (·.1)=some k/\l'=l.set j (k,v))\/((∀p∈l,p.1≠k)/\l'=l++[(k,v)])
def MDel(l:List (Value×V))(k:Value)(l':List (Value×V)):Prop:=(∃j,(l[j]?).map (·.1)=some k/\l'=l.eraseIdx j)\/((∀p∈l,p.1≠k)/\l'=l)
theorem Zpv{α:Type}{l:List α}{j:Nat}(h:j<l.length):l[j]?=some l[j]:=by simp[h]
theorem Zws{α:Type}{l:List α}(h:l.Nodup){i j:Nat}{a:α}(hi:l[i]?=some a)(hj:l[j]?=some a):i=j:=by
 obtain⟨i1,e1⟩:=List.getElem?_eq_some_iff.1 hi;exact(List.getElem?_inj i1 h).1 (hi.trans hj.symm)
def ZBQ(T:Tab)(t:TypeId):Option (TypeId×TypeId):=match ZeF T t with
 |some ti=>match ti.k with
  | .map k v=>some (k,v)
  |_=>none
 |none=>none
theorem Zrp{P:Program}{T:Tab}(hT:Zef P T){t k v:TypeId}(h:ZBQ T t=some (k,v)):P.underlying t=some (.map k v):=by
 unfold ZBQ at h;split at h;rotate_left
 ·cases h
 rename_i ti bo;obtain⟨d,hu,hf⟩:=hT.under bo;split at h;rotate_left
 ·cases h
 rename_i k' v' hk;cases h;rw[hk]at hf;cases d<;>simp only[TK.fits]at hf;obtain⟨rfl,rfl⟩:=hf;exact hu
def ZxW(st:St)(v:V):Option (Nat×TypeId×List (Value×V)):=match v with
 | .one (.mp id)=>match hget st.heap id with
  |some (.map kt l)=>some (id,kt,l)
  |_=>none
 |_=>none
theorem ZsW{st:St}{v:V}{id kt:Nat}{l:List (Value×V)}(h:ZxW st v=some (id,kt,l)):v=.one (.mp id)/\hget st.heap id=some (.map kt l):=by
 unfold ZxW at h;split at h
 ·split at h
  ·cases h;exact⟨rfl,by assumption⟩
  ·cases h
 ·cases h
def ZrG(N:Nat)(T:Tab)(st:St)(d t:Nat)(r:Option V):Option (V×List Prop×St):=match ZBQ T t,ZdN N d st with
 |some (k,_),true=>match r with
  |none=>some (.one (.mp d),[],st.new d (.map k []))
  |some v=>match intV v with
   |some _=>some (.one (.mp d),[],st.new d (.map k []))
   |none=>none
 |_,_=>none
def ZGr(T:Tab)(t:TypeId):Option Value:=match ZeF T t with
 |some ti=>ti.zero
 |none=>none
def Zlz(P:Program)(T:Tab)(st:St)(t:Nat)(x k:V)(ok:Bool)(an:Option Ans):Option (V×List Prop):=match ok,ZBQ T t,ZxW st x,k.val,an with
 |false,some (kt,vt),some (_,_,l),some kv,some (.r v _)=>match ZGr T vt with
  |some z=>some (v,[ZyM P kt kv (l.map (·.1)),ZIA l kv z v])
  |none=>none
 |_,_,_,_,_=>none
def ZwQ(P:Program)(T:Tab)(st:St)(t:Nat)(x k v:V)(an:Option Ans):Option (List Prop×St):=match ZBQ T t,ZxW st x,k.val,v.pure,an with
 |some (kt,_),some (id,kt',l),some kv,true,some (.m l')=>some ([ZyM P kt kv (l.map (·.1)),MPut l kv v l'],{ st with heap:=hset st.heap id (.map kt' l') })
 |_,_,_,_,_=>none
def Zte(P:Program)(T:Tab)(st:St)(t:Nat)(x k:V)(an:Option Ans):Option (List Prop×St):=match ZBQ T t,ZxW st x,k.val,an with
 |some (kt,_),some (id,kt',l),some kv,some (.m l')=>some ([ZyM P kt kv (l.map (·.1)),MDel l kv l'],{ st with heap:=hset st.heap id (.map kt' l') })
 |_,_,_,_=>none
theorem ZEG(w:World)(o:Obj):(w.alloc o).heap[w.heap.size]?=some o:=by
 show (w.heap.push o)[w.heap.size]?=some o;simp
def Zqt(w:World)(b:Nat)(o:Obj):World:={ w with heap:=w.heap.setIfInBounds b o }
theorem ZpR{P:Program}(w:World)(b:Nat)(es:Array MapEntry)(c:Nat)(o:Obj)(h:w.heap[b]?=some (.map es c)):(Go.setObj b o).run P w=.ok () (Zqt w b o):=by
 simp[Go.setObj,Sem.run,h,Zqt]
theorem ZlD{P:Program}{w:World}{b:Nat}{es:Array MapEntry}{c:Nat}(h:w.heap[b]?=some (.map es c)):(Go.getObj b).run P w=.ok (.map es c) w:=by simp[Go.getObj,Sem.run,h]
section
variable {P:Program} {T:Tab} {N:Nat} {S0:Nat->Prop} {w0:Zba} {st:St} {a:Act} {w:World} {S:Nat->Prop} {m:Mp}
theorem Sim.mapBlock(hs:Sim N w0.F S m st a w){id kt:Nat}{l:List (Value×V)}(hl:hget st.heap id=some (.map kt l)):∃b es aL,m id=.map (some b)/\w.heap[b]?=some (.map es aL)/\RepE S w l es.toList aL:=hs.heap id _ hl
theorem Sim.writeMap(hs:Sim N w0.F S m st a w)(hg:Goes w0.F.no S0 S w0.w w){id kt:Nat}{l l':List (Value×V)}(hl:hget st.heap id=some (.map kt l)){b aL cj:Nat}{es iP:Array MapEntry}(hm:m id=.map (some b))(hb:w.heap[b]?=some (.map es aL))
  (h:∀w',Zgw S w w'->RepE S w' l' iP.toList cj):Sim N w0.F S m { st with heap:=hset st.heap id (.map kt l') } a (Zqt w b (.map iP cj))/\Goes w0.F.no S0 S w0.w (Zqt w b (.map iP cj)):=by
 have hlt:b<w.heap.size:=(hs.own id _ hl b (by rw[hm];rfl)).2.2;have hS:¬S b:=(hs.own id _ hl b (by rw[hm];rfl)).1;have aY:¬w0.F.no b:=(hs.own id _ hl b (by rw[hm];rfl)).2.1;have hH:∀k,k≠b->(Zqt w b (.map iP cj)).heap[k]?=w.heap[k]?:=fun k hk=>by simp only[Zqt];rw[Array.getElem?_setIfInBounds_ne (Ne.symm hk)]
 have cX:Zgw S w (Zqt w b (.map iP cj)):=fun k hk=>hH k fun e=>hS (e ▸ hk);refine⟨hs.write (.map kt l') hl (by simp[Zqt]) (fun k hk hne=>hH k fun e=>hne (by rw[hm,e];rfl)) ?_,hg.step ⟨rfl,rfl,rfl,by simp[Zqt],fun k hk=>hH k fun e=>aY (e ▸ hk),Nat.le_refl _⟩ (fun _ h=>h) fun _ h=>.inl h⟩;rw[hm];exact⟨b,iP,cj,rfl,by simp[Zqt,hlt],h _ cX⟩
theorem ZwR(hT:Zef P T)(hs:Sim N w0.F S m st a w)(hg:Goes w0.F.no S0 S w0.w w){d t:Nat}{r:Option V}{pr:Option Value}{v:V}{obl:List Prop}{st':St}(hr:match r,pr with|none,none=>True|some v,some x=>RepV S w m v x|_,_=>False)
  (h:ZrG N T st d t r=some (v,obl,st')):∃y w' m',(Instr.makeMap t pr).run P w=.ok y w'/\Sim N w0.F S m' st' a w'/\Goes w0.F.no S0 S w0.w w'/\RepV S w' m' v y:=by
 unfold ZrG at h;split at h;rotate_left
 ·cases h
 rename_i k vt fZ hq;have hu:=Zrp hT fZ;have aP:v=.one (.mp d)->st'=st.new d (.map k [])->(Instr.makeMap t pr).run P w=.ok (.map (some w.heap.size)) (w.alloc (.map #[] 0))->∃y w' m',(Instr.makeMap t pr).run P w=.ok y w'/\Sim N w0.F S m' st' a w'/\Goes w0.F.no S0 S w0.w w'/\RepV S w' m' v y:=by
  rintro rfl rfl hrun;refine⟨_,_,upd m d (.map (some w.heap.size)),hrun,hs.newBlock d hq (.map #[] 0) (.map (some w.heap.size)) (.map k []) rfl ⟨w.heap.size,#[],0,rfl,ZEG w _,⟨rfl,fun j p e h=>by simp at h,by simp,by simp⟩⟩,hg.alloc hs.base_le _,?_⟩;exact RepC.mp (Zft _ _ _)
 cases r with
 |none=>
  cases pr with
  |some x=>exact hr.elim
  |none=>
   cases h;exact aP rfl rfl (by simp[Instr.makeMap,Sem.run_bind])
 |some v0=>
  cases pr with
  |none=>exact hr.elim
  |some x=>
   simp only at h;split at h
   ·rename_i p hp;cases h;obtain⟨kk,n⟩:=p;obtain rfl:=Zof hr hp;exact aP rfl rfl (by simp[Instr.makeMap,Sem.run_bind,run_underlying hu,asInt,asIntOf])
   ·cases h
theorem Zyn(hT:Zef P T)(hs:Sim N w0.F S m st a w){t:Nat}{x k v:V}{px pk:Value}{ok:Bool}{an:Option Ans}{obl:List Prop}(hx:RepV S w m x px)(hk:RepV S w m k pk)(h:Zlz P T st t x k ok an=some (v,obl))(ho:∀q∈obl,q) :
  ∃y,(Instr.lookup t px pk ok).run P w=.ok y w/\RepV S w m v y:=by
 unfold Zlz at h;split at h;rotate_left
 ·cases h
 rename_i kt vt id kt' l kv v' fz fZ hI hU;split at h;rotate_left
 ·cases h
 rename_i z hz;cases h;have hu:=Zrp hT fZ;obtain⟨rfl,hl⟩:=ZsW hI;obtain⟨b,es,aL,hm,hb,hE⟩:=hs.mapBlock hl;obtain rfl:=V.val_rep hk hU;have hK:ZyM P kt pk (l.map (·.1)):=ho _ (by simp);have hM:ZIA l pk z v:=ho _ (by simp);have dx:px=.map (some b):=by
  cases hx with
  |mp h'=>rw[hm]at h';exact h'.symm
 subst dx;have gI:=hK;rw[<-hE.keysEq]at gI;obtain⟨r,h1,h2⟩:=gI.find w;have eK:(zeroValue vt).run P w=.ok z w:=by
  unfold ZGr at hz;split at hz
  ·rename_i ti bo;obtain⟨i,q1,q2,q3,q4⟩:=hT.info bo;simp[zeroValue,typeInfo,q1,q4,hz]
  ·cases hz
 rcases h2 with⟨rfl,h3⟩|⟨j,e,h3,h4,rfl⟩
 ·refine⟨z,?_,?_⟩
  ·simp only[Instr.lookup,Sem.run_bind,run_underlying hu,Result.andThen_ok,ZlD hb,Sem.run_pure,hK.check,h1,eK];simp
  ·rcases hM with⟨p,hp,bg,bp⟩|⟨_,hM⟩
   ·exfalso;obtain⟨j,hj,e⟩:=List.getElem_of_mem hp;have hj2:j<es.toList.length:=by rw[hE.len];exact hj
    have:=(hE.at_ j p es.toList[j] (by rw[Zpv hj,e]) (Zpv hj2)).1;exact h3 _ (List.getElem_mem hj2) (this.trans bg)
   ·exact hM S w m
 ·refine⟨e.val,?_,?_⟩
  ·simp only[Instr.lookup,Sem.run_bind,run_underlying hu,Result.andThen_ok,ZlD hb,Sem.run_pure,hK.check,h1];simp
  ·have hj:j<l.length:=by
    have:=(List.getElem?_eq_some_iff.1 h3).1;rw[hE.len]at this;exact this
   obtain⟨q1,q2,q3⟩:=hE.at_ j l[j] e (Zpv hj) h3;rcases hM with⟨p,hp,bg,rfl⟩|⟨hM,_⟩
   ·obtain⟨j2,hj2,e2⟩:=List.getElem_of_mem hp;have:j=j2:=Zws hE.keys (a:=pk) (by rw[List.getElem?_map,Zpv hj];simp[<-q1,h4]) (by rw[List.getElem?_map,Zpv hj2,e2];simp[bg]);subst this;rw[e2]at q3;exact q3.keepM
   ·exact absurd (q1.symm.trans h4) (hM _ (List.getElem_mem hj))
theorem RepE.put{l l':List (Value×V)}{es:List MapEntry}{aL:Nat}{k:Value}{v:V}{x:Value}(h:RepE S w l es aL)(hx:RepV S w ZcS v x)(hM:MPut l k v l') :
  (∃j e,es[j]?=some e/\e.key=k/\RepE S w l' (es.set j { e with key:=k,val:=x }) aL)\/((∀e∈es,e.key≠k)/\RepE S w l' (es++[{ key:=k,val:=x,born:=aL }]) (aL+1)):=by
 rcases hM with⟨j,h1,rfl⟩|⟨h1,rfl⟩
 ·left;have hj:j<l.length:=by
   rcases Nat.lt_or_ge j l.length with h|h
   ·exact h
   ·rw[List.getElem?_eq_none h]at h1;cases h1
  have hj2:j<es.length:=by rw[h.len];exact hj
  rw[Zpv hj]at h1;simp only[Option.map_some,Option.some.injEq]at h1;obtain⟨q1,q2,q3⟩:=h.at_ j l[j] es[j] (Zpv hj) (Zpv hj2);refine⟨j,es[j],Zpv hj2,q1.trans h1,⟨by simp[h.len],fun i p e hp he=>?_,?_,?_⟩⟩
  ·rw[List.getElem?_set]at hp he;by_cases hij:j=i
   ·subst hij;rw[if_pos rfl,if_pos hj]at hp;rw[if_pos rfl,if_pos hj2]at he;cases hp;cases he;exact⟨rfl,q2,hx⟩
   ·rw[if_neg hij]at hp he;exact h.at_ i p e hp he
  ·have:(l.set j (k,v)).map (·.1)=l.map (·.1):=by
    rw[List.map_set];apply List.ext_getElem?;intro i;rw[List.getElem?_set];split
    ·rename_i e;subst e;rw[if_pos (by simpa using hj),List.getElem?_map,Zpv hj];simp[h1]
    ·rfl
   rw[this];exact h.keys
  ·have:(es.set j { es[j]with key:=k,val:=x }).map (·.born)=es.map (·.born):=by
    rw[List.map_set];apply List.ext_getElem?;intro i;rw[List.getElem?_set];split
    ·rename_i e;subst e;rw[if_pos (by simpa using hj2),List.getElem?_map,Zpv hj2];rfl
    ·rfl
   rw[this];exact h.born
 ·right;have hk:=h.keysEq;have hne:∀e∈es,e.key≠k:=fun e he hk2=>by
   have:e.key∈es.map (·.key):=List.mem_map.2 ⟨e,he,rfl⟩;rw[hk,List.mem_map]at this;obtain⟨p,hp,bp⟩:=this;exact h1 p hp (bp.trans hk2)
  refine⟨hne,⟨by simp[h.len],fun i p e hp he=>?_,?_,?_⟩⟩
  ·rw[List.getElem?_append]at hp he;have hl:=h.len;split at hp
   ·rename_i hi;rw[if_pos (by omega)]at he;obtain⟨q1,q2,q3⟩:=h.at_ i p e hp he;exact⟨q1,by omega,q3⟩
   ·rename_i hi;rw[if_neg (by omega)]at he;have eB:i-l.length=i-es.length:=by omega
    rw[eB]at hp;rcases Nat.eq_zero_or_pos (i-es.length)with hz|hz
    ·rw[hz]at hp he;cases hp;cases he;exact⟨rfl,Nat.lt_succ_self _,hx⟩
    ·rw[List.getElem?_eq_none (by simp;omega)]at hp;cases hp
  ·rw[List.map_append,List.nodup_append];refine⟨h.keys,by simp,fun a ha b hb=>?_⟩;simp only[List.map_cons,List.map_nil,List.mem_singleton]at hb;subst hb;rw[List.mem_map]at ha;obtain⟨p,hp,rfl⟩:=ha;exact h1 p hp
  ·rw[List.map_append,List.nodup_append];refine⟨h.born,by simp,fun a ha b hb=>?_⟩;simp only[List.map_cons,List.map_nil,List.mem_singleton]at hb;subst hb;rw[List.mem_map]at ha;obtain⟨e,he,rfl⟩:=ha;obtain⟨i,hi,rfl⟩:=List.getElem_of_mem he;have eB:i<l.length:=by rw[<-h.len];exact hi
   have:=(h.at_ i l[i] es[i] (Zpv eB) (Zpv hi)).2.1;omega
theorem RepE.del{l l':List (Value×V)}{es:List MapEntry}{aL:Nat}{k:Value}(h:RepE S w l es aL)(hM:MDel l k l') :
  (∃j e,es[j]?=some e/\e.key=k/\RepE S w l' (es.eraseIdx j) aL)\/((∀e∈es,e.key≠k)/\RepE S w l' es aL):=by
 have hk:=h.keysEq;rcases hM with⟨j,h1,rfl⟩|⟨h1,rfl⟩
 ·left;have hj:j<l.length:=by
   rcases Nat.lt_or_ge j l.length with h|h
   ·exact h
   ·rw[List.getElem?_eq_none h]at h1;cases h1
  have hj2:j<es.length:=by rw[h.len];exact hj
  rw[Zpv hj]at h1;simp only[Option.map_some,Option.some.injEq]at h1;obtain⟨q1,q2,q3⟩:=h.at_ j l[j] es[j] (Zpv hj) (Zpv hj2);refine⟨j,es[j],Zpv hj2,q1.trans h1,⟨by rw[List.length_eraseIdx_of_lt hj,List.length_eraseIdx_of_lt hj2,h.len],fun i p e hp he=>?_,?_,?_⟩⟩
  ·rw[List.getElem?_eraseIdx]at hp he;split at hp
   ·rename_i hi;rw[if_pos hi]at he;exact h.at_ i p e hp he
   ·rename_i hi;rw[if_neg hi]at he;exact h.at_ (i+1) p e hp he
  ·exact((List.eraseIdx_sublist l j).map _).nodup h.keys
  ·exact((List.eraseIdx_sublist es j).map _).nodup h.born
 ·right;refine⟨fun e he hk2=>?_,h⟩;have:e.key∈es.map (·.key):=List.mem_map.2 ⟨e,he,rfl⟩;rw[hk,List.mem_map]at this;obtain⟨p,hp,bp⟩:=this;exact h1 p hp (bp.trans hk2)
theorem Zzx(hT:Zef P T)(hs:Sim N w0.F S m st a w)(hg:Goes w0.F.no S0 S w0.w w){t:Nat}{x k v:V}{px pk pv:Value}{an:Option Ans}{obl:List Prop}{st':St}(hx:RepV S w m x px)(hk:RepV S w m k pk)(hv:RepV S w m v pv)
  (h:ZwQ P T st t x k v an=some (obl,st')) (ho:∀q∈obl,q):∃w',(Instr.mapUpdate t px pk pv).run P w=.ok () w'/\Sim N w0.F S m st' a w'/\Goes w0.F.no S0 S w0.w w':=by
 unfold ZwQ at h;split at h;rotate_left
 ·cases h
 rename_i kt vt id kt' l kv l' fZ hI hU bH;cases h;have hu:=Zrp hT fZ;obtain⟨rfl,hl⟩:=ZsW hI;obtain⟨b,es,aL,hm,hb,hE⟩:=hs.mapBlock hl;obtain rfl:=V.val_rep hk hU;have hK:ZyM P kt pk (l.map (·.1)):=ho _ (by simp);have hM:MPut l pk v l':=ho _ (by simp);have dx:px=.map (some b):=by
  cases hx with
  |mp h'=>rw[hm]at h';exact h'.symm
 subst dx;have gI:=hK;rw[<-hE.keysEq]at gI;obtain⟨r,h1,h2⟩:=gI.find w;have gD:RepV S w ZcS v pv:=hv.anyM ZcS bH;have eM:∀w',Zgw S w w'->RepE S w' l es.toList aL:=fun w' hw=>hE.keep hw fun _ h=>h;rcases h2 with⟨rfl,h3⟩|⟨j,e,h3,h4,rfl⟩
 ·have key:∀w',Zgw S w w'->RepE S w' l' (es.push { key:=pk,val:=pv,born:=aL }).toList (aL+1):=fun w' hw=>by
   rcases(eM w' hw).put (gD.keep hw fun _ h=>h) hM with⟨j,e,q1,q2,_⟩|⟨_,q⟩
   ·exact absurd q2 (h3 e (List.mem_of_getElem? q1))
   ·simpa using q
  obtain⟨s1,s2⟩:=hs.writeMap hg hl hm hb key;refine⟨_,?_,s1,s2⟩;simp only[Instr.mapUpdate,Sem.run_bind,run_underlying hu,Result.andThen_ok,ZlD hb,hK.check,h1];exact ZpR w b es aL _ hb
 ·have hj2:j<es.toList.length:=(List.getElem?_eq_some_iff.1 h3).1;have key:∀w',Zgw S w w'->RepE S w' l' (es.modify (0+j) fun e=>{ e with key:=pk,val:=pv }).toList aL:=fun w' hw=>by
   rcases(eM w' hw).put (gD.keep hw fun _ h=>h) hM with⟨j',e',q1,q2,q3⟩|⟨q,_⟩
   ·have k5:j'=j:=by
     have k1:(es.toList.map (·.key))[j']?=some pk:=by rw[List.getElem?_map,q1];simp[q2]
     have k2:(es.toList.map (·.key))[j]?=some pk:=by rw[List.getElem?_map,h3];simp[h4]
     exact Zws (by rw[hE.keysEq];exact hE.keys) k1 k2
    subst k5;have e3:(es.modify (0+j') fun e=>{ e with key:=pk,val:=pv }).toList=es.toList.set j' { e' with key:=pk,val:=pv }:=by
     rw[Array.toList_modify,Nat.zero_add];apply List.ext_getElem?;intro i;rw[List.getElem?_modify,List.getElem?_set];by_cases hij:j'=i
     ·subst hij;rw[if_pos rfl,if_pos (by simpa using hj2)];simp[q1]
     ·simp[hij]
    rw[e3];exact q3
   ·exact absurd h4 (q e (List.mem_of_getElem? h3))
  obtain⟨s1,s2⟩:=hs.writeMap hg hl hm hb key;refine⟨_,?_,s1,s2⟩;have k6:((es[0+j]?.map (·.key)).getD pk)=pk:=by
   have:es[0+j]?=some e:=by rw[Nat.zero_add,<-Array.getElem?_toList];exact h3
   rw[this];simp[h4]
  simp only[Instr.mapUpdate,Sem.run_bind,run_underlying hu,Result.andThen_ok,ZlD hb,hK.check,h1,k6,Instr.keyThatStays,hK.same,if_true,Sem.run_pure];exact ZpR w b es aL _ hb
theorem Zyl(hT:Zef P T)(hs:Sim N w0.F S m st a w)(hg:Goes w0.F.no S0 S w0.w w){t ty:Nat}{x k:V}{px pk:Value}{an:Option Ans}{obl:List Prop}{st':St}(hx:RepV S w m x px)(hk:RepV S w m k pk)
  (h:Zte P T st t x k an=some (obl,st')) (ho:∀q∈obl,q) (t2:TypeId):∃w',(Builtin.delete_ #[t,t2] ty #[px,pk]).run P w=.ok (.tuple #[]) w'/\Sim N w0.F S m st' a w'/\Goes w0.F.no S0 S w0.w w':=by
 unfold Zte at h;split at h;rotate_left
 ·cases h
 rename_i kt vt id kt' l kv l' fZ hI hU;cases h;have hu:=Zrp hT fZ;obtain⟨rfl,hl⟩:=ZsW hI;obtain⟨b,es,aL,hm,hb,hE⟩:=hs.mapBlock hl;obtain rfl:=V.val_rep hk hU;have hK:ZyM P kt pk (l.map (·.1)):=ho _ (by simp);have hM:MDel l pk l':=ho _ (by simp);have dx:px=.map (some b):=by
  cases hx with
  |mp h'=>rw[hm]at h';exact h'.symm
 subst dx;have gI:=hK;rw[<-hE.keysEq]at gI;obtain⟨r,h1,h2⟩:=gI.find w;have eM:∀w',Zgw S w w'->RepE S w' l es.toList aL:=fun w' hw=>hE.keep hw fun _ h=>h;rcases h2 with⟨rfl,h3⟩|⟨j,e,h3,h4,rfl⟩
 ·have key:∀w',Zgw S w w'->RepE S w' l' es.toList aL:=fun w' hw=>by
   rcases(eM w' hw).del hM with⟨j,e,q1,q2,_⟩|⟨_,q⟩
   ·exact absurd q2 (h3 e (List.mem_of_getElem? q1))
   ·exact q
  obtain⟨s1,s2⟩:=hs.writeMap hg hl hm hb key;refine⟨_,?_,s1,s2⟩;simp[Builtin.delete_,Sem.run_bind,run_underlying hu,ZlD hb,hK.check,h1,ZpR w b es aL _ hb]
 ·have hj2:j<es.toList.length:=(List.getElem?_eq_some_iff.1 h3).1;have key:∀w',Zgw S w w'->RepE S w' l' (es.eraseIdxIfInBounds (0+j)).toList aL:=fun w' hw=>by
   rcases(eM w' hw).del hM with⟨j',e',q1,q2,q3⟩|⟨q,_⟩
   ·have k5:j'=j:=by
     have k1:(es.toList.map (·.key))[j']?=some pk:=by rw[List.getElem?_map,q1];simp[q2]
     have k2:(es.toList.map (·.key))[j]?=some pk:=by rw[List.getElem?_map,h3];simp[h4]
     exact Zws (by rw[hE.keysEq];exact hE.keys) k1 k2
    subst k5;have hj3:0+j'<es.size:=by simpa using hj2
    have e3:(es.eraseIdxIfInBounds (0+j')).toList=es.toList.eraseIdx j':=by
     unfold Array.eraseIdxIfInBounds;rw[dif_pos hj3,Array.toList_eraseIdx,Nat.zero_add]
    rw[e3];exact q3
   ·exact absurd h4 (q e (List.mem_of_getElem? h3))
  obtain⟨s1,s2⟩:=hs.writeMap hg hl hm hb key;refine⟨_,?_,s1,s2⟩;simp only[Nat.zero_add]at s1 ⊢;simp[Builtin.delete_,Sem.run_bind,run_underlying hu,ZlD hb,hK.check,h1,ZpR w b es aL _ hb]
end
end Go.Proofs.YtdjfoojllbfcgaaGreat
