import Derived.Test.YtdjfoojllbfcgaaGreatJAmJ
namespace Go.Proofs.YtdjfoojllbfcgaaGreat
open Go.RowKit
set_option linter.unusedSimpArgs false
set_option linter.unusedVariables false
def ZDb:List C->Option (List Value)
 | []=>some []
 | .lit x :: l=>match ZDb l with
  |some xs=>some (x :: xs)
  |none=>none
 |_=>none
def V.val:V->Option Value
 | .one (.lit x)=>some x
 | .agg l=>match ZDb l with
  |some xs=>some (.agg xs.toArray)
  |none=>none
 |_=>none
theorem Zxq{S:Nat->Prop}{w:World}{m:Mp}:∀{l:List C}{ys xs:List Value},RepL S w m l ys->ZDb l=some xs->ys=xs
 | [],ys,xs,h,hl=>by
  cases hl
  exact List.eq_nil_of_length_eq_zero h.1
 |c :: l,ys,xs,h,hl=>by
  cases c<;>simp only[ZDb]at hl<;>try (cases hl;done)
  rename_i x
  split at hl
  .rename_i iY fO
   cases hl
   obtain⟨e1,e2,e3⟩:=h
   cases ys with
   |nil=>simp at e1
   |cons y ys=>
    have ht:=Zxq (ys:=ys) ⟨by simpa using e1,fun j c hj=>by have:=e2 (j+1) c (by simpa using hj);simpa using this,fun y hy=>e3 y (by simp[hy])⟩ fO
    obtain⟨z,h3,h4⟩:=e2 0 _ rfl
    cases h3
    cases h4
    rw[ht]
  .cases hl
theorem V.val_rep{S:Nat->Prop}{w:World}{m:Mp}{v:V}{x y:Value}(h:RepV S w m v x)(hv:v.val=some y):x=y:=by
 unfold V.val at hv;split at hv
 .cases hv;cases h;rfl
 .split at hv
  .rename_i l xs fO;cases hv;obtain⟨ys,rfl,h1⟩:=h;rw[<-Zxq h1 fO]
  .cases hv
 .cases hv
structure ZBc (P:Program) (kt:TypeId) (k:Value) (ks:List Value):Prop where
 check:∀(e:Bool)(w:World),(Instr.checkKey e 10000 kt k).run P w=.ok () w
 slow:∃d,P.underlying kt=some d/\∀k'∈ks,Instr.sameNow d k k'=none\/∃b,Instr.sameNow d k k'=some b/\(b=true↔k=k')
 eql:∀k'∈ks,∀w,∃b:Bool,(Op.equal kt k k').run P w=.ok b w/\(b=true↔k=k')
 same:Instr.sameBits 10000 k k=true
def ZFe(k:Value)(es:List MapEntry)(i:Nat)(r:Option (Nat×Value)):Prop:=(r=none/\∀e∈es,e.key≠k)\/∃j e,es[j]?=some e/\e.key=k/\r=some (i+j,e.val)
theorem ZFe.cons{k:Value}{e:MapEntry}{es:List MapEntry}{i:Nat}{r:Option (Nat×Value)}(he:e.key≠k)(h:ZFe k es (i+1) r):ZFe k (e :: es) i r:=by
 rcases h with⟨h1,h2⟩|⟨j,e',h1,h2,h3⟩
 .exact .inl ⟨h1,fun x hx=>by rcases List.mem_cons.1 hx with rfl|hx;exact he;exact h2 x hx⟩
 .exact .inr ⟨j+1,e',by simpa using h1,h2,by rw[h3];congr 2;omega⟩
theorem ZpY{P:Program}{kt:TypeId}{k:Value}(w:World):∀(es:List MapEntry)(i:Nat),(∀e∈es,∃b:Bool,(Op.equal kt k e.key).run P w=.ok b w/\(b=true↔k=e.key))->∃r,(Instr.findAsking kt k es i).run P w=.ok r w/\ZFe k es i r
 | [],i,h=>⟨none,by simp[Instr.findAsking],.inl ⟨rfl,by simp⟩⟩
 |e :: es,i,h=>by
  obtain⟨b,h1,h2⟩:=h e List.mem_cons_self
  simp only[Instr.findAsking,Sem.run_bind,h1,Result.andThen_ok]
  cases b with
  |true=>exact⟨some (i,e.val),by simp,.inr ⟨0,e,rfl,(h2.1 rfl).symm,rfl⟩⟩
  |false=>
   obtain⟨r,h3,h4⟩:=ZpY (P:=P) (kt:=kt) (k:=k) w es (i+1) fun e he=>h e (List.mem_cons_of_mem _ he)
   exact⟨r,by simpa using h3,h4.cons fun hk=>by have:=h2.2 hk.symm;cases this⟩
theorem ZDm{d:TypeDesc}{k:Value}:∀(es:List MapEntry)(i:Nat),(∀e∈es,Instr.sameNow d k e.key=none\/∃b,Instr.sameNow d k e.key=some b/\(b=true↔k=e.key))->Instr.findNow d k es i=none\/∃r,Instr.findNow d k es i=some r/\ZFe k es i r
 | [],i,h=>.inr ⟨none,rfl,.inl ⟨rfl,by simp⟩⟩
 |e :: es,i,h=>by
  rcases h e List.mem_cons_self with h1|⟨b,h1,h2⟩
  .left;simp[Instr.findNow,h1]
  .cases b with
   |true=>exact .inr ⟨some (i,e.val),by simp[Instr.findNow,h1],.inr ⟨0,e,rfl,(h2.1 rfl).symm,rfl⟩⟩
   |false=>
    rcases ZDm (d:=d) (k:=k) es (i+1) fun e he=>h e (List.mem_cons_of_mem _ he)with h3|⟨r,h3,h4⟩
    .left;simp[Instr.findNow,h1,h3]
    .exact .inr ⟨r,by simp[Instr.findNow,h1,h3],h4.cons fun hk=>by have:=h2.2 hk.symm;cases this⟩
theorem ZBc.find{P:Program}{kt:TypeId}{k:Value}{es:List MapEntry}(h:ZBc P kt k (es.map (·.key)))(w:World):∃r,(Instr.findKey kt k es).run P w=.ok r w/\ZFe k es 0 r:=by
 obtain⟨d,hd,hs⟩:=h.slow;have he:∀e∈es,e.key∈es.map (·.key):=fun e he=>List.mem_map.2 ⟨e,he,rfl⟩;unfold Instr.findKey;simp only[Sem.run_bind,run_underlying hd,Result.andThen_ok];rcases ZDm (d:=d) (k:=k) es 0 fun e h=>hs _ (he e h)with h1|⟨r,h1,h2⟩
 .rw[h1];exact ZpY w es 0 fun e hm=>h.eql _ (he e hm) w
 .rw[h1];exact⟨r,by simp,h2⟩
theorem RepE.keysEq{S:Nat->Prop}{w:World}{l:List (Value×V)}{es:List MapEntry}{c:Nat}(h:RepE S w l es c):es.map (·.key)=l.map (·.1):=by
 apply List.ext_getElem
 .simp[h.len]
 .intro i h1 h2;have i1:i<es.length:=by simpa using h1
  have i2:i<l.length:=by simpa using h2
  simp only[List.getElem_map];exact(h.at_ i l[i] es[i] (by simp[i2]) (by simp[i1])).1
def ZLt(l:List (Value×V))(k z:Value)(v:V):Prop:=(∃p∈l,p.1=k/\p.2=v)\/((∀p∈l,p.1≠k)/\∀S w m,RepV S w m v z)
def MPut(l:List (Value×V))(k:Value)(v:V)(l':List (Value×V)):Prop:=(∃j,(l[j]?).map (·.1)=some k/\l'=l.set j (k,v))\/((∀p∈l,p.1≠k)/\l'=l++[(k,v)])
def MDel(l:List (Value×V))(k:Value)(l':List (Value×V)):Prop:=(∃j,(l[j]?).map (·.1)=some k/\l'=l.eraseIdx j)\/((∀p∈l,p.1≠k)/\l'=l)
theorem Zqi{α:Type}{l:List α}{j:Nat}(h:j<l.length):l[j]?=some l[j]:=by simp[h]
theorem Zyq{α:Type}{l:List α}(h:l.Nodup){i j:Nat}{a:α}(hi:l[i]?=some a)(hj:l[j]?=some a):i=j:=by
 obtain⟨i1,e1⟩:=List.getElem?_eq_some_iff.1 hi;exact(List.getElem?_inj i1 h).1 (hi.trans hj.symm)
def ZEy(T:Tab)(t:TypeId):Option (TypeId×TypeId):=match ZeI T t with
 |some ti=>match ti.k with
  | .map k v=>some (k,v)
  |_=>none
 |none=>none
theorem Zsr{P:Program}{T:Tab}(hT:Zee P T){t k v:TypeId}(h:ZEy T t=some (k,v)):P.underlying t=some (.map k v):=by
 unfold ZEy at h;split at h;rotate_left
 .cases h
 rename_i ti bd;obtain⟨d,hu,hf⟩:=hT.under bd;split at h;rotate_left
 .cases h
 rename_i k' v' hk;cases h;rw[hk]at hf;cases d<;>simp only[TK.fits]at hf;obtain⟨rfl,rfl⟩:=hf;exact hu
def ZzV(st:St)(v:V):Option (Nat×TypeId×List (Value×V)):=match v with
 | .one (.mp id)=>match hget st.heap id with
  |some (.map kt l)=>some (id,kt,l)
  |_=>none
 |_=>none
theorem Zus{st:St}{v:V}{id kt:Nat}{l:List (Value×V)}(h:ZzV st v=some (id,kt,l)):v=.one (.mp id)/\hget st.heap id=some (.map kt l):=by
 unfold ZzV at h;split at h
 .split at h
  .cases h;exact⟨rfl,by assumption⟩
  .cases h
 .cases h
def ZsR(N:Nat)(T:Tab)(st:St)(d t:Nat)(r:Option V):Option (V×List Prop×St):=match ZEy T t,ZdI N d st with
 |some (k,_),true=>match r with
  |none=>some (.one (.mp d),[],st.new d (.map k []))
  |some v=>match intV v with
   |some _=>some (.one (.mp d),[],st.new d (.map k []))
   |none=>none
 |_,_=>none
def ZJc(T:Tab)(t:TypeId):Option Value:=match ZeI T t with
 |some ti=>ti.zero
 |none=>none
def Zmd(P:Program)(T:Tab)(st:St)(t:Nat)(x k:V)(ok:Bool)(an:Option Ans):Option (V×List Prop):=match ok,ZEy T t,ZzV st x,k.val,an with
 |false,some (kt,vt),some (_,_,l),some kv,some (.r v _)=>match ZJc T vt with
  |some z=>some (v,[ZBc P kt kv (l.map (·.1)),ZLt l kv z v])
  |none=>none
 |_,_,_,_,_=>none
def ZyJ(P:Program)(T:Tab)(st:St)(t:Nat)(x k v:V)(an:Option Ans):Option (List Prop×St):=match ZEy T t,ZzV st x,k.val,v.pure,an with
 |some (kt,_),some (id,kt',l),some kv,true,some (.m l')=>some ([ZBc P kt kv (l.map (·.1)),MPut l kv v l'],{ st with heap:=hset st.heap id (.map kt' l') })
 |_,_,_,_,_=>none
def Zuz(P:Program)(T:Tab)(st:St)(t:Nat)(x k:V)(an:Option Ans):Option (List Prop×St):=match ZEy T t,ZzV st x,k.val,an with
 |some (kt,_),some (id,kt',l),some kv,some (.m l')=>some ([ZBc P kt kv (l.map (·.1)),MDel l kv l'],{ st with heap:=hset st.heap id (.map kt' l') })
 |_,_,_,_=>none
theorem ZHo(w:World)(o:Obj):(w.alloc o).heap[w.heap.size]?=some o:=by
 show (w.heap.push o)[w.heap.size]?=some o;simp
def Zrv(w:World)(b:Nat)(o:Obj):World:={ w with heap:=w.heap.setIfInBounds b o }
theorem ZqP{P:Program}(w:World)(b:Nat)(es:Array MapEntry)(c:Nat)(o:Obj)(h:w.heap[b]?=some (.map es c)):(Go.setObj b o).run P w=.ok () (Zrv w b o):=by
 simp[Go.setObj,Sem.run,h,Zrv]
theorem Zmh{P:Program}{w:World}{b:Nat}{es:Array MapEntry}{c:Nat}(h:w.heap[b]?=some (.map es c)):(Go.getObj b).run P w=.ok (.map es c) w:=by simp[Go.getObj,Sem.run,h]
section
variable {P:Program} {T:Tab} {N:Nat} {S0:Nat->Prop} {w0:ZaW} {st:St} {a:Act} {w:World} {S:Nat->Prop} {m:Mp}
theorem Sim.mapBlock(hs:Sim N w0.F S m st a w){id kt:Nat}{l:List (Value×V)}(hl:hget st.heap id=some (.map kt l)):∃b es aA,m id=.map (some b)/\w.heap[b]?=some (.map es aA)/\RepE S w l es.toList aA:=hs.heap id _ hl
theorem Sim.writeMap(hs:Sim N w0.F S m st a w)(hg:Goes w0.F.no S0 S w0.w w){id kt:Nat}{l l':List (Value×V)}(hl:hget st.heap id=some (.map kt l)){b aA bX:Nat}{es iZ:Array MapEntry}(hm:m id=.map (some b))(hb:w.heap[b]?=some (.map es aA))
  (h:∀w',ZgA S w w'->RepE S w' l' iZ.toList bX):Sim N w0.F S m { st with heap:=hset st.heap id (.map kt l') } a (Zrv w b (.map iZ bX))/\Goes w0.F.no S0 S w0.w (Zrv w b (.map iZ bX)):=by
 have hlt:b<w.heap.size:=(hs.own id _ hl b (by rw[hm];rfl)).2.2;have hS:¬S b:=(hs.own id _ hl b (by rw[hm];rfl)).1;have aT:¬w0.F.no b:=(hs.own id _ hl b (by rw[hm];rfl)).2.1;have ic:∀k,k≠b->(Zrv w b (.map iZ bX)).heap[k]?=w.heap[k]?:=fun k hk=>by simp only[Zrv];rw[Array.getElem?_setIfInBounds_ne (Ne.symm hk)]
 have cN:ZgA S w (Zrv w b (.map iZ bX)):=fun k hk=>ic k fun e=>hS (e ▸ hk);refine⟨hs.write (.map kt l') hl (by simp[Zrv]) (fun k hk hne=>ic k fun e=>hne (by rw[hm,e];rfl)) ?_,hg.step ⟨rfl,rfl,rfl,by simp[Zrv],fun k hk=>ic k fun e=>aT (e ▸ hk),Nat.le_refl _⟩ (fun _ h=>h) fun _ h=>.inl h⟩;rw[hm];exact⟨b,iZ,bX,rfl,by simp[Zrv,hlt],h _ cN⟩
theorem ZyK(hT:Zee P T)(hs:Sim N w0.F S m st a w)(hg:Goes w0.F.no S0 S w0.w w){d t:Nat}{r:Option V}{pr:Option Value}{v:V}{obl:List Prop}{st':St}(hr:match r,pr with|none,none=>True|some v,some x=>RepV S w m v x|_,_=>False)
  (h:ZsR N T st d t r=some (v,obl,st')):∃y w' m',(Instr.makeMap t pr).run P w=.ok y w'/\Sim N w0.F S m' st' a w'/\Goes w0.F.no S0 S w0.w w'/\RepV S w' m' v y:=by
 unfold ZsR at h;split at h;rotate_left
 .cases h
 rename_i k vt f8 hq;have hu:=Zsr hT f8;have aH:v=.one (.mp d)->st'=st.new d (.map k [])->(Instr.makeMap t pr).run P w=.ok (.map (some w.heap.size)) (w.alloc (.map #[] 0))->∃y w' m',(Instr.makeMap t pr).run P w=.ok y w'/\Sim N w0.F S m' st' a w'/\Goes w0.F.no S0 S w0.w w'/\RepV S w' m' v y:=by
  rintro rfl rfl hrun;refine⟨_,_,upd m d (.map (some w.heap.size)),hrun,hs.newBlock d hq (.map #[] 0) (.map (some w.heap.size)) (.map k []) rfl ⟨w.heap.size,#[],0,rfl,ZHo w _,⟨rfl,fun j p e h=>by simp at h,by simp,by simp⟩⟩,hg.alloc hs.base_le _,?_⟩;exact RepC.mp (ZfE _ _ _)
 cases r with
 |none=>
  cases pr with
  |some x=>exact hr.elim
  |none=>
   cases h;exact aH rfl rfl (by simp[Instr.makeMap,Sem.run_bind])
 |some v0=>
  cases pr with
  |none=>exact hr.elim
  |some x=>
   simp only at h;split at h
   .rename_i p hp;cases h;obtain⟨kk,n⟩:=p;obtain rfl:=ZoS hr hp;exact aH rfl rfl (by simp[Instr.makeMap,Sem.run_bind,run_underlying hu,asInt,asIntOf])
   .cases h
theorem ZAx(hT:Zee P T)(hs:Sim N w0.F S m st a w){t:Nat}{x k v:V}{px pk:Value}{ok:Bool}{an:Option Ans}{obl:List Prop}(hx:RepV S w m x px)(hk:RepV S w m k pk)(h:Zmd P T st t x k ok an=some (v,obl))(ho:∀q∈obl,q) :
  ∃y,(Instr.lookup t px pk ok).run P w=.ok y w/\RepV S w m v y:=by
 unfold Zmd at h;split at h;rotate_left
 .cases h
 rename_i kt vt id kt' l kv v' fz f8 ie ig;split at h;rotate_left
 .cases h
 rename_i z hz;cases h;have hu:=Zsr hT f8;obtain⟨rfl,hl⟩:=Zus ie;obtain⟨b,es,aA,hm,hb,hE⟩:=hs.mapBlock hl;obtain rfl:=V.val_rep hk ig;have hK:ZBc P kt pk (l.map (·.1)):=ho _ (by simp);have hM:ZLt l pk z v:=ho _ (by simp);have dC:px=.map (some b):=by
  cases hx with
  |mp h'=>rw[hm]at h';exact h'.symm
 subst dC;have gJ:=hK;rw[<-hE.keysEq]at gJ;obtain⟨r,h1,h2⟩:=gJ.find w;have eU:(zeroValue vt).run P w=.ok z w:=by
  unfold ZJc at hz;split at hz
  .rename_i ti bd;obtain⟨i,q1,q2,q3,q4⟩:=hT.info bd;simp[zeroValue,typeInfo,q1,q4,hz]
  .cases hz
 rcases h2 with⟨rfl,h3⟩|⟨j,e,h3,h4,rfl⟩
 .refine⟨z,?_,?_⟩
  .simp only[Instr.lookup,Sem.run_bind,run_underlying hu,Result.andThen_ok,Zmh hb,Sem.run_pure,hK.check,h1,eU];simp
  .rcases hM with⟨p,hp,a6,a7⟩|⟨_,hM⟩
   .exfalso;obtain⟨j,hj,e⟩:=List.getElem_of_mem hp;have hj2:j<es.toList.length:=by rw[hE.len];exact hj
    have:=(hE.at_ j p es.toList[j] (by rw[Zqi hj,e]) (Zqi hj2)).1;exact h3 _ (List.getElem_mem hj2) (this.trans a6)
   .exact hM S w m
 .refine⟨e.val,?_,?_⟩
  .simp only[Instr.lookup,Sem.run_bind,run_underlying hu,Result.andThen_ok,Zmh hb,Sem.run_pure,hK.check,h1];simp
  .have hj:j<l.length:=by
    have:=(List.getElem?_eq_some_iff.1 h3).1;rw[hE.len]at this;exact this
   obtain⟨q1,q2,q3⟩:=hE.at_ j l[j] e (Zqi hj) h3;rcases hM with⟨p,hp,a6,rfl⟩|⟨hM,_⟩
   .obtain⟨j2,hj2,e2⟩:=List.getElem_of_mem hp;have:j=j2:=Zyq hE.keys (a:=pk) (by rw[List.getElem?_map,Zqi hj];simp[<-q1,h4]) (by rw[List.getElem?_map,Zqi hj2,e2];simp[a6]);subst this;rw[e2]at q3;exact q3.keepM
   .exact absurd (q1.symm.trans h4) (hM _ (List.getElem_mem hj))
theorem RepE.put{l l':List (Value×V)}{es:List MapEntry}{aA:Nat}{k:Value}{v:V}{x:Value}(h:RepE S w l es aA)(hx:RepV S w ZcO v x)(hM:MPut l k v l') :
  (∃j e,es[j]?=some e/\e.key=k/\RepE S w l' (es.set j { e with key:=k,val:=x }) aA)\/((∀e∈es,e.key≠k)/\RepE S w l' (es++[{ key:=k,val:=x,born:=aA }]) (aA+1)):=by
 rcases hM with⟨j,h1,rfl⟩|⟨h1,rfl⟩
 .left;have hj:j<l.length:=by
   rcases Nat.lt_or_ge j l.length with h|h
   .exact h
   .rw[List.getElem?_eq_none h]at h1;cases h1
  have hj2:j<es.length:=by rw[h.len];exact hj
  rw[Zqi hj]at h1;simp only[Option.map_some,Option.some.injEq]at h1;obtain⟨q1,q2,q3⟩:=h.at_ j l[j] es[j] (Zqi hj) (Zqi hj2);refine⟨j,es[j],Zqi hj2,q1.trans h1,⟨by simp[h.len],fun i p e hp he=>?_,?_,?_⟩⟩
  .rw[List.getElem?_set]at hp he;by_cases hij:j=i
   .subst hij;rw[if_pos rfl,if_pos hj]at hp;rw[if_pos rfl,if_pos hj2]at he;cases hp;cases he;exact⟨rfl,q2,hx⟩
   .rw[if_neg hij]at hp he;exact h.at_ i p e hp he
  .have:(l.set j (k,v)).map (·.1)=l.map (·.1):=by
    rw[List.map_set];apply List.ext_getElem?;intro i;rw[List.getElem?_set];split
    .rename_i e;subst e;rw[if_pos (by simpa using hj),List.getElem?_map,Zqi hj];simp[h1]
    .rfl
   rw[this];exact h.keys
  .have:(es.set j { es[j]with key:=k,val:=x }).map (·.born)=es.map (·.born):=by
    rw[List.map_set];apply List.ext_getElem?;intro i;rw[List.getElem?_set];split
    .rename_i e;subst e;rw[if_pos (by simpa using hj2),List.getElem?_map,Zqi hj2];rfl
    .rfl
   rw[this];exact h.born
 .right;have hk:=h.keysEq;have hne:∀e∈es,e.key≠k:=fun e he hk2=>by
   have:e.key∈es.map (·.key):=List.mem_map.2 ⟨e,he,rfl⟩;rw[hk,List.mem_map]at this;obtain⟨p,hp,a7⟩:=this;exact h1 p hp (a7.trans hk2)
  refine⟨hne,⟨by simp[h.len],fun i p e hp he=>?_,?_,?_⟩⟩
  .rw[List.getElem?_append]at hp he;have hl:=h.len;split at hp
   .rename_i hi;rw[if_pos (by omega)]at he;obtain⟨q1,q2,q3⟩:=h.at_ i p e hp he;exact⟨q1,by omega,q3⟩
   .rename_i hi;rw[if_neg (by omega)]at he;have eL:i-l.length=i-es.length:=by omega
    rw[eL]at hp;rcases Nat.eq_zero_or_pos (i-es.length)with hz|hz
    .rw[hz]at hp he;cases hp;cases he;exact⟨rfl,Nat.lt_succ_self _,hx⟩
    .rw[List.getElem?_eq_none (by simp;omega)]at hp;cases hp
  .rw[List.map_append,List.nodup_append];refine⟨h.keys,by simp,fun a ha b hb=>?_⟩;simp only[List.map_cons,List.map_nil,List.mem_singleton]at hb;subst hb;rw[List.mem_map]at ha;obtain⟨p,hp,rfl⟩:=ha;exact h1 p hp
  .rw[List.map_append,List.nodup_append];refine⟨h.born,by simp,fun a ha b hb=>?_⟩;simp only[List.map_cons,List.map_nil,List.mem_singleton]at hb;subst hb;rw[List.mem_map]at ha;obtain⟨e,he,rfl⟩:=ha;obtain⟨i,hi,rfl⟩:=List.getElem_of_mem he;have eL:i<l.length:=by rw[<-h.len];exact hi
   have:=(h.at_ i l[i] es[i] (Zqi eL) (Zqi hi)).2.1;omega
theorem RepE.del{l l':List (Value×V)}{es:List MapEntry}{aA:Nat}{k:Value}(h:RepE S w l es aA)(hM:MDel l k l') :
  (∃j e,es[j]?=some e/\e.key=k/\RepE S w l' (es.eraseIdx j) aA)\/((∀e∈es,e.key≠k)/\RepE S w l' es aA):=by
 have hk:=h.keysEq;rcases hM with⟨j,h1,rfl⟩|⟨h1,rfl⟩
 .left;have hj:j<l.length:=by
   rcases Nat.lt_or_ge j l.length with h|h
   .exact h
   .rw[List.getElem?_eq_none h]at h1;cases h1
  have hj2:j<es.length:=by rw[h.len];exact hj
  rw[Zqi hj]at h1;simp only[Option.map_some,Option.some.injEq]at h1;obtain⟨q1,q2,q3⟩:=h.at_ j l[j] es[j] (Zqi hj) (Zqi hj2);refine⟨j,es[j],Zqi hj2,q1.trans h1,⟨by rw[List.length_eraseIdx_of_lt hj,List.length_eraseIdx_of_lt hj2,h.len],fun i p e hp he=>?_,?_,?_⟩⟩
  .rw[List.getElem?_eraseIdx]at hp he;split at hp
   .rename_i hi;rw[if_pos hi]at he;exact h.at_ i p e hp he
   .rename_i hi;rw[if_neg hi]at he;exact h.at_ (i+1) p e hp he
  .exact((List.eraseIdx_sublist l j).map _).nodup h.keys
  .exact((List.eraseIdx_sublist es j).map _).nodup h.born
 .right;refine⟨fun e he hk2=>?_,h⟩;have:e.key∈es.map (·.key):=List.mem_map.2 ⟨e,he,rfl⟩;rw[hk,List.mem_map]at this;obtain⟨p,hp,a7⟩:=this;exact h1 p hp (a7.trans hk2)
theorem ZBQ(hT:Zee P T)(hs:Sim N w0.F S m st a w)(hg:Goes w0.F.no S0 S w0.w w){t:Nat}{x k v:V}{px pk pv:Value}{an:Option Ans}{obl:List Prop}{st':St}(hx:RepV S w m x px)(hk:RepV S w m k pk)(hv:RepV S w m v pv)
  (h:ZyJ P T st t x k v an=some (obl,st')) (ho:∀q∈obl,q):∃w',(Instr.mapUpdate t px pk pv).run P w=.ok () w'/\Sim N w0.F S m st' a w'/\Goes w0.F.no S0 S w0.w w':=by
 unfold ZyJ at h;split at h;rotate_left
 .cases h
 rename_i kt vt id kt' l kv l' f8 ie ig bv;cases h;have hu:=Zsr hT f8;obtain⟨rfl,hl⟩:=Zus ie;obtain⟨b,es,aA,hm,hb,hE⟩:=hs.mapBlock hl;obtain rfl:=V.val_rep hk ig;have hK:ZBc P kt pk (l.map (·.1)):=ho _ (by simp);have hM:MPut l pk v l':=ho _ (by simp);have dC:px=.map (some b):=by
  cases hx with
  |mp h'=>rw[hm]at h';exact h'.symm
 subst dC;have gJ:=hK;rw[<-hE.keysEq]at gJ;obtain⟨r,h1,h2⟩:=gJ.find w;have gF:RepV S w ZcO v pv:=hv.anyM ZcO bv;have eX:∀w',ZgA S w w'->RepE S w' l es.toList aA:=fun w' hw=>hE.keep hw fun _ h=>h;rcases h2 with⟨rfl,h3⟩|⟨j,e,h3,h4,rfl⟩
 .have key:∀w',ZgA S w w'->RepE S w' l' (es.push { key:=pk,val:=pv,born:=aA }).toList (aA+1):=fun w' hw=>by
   rcases(eX w' hw).put (gF.keep hw fun _ h=>h) hM with⟨j,e,q1,q2,_⟩|⟨_,q⟩
   .exact absurd q2 (h3 e (List.mem_of_getElem? q1))
   .simpa using q
  obtain⟨s1,s2⟩:=hs.writeMap hg hl hm hb key;refine⟨_,?_,s1,s2⟩;simp only[Instr.mapUpdate,Sem.run_bind,run_underlying hu,Result.andThen_ok,Zmh hb,hK.check,h1];exact ZqP w b es aA _ hb
 .have hj2:j<es.toList.length:=(List.getElem?_eq_some_iff.1 h3).1;have key:∀w',ZgA S w w'->RepE S w' l' (es.modify (0+j) fun e=>{ e with key:=pk,val:=pv }).toList aA:=fun w' hw=>by
   rcases(eX w' hw).put (gF.keep hw fun _ h=>h) hM with⟨j',e',q1,q2,q3⟩|⟨q,_⟩
   .have lg:j'=j:=by
     have k1:(es.toList.map (·.key))[j']?=some pk:=by rw[List.getElem?_map,q1];simp[q2]
     have k2:(es.toList.map (·.key))[j]?=some pk:=by rw[List.getElem?_map,h3];simp[h4]
     exact Zyq (by rw[hE.keysEq];exact hE.keys) k1 k2
    subst lg;have e3:(es.modify (0+j') fun e=>{ e with key:=pk,val:=pv }).toList=es.toList.set j' { e' with key:=pk,val:=pv }:=by
     rw[Array.toList_modify,Nat.zero_add];apply List.ext_getElem?;intro i;rw[List.getElem?_modify,List.getElem?_set];by_cases hij:j'=i
     .subst hij;rw[if_pos rfl,if_pos (by simpa using hj2)];simp[q1]
     .simp[hij]
    rw[e3];exact q3
   .exact absurd h4 (q e (List.mem_of_getElem? h3))
  obtain⟨s1,s2⟩:=hs.writeMap hg hl hm hb key;refine⟨_,?_,s1,s2⟩;have lh:((es[0+j]?.map (·.key)).getD pk)=pk:=by
   have:es[0+j]?=some e:=by rw[Nat.zero_add,<-Array.getElem?_toList];exact h3
   rw[this];simp[h4]
  simp only[Instr.mapUpdate,Sem.run_bind,run_underlying hu,Result.andThen_ok,Zmh hb,hK.check,h1,lh,Instr.keyThatStays,hK.same,if_true,Sem.run_pure];exact ZqP w b es aA _ hb
theorem ZAv(hT:Zee P T)(hs:Sim N w0.F S m st a w)(hg:Goes w0.F.no S0 S w0.w w){t ty:Nat}{x k:V}{px pk:Value}{an:Option Ans}{obl:List Prop}{st':St}(hx:RepV S w m x px)(hk:RepV S w m k pk)
  (h:Zuz P T st t x k an=some (obl,st')) (ho:∀q∈obl,q) (t2:TypeId):∃w',(Builtin.delete_ #[t,t2] ty #[px,pk]).run P w=.ok (.tuple #[]) w'/\Sim N w0.F S m st' a w'/\Goes w0.F.no S0 S w0.w w':=by
 unfold Zuz at h;split at h;rotate_left
 .cases h
 rename_i kt vt id kt' l kv l' f8 ie ig;cases h;have hu:=Zsr hT f8;obtain⟨rfl,hl⟩:=Zus ie;obtain⟨b,es,aA,hm,hb,hE⟩:=hs.mapBlock hl;obtain rfl:=V.val_rep hk ig;have hK:ZBc P kt pk (l.map (·.1)):=ho _ (by simp);have hM:MDel l pk l':=ho _ (by simp);have dC:px=.map (some b):=by
  cases hx with
  |mp h'=>rw[hm]at h';exact h'.symm
 subst dC;have gJ:=hK;rw[<-hE.keysEq]at gJ;obtain⟨r,h1,h2⟩:=gJ.find w;have eX:∀w',ZgA S w w'->RepE S w' l es.toList aA:=fun w' hw=>hE.keep hw fun _ h=>h;rcases h2 with⟨rfl,h3⟩|⟨j,e,h3,h4,rfl⟩
 .have key:∀w',ZgA S w w'->RepE S w' l' es.toList aA:=fun w' hw=>by
   rcases(eX w' hw).del hM with⟨j,e,q1,q2,_⟩|⟨_,q⟩
   .exact absurd q2 (h3 e (List.mem_of_getElem? q1))
   .exact q
  obtain⟨s1,s2⟩:=hs.writeMap hg hl hm hb key;refine⟨_,?_,s1,s2⟩;simp[Builtin.delete_,Sem.run_bind,run_underlying hu,Zmh hb,hK.check,h1,ZqP w b es aA _ hb]
 .have hj2:j<es.toList.length:=(List.getElem?_eq_some_iff.1 h3).1;have key:∀w',ZgA S w w'->RepE S w' l' (es.eraseIdxIfInBounds (0+j)).toList aA:=fun w' hw=>by
   rcases(eX w' hw).del hM with⟨j',e',q1,q2,q3⟩|⟨q,_⟩
   .have lg:j'=j:=by
     have k1:(es.toList.map (·.key))[j']?=some pk:=by rw[List.getElem?_map,q1];simp[q2]
     have k2:(es.toList.map (·.key))[j]?=some pk:=by rw[List.getElem?_map,h3];simp[h4]
     exact Zyq (by rw[hE.keysEq];exact hE.keys) k1 k2
    subst lg;have hj3:0+j'<es.size:=by simpa using hj2
    have e3:(es.eraseIdxIfInBounds (0+j')).toList=es.toList.eraseIdx j':=by
     unfold Array.eraseIdxIfInBounds;rw[dif_pos hj3,Array.toList_eraseIdx,Nat.zero_add]
    rw[e3];exact q3
   .exact absurd h4 (q e (List.mem_of_getElem? h3))
  obtain⟨s1,s2⟩:=hs.writeMap hg hl hm hb key;refine⟨_,?_,s1,s2⟩;simp only[Nat.zero_add]at s1 ⊢;simp[Builtin.delete_,Sem.run_bind,run_underlying hu,Zmh hb,hK.check,h1,ZqP w b es aA _ hb]
end
end Go.Proofs.YtdjfoojllbfcgaaGreat
