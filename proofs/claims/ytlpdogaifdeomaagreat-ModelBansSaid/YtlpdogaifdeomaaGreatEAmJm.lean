import Derived.Test.YtlpdogaifdeomaaGreatEAmJ
namespace Go.Proofs.YtlpdogaifdeomaaGreat
open Go.RowKit
set_option linter.unusedSimpArgs false
set_option linter.unusedVariables false
def ZCS:List C->Option (List Value)
 | []=>some []
 | .lit x :: l=>match ZCS l with
  |some xs=>some (x :: xs)
  |none=>none
 |_=>none
def V.val:V->Option Value
 | .one (.lit x)=>some x
 | .agg l=>match ZCS l with
  |some xs=>some (.agg xs.toArray)
  |none=>none
 |_=>none
theorem ZvY{S:Nat->Prop}{w:World}{m:Mp}:∀{l:List C}{ys xs:List Value},RepL S w m l ys->ZCS l=some xs->ys=xs
 | [],ys,xs,h,hl=>by
  cases hl
  exact List.eq_nil_of_length_eq_zero h.1
 |c :: l,ys,xs,h,hl=>by
  cases c<;>simp only[ZCS]at hl<;>try (cases hl;done)
  rename_i x
  split at hl
  .rename_i jr fJ
   cases hl
   obtain⟨e1,e2,e3⟩:=h
   cases ys with
   |nil=>simp at e1
   |cons y ys=>
    have ht:=ZvY (ys:=ys) ⟨by simpa using e1,fun j c hj=>by have:=e2 (j+1) c (by simpa using hj);simpa using this,fun y hy=>e3 y (by simp[hy])⟩ fJ
    obtain⟨z,h3,h4⟩:=e2 0 _ rfl
    cases h3
    cases h4
    rw[ht]
  .cases hl
theorem V.val_rep{S:Nat->Prop}{w:World}{m:Mp}{v:V}{x y:Value}(h:RepV S w m v x)(hv:v.val=some y):x=y:=by
 unfold V.val at hv;split at hv
 .cases hv;cases h;rfl
 .split at hv
  .rename_i l xs fJ;cases hv;obtain⟨ys,rfl,h1⟩:=h;rw[<-ZvY h1 fJ]
  .cases hv
 .cases hv
structure ZmV (P:Program) (kt:TypeId) (k:Value) (ks:List Value):Prop where
 check:∀(e:Bool)(w:World),(Instr.checkKey e 10000 kt k).run P w=.ok () w
 slow:∃d,P.underlying kt=some d/\∀k'∈ks,Instr.sameNow d k k'=none\/∃b,Instr.sameNow d k k'=some b/\(b=true↔k=k')
 eql:∀k'∈ks,∀w,∃b:Bool,(Op.equal kt k k').run P w=.ok b w/\(b=true↔k=k')
 same:Instr.sameBits 10000 k k=true
def ZFp(k:Value)(es:List MapEntry)(i:Nat)(r:Option (Nat×Value)):Prop:=(r=none/\∀e∈es,e.key≠k)\/∃j e,es[j]?=some e/\e.key=k/\r=some (i+j,e.val)
theorem ZFp.cons{k:Value}{e:MapEntry}{es:List MapEntry}{i:Nat}{r:Option (Nat×Value)}(he:e.key≠k)(h:ZFp k es (i+1) r):ZFp k (e :: es) i r:=by
 rcases h with⟨h1,h2⟩|⟨j,e',h1,h2,h3⟩
 .exact .inl ⟨h1,fun x hx=>by rcases List.mem_cons.1 hx with rfl|hx;exact he;exact h2 x hx⟩
 .exact .inr ⟨j+1,e',by simpa using h1,h2,by rw[h3];congr 2;omega⟩
theorem ZoQ{P:Program}{kt:TypeId}{k:Value}(w:World):∀(es:List MapEntry)(i:Nat),(∀e∈es,∃b:Bool,(Op.equal kt k e.key).run P w=.ok b w/\(b=true↔k=e.key))->∃r,(Instr.findAsking kt k es i).run P w=.ok r w/\ZFp k es i r
 | [],i,h=>⟨none,by simp[Instr.findAsking],.inl ⟨rfl,by simp⟩⟩
 |e :: es,i,h=>by
  obtain⟨b,h1,h2⟩:=h e List.mem_cons_self
  simp only[Instr.findAsking,Sem.run_bind,h1,Result.andThen_ok]
  cases b with
  |true=>exact⟨some (i,e.val),by simp,.inr ⟨0,e,rfl,(h2.1 rfl).symm,rfl⟩⟩
  |false=>
   obtain⟨r,h3,h4⟩:=ZoQ (P:=P) (kt:=kt) (k:=k) w es (i+1) fun e he=>h e (List.mem_cons_of_mem _ he)
   exact⟨r,by simpa using h3,h4.cons fun hk=>by have:=h2.2 hk.symm;cases this⟩
theorem ZDl{d:TypeDesc}{k:Value}:∀(es:List MapEntry)(i:Nat),(∀e∈es,Instr.sameNow d k e.key=none\/∃b,Instr.sameNow d k e.key=some b/\(b=true↔k=e.key))->Instr.findNow d k es i=none\/∃r,Instr.findNow d k es i=some r/\ZFp k es i r
 | [],i,h=>.inr ⟨none,rfl,.inl ⟨rfl,by simp⟩⟩
 |e :: es,i,h=>by
  rcases h e List.mem_cons_self with h1|⟨b,h1,h2⟩
  .left;simp[Instr.findNow,h1]
  .cases b with
   |true=>exact .inr ⟨some (i,e.val),by simp[Instr.findNow,h1],.inr ⟨0,e,rfl,(h2.1 rfl).symm,rfl⟩⟩
   |false=>
    rcases ZDl (d:=d) (k:=k) es (i+1) fun e he=>h e (List.mem_cons_of_mem _ he)with h3|⟨r,h3,h4⟩
    .left;simp[Instr.findNow,h1,h3]
    .exact .inr ⟨r,by simp[Instr.findNow,h1,h3],h4.cons fun hk=>by have:=h2.2 hk.symm;cases this⟩
theorem ZmV.find{P:Program}{kt:TypeId}{k:Value}{es:List MapEntry}(h:ZmV P kt k (es.map (·.key)))(w:World):∃r,(Instr.findKey kt k es).run P w=.ok r w/\ZFp k es 0 r:=by
 obtain⟨d,hd,hs⟩:=h.slow;have he:∀e∈es,e.key∈es.map (·.key):=fun e he=>List.mem_map.2 ⟨e,he,rfl⟩;unfold Instr.findKey;simp only[Sem.run_bind,run_underlying hd,Result.andThen_ok];rcases ZDl (d:=d) (k:=k) es 0 fun e h=>hs _ (he e h)with h1|⟨r,h1,h2⟩
 .rw[h1];exact ZoQ w es 0 fun e hm=>h.eql _ (he e hm) w
 .rw[h1];exact⟨r,by simp,h2⟩
theorem RepE.keysEq{S:Nat->Prop}{w:World}{l:List (Value×V)}{es:List MapEntry}{c:Nat}(h:RepE S w l es c):es.map (·.key)=l.map (·.1):=by
 apply List.ext_getElem
 .simp[h.len]
 .intro i h1 h2;have i1:i<es.length:=by simpa using h1
  have i2:i<l.length:=by simpa using h2
  simp only[List.getElem_map];exact(h.at_ i l[i] es[i] (by simp[i2]) (by simp[i1])).1
def Zvh(l:List (Value×V))(k z:Value)(v:V):Prop:=(∃p∈l,p.1=k/\∀S w m x,RepV S w m p.2 x->RepV S w m v x)\/((∀p∈l,p.1≠k)/\∀S w m,RepV S w m v z)
def MPut(l:List (Value×V))(k:Value)(v:V)(l':List (Value×V)):Prop:=(∃j,(l[j]?).map (·.1)=some k/\l'=l.set j (k,v))\/((∀p∈l,p.1≠k)/\l'=l++[(k,v)])
def MDel(l:List (Value×V))(k:Value)(l':List (Value×V)):Prop:=(∃j,(l[j]?).map (·.1)=some k/\l'=l.eraseIdx j)\/((∀p∈l,p.1≠k)/\l'=l)
theorem ZmX{α:Type}{l:List α}{j:Nat}(h:j<l.length):l[j]?=some l[j]:=by simp[h]
theorem Zpy{α:Type}{l:List α}(h:l.Nodup){i j:Nat}{a:α}(hi:l[i]?=some a)(hj:l[j]?=some a):i=j:=by
 obtain⟨i1,e1⟩:=List.getElem?_eq_some_iff.1 hi;exact(List.getElem?_inj i1 h).1 (hi.trans hj.symm)
def ZBa(T:Tab)(t:TypeId):Option (TypeId×TypeId):=match ZdS T t with
 |some ti=>match ti.k with
  | .map k v=>some (k,v)
  |_=>none
 |none=>none
theorem ZoU{P:Program}{T:Tab}(hT:Zea P T){t k v:TypeId}(h:ZBa T t=some (k,v)):P.underlying t=some (.map k v):=by
 unfold ZBa at h;split at h;rotate_left
 .cases h
 rename_i ti bw;obtain⟨d,hu,hf⟩:=hT.under bw;split at h;rotate_left
 .cases h
 rename_i k' v' hk;cases h;rw[hk]at hf;cases d<;>simp only[TK.fits]at hf;obtain⟨rfl,rfl⟩:=hf;exact hu
def ZpP(st:St)(v:V):Option (Nat×TypeId×List (Value×V)):=match v with
 | .one (.mp id)=>match hget st.heap id with
  |some (.map kt l)=>some (id,kt,l)
  |_=>none
 |_=>none
theorem Zof{st:St}{v:V}{id kt:Nat}{l:List (Value×V)}(h:ZpP st v=some (id,kt,l)):v=.one (.mp id)/\hget st.heap id=some (.map kt l):=by
 unfold ZpP at h;split at h
 .split at h
  .cases h;exact⟨rfl,by assumption⟩
  .cases h
 .cases h
def ZrI(N:Nat)(T:Tab)(st:St)(d t:Nat)(r:Option V):Option (V×List Prop×St):=match ZBa T t,Zdm N d st with
 |some (k,_),true=>match r with
  |none=>some (.one (.mp d),[],st.new d (.map k []))
  |some v=>match intV v with
   |some _=>some (.one (.mp d),[],st.new d (.map k []))
   |none=>none
 |_,_=>none
def ZxS(T:Tab)(t:TypeId):Option Value:=match ZdS T t with
 |some ti=>ti.zero
 |none=>none
def ZiF(P:Program)(T:Tab)(st:St)(t:Nat)(x k:V)(ok:Bool)(an:Option Ans):Option (V×List Prop):=match ok,ZBa T t,ZpP st x,k.val,an with
 |false,some (kt,vt),some (_,_,l),some kv,some (.r v _)=>match ZxS T vt with
  |some z=>some (v,[ZmV P kt kv (l.map (·.1)),Zvh l kv z v])
  |none=>none
 |_,_,_,_,_=>none
def Zxq(P:Program)(T:Tab)(st:St)(t:Nat)(x k v:V)(an:Option Ans):Option (List Prop×St):=match ZBa T t,ZpP st x,k.val,v.pure,an with
 |some (kt,_),some (id,kt',l),some kv,true,some (.m l')=>some ([ZmV P kt kv (l.map (·.1)),MPut l kv v l'],{ st with heap:=hset st.heap id (.map kt' l') })
 |_,_,_,_,_=>none
def Ztv(P:Program)(T:Tab)(st:St)(t:Nat)(x k:V)(an:Option Ans):Option (List Prop×St):=match ZBa T t,ZpP st x,k.val,an with
 |some (kt,_),some (id,kt',l),some kv,some (.m l')=>some ([ZmV P kt kv (l.map (·.1)),MDel l kv l'],{ st with heap:=hset st.heap id (.map (kt'+1000000) l') })
 |_,_,_,_=>none
def MEnt(l:List (Value×V))(k z:Value)(j:Int)(l':List (Value×V)):Prop:=(∃i:Nat,(l[i]?).map (·.1)=some k/\j=(i:Int)/\l'=l)\/((∀p∈l,p.1≠k)/\j=((l.length:Nat):Int)/\∃v,(∀S w m,RepV S w m v z)/\(∀S w m x,RepV S w m v x->x=z)/\l'=l++[(k,v)])
def MSt(l:List (Value×V))(j:Int)(v:V)(l':List (Value×V)):Prop:=∃i:Nat,j=(i:Int)/\∃p,l[i]?=some p/\l'=l.set i (p.1,v)
def Zio(P:Program)(T:Tab)(st:St)(t:Nat)(x k:V)(an:Option Ans):Option (V×List Prop×St):=match ZBa T t,ZpP st x,k.val,an with
 |some (kt,vt),some (id,kt',l),some kv,some (.m ((.int _ j,_) :: l'))=>match ZxS T vt,Nat.blt kt' 1000000 with
  |some z,true=>some (.tup [(false,[.junk]),(false,[.lit (.int .i64 j)])],[ZmV P kt kv (kv :: l.map (·.1)),MEnt l kv z j l'],{ st with heap:=hset st.heap id (.map kt' l') })
  |_,_=>none
 |_,_,_,_=>none
def ZhF(st:St)(x s v:V)(an:Option Ans):Option (List Prop×St):=match ZpP st x,s,v.pure,an with
 |some (id,kt',l),.one (.lit (.int _ j)),true,some (.m l')=>match Nat.blt kt' 1000000 with
  |true=>some ([MSt l j v l'],{ st with heap:=hset st.heap id (.map kt' l') })
  |false=>none
 |_,_,_,_=>none
theorem ZmV.sub{P:Program}{kt:TypeId}{k:Value}{ks ks':List Value}(h:ZmV P kt k ks)(hs:∀x∈ks',x∈ks):ZmV P kt k ks':=
 ⟨h.check,by obtain⟨d,h1,h2⟩:=h.slow;exact⟨d,h1,fun x hx=>h2 x (hs x hx)⟩,fun x hx=>h.eql x (hs x hx),h.same⟩
theorem Zvh.ent{l l':List (Value×V)}{k z:Value}{v:V}{j:Int}(h:Zvh l k z v)(he:MEnt l k z j l'):Zvh l' k z v:=by
 rcases he with⟨i,_,_,rfl⟩|⟨h1,_,v0,_,h3,rfl⟩
 .exact h
 .rcases h with⟨p,h4,h5,_⟩|⟨_,h4⟩
  .exact absurd h5 (h1 p h4)
  .exact .inl ⟨(k,v0),by simp,rfl,fun S w m x hx=>by rw[h3 S w m x hx];exact h4 S w m⟩
theorem MEnt.keys{l l':List (Value×V)}{k z:Value}{j:Int}(he:MEnt l k z j l'):∀x∈l'.map (·.1),x∈k :: l.map (·.1):=by
 rcases he with⟨i,_,_,rfl⟩|⟨h1,_,v0,_,h3,rfl⟩
 .exact fun x hx=>List.mem_cons_of_mem _ hx
 .intro x hx;rw[List.map_append,List.mem_append]at hx;rcases hx with hx|hx
  .exact List.mem_cons_of_mem _ hx
  .simp only[List.map_cons,List.map_nil,List.mem_singleton]at hx;rw[hx];simp
theorem ZIW(w:World)(o:Obj):(w.alloc o).heap[w.heap.size]?=some o:=by
 show (w.heap.push o)[w.heap.size]?=some o;simp
theorem Zwj{kt:TypeId}{es:Array MapEntry}{aF:Nat}(h:ZAh kt es.toList aF){e:MapEntry}(he:e.born=aF):ZAh kt (es.push e).toList (aF+1):=fun hk=>by
 obtain⟨h1,h2⟩:=h hk
 refine⟨by simpa using h1,fun j x hx=>?_⟩
 rw[Array.toList_push,List.getElem?_append]at hx
 split at hx
 .exact h2 j x hx
 .rename_i hj
  rcases Nat.eq_zero_or_pos (j-es.toList.length)with hz|hz
  .rw[hz]at hx
   cases hx
   omega
  .rw[List.getElem?_eq_none (by simp;simp at hz;omega)]at hx
   cases hx
theorem Zpl{kt:TypeId}{es:Array MapEntry}{aF:Nat}(h:ZAh kt es.toList aF)(i:Nat)(f:MapEntry->MapEntry)(hf:∀e,(f e).born=e.born):ZAh kt (es.modify i f).toList aF:=fun hk=>by
 obtain⟨h1,h2⟩:=h hk
 refine⟨by simpa using h1,fun j x hx=>?_⟩
 rw[Array.toList_modify,List.getElem?_modify]at hx
 cases hj:es.toList[j]? with
 |none=>rw[hj]at hx;cases hx
 |some e=>
  rw[hj]at hx
  have:=h2 j e hj
  by_cases hij:i=j
  .simp only[hij,if_true,Option.map_some,Option.some.injEq,Option.map_eq_map]at hx
   subst hx
   rw[hf];exact this
  .simp only[hij,if_false,Option.map_some,Option.some.injEq,Option.map_eq_map,id]at hx
   subst hx
   exact this
theorem ZzI(kt:TypeId)(es:List MapEntry)(aF:Nat):ZAh (kt+1000000) es aF:=fun hk=>by
 have:=Nat.le_of_ble_eq_true hk
 omega
def ZpZ(w:World)(b:Nat)(o:Obj):World:={ w with heap:=w.heap.setIfInBounds b o }
theorem Zle{P:Program}(w:World)(b:Nat)(es:Array MapEntry)(c:Nat)(o:Obj)(h:w.heap[b]?=some (.map es c)):(Go.setObj b o).run P w=.ok () (ZpZ w b o):=by
 simp[Go.setObj,Sem.run,h,ZpZ]
theorem Zjb{P:Program}{w:World}{b:Nat}{es:Array MapEntry}{c:Nat}(h:w.heap[b]?=some (.map es c)):(Go.getObj b).run P w=.ok (.map es c) w:=by simp[Go.getObj,Sem.run,h]
section
variable {P:Program} {T:Tab} {N:Nat} {S0:Nat->Prop} {w0:ZeB} {st:St} {a:Act} {w:World} {S:Nat->Prop} {m:Mp}
theorem Sim.mapBlock(hs:Sim N w0.F S m st a w){id kt:Nat}{l:List (Value×V)}(hl:hget st.heap id=some (.map kt l)):∃b es aF,m id=.map (some b)/\w.heap[b]?=some (.map es aF)/\RepE S w l es.toList aF/\ZAh kt es.toList aF:=hs.heap id _ hl
theorem Sim.writeMap(hs:Sim N w0.F S m st a w)(hg:Goes w0.F.no S0 S w0.w w){id kt:Nat}{l l':List (Value×V)}(hl:hget st.heap id=some (.map kt l)){b aF cl:Nat}{es iO:Array MapEntry}(hm:m id=.map (some b))(hb:w.heap[b]?=some (.map es aF))
  {kt2:Nat} (h:∀w',ZfQ S w w'->RepE S w' l' iO.toList cl) (hd:ZAh kt2 iO.toList cl):Sim N w0.F S m { st with heap:=hset st.heap id (.map kt2 l') } a (ZpZ w b (.map iO cl))/\Goes w0.F.no S0 S w0.w (ZpZ w b (.map iO cl)):=by
 have hlt:b<w.heap.size:=(hs.own id _ hl b (by rw[hm];rfl)).2.2;have hS:¬S b:=(hs.own id _ hl b (by rw[hm];rfl)).1;have bB:¬w0.F.no b:=(hs.own id _ hl b (by rw[hm];rfl)).2.1;have iP:∀k,k≠b->(ZpZ w b (.map iO cl)).heap[k]?=w.heap[k]?:=fun k hk=>by simp only[ZpZ];rw[Array.getElem?_setIfInBounds_ne (Ne.symm hk)]
 have dt:ZfQ S w (ZpZ w b (.map iO cl)):=fun k hk=>iP k fun e=>hS (e ▸ hk);refine⟨hs.write (.map kt2 l') hl (by simp[ZpZ]) (fun k hk hne=>iP k fun e=>hne (by rw[hm,e];rfl)) ?_,hg.step ⟨rfl,rfl,rfl,by simp[ZpZ],fun k hk=>iP k fun e=>bB (e ▸ hk),Nat.le_refl _⟩ (fun _ h=>h) fun _ h=>.inl h⟩;rw[hm];exact⟨b,iO,cl,rfl,by simp[ZpZ,hlt],h _ dt,hd⟩
theorem Zxr(hT:Zea P T)(hs:Sim N w0.F S m st a w)(hg:Goes w0.F.no S0 S w0.w w){d t:Nat}{r:Option V}{pr:Option Value}{v:V}{obl:List Prop}{st':St}(hr:match r,pr with|none,none=>True|some v,some x=>RepV S w m v x|_,_=>False)
  (h:ZrI N T st d t r=some (v,obl,st')):∃y w' m',(Instr.makeMap t pr).run P w=.ok y w'/\Sim N w0.F S m' st' a w'/\Goes w0.F.no S0 S w0.w w'/\RepV S w' m' v y:=by
 unfold ZrI at h;split at h;rotate_left
 .cases h
 rename_i k vt eP hq;have hu:=ZoU hT eP;have aM:v=.one (.mp d)->st'=st.new d (.map k [])->(Instr.makeMap t pr).run P w=.ok (.map (some w.heap.size)) (w.alloc (.map #[] 0))->∃y w' m',(Instr.makeMap t pr).run P w=.ok y w'/\Sim N w0.F S m' st' a w'/\Goes w0.F.no S0 S w0.w w'/\RepV S w' m' v y:=by
  rintro rfl rfl hrun;refine⟨_,_,upd m d (.map (some w.heap.size)),hrun,hs.newBlock d hq (.map #[] 0) (.map (some w.heap.size)) (.map k []) rfl ⟨w.heap.size,#[],0,rfl,ZIW w _,⟨rfl,fun j p e h=>by simp at h,by simp,by simp⟩,fun _=>⟨rfl,fun j e h=>by simp at h⟩⟩,hg.alloc hs.base_le _,?_⟩;exact RepC.mp (Zfb _ _ _)
 cases r with
 |none=>
  cases pr with
  |some x=>exact hr.elim
  |none=>
   cases h;exact aM rfl rfl (by simp[Instr.makeMap,Sem.run_bind])
 |some v0=>
  cases pr with
  |none=>exact hr.elim
  |some x=>
   simp only at h;split at h
   .rename_i p hp;cases h;obtain⟨kk,n⟩:=p;obtain rfl:=Zoi hr hp;exact aM rfl rfl (by simp[Instr.makeMap,Sem.run_bind,run_underlying hu,asInt,asIntOf])
   .cases h
theorem Zzx(hT:Zea P T)(hs:Sim N w0.F S m st a w){t:Nat}{x k v:V}{px pk:Value}{ok:Bool}{an:Option Ans}{obl:List Prop}(hx:RepV S w m x px)(hk:RepV S w m k pk)(h:ZiF P T st t x k ok an=some (v,obl))(ho:∀q∈obl,q) :
  ∃y,(Instr.lookup t px pk ok).run P w=.ok y w/\RepV S w m v y:=by
 unfold ZiF at h;split at h;rotate_left
 .cases h
 rename_i kt vt id kt' l kv v' fz eP eQ fE;split at h;rotate_left
 .cases h
 rename_i z hz;cases h;have hu:=ZoU hT eP;obtain⟨rfl,hl⟩:=Zof eQ;obtain⟨b,es,aF,hm,hb,hE,hD⟩:=hs.mapBlock hl;obtain rfl:=V.val_rep hk fE;have hK:ZmV P kt pk (l.map (·.1)):=ho _ (by simp);have hM:Zvh l pk z v:=ho _ (by simp);have du:px=.map (some b):=by
  cases hx with
  |mp h'=>rw[hm]at h';exact h'.symm
 subst du;have f9:=hK;rw[<-hE.keysEq]at f9;obtain⟨r,h1,h2⟩:=f9.find w;have f7:(zeroValue vt).run P w=.ok z w:=by
  unfold ZxS at hz;split at hz
  .rename_i ti bw;obtain⟨i,q1,q2,q3,q4⟩:=hT.info bw;simp[zeroValue,typeInfo,q1,q4,hz]
  .cases hz
 rcases h2 with⟨rfl,h3⟩|⟨j,e,h3,h4,rfl⟩
 .refine⟨z,?_,?_⟩
  .simp only[Instr.lookup,Sem.run_bind,run_underlying hu,Result.andThen_ok,Zjb hb,Sem.run_pure,hK.check,h1,f7];simp
  .rcases hM with⟨p,hp,bj,bu⟩|⟨_,hM⟩
   .exfalso;obtain⟨j,hj,e⟩:=List.getElem_of_mem hp;have hj2:j<es.toList.length:=by rw[hE.len];exact hj
    have:=(hE.at_ j p es.toList[j] (by rw[ZmX hj,e]) (ZmX hj2)).1;exact h3 _ (List.getElem_mem hj2) (this.trans bj)
   .exact hM S w m
 .refine⟨e.val,?_,?_⟩
  .simp only[Instr.lookup,Sem.run_bind,run_underlying hu,Result.andThen_ok,Zjb hb,Sem.run_pure,hK.check,h1];simp
  .have hj:j<l.length:=by
    have:=(List.getElem?_eq_some_iff.1 h3).1;rw[hE.len]at this;exact this
   obtain⟨q1,q2,q3⟩:=hE.at_ j l[j] e (ZmX hj) h3;rcases hM with⟨p,hp,bj,hpv⟩|⟨hM,_⟩
   .obtain⟨j2,hj2,e2⟩:=List.getElem_of_mem hp;have:j=j2:=Zpy hE.keys (a:=pk) (by rw[List.getElem?_map,ZmX hj];simp[<-q1,h4]) (by rw[List.getElem?_map,ZmX hj2,e2];simp[bj]);subst this;rw[e2]at q3;exact hpv _ _ _ _ q3.keepM
   .exact absurd (q1.symm.trans h4) (hM _ (List.getElem_mem hj))
theorem RepE.put{l l':List (Value×V)}{es:List MapEntry}{aF:Nat}{k:Value}{v:V}{x:Value}(h:RepE S w l es aF)(hx:RepV S w Zdb v x)(hM:MPut l k v l') :
  (∃j e,es[j]?=some e/\e.key=k/\RepE S w l' (es.set j { e with key:=k,val:=x }) aF)\/((∀e∈es,e.key≠k)/\RepE S w l' (es++[{ key:=k,val:=x,born:=aF }]) (aF+1)):=by
 rcases hM with⟨j,h1,rfl⟩|⟨h1,rfl⟩
 .left;have hj:j<l.length:=by
   rcases Nat.lt_or_ge j l.length with h|h
   .exact h
   .rw[List.getElem?_eq_none h]at h1;cases h1
  have hj2:j<es.length:=by rw[h.len];exact hj
  rw[ZmX hj]at h1;simp only[Option.map_some,Option.some.injEq]at h1;obtain⟨q1,q2,q3⟩:=h.at_ j l[j] es[j] (ZmX hj) (ZmX hj2);refine⟨j,es[j],ZmX hj2,q1.trans h1,⟨by simp[h.len],fun i p e hp he=>?_,?_,?_⟩⟩
  .rw[List.getElem?_set]at hp he;by_cases hij:j=i
   .subst hij;rw[if_pos rfl,if_pos hj]at hp;rw[if_pos rfl,if_pos hj2]at he;cases hp;cases he;exact⟨rfl,q2,hx⟩
   .rw[if_neg hij]at hp he;exact h.at_ i p e hp he
  .have:(l.set j (k,v)).map (·.1)=l.map (·.1):=by
    rw[List.map_set];apply List.ext_getElem?;intro i;rw[List.getElem?_set];split
    .rename_i e;subst e;rw[if_pos (by simpa using hj),List.getElem?_map,ZmX hj];simp[h1]
    .rfl
   rw[this];exact h.keys
  .have:(es.set j { es[j]with key:=k,val:=x }).map (·.born)=es.map (·.born):=by
    rw[List.map_set];apply List.ext_getElem?;intro i;rw[List.getElem?_set];split
    .rename_i e;subst e;rw[if_pos (by simpa using hj2),List.getElem?_map,ZmX hj2];rfl
    .rfl
   rw[this];exact h.born
 .right;have hk:=h.keysEq;have hne:∀e∈es,e.key≠k:=fun e he hk2=>by
   have:e.key∈es.map (·.key):=List.mem_map.2 ⟨e,he,rfl⟩;rw[hk,List.mem_map]at this;obtain⟨p,hp,bu⟩:=this;exact h1 p hp (bu.trans hk2)
  refine⟨hne,⟨by simp[h.len],fun i p e hp he=>?_,?_,?_⟩⟩
  .rw[List.getElem?_append]at hp he;have hl:=h.len;split at hp
   .rename_i hi;rw[if_pos (by omega)]at he;obtain⟨q1,q2,q3⟩:=h.at_ i p e hp he;exact⟨q1,by omega,q3⟩
   .rename_i hi;rw[if_neg (by omega)]at he;have bC:i-l.length=i-es.length:=by omega
    rw[bC]at hp;rcases Nat.eq_zero_or_pos (i-es.length)with hz|hz
    .rw[hz]at hp he;cases hp;cases he;exact⟨rfl,Nat.lt_succ_self _,hx⟩
    .rw[List.getElem?_eq_none (by simp;omega)]at hp;cases hp
  .rw[List.map_append,List.nodup_append];refine⟨h.keys,by simp,fun a ha b hb=>?_⟩;simp only[List.map_cons,List.map_nil,List.mem_singleton]at hb;subst hb;rw[List.mem_map]at ha;obtain⟨p,hp,rfl⟩:=ha;exact h1 p hp
  .rw[List.map_append,List.nodup_append];refine⟨h.born,by simp,fun a ha b hb=>?_⟩;simp only[List.map_cons,List.map_nil,List.mem_singleton]at hb;subst hb;rw[List.mem_map]at ha;obtain⟨e,he,rfl⟩:=ha;obtain⟨i,hi,rfl⟩:=List.getElem_of_mem he;have bC:i<l.length:=by rw[<-h.len];exact hi
   have:=(h.at_ i l[i] es[i] (ZmX bC) (ZmX hi)).2.1;omega
theorem RepE.del{l l':List (Value×V)}{es:List MapEntry}{aF:Nat}{k:Value}(h:RepE S w l es aF)(hM:MDel l k l') :
  (∃j e,es[j]?=some e/\e.key=k/\RepE S w l' (es.eraseIdx j) aF)\/((∀e∈es,e.key≠k)/\RepE S w l' es aF):=by
 have hk:=h.keysEq;rcases hM with⟨j,h1,rfl⟩|⟨h1,rfl⟩
 .left;have hj:j<l.length:=by
   rcases Nat.lt_or_ge j l.length with h|h
   .exact h
   .rw[List.getElem?_eq_none h]at h1;cases h1
  have hj2:j<es.length:=by rw[h.len];exact hj
  rw[ZmX hj]at h1;simp only[Option.map_some,Option.some.injEq]at h1;obtain⟨q1,q2,q3⟩:=h.at_ j l[j] es[j] (ZmX hj) (ZmX hj2);refine⟨j,es[j],ZmX hj2,q1.trans h1,⟨by rw[List.length_eraseIdx_of_lt hj,List.length_eraseIdx_of_lt hj2,h.len],fun i p e hp he=>?_,?_,?_⟩⟩
  .rw[List.getElem?_eraseIdx]at hp he;split at hp
   .rename_i hi;rw[if_pos hi]at he;exact h.at_ i p e hp he
   .rename_i hi;rw[if_neg hi]at he;exact h.at_ (i+1) p e hp he
  .exact((List.eraseIdx_sublist l j).map _).nodup h.keys
  .exact((List.eraseIdx_sublist es j).map _).nodup h.born
 .right;refine⟨fun e he hk2=>?_,h⟩;have:e.key∈es.map (·.key):=List.mem_map.2 ⟨e,he,rfl⟩;rw[hk,List.mem_map]at this;obtain⟨p,hp,bu⟩:=this;exact h1 p hp (bu.trans hk2)
theorem ZBB(hT:Zea P T)(hs:Sim N w0.F S m st a w)(hg:Goes w0.F.no S0 S w0.w w){t:Nat}{x k v:V}{px pk pv:Value}{an:Option Ans}{obl:List Prop}{st':St}(hx:RepV S w m x px)(hk:RepV S w m k pk)(hv:RepV S w m v pv)
  (h:Zxq P T st t x k v an=some (obl,st')) (ho:∀q∈obl,q):∃w',(Instr.mapUpdate t px pk pv).run P w=.ok () w'/\Sim N w0.F S m st' a w'/\Goes w0.F.no S0 S w0.w w':=by
 unfold Zxq at h;split at h;rotate_left
 .cases h
 rename_i kt vt id kt' l kv l' eP eQ fE dV;cases h;have hu:=ZoU hT eP;obtain⟨rfl,hl⟩:=Zof eQ;obtain⟨b,es,aF,hm,hb,hE,hD⟩:=hs.mapBlock hl;obtain rfl:=V.val_rep hk fE;have hK:ZmV P kt pk (l.map (·.1)):=ho _ (by simp);have hM:MPut l pk v l':=ho _ (by simp);have du:px=.map (some b):=by
  cases hx with
  |mp h'=>rw[hm]at h';exact h'.symm
 subst du;have f9:=hK;rw[<-hE.keysEq]at f9;obtain⟨r,h1,h2⟩:=f9.find w;have gJ:RepV S w Zdb v pv:=hv.anyM Zdb dV;have dX:∀w',ZfQ S w w'->RepE S w' l es.toList aF:=fun w' hw=>hE.keep hw fun _ h=>h;rcases h2 with⟨rfl,h3⟩|⟨j,e,h3,h4,rfl⟩
 .have key:∀w',ZfQ S w w'->RepE S w' l' (es.push { key:=pk,val:=pv,born:=aF }).toList (aF+1):=fun w' hw=>by
   rcases(dX w' hw).put (gJ.keep hw fun _ h=>h) hM with⟨j,e,q1,q2,_⟩|⟨_,q⟩
   .exact absurd q2 (h3 e (List.mem_of_getElem? q1))
   .simpa using q
  obtain⟨s1,s2⟩:=hs.writeMap (kt2:=kt') hg hl hm hb key (Zwj hD rfl);refine⟨_,?_,s1,s2⟩;simp only[Instr.mapUpdate,Sem.run_bind,run_underlying hu,Result.andThen_ok,Zjb hb,hK.check,h1];exact Zle w b es aF _ hb
 .have hj2:j<es.toList.length:=(List.getElem?_eq_some_iff.1 h3).1;have key:∀w',ZfQ S w w'->RepE S w' l' (es.modify (0+j) fun e=>{ e with key:=pk,val:=pv }).toList aF:=fun w' hw=>by
   rcases(dX w' hw).put (gJ.keep hw fun _ h=>h) hM with⟨j',e',q1,q2,q3⟩|⟨q,_⟩
   .have jK:j'=j:=by
     have k1:(es.toList.map (·.key))[j']?=some pk:=by rw[List.getElem?_map,q1];simp[q2]
     have k2:(es.toList.map (·.key))[j]?=some pk:=by rw[List.getElem?_map,h3];simp[h4]
     exact Zpy (by rw[hE.keysEq];exact hE.keys) k1 k2
    subst jK;have e3:(es.modify (0+j') fun e=>{ e with key:=pk,val:=pv }).toList=es.toList.set j' { e' with key:=pk,val:=pv }:=by
     rw[Array.toList_modify,Nat.zero_add];apply List.ext_getElem?;intro i;rw[List.getElem?_modify,List.getElem?_set];by_cases hij:j'=i
     .subst hij;rw[if_pos rfl,if_pos (by simpa using hj2)];simp[q1]
     .simp[hij]
    rw[e3];exact q3
   .exact absurd h4 (q e (List.mem_of_getElem? h3))
  obtain⟨s1,s2⟩:=hs.writeMap (kt2:=kt') hg hl hm hb key (Zpl hD _ _ fun _=>rfl);refine⟨_,?_,s1,s2⟩;have iQ:((es[0+j]?.map (·.key)).getD pk)=pk:=by
   have:es[0+j]?=some e:=by rw[Nat.zero_add,<-Array.getElem?_toList];exact h3
   rw[this];simp[h4]
  simp only[Instr.mapUpdate,Sem.run_bind,run_underlying hu,Result.andThen_ok,Zjb hb,hK.check,h1,iQ,Instr.keyThatStays,hK.same,if_true,Sem.run_pure];exact Zle w b es aF _ hb
theorem ZJK(c y:Value)(d:C)(h:RepC S w m d y):RepV S w m (.tup [(false,[.junk]),(false,[d])]) (.tuple #[c,y]):=
 ⟨#[c,y],rfl,rfl,fun j p hj=>match j,hj with
  | 0,hj=>by cases hj;exact⟨c,rfl,RepC.junk⟩
  | 1,hj=>by cases hj;exact⟨y,rfl,h⟩
  |j+2,hj=>by simp at hj⟩
theorem ZDJ(hT:Zea P T){vt:Nat}{z:Value}(hz:ZxS T vt=some z):(zeroValue vt).run P w=.ok z w:=by
 unfold ZxS at hz;split at hz
 .rename_i ti bw;obtain⟨i,q1,q2,q3,q4⟩:=hT.info bw;simp[zeroValue,typeInfo,q1,q4,hz]
 .cases hz
theorem Zvr(hT:Zea P T)(hs:Sim N w0.F S m st a w)(hg:Goes w0.F.no S0 S w0.w w){t:Nat}{x k v:V}{px pk:Value}{an:Option Ans}{obl:List Prop}{st':St}(hx:RepV S w m x px)(hk:RepV S w m k pk)
  (h:Zio P T st t x k an=some (v,obl,st')) (ho:∀q∈obl,q):∃y w',(Instr.mapEntry t px pk).run P w=.ok y w'/\Sim N w0.F S m st' a w'/\Goes w0.F.no S0 S w0.w w'/\RepV S w' m v y:=by
 unfold Zio at h;split at h;rotate_left
 .cases h
 rename_i kt vt id kt' l kv ik j z0 l' eP eQ fE;split at h;rotate_left
 .cases h
 rename_i z hz gc;cases h;have hu:=ZoU hT eP;obtain⟨rfl,hl⟩:=Zof eQ;obtain⟨b,es,aF,hm,hb,hE,hD⟩:=hs.mapBlock hl;obtain rfl:=V.val_rep hk fE;have hK:ZmV P kt pk (l.map (·.1)):=ZmV.sub (ks:=pk :: l.map (·.1)) (ho _ (by simp)) fun _ h=>List.mem_cons_of_mem _ h;have hM:MEnt l pk z j l':=ho _ (by simp);have du:px=.map (some b):=by
  cases hx with
  |mp h'=>rw[hm]at h';exact h'.symm
 subst du;have f9:=hK;rw[<-hE.keysEq]at f9;obtain⟨r,h1,h2⟩:=f9.find w;obtain⟨hc,jL⟩:=hD gc;have dX:∀w',ZfQ S w w'->RepE S w' l es.toList aF:=fun w' hw=>hE.keep hw fun _ h=>h;have bk:∀(y:Value)(n:Nat) w',y.oneCell'=true\/True->(j=(n:Int))->RepV S w' m (.tup [(false,[.junk]),(false,[.lit (.int .i64 j)])]) (.tuple #[y,goInt n]):=fun y n w' _ hj=>by
  subst hj;exact ZJK _ _ _ RepC.lit
 rcases h2 with⟨rfl,h3⟩|⟨i,e,h3,h4,rfl⟩
 .rcases hM with⟨i,q1,q2,q3⟩|⟨q1,q2,v0,q3,_,q4⟩
  .exfalso;have:pk∈es.toList.map (·.key):=by rw[hE.keysEq];exact List.mem_of_getElem? (by rw[List.getElem?_map];exact q1)
   obtain⟨e,he,hk'⟩:=List.mem_map.1 this;exact h3 e he hk'
  .have key:∀w',ZfQ S w w'->RepE S w' l' (es.push { key:=pk,val:=z,born:=aF }).toList (aF+1):=fun w' hw=>by
    rcases(dX w' hw).put (q3 S w' Zdb) (.inr ⟨q1,q4⟩)with⟨j',e,p1,p2,_⟩|⟨_,p⟩
    .exact absurd p2 (h3 e (List.mem_of_getElem? p1))
    .simpa using p
   obtain⟨s1,s2⟩:=hs.writeMap (kt2:=kt') hg hl hm hb key (Zwj hD rfl);refine⟨_,_,?_,s1,s2,bk z aF _ (.inr trivial) (by rw[q2,hc,hE.len])⟩;simp only[Instr.mapEntry,Sem.run_bind,run_underlying hu,Result.andThen_ok,Zjb hb,hK.check,h1,ZDJ hT hz,Zle w b es aF _ hb];rfl
 .have bC:i<es.toList.length:=(List.getElem?_eq_some_iff.1 h3).1;have iJ:i<l.length:=by rw[<-hE.len];exact bC
  obtain⟨p1,p2,p3⟩:=hE.at_ i l[i] e (ZmX iJ) h3;rcases hM with⟨i',q1,q2,q3⟩|⟨q1,_⟩
  .have hii:i'=i:=Zpy hE.keys (a:=pk) (by rw[List.getElem?_map];exact q1) (by rw[List.getElem?_map,ZmX iJ];simp[<-p1,h4]);subst hii;subst q3;have iQ:((es[0+i']?.map (·.key)).getD pk)=pk:=by
    have:es[0+i']?=some e:=by rw[Nat.zero_add,<-Array.getElem?_toList];exact h3
    rw[this];simp[h4]
   have jM:((es[0+i']?.map (fun x=>(x.born:Int))).getD 0)=(i':Int):=by
    have:es[0+i']?=some e:=by rw[Nat.zero_add,<-Array.getElem?_toList];exact h3
    rw[this];simp[jL i' e h3]
   have e3:(es.modify (0+i') fun e=>{ e with key:=pk }).toList=es.toList:=by
    rw[Array.toList_modify,Nat.zero_add];apply List.ext_getElem?;intro n;rw[List.getElem?_modify];by_cases hin:i'=n
    .subst hin;rw[h3];simp[<-h4]
    .simp[hin]
   have key:∀w',ZfQ S w w'->RepE S w' l' (es.modify (0+i') fun e=>{ e with key:=pk }).toList aF:=fun w' hw=>by rw[e3];exact dX w' hw
   obtain⟨s1,s2⟩:=hs.writeMap (kt2:=kt') hg hl hm hb key (Zpl hD _ _ fun _=>rfl);refine⟨_,_,?_,s1,s2,bk e.val i' _ (.inr trivial) q2⟩;simp only[Instr.mapEntry,Sem.run_bind,run_underlying hu,Result.andThen_ok,Zjb hb,hK.check,h1,iQ,Instr.keyThatStays,hK.same,if_true,Sem.run_pure,jM,Zle w b es aF _ hb]
  .exact absurd (p1.symm.trans h4) (q1 _ (List.getElem_mem iJ))
theorem Zzo:∀(es:List MapEntry)(i:Nat)(e:MapEntry),es[i]?=some e->(∀(j:Nat)(e:MapEntry),es[j]?=some e->e.born=j)->es.findIdx? (fun e=>(e.born:Int)==(i:Int))=some i:=by
 intro es i e h hb;obtain⟨hi,rfl⟩:=List.getElem?_eq_some_iff.1 h;rw[List.findIdx?_eq_some_iff_getElem];refine⟨hi,?_,fun j hj=>?_⟩
 .rw[hb i _ h];simp
 .have:=hb j es[j] (by simp[Nat.lt_trans hj hi]);simp[this];omega
theorem ZsW(hs:Sim N w0.F S m st a w)(hg:Goes w0.F.no S0 S w0.w w){t:Nat}{x s v:V}{px ps pv:Value}{an:Option Ans}{obl:List Prop}{st':St}(hx:RepV S w m x px)(hsv:RepV S w m s ps)(hv:RepV S w m v pv)
  (h:ZhF st x s v an=some (obl,st')) (ho:∀q∈obl,q):∃w',(Instr.entryStore t px ps pv).run P w=.ok () w'/\Sim N w0.F S m st' a w'/\Goes w0.F.no S0 S w0.w w':=by
 unfold ZhF at h;split at h;rotate_left
 .cases h
 rename_i id kt' l ik j l' eQ dV;split at h;rotate_left
 .cases h
 rename_i gc;cases h;obtain⟨rfl,hl⟩:=Zof eQ;obtain⟨b,es,aF,hm,hb,hE,hD⟩:=hs.mapBlock hl;obtain⟨i,rfl,p,hp,rfl⟩ : MSt l j v l':=ho _ (by simp);have du:px=.map (some b):=by
  cases hx with
  |mp h'=>rw[hm]at h';exact h'.symm
 subst du;have cj:ps=.int ik i:=by cases hsv;rfl
 subst cj;obtain⟨hc,jL⟩:=hD gc;have hi:i<l.length:=(List.getElem?_eq_some_iff.1 hp).1;have bC:i<es.toList.length:=by rw[hE.len];exact hi
 obtain⟨q1,q2,q3⟩:=hE.at_ i p es.toList[i] hp (ZmX bC);have gJ:RepV S w Zdb v pv:=hv.anyM Zdb dV;have dt:∀w',ZfQ S w w'->RepE S w' (l.set i (p.1,v)) (es.modify i fun e=>{ e with val:=pv }).toList aF:=fun w' hw=>by
  rcases(hE.keep hw fun _ h=>h).put (gJ.keep hw fun _ h=>h) (k:=p.1) (l':=l.set i (p.1,v)) (.inl ⟨i,by rw[hp];rfl,rfl⟩)with⟨j',e',r1,r2,r3⟩|⟨r,_⟩
  .have jK:j'=i:=by
    have k1:(es.toList.map (·.key))[j']?=some p.1:=by rw[List.getElem?_map,r1];simp[r2]
    have k2:(es.toList.map (·.key))[i]?=some p.1:=by rw[List.getElem?_map,ZmX bC,Option.map_some,q1]
    exact Zpy (by rw[hE.keysEq];exact hE.keys) k1 k2
   subst jK;have e3:(es.modify j' fun e=>{ e with val:=pv }).toList=es.toList.set j' { e' with key:=p.1,val:=pv }:=by
    rw[Array.toList_modify];apply List.ext_getElem?;intro n;rw[List.getElem?_modify,List.getElem?_set];by_cases hij:j'=n
    .subst hij;rw[if_pos rfl,if_pos bC];simp[r1,<-r2]
    .simp[hij]
   rw[e3];exact r3
  .exact absurd q1 (r _ (List.getElem_mem bC))
 obtain⟨s1,s2⟩:=hs.writeMap (kt2:=kt') hg hl hm hb dt (Zpl hD _ _ fun _=>rfl);refine⟨_,?_,s1,s2⟩;have hf:es.findIdx? (fun e=>(e.born:Int)==(i:Int))=some i:=by
  have e0:es=es.toList.toArray:=(Array.toArray_toList).symm;rw[e0,List.findIdx?_toArray];exact Zzo _ _ _ (ZmX bC) jL
 simp only[Instr.entryStore,asInt,asIntOf,Sem.run_bind,Result.andThen_ok,Zjb hb,Sem.run_pure,hf];exact Zle w b es aF _ hb
theorem Zzv(hT:Zea P T)(hs:Sim N w0.F S m st a w)(hg:Goes w0.F.no S0 S w0.w w){t ty:Nat}{x k:V}{px pk:Value}{an:Option Ans}{obl:List Prop}{st':St}(hx:RepV S w m x px)(hk:RepV S w m k pk)
  (h:Ztv P T st t x k an=some (obl,st')) (ho:∀q∈obl,q) (t2:TypeId):∃w',(Builtin.delete_ #[t,t2] ty #[px,pk]).run P w=.ok (.tuple #[]) w'/\Sim N w0.F S m st' a w'/\Goes w0.F.no S0 S w0.w w':=by
 unfold Ztv at h;split at h;rotate_left
 .cases h
 rename_i kt vt id kt' l kv l' eP eQ fE;cases h;have hu:=ZoU hT eP;obtain⟨rfl,hl⟩:=Zof eQ;obtain⟨b,es,aF,hm,hb,hE,hD⟩:=hs.mapBlock hl;obtain rfl:=V.val_rep hk fE;have hK:ZmV P kt pk (l.map (·.1)):=ho _ (by simp);have hM:MDel l pk l':=ho _ (by simp);have du:px=.map (some b):=by
  cases hx with
  |mp h'=>rw[hm]at h';exact h'.symm
 subst du;have f9:=hK;rw[<-hE.keysEq]at f9;obtain⟨r,h1,h2⟩:=f9.find w;have dX:∀w',ZfQ S w w'->RepE S w' l es.toList aF:=fun w' hw=>hE.keep hw fun _ h=>h;rcases h2 with⟨rfl,h3⟩|⟨j,e,h3,h4,rfl⟩
 .have key:∀w',ZfQ S w w'->RepE S w' l' es.toList aF:=fun w' hw=>by
   rcases(dX w' hw).del hM with⟨j,e,q1,q2,_⟩|⟨_,q⟩
   .exact absurd q2 (h3 e (List.mem_of_getElem? q1))
   .exact q
  obtain⟨s1,s2⟩:=hs.writeMap (kt2:=kt'+1000000) hg hl hm hb key (ZzI _ _ _);refine⟨_,?_,s1,s2⟩;simp[Builtin.delete_,Sem.run_bind,run_underlying hu,Zjb hb,hK.check,h1,Zle w b es aF _ hb]
 .have hj2:j<es.toList.length:=(List.getElem?_eq_some_iff.1 h3).1;have key:∀w',ZfQ S w w'->RepE S w' l' (es.eraseIdxIfInBounds (0+j)).toList aF:=fun w' hw=>by
   rcases(dX w' hw).del hM with⟨j',e',q1,q2,q3⟩|⟨q,_⟩
   .have jK:j'=j:=by
     have k1:(es.toList.map (·.key))[j']?=some pk:=by rw[List.getElem?_map,q1];simp[q2]
     have k2:(es.toList.map (·.key))[j]?=some pk:=by rw[List.getElem?_map,h3];simp[h4]
     exact Zpy (by rw[hE.keysEq];exact hE.keys) k1 k2
    subst jK;have hj3:0+j'<es.size:=by simpa using hj2
    have e3:(es.eraseIdxIfInBounds (0+j')).toList=es.toList.eraseIdx j':=by
     unfold Array.eraseIdxIfInBounds;rw[dif_pos hj3,Array.toList_eraseIdx,Nat.zero_add]
    rw[e3];exact q3
   .exact absurd h4 (q e (List.mem_of_getElem? h3))
  obtain⟨s1,s2⟩:=hs.writeMap (kt2:=kt'+1000000) hg hl hm hb key (ZzI _ _ _);refine⟨_,?_,s1,s2⟩;simp only[Nat.zero_add]at s1 ⊢;simp[Builtin.delete_,Sem.run_bind,run_underlying hu,Zjb hb,hK.check,h1,Zle w b es aF _ hb]
end
end Go.Proofs.YtlpdogaifdeomaaGreat
