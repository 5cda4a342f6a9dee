import Derived.Test.YtnigiacmmedkhaaGreatGAmJ
namespace Go.Proofs.YtnigiacmmedkhaaGreat
open Go.RowKit
set_option linter.unusedSimpArgs false
set_option linter.unusedVariables false
def ZFP:List C->Option (List Value)
 | []=>some []
 | .lit x :: l=>match ZFP l with
  |some xs=>some (x :: xs)
  |none=>none
 |_=>none
def V.val:V->Option Value
 | .one (.lit x)=>some x
 | .agg l=>match ZFP l with
  |some xs=>some (.agg xs.toArray)
  |none=>none
 |_=>none
theorem ZvJ{S:Nat->Prop}{w:World}{m:Mp}:∀{l:List C}{ys xs:List Value},RepL S w m l ys->ZFP l=some xs->ys=xs
 | [],ys,xs,h,hl=>by
  cases hl
  exact List.eq_nil_of_length_eq_zero h.1
 |c :: l,ys,xs,h,hl=>by
  cases c<;>simp only[ZFP]at hl<;>try (cases hl;done)
  rename_i x
  split at hl
  .rename_i jR eV
   cases hl
   obtain⟨e1,e2,e3⟩:=h
   cases ys with
   |nil=>simp at e1
   |cons y ys=>
    have ht:=ZvJ (ys:=ys) ⟨by simpa using e1,fun j c hj=>by have:=e2 (j+1) c (by simpa using hj);simpa using this,fun y hy=>e3 y (by simp[hy])⟩ eV
    obtain⟨z,h3,h4⟩:=e2 0 _ rfl
    cases h3
    cases h4
    rw[ht]
  .cases hl
theorem V.val_rep{S:Nat->Prop}{w:World}{m:Mp}{v:V}{x y:Value}(h:RepV S w m v x)(hv:v.val=some y):x=y:=by
 unfold V.val at hv;split at hv
 .cases hv;cases h;rfl
 .split at hv
  .rename_i l xs eV;cases hv;obtain⟨ys,rfl,h1⟩:=h;rw[<-ZvJ h1 eV]
  .cases hv
 .cases hv
structure ZnG (P:Program) (kt:TypeId) (k:Value) (ks:List Value):Prop where
 check:∀(e:Bool)(w:World),(Instr.checkKey e 10000 kt k).run P w=.ok () w
 slow:∃d,P.underlying kt=some d/\∀k'∈ks,Instr.sameNow d k k'=none\/∃b,Instr.sameNow d k k'=some b/\(b=true↔k=k')
 eql:∀k'∈ks,∀w,∃b:Bool,(Op.equal kt k k').run P w=.ok b w/\(b=true↔k=k')
 same:Instr.sameBits 10000 k k=true
def ZHY(k:Value)(es:List MapEntry)(i:Nat)(r:Option (Nat×Value)):Prop:=(r=none/\∀e∈es,e.key≠k)\/∃j e,es[j]?=some e/\e.key=k/\r=some (i+j,e.val)
theorem ZHY.cons{k:Value}{e:MapEntry}{es:List MapEntry}{i:Nat}{r:Option (Nat×Value)}(he:e.key≠k)(h:ZHY k es (i+1) r):ZHY k (e :: es) i r:=by
 rcases h with⟨h1,h2⟩|⟨j,e',h1,h2,h3⟩
 .exact .inl ⟨h1,fun x hx=>by rcases List.mem_cons.1 hx with rfl|hx;exact he;exact h2 x hx⟩
 .exact .inr ⟨j+1,e',by simpa using h1,h2,by rw[h3];congr 2;omega⟩
theorem Zpj{P:Program}{kt:TypeId}{k:Value}(w:World):∀(es:List MapEntry)(i:Nat),(∀e∈es,∃b:Bool,(Op.equal kt k e.key).run P w=.ok b w/\(b=true↔k=e.key))->∃r,(Instr.findAsking kt k es i).run P w=.ok r w/\ZHY k es i r
 | [],i,h=>⟨none,by simp[Instr.findAsking],.inl ⟨rfl,by simp⟩⟩
 |e :: es,i,h=>by
  obtain⟨b,h1,h2⟩:=h e List.mem_cons_self
  simp only[Instr.findAsking,Sem.run_bind,h1,Result.andThen_ok]
  cases b with
  |true=>exact⟨some (i,e.val),by simp,.inr ⟨0,e,rfl,(h2.1 rfl).symm,rfl⟩⟩
  |false=>
   obtain⟨r,h3,h4⟩:=Zpj (P:=P) (kt:=kt) (k:=k) w es (i+1) fun e he=>h e (List.mem_cons_of_mem _ he)
   exact⟨r,by simpa using h3,h4.cons fun hk=>by have:=h2.2 hk.symm;cases this⟩
theorem ZGa{d:TypeDesc}{k:Value}:∀(es:List MapEntry)(i:Nat),(∀e∈es,Instr.sameNow d k e.key=none\/∃b,Instr.sameNow d k e.key=some b/\(b=true↔k=e.key))->Instr.findNow d k es i=none\/∃r,Instr.findNow d k es i=some r/\ZHY k es i r
 | [],i,h=>.inr ⟨none,rfl,.inl ⟨rfl,by simp⟩⟩
 |e :: es,i,h=>by
  rcases h e List.mem_cons_self with h1|⟨b,h1,h2⟩
  .left;simp[Instr.findNow,h1]
  .cases b with
   |true=>exact .inr ⟨some (i,e.val),by simp[Instr.findNow,h1],.inr ⟨0,e,rfl,(h2.1 rfl).symm,rfl⟩⟩
   |false=>
    rcases ZGa (d:=d) (k:=k) es (i+1) fun e he=>h e (List.mem_cons_of_mem _ he)with h3|⟨r,h3,h4⟩
    .left;simp[Instr.findNow,h1,h3]
    .exact .inr ⟨r,by simp[Instr.findNow,h1,h3],h4.cons fun hk=>by have:=h2.2 hk.symm;cases this⟩
theorem ZnG.find{P:Program}{kt:TypeId}{k:Value}{es:List MapEntry}(h:ZnG P kt k (es.map (·.key)))(w:World):∃r,(Instr.findKey kt k es).run P w=.ok r w/\ZHY k es 0 r:=by
 obtain⟨d,hd,hs⟩:=h.slow;have he:∀e∈es,e.key∈es.map (·.key):=fun e he=>List.mem_map.2 ⟨e,he,rfl⟩;unfold Instr.findKey;simp only[Sem.run_bind,run_underlying hd,Result.andThen_ok];rcases ZGa (d:=d) (k:=k) es 0 fun e h=>hs _ (he e h)with h1|⟨r,h1,h2⟩
 .rw[h1];exact Zpj w es 0 fun e hm=>h.eql _ (he e hm) w
 .rw[h1];exact⟨r,by simp,h2⟩
theorem RepE.keysEq{S:Nat->Prop}{w:World}{l:List (Value×V)}{es:List MapEntry}{c:Nat}(h:RepE S w l es c):es.map (·.key)=l.map (·.1):=by
 apply List.ext_getElem
 .simp[h.len]
 .intro i h1 h2;have i1:i<es.length:=by simpa using h1
  have i2:i<l.length:=by simpa using h2
  simp only[List.getElem_map];exact(h.at_ i l[i] es[i] (by simp[i2]) (by simp[i1])).1
def Zyc(l:List (Value×V))(k z:Value)(v:V):Prop:=(∃p∈l,p.1=k/\∀S w m x,RepV S w m p.2 x->RepV S w m v x)\/((∀p∈l,p.1≠k)/\∀S w m,RepV S w m v z)
def MPut(l:List (Value×V))(k:Value)(v:V)(l':List (Value×V)):Prop:=(∃j,(l[j]?).map (·.1)=some k/\l'=l.set j (k,v))\/((∀p∈l,p.1≠k)/\l'=l++[(k,v)])
def MDel(l:List (Value×V))(k:Value)(l':List (Value×V)):Prop:=(∃j,(l[j]?).map (·.1)=some k/\l'=l.eraseIdx j)\/((∀p∈l,p.1≠k)/\l'=l)
theorem Zmm{α:Type}{l:List α}{j:Nat}(h:j<l.length):l[j]?=some l[j]:=by simp[h]
theorem Zqa{α:Type}{l:List α}(h:l.Nodup){i j:Nat}{a:α}(hi:l[i]?=some a)(hj:l[j]?=some a):i=j:=by
 obtain⟨i1,e1⟩:=List.getElem?_eq_some_iff.1 hi;exact(List.getElem?_inj i1 h).1 (hi.trans hj.symm)
def ZDG(T:Tab)(t:TypeId):Option (TypeId×TypeId):=match ZeV T t with
 |some ti=>match ti.k with
  | .map k v=>some (k,v)
  |_=>none
 |none=>none
theorem Zpu{P:Program}{T:Tab}(hT:Zes P T){t k v:TypeId}(h:ZDG T t=some (k,v)):P.underlying t=some (.map k v):=by
 unfold ZDG at h;split at h;rotate_left
 .cases h
 rename_i ti a7;obtain⟨d,hu,hf⟩:=hT.under a7;split at h;rotate_left
 .cases h
 rename_i k' v' hk;cases h;rw[hk]at hf;cases d<;>simp only[TK.fits]at hf;obtain⟨rfl,rfl⟩:=hf;exact hu
def Zqo(st:St)(v:V):Option (Nat×TypeId×List (Value×V)):=match v with
 | .one (.mp id)=>match hget st.heap id with
  |some (.map kt l)=>some (id,kt,l)
  |_=>none
 |_=>none
theorem ZoA{st:St}{v:V}{id kt:Nat}{l:List (Value×V)}(h:Zqo st v=some (id,kt,l)):v=.one (.mp id)/\hget st.heap id=some (.map kt l):=by
 unfold Zqo at h;split at h
 .split at h
  .cases h;exact⟨rfl,by assumption⟩
  .cases h
 .cases h
def ZrC(N:Nat)(T:Tab)(st:St)(d t:Nat)(r:Option V):Option (V×List Prop×St):=match ZDG T t,ZdC N d st with
 |some (k,_),true=>match r with
  |none=>some (.one (.mp d),[],st.new d (.map k []))
  |some v=>match intV v with
   |some _=>some (.one (.mp d),[],st.new d (.map k []))
   |none=>none
 |_,_=>none
def Zze(T:Tab)(t:TypeId):Option Value:=match ZeV T t with
 |some ti=>ti.zero
 |none=>none
def ZiW(P:Program)(T:Tab)(st:St)(t:Nat)(x k:V)(ok:Bool)(an:Option Ans):Option (V×List Prop):=match ok,ZDG T t,Zqo st x,k.val,an with
 |false,some (kt,vt),some (_,_,l),some kv,some (.r v _)=>match Zze T vt with
  |some z=>some (v,[ZnG P kt kv (l.map (·.1)),Zyc l kv z v])
  |none=>none
 |_,_,_,_,_=>none
def ZxE(P:Program)(T:Tab)(st:St)(t:Nat)(x k v:V)(an:Option Ans):Option (List Prop×St):=match ZDG T t,Zqo st x,k.val,v.pure,an with
 |some (kt,_),some (id,kt',l),some kv,true,some (.m l')=>some ([ZnG P kt kv (l.map (·.1)),MPut l kv v l'],{ st with heap:=hset st.heap id (.map kt' l') })
 |_,_,_,_,_=>none
def ZJI(kt:Nat):Nat:=match Nat.blt kt 1000000 with
 |true=>kt+1000000
 |false=>kt
def Zta(P:Program)(T:Tab)(st:St)(t:Nat)(x k:V)(an:Option Ans):Option (List Prop×St):=match ZDG T t,Zqo st x,k.val,an with
 |some (kt,_),some (id,kt',l),some kv,some (.m l')=>some ([ZnG P kt kv (l.map (·.1)),MDel l kv l'],{ st with heap:=hset st.heap id (.map (ZJI kt') l') })
 |_,_,_,_=>none
def MEnt(l:List (Value×V))(k z:Value)(j:Int)(l':List (Value×V)):Prop:=(∃i:Nat,(l[i]?).map (·.1)=some k/\j=(i:Int)/\l'=l)\/((∀p∈l,p.1≠k)/\j=((l.length:Nat):Int)/\∃v,(∀S w m,RepV S w m v z)/\(∀S w m x,RepV S w m v x->x=z)/\l'=l++[(k,v)])
def MSt(l:List (Value×V))(j:Int)(v:V)(l':List (Value×V)):Prop:=∃i:Nat,j=(i:Int)/\∃p,l[i]?=some p/\l'=l.set i (p.1,v)
def ZiG(P:Program)(T:Tab)(st:St)(t:Nat)(x k:V)(an:Option Ans):Option (V×List Prop×St):=match ZDG T t,Zqo st x,k.val,an with
 |some (kt,vt),some (id,kt',l),some kv,some (.m ((.int _ j,_) :: l'))=>match Zze T vt,Nat.blt kt' 1000000 with
  |some z,true=>some (.tup [(false,[.junk]),(false,[.lit (.int .i64 j)])],[ZnG P kt kv (kv :: l.map (·.1)),MEnt l kv z j l'],{ st with heap:=hset st.heap id (.map kt' l') })
  |_,_=>none
 |_,_,_,_=>none
def Zig(st:St)(x s v:V)(an:Option Ans):Option (List Prop×St):=match Zqo st x,s,v.pure,an with
 |some (id,kt',l),.one (.lit (.int _ j)),true,some (.m l')=>match Nat.blt kt' 1000000 with
  |true=>some ([MSt l j v l'],{ st with heap:=hset st.heap id (.map kt' l') })
  |false=>none
 |_,_,_,_=>none
theorem ZnG.sub{P:Program}{kt:TypeId}{k:Value}{ks ks':List Value}(h:ZnG P kt k ks)(hs:∀x∈ks',x∈ks):ZnG P kt k ks':=
 ⟨h.check,by obtain⟨d,h1,h2⟩:=h.slow;exact⟨d,h1,fun x hx=>h2 x (hs x hx)⟩,fun x hx=>h.eql x (hs x hx),h.same⟩
theorem Zyc.ent{l l':List (Value×V)}{k z:Value}{v:V}{j:Int}(h:Zyc l k z v)(he:MEnt l k z j l'):Zyc l' k z v:=by
 rcases he with⟨i,_,_,rfl⟩|⟨h1,_,v0,_,h3,rfl⟩
 .exact h
 .rcases h with⟨p,h4,h5,_⟩|⟨_,h4⟩
  .exact absurd h5 (h1 p h4)
  .exact .inl ⟨(k,v0),by simp,rfl,fun S w m x hx=>by rw[h3 S w m x hx];exact h4 S w m⟩
theorem MEnt.keys{l l':List (Value×V)}{k z:Value}{j:Int}(he:MEnt l k z j l'):∀x∈l'.map (·.1),x∈k :: l.map (·.1):=by
 rcases he with⟨i,_,_,rfl⟩|⟨h1,_,v0,_,h3,rfl⟩
 .exact fun x hx=>List.mem_cons_of_mem _ hx
 .intro x hx;rw[List.map_append,List.mem_append]at hx;rcases hx with hx|hx
  .exact List.mem_cons_of_mem _ hx
  .simp only[List.map_cons,List.map_nil,List.mem_singleton]at hx;rw[hx];simp
theorem ZLc(w:World)(o:Obj):(w.alloc o).heap[w.heap.size]?=some o:=by
 show (w.heap.push o)[w.heap.size]?=some o;simp
theorem Zwj{kt:TypeId}{es:Array MapEntry}{am:Nat}(h:ZCx kt es.toList am){e:MapEntry}(he:e.born=am):ZCx kt (es.push e).toList (am+1):=fun hk=>by
 obtain⟨h1,h2⟩:=h hk
 refine⟨by simpa using h1,fun j x hx=>?_⟩
 rw[Array.toList_push,List.getElem?_append]at hx
 split at hx
 .exact h2 j x hx
 .rename_i hj
  rcases Nat.eq_zero_or_pos (j-es.toList.length)with hz|hz
  .rw[hz]at hx
   cases hx
   omega
  .rw[List.getElem?_eq_none (by simp;simp at hz;omega)]at hx
   cases hx
theorem ZpI{kt:TypeId}{es:Array MapEntry}{am:Nat}(h:ZCx kt es.toList am)(i:Nat)(f:MapEntry->MapEntry)(hf:∀e,(f e).born=e.born):ZCx kt (es.modify i f).toList am:=fun hk=>by
 obtain⟨h1,h2⟩:=h hk
 refine⟨by simpa using h1,fun j x hx=>?_⟩
 rw[Array.toList_modify,List.getElem?_modify]at hx
 cases hj:es.toList[j]? with
 |none=>rw[hj]at hx;cases hx
 |some e=>
  rw[hj]at hx
  have:=h2 j e hj
  by_cases hij:i=j
  .simp only[hij,if_true,Option.map_some,Option.some.injEq,Option.map_eq_map]at hx
   subst hx
   rw[hf];exact this
  .simp only[hij,if_false,Option.map_some,Option.some.injEq,Option.map_eq_map,id]at hx
   subst hx
   exact this
theorem ZBV(kt:TypeId)(es:List MapEntry)(am:Nat):ZCx (ZJI kt) es am:=fun hk=>by
 unfold ZJI at hk
 split at hk
 .have:=Nat.le_of_ble_eq_true hk
  omega
 .rename_i h
  rw[h]at hk
  cases hk
def Zqu(w:World)(b:Nat)(o:Obj):World:={ w with heap:=w.heap.setIfInBounds b o }
theorem ZkB{P:Program}(w:World)(b:Nat)(es:Array MapEntry)(c:Nat)(o:Obj)(h:w.heap[b]?=some (.map es c)):(Go.setObj b o).run P w=.ok () (Zqu w b o):=by
 simp[Go.setObj,Sem.run,h,Zqu]
theorem Zji{P:Program}{w:World}{b:Nat}{es:Array MapEntry}{c:Nat}(h:w.heap[b]?=some (.map es c)):(Go.getObj b).run P w=.ok (.map es c) w:=by simp[Go.getObj,Sem.run,h]
section
variable {P:Program} {T:Tab} {N:Nat} {S0:Nat->Prop} {w0:ZeC} {st:St} {a:Act} {w:World} {S:Nat->Prop} {m:Mp}
theorem Sim.mapBlock(hs:Sim N w0.F S m st a w){id kt:Nat}{l:List (Value×V)}(hl:hget st.heap id=some (.map kt l)):∃b es am,m id=.map (some b)/\w.heap[b]?=some (.map es am)/\RepE S w l es.toList am/\ZCx kt es.toList am:=hs.heap id _ hl
theorem Sim.writeMap(hs:Sim N w0.F S m st a w)(hg:Goes w0.F.no S0 S w0.w w){id kt:Nat}{l l':List (Value×V)}(hl:hget st.heap id=some (.map kt l)){b am bQ:Nat}{es gG:Array MapEntry}(hm:m id=.map (some b))(hb:w.heap[b]?=some (.map es am))
  {kt2:Nat} (h:∀w',Zgs S w w'->RepE S w' l' gG.toList bQ) (hd:ZCx kt2 gG.toList bQ):Sim N w0.F S m { st with heap:=hset st.heap id (.map kt2 l') } a (Zqu w b (.map gG bQ))/\Goes w0.F.no S0 S w0.w (Zqu w b (.map gG bQ)):=by
 have hlt:b<w.heap.size:=(hs.own id _ hl b (by rw[hm];rfl)).2.2;have hS:¬S b:=(hs.own id _ hl b (by rw[hm];rfl)).1;have bt:¬w0.F.no b:=(hs.own id _ hl b (by rw[hm];rfl)).2.1;have gH:∀k,k≠b->(Zqu w b (.map gG bQ)).heap[k]?=w.heap[k]?:=fun k hk=>by simp only[Zqu];rw[Array.getElem?_setIfInBounds_ne (Ne.symm hk)]
 have cQ:Zgs S w (Zqu w b (.map gG bQ)):=fun k hk=>gH k fun e=>hS (e ▸ hk);refine⟨hs.write (.map kt2 l') hl (by simp[Zqu]) (fun k hk hne=>gH k fun e=>hne (by rw[hm,e];rfl)) ?_,hg.step ⟨rfl,rfl,rfl,by simp[Zqu],fun k hk=>gH k fun e=>bt (e ▸ hk),Nat.le_refl _⟩ (fun _ h=>h) fun _ h=>.inl h⟩;rw[hm];exact⟨b,gG,bQ,rfl,by simp[Zqu,hlt],h _ cQ,hd⟩
theorem ZxF(hT:Zes P T)(hs:Sim N w0.F S m st a w)(hg:Goes w0.F.no S0 S w0.w w){d t:Nat}{r:Option V}{pr:Option Value}{v:V}{obl:List Prop}{st':St}(hr:match r,pr with|none,none=>True|some v,some x=>RepV S w m v x|_,_=>False)
  (h:ZrC N T st d t r=some (v,obl,st')):∃y w' m',(Instr.makeMap t pr).run P w=.ok y w'/\Sim N w0.F S m' st' a w'/\Goes w0.F.no S0 S w0.w w'/\RepV S w' m' v y:=by
 unfold ZrC at h;split at h;rotate_left
 .cases h
 rename_i k vt dR hq;have hu:=Zpu hT dR;have au:v=.one (.mp d)->st'=st.new d (.map k [])->(Instr.makeMap t pr).run P w=.ok (.map (some w.heap.size)) (w.alloc (.map #[] 0))->∃y w' m',(Instr.makeMap t pr).run P w=.ok y w'/\Sim N w0.F S m' st' a w'/\Goes w0.F.no S0 S w0.w w'/\RepV S w' m' v y:=by
  rintro rfl rfl hrun;refine⟨_,_,upd m d (.map (some w.heap.size)),hrun,hs.newBlock d hq (.map #[] 0) (.map (some w.heap.size)) (.map k []) rfl ⟨w.heap.size,#[],0,rfl,ZLc w _,⟨rfl,fun j p e h=>by simp at h,by simp,by simp⟩,fun _=>⟨rfl,fun j e h=>by simp at h⟩⟩,hg.alloc hs.base_le _,?_⟩;exact RepC.mp (ZfL _ _ _)
 cases r with
 |none=>
  cases pr with
  |some x=>exact hr.elim
  |none=>
   cases h;exact au rfl rfl (by simp[Instr.makeMap,Sem.run_bind])
 |some v0=>
  cases pr with
  |none=>exact hr.elim
  |some x=>
   simp only at h;split at h
   .rename_i p hp;cases h;obtain⟨kk,n⟩:=p;obtain rfl:=ZoD hr hp;exact au rfl rfl (by simp[Instr.makeMap,Sem.run_bind,run_underlying hu,asInt,asIntOf])
   .cases h
theorem ZBJ(hT:Zes P T)(hs:Sim N w0.F S m st a w){t:Nat}{x k v:V}{px pk:Value}{ok:Bool}{an:Option Ans}{obl:List Prop}(hx:RepV S w m x px)(hk:RepV S w m k pk)(h:ZiW P T st t x k ok an=some (v,obl))(ho:∀q∈obl,q) :
  ∃y,(Instr.lookup t px pk ok).run P w=.ok y w/\RepV S w m v y:=by
 unfold ZiW at h;split at h;rotate_left
 .cases h
 rename_i kt vt id kt' l kv v' fz dR dI eG;split at h;rotate_left
 .cases h
 rename_i z hz;cases h;have hu:=Zpu hT dR;obtain⟨rfl,hl⟩:=ZoA dI;obtain⟨b,es,am,hm,hb,hE,hD⟩:=hs.mapBlock hl;obtain rfl:=V.val_rep hk eG;have hK:ZnG P kt pk (l.map (·.1)):=ho _ (by simp);have hM:Zyc l pk z v:=ho _ (by simp);have cR:px=.map (some b):=by
  cases hx with
  |mp h'=>rw[hm]at h';exact h'.symm
 subst cR;have fe:=hK;rw[<-hE.keysEq]at fe;obtain⟨r,h1,h2⟩:=fe.find w;have fc:(zeroValue vt).run P w=.ok z w:=by
  unfold Zze at hz;split at hz
  .rename_i ti a7;obtain⟨i,q1,q2,q3,q4⟩:=hT.info a7;simp[zeroValue,typeInfo,q1,q4,hz]
  .cases hz
 rcases h2 with⟨rfl,h3⟩|⟨j,e,h3,h4,rfl⟩
 .refine⟨z,?_,?_⟩
  .simp only[Instr.lookup,Sem.run_bind,run_underlying hu,Result.andThen_ok,Zji hb,Sem.run_pure,hK.check,h1,fc];simp
  .rcases hM with⟨p,hp,aT,a4⟩|⟨_,hM⟩
   .exfalso;obtain⟨j,hj,e⟩:=List.getElem_of_mem hp;have hj2:j<es.toList.length:=by rw[hE.len];exact hj
    have:=(hE.at_ j p es.toList[j] (by rw[Zmm hj,e]) (Zmm hj2)).1;exact h3 _ (List.getElem_mem hj2) (this.trans aT)
   .exact hM S w m
 .refine⟨e.val,?_,?_⟩
  .simp only[Instr.lookup,Sem.run_bind,run_underlying hu,Result.andThen_ok,Zji hb,Sem.run_pure,hK.check,h1];simp
  .have hj:j<l.length:=by
    have:=(List.getElem?_eq_some_iff.1 h3).1;rw[hE.len]at this;exact this
   obtain⟨q1,q2,q3⟩:=hE.at_ j l[j] e (Zmm hj) h3;rcases hM with⟨p,hp,aT,hpv⟩|⟨hM,_⟩
   .obtain⟨j2,hj2,e2⟩:=List.getElem_of_mem hp;have:j=j2:=Zqa hE.keys (a:=pk) (by rw[List.getElem?_map,Zmm hj];simp[<-q1,h4]) (by rw[List.getElem?_map,Zmm hj2,e2];simp[aT]);subst this;rw[e2]at q3;exact hpv _ _ _ _ q3.keepM
   .exact absurd (q1.symm.trans h4) (hM _ (List.getElem_mem hj))
theorem RepE.put{l l':List (Value×V)}{es:List MapEntry}{am:Nat}{k:Value}{v:V}{x:Value}(h:RepE S w l es am)(hx:RepV S w ZcK v x)(hM:MPut l k v l') :
  (∃j e,es[j]?=some e/\e.key=k/\RepE S w l' (es.set j { e with key:=k,val:=x }) am)\/((∀e∈es,e.key≠k)/\RepE S w l' (es++[{ key:=k,val:=x,born:=am }]) (am+1)):=by
 rcases hM with⟨j,h1,rfl⟩|⟨h1,rfl⟩
 .left;have hj:j<l.length:=by
   rcases Nat.lt_or_ge j l.length with h|h
   .exact h
   .rw[List.getElem?_eq_none h]at h1;cases h1
  have hj2:j<es.length:=by rw[h.len];exact hj
  rw[Zmm hj]at h1;simp only[Option.map_some,Option.some.injEq]at h1;obtain⟨q1,q2,q3⟩:=h.at_ j l[j] es[j] (Zmm hj) (Zmm hj2);refine⟨j,es[j],Zmm hj2,q1.trans h1,⟨by simp[h.len],fun i p e hp he=>?_,?_,?_⟩⟩
  .rw[List.getElem?_set]at hp he;by_cases hij:j=i
   .subst hij;rw[if_pos rfl,if_pos hj]at hp;rw[if_pos rfl,if_pos hj2]at he;cases hp;cases he;exact⟨rfl,q2,hx⟩
   .rw[if_neg hij]at hp he;exact h.at_ i p e hp he
  .have:(l.set j (k,v)).map (·.1)=l.map (·.1):=by
    rw[List.map_set];apply List.ext_getElem?;intro i;rw[List.getElem?_set];split
    .rename_i e;subst e;rw[if_pos (by simpa using hj),List.getElem?_map,Zmm hj];simp[h1]
    .rfl
   rw[this];exact h.keys
  .have:(es.set j { es[j]with key:=k,val:=x }).map (·.born)=es.map (·.born):=by
    rw[List.map_set];apply List.ext_getElem?;intro i;rw[List.getElem?_set];split
    .rename_i e;subst e;rw[if_pos (by simpa using hj2),List.getElem?_map,Zmm hj2];rfl
    .rfl
   rw[this];exact h.born
 .right;have hk:=h.keysEq;have hne:∀e∈es,e.key≠k:=fun e he hk2=>by
   have:e.key∈es.map (·.key):=List.mem_map.2 ⟨e,he,rfl⟩;rw[hk,List.mem_map]at this;obtain⟨p,hp,a4⟩:=this;exact h1 p hp (a4.trans hk2)
  refine⟨hne,⟨by simp[h.len],fun i p e hp he=>?_,?_,?_⟩⟩
  .rw[List.getElem?_append]at hp he;have hl:=h.len;split at hp
   .rename_i hi;rw[if_pos (by omega)]at he;obtain⟨q1,q2,q3⟩:=h.at_ i p e hp he;exact⟨q1,by omega,q3⟩
   .rename_i hi;rw[if_neg (by omega)]at he;have br:i-l.length=i-es.length:=by omega
    rw[br]at hp;rcases Nat.eq_zero_or_pos (i-es.length)with hz|hz
    .rw[hz]at hp he;cases hp;cases he;exact⟨rfl,Nat.lt_succ_self _,hx⟩
    .rw[List.getElem?_eq_none (by simp;omega)]at hp;cases hp
  .rw[List.map_append,List.nodup_append];refine⟨h.keys,by simp,fun a ha b hb=>?_⟩;simp only[List.map_cons,List.map_nil,List.mem_singleton]at hb;subst hb;rw[List.mem_map]at ha;obtain⟨p,hp,rfl⟩:=ha;exact h1 p hp
  .rw[List.map_append,List.nodup_append];refine⟨h.born,by simp,fun a ha b hb=>?_⟩;simp only[List.map_cons,List.map_nil,List.mem_singleton]at hb;subst hb;rw[List.mem_map]at ha;obtain⟨e,he,rfl⟩:=ha;obtain⟨i,hi,rfl⟩:=List.getElem_of_mem he;have br:i<l.length:=by rw[<-h.len];exact hi
   have:=(h.at_ i l[i] es[i] (Zmm br) (Zmm hi)).2.1;omega
theorem RepE.del{l l':List (Value×V)}{es:List MapEntry}{am:Nat}{k:Value}(h:RepE S w l es am)(hM:MDel l k l') :
  (∃j e,es[j]?=some e/\e.key=k/\RepE S w l' (es.eraseIdx j) am)\/((∀e∈es,e.key≠k)/\RepE S w l' es am):=by
 have hk:=h.keysEq;rcases hM with⟨j,h1,rfl⟩|⟨h1,rfl⟩
 .left;have hj:j<l.length:=by
   rcases Nat.lt_or_ge j l.length with h|h
   .exact h
   .rw[List.getElem?_eq_none h]at h1;cases h1
  have hj2:j<es.length:=by rw[h.len];exact hj
  rw[Zmm hj]at h1;simp only[Option.map_some,Option.some.injEq]at h1;obtain⟨q1,q2,q3⟩:=h.at_ j l[j] es[j] (Zmm hj) (Zmm hj2);refine⟨j,es[j],Zmm hj2,q1.trans h1,⟨by rw[List.length_eraseIdx_of_lt hj,List.length_eraseIdx_of_lt hj2,h.len],fun i p e hp he=>?_,?_,?_⟩⟩
  .rw[List.getElem?_eraseIdx]at hp he;split at hp
   .rename_i hi;rw[if_pos hi]at he;exact h.at_ i p e hp he
   .rename_i hi;rw[if_neg hi]at he;exact h.at_ (i+1) p e hp he
  .exact((List.eraseIdx_sublist l j).map _).nodup h.keys
  .exact((List.eraseIdx_sublist es j).map _).nodup h.born
 .right;refine⟨fun e he hk2=>?_,h⟩;have:e.key∈es.map (·.key):=List.mem_map.2 ⟨e,he,rfl⟩;rw[hk,List.mem_map]at this;obtain⟨p,hp,a4⟩:=this;exact h1 p hp (a4.trans hk2)
theorem ZEe(hT:Zes P T)(hs:Sim N w0.F S m st a w)(hg:Goes w0.F.no S0 S w0.w w){t:Nat}{x k v:V}{px pk pv:Value}{an:Option Ans}{obl:List Prop}{st':St}(hx:RepV S w m x px)(hk:RepV S w m k pk)(hv:RepV S w m v pv)
  (h:ZxE P T st t x k v an=some (obl,st')) (ho:∀q∈obl,q):∃w',(Instr.mapUpdate t px pk pv).run P w=.ok () w'/\Sim N w0.F S m st' a w'/\Goes w0.F.no S0 S w0.w w':=by
 unfold ZxE at h;split at h;rotate_left
 .cases h
 rename_i kt vt id kt' l kv l' dR dI eG dz;cases h;have hu:=Zpu hT dR;obtain⟨rfl,hl⟩:=ZoA dI;obtain⟨b,es,am,hm,hb,hE,hD⟩:=hs.mapBlock hl;obtain rfl:=V.val_rep hk eG;have hK:ZnG P kt pk (l.map (·.1)):=ho _ (by simp);have hM:MPut l pk v l':=ho _ (by simp);have cR:px=.map (some b):=by
  cases hx with
  |mp h'=>rw[hm]at h';exact h'.symm
 subst cR;have fe:=hK;rw[<-hE.keysEq]at fe;obtain⟨r,h1,h2⟩:=fe.find w;have gi:RepV S w ZcK v pv:=hv.anyM ZcK dz;have dA:∀w',Zgs S w w'->RepE S w' l es.toList am:=fun w' hw=>hE.keep hw fun _ h=>h;rcases h2 with⟨rfl,h3⟩|⟨j,e,h3,h4,rfl⟩
 .have key:∀w',Zgs S w w'->RepE S w' l' (es.push { key:=pk,val:=pv,born:=am }).toList (am+1):=fun w' hw=>by
   rcases(dA w' hw).put (gi.keep hw fun _ h=>h) hM with⟨j,e,q1,q2,_⟩|⟨_,q⟩
   .exact absurd q2 (h3 e (List.mem_of_getElem? q1))
   .simpa using q
  obtain⟨s1,s2⟩:=hs.writeMap (kt2:=kt') hg hl hm hb key (Zwj hD rfl);refine⟨_,?_,s1,s2⟩;simp only[Instr.mapUpdate,Sem.run_bind,run_underlying hu,Result.andThen_ok,Zji hb,hK.check,h1];exact ZkB w b es am _ hb
 .have hj2:j<es.toList.length:=(List.getElem?_eq_some_iff.1 h3).1;have key:∀w',Zgs S w w'->RepE S w' l' (es.modify (0+j) fun e=>{ e with key:=pk,val:=pv }).toList am:=fun w' hw=>by
   rcases(dA w' hw).put (gi.keep hw fun _ h=>h) hM with⟨j',e',q1,q2,q3⟩|⟨q,_⟩
   .have iw:j'=j:=by
     have k1:(es.toList.map (·.key))[j']?=some pk:=by rw[List.getElem?_map,q1];simp[q2]
     have k2:(es.toList.map (·.key))[j]?=some pk:=by rw[List.getElem?_map,h3];simp[h4]
     exact Zqa (by rw[hE.keysEq];exact hE.keys) k1 k2
    subst iw;have e3:(es.modify (0+j') fun e=>{ e with key:=pk,val:=pv }).toList=es.toList.set j' { e' with key:=pk,val:=pv }:=by
     rw[Array.toList_modify,Nat.zero_add];apply List.ext_getElem?;intro i;rw[List.getElem?_modify,List.getElem?_set];by_cases hij:j'=i
     .subst hij;rw[if_pos rfl,if_pos (by simpa using hj2)];simp[q1]
     .simp[hij]
    rw[e3];exact q3
   .exact absurd h4 (q e (List.mem_of_getElem? h3))
  obtain⟨s1,s2⟩:=hs.writeMap (kt2:=kt') hg hl hm hb key (ZpI hD _ _ fun _=>rfl);refine⟨_,?_,s1,s2⟩;have gI:((es[0+j]?.map (·.key)).getD pk)=pk:=by
   have:es[0+j]?=some e:=by rw[Nat.zero_add,<-Array.getElem?_toList];exact h3
   rw[this];simp[h4]
  simp only[Instr.mapUpdate,Sem.run_bind,run_underlying hu,Result.andThen_ok,Zji hb,hK.check,h1,gI,Instr.keyThatStays,hK.same,if_true,Sem.run_pure];exact ZkB w b es am _ hb
theorem ZLw(c y:Value)(d:C)(h:RepC S w m d y):RepV S w m (.tup [(false,[.junk]),(false,[d])]) (.tuple #[c,y]):=
 ⟨#[c,y],rfl,rfl,fun j p hj=>match j,hj with
  | 0,hj=>by cases hj;exact⟨c,rfl,RepC.junk⟩
  | 1,hj=>by cases hj;exact⟨y,rfl,h⟩
  |j+2,hj=>by simp at hj⟩
theorem ZGB(hT:Zes P T){vt:Nat}{z:Value}(hz:Zze T vt=some z):(zeroValue vt).run P w=.ok z w:=by
 unfold Zze at hz;split at hz
 .rename_i ti a7;obtain⟨i,q1,q2,q3,q4⟩:=hT.info a7;simp[zeroValue,typeInfo,q1,q4,hz]
 .cases hz
theorem ZuW(hT:Zes P T)(hs:Sim N w0.F S m st a w)(hg:Goes w0.F.no S0 S w0.w w){t:Nat}{x k v:V}{px pk:Value}{an:Option Ans}{obl:List Prop}{st':St}(hx:RepV S w m x px)(hk:RepV S w m k pk)
  (h:ZiG P T st t x k an=some (v,obl,st')) (ho:∀q∈obl,q):∃y w',(Instr.mapEntry t px pk).run P w=.ok y w'/\Sim N w0.F S m st' a w'/\Goes w0.F.no S0 S w0.w w'/\RepV S w' m v y:=by
 unfold ZiG at h;split at h;rotate_left
 .cases h
 rename_i kt vt id kt' l kv ik j z0 l' dR dI eG;split at h;rotate_left
 .cases h
 rename_i z hz ff;cases h;have hu:=Zpu hT dR;obtain⟨rfl,hl⟩:=ZoA dI;obtain⟨b,es,am,hm,hb,hE,hD⟩:=hs.mapBlock hl;obtain rfl:=V.val_rep hk eG;have hK:ZnG P kt pk (l.map (·.1)):=ZnG.sub (ks:=pk :: l.map (·.1)) (ho _ (by simp)) fun _ h=>List.mem_cons_of_mem _ h;have hM:MEnt l pk z j l':=ho _ (by simp);have cR:px=.map (some b):=by
  cases hx with
  |mp h'=>rw[hm]at h';exact h'.symm
 subst cR;have fe:=hK;rw[<-hE.keysEq]at fe;obtain⟨r,h1,h2⟩:=fe.find w;obtain⟨hc,iy⟩:=hD ff;have dA:∀w',Zgs S w w'->RepE S w' l es.toList am:=fun w' hw=>hE.keep hw fun _ h=>h;have bP:∀(y:Value)(n:Nat) w',y.oneCell'=true\/True->(j=(n:Int))->RepV S w' m (.tup [(false,[.junk]),(false,[.lit (.int .i64 j)])]) (.tuple #[y,goInt n]):=fun y n w' _ hj=>by
  subst hj;exact ZLw _ _ _ RepC.lit
 rcases h2 with⟨rfl,h3⟩|⟨i,e,h3,h4,rfl⟩
 .rcases hM with⟨i,q1,q2,q3⟩|⟨q1,q2,v0,q3,_,q4⟩
  .exfalso;have:pk∈es.toList.map (·.key):=by rw[hE.keysEq];exact List.mem_of_getElem? (by rw[List.getElem?_map];exact q1)
   obtain⟨e,he,hk'⟩:=List.mem_map.1 this;exact h3 e he hk'
  .have key:∀w',Zgs S w w'->RepE S w' l' (es.push { key:=pk,val:=z,born:=am }).toList (am+1):=fun w' hw=>by
    rcases(dA w' hw).put (q3 S w' ZcK) (.inr ⟨q1,q4⟩)with⟨j',e,p1,p2,_⟩|⟨_,p⟩
    .exact absurd p2 (h3 e (List.mem_of_getElem? p1))
    .simpa using p
   obtain⟨s1,s2⟩:=hs.writeMap (kt2:=kt') hg hl hm hb key (Zwj hD rfl);refine⟨_,_,?_,s1,s2,bP z am _ (.inr trivial) (by rw[q2,hc,hE.len])⟩;simp only[Instr.mapEntry,Sem.run_bind,run_underlying hu,Result.andThen_ok,Zji hb,hK.check,h1,ZGB hT hz,ZkB w b es am _ hb];rfl
 .have br:i<es.toList.length:=(List.getElem?_eq_some_iff.1 h3).1;have gC:i<l.length:=by rw[<-hE.len];exact br
  obtain⟨p1,p2,p3⟩:=hE.at_ i l[i] e (Zmm gC) h3;rcases hM with⟨i',q1,q2,q3⟩|⟨q1,_⟩
  .have hii:i'=i:=Zqa hE.keys (a:=pk) (by rw[List.getElem?_map];exact q1) (by rw[List.getElem?_map,Zmm gC];simp[<-p1,h4]);subst hii;subst q3;have gI:((es[0+i']?.map (·.key)).getD pk)=pk:=by
    have:es[0+i']?=some e:=by rw[Nat.zero_add,<-Array.getElem?_toList];exact h3
    rw[this];simp[h4]
   have iz:((es[0+i']?.map (fun x=>(x.born:Int))).getD 0)=(i':Int):=by
    have:es[0+i']?=some e:=by rw[Nat.zero_add,<-Array.getElem?_toList];exact h3
    rw[this];simp[iy i' e h3]
   have e3:(es.modify (0+i') fun e=>{ e with key:=pk }).toList=es.toList:=by
    rw[Array.toList_modify,Nat.zero_add];apply List.ext_getElem?;intro n;rw[List.getElem?_modify];by_cases hin:i'=n
    .subst hin;rw[h3];simp[<-h4]
    .simp[hin]
   have key:∀w',Zgs S w w'->RepE S w' l' (es.modify (0+i') fun e=>{ e with key:=pk }).toList am:=fun w' hw=>by rw[e3];exact dA w' hw
   obtain⟨s1,s2⟩:=hs.writeMap (kt2:=kt') hg hl hm hb key (ZpI hD _ _ fun _=>rfl);refine⟨_,_,?_,s1,s2,bP e.val i' _ (.inr trivial) q2⟩;simp only[Instr.mapEntry,Sem.run_bind,run_underlying hu,Result.andThen_ok,Zji hb,hK.check,h1,gI,Instr.keyThatStays,hK.same,if_true,Sem.run_pure,iz,ZkB w b es am _ hb]
  .exact absurd (p1.symm.trans h4) (q1 _ (List.getElem_mem gC))
theorem ZBy:∀(es:List MapEntry)(i:Nat)(e:MapEntry),es[i]?=some e->(∀(j:Nat)(e:MapEntry),es[j]?=some e->e.born=j)->es.findIdx? (fun e=>(e.born:Int)==(i:Int))=some i:=by
 intro es i e h hb;obtain⟨hi,rfl⟩:=List.getElem?_eq_some_iff.1 h;rw[List.findIdx?_eq_some_iff_getElem];refine⟨hi,?_,fun j hj=>?_⟩
 .rw[hb i _ h];simp
 .have:=hb j es[j] (by simp[Nat.lt_trans hj hi]);simp[this];omega
theorem ZsE(hs:Sim N w0.F S m st a w)(hg:Goes w0.F.no S0 S w0.w w){t:Nat}{x s v:V}{px ps pv:Value}{an:Option Ans}{obl:List Prop}{st':St}(hx:RepV S w m x px)(hsv:RepV S w m s ps)(hv:RepV S w m v pv)
  (h:Zig st x s v an=some (obl,st')) (ho:∀q∈obl,q):∃w',(Instr.entryStore t px ps pv).run P w=.ok () w'/\Sim N w0.F S m st' a w'/\Goes w0.F.no S0 S w0.w w':=by
 unfold Zig at h;split at h;rotate_left
 .cases h
 rename_i id kt' l ik j l' dI dz;split at h;rotate_left
 .cases h
 rename_i ff;cases h;obtain⟨rfl,hl⟩:=ZoA dI;obtain⟨b,es,am,hm,hb,hE,hD⟩:=hs.mapBlock hl;obtain⟨i,rfl,p,hp,rfl⟩ : MSt l j v l':=ho _ (by simp);have cR:px=.map (some b):=by
  cases hx with
  |mp h'=>rw[hm]at h';exact h'.symm
 subst cR;have bL:ps=.int ik i:=by cases hsv;rfl
 subst bL;obtain⟨hc,iy⟩:=hD ff;have hi:i<l.length:=(List.getElem?_eq_some_iff.1 hp).1;have br:i<es.toList.length:=by rw[hE.len];exact hi
 obtain⟨q1,q2,q3⟩:=hE.at_ i p es.toList[i] hp (Zmm br);have gi:RepV S w ZcK v pv:=hv.anyM ZcK dz;have cQ:∀w',Zgs S w w'->RepE S w' (l.set i (p.1,v)) (es.modify i fun e=>{ e with val:=pv }).toList am:=fun w' hw=>by
  rcases(hE.keep hw fun _ h=>h).put (gi.keep hw fun _ h=>h) (k:=p.1) (l':=l.set i (p.1,v)) (.inl ⟨i,by rw[hp];rfl,rfl⟩)with⟨j',e',r1,r2,r3⟩|⟨r,_⟩
  .have iw:j'=i:=by
    have k1:(es.toList.map (·.key))[j']?=some p.1:=by rw[List.getElem?_map,r1];simp[r2]
    have k2:(es.toList.map (·.key))[i]?=some p.1:=by rw[List.getElem?_map,Zmm br,Option.map_some,q1]
    exact Zqa (by rw[hE.keysEq];exact hE.keys) k1 k2
   subst iw;have e3:(es.modify j' fun e=>{ e with val:=pv }).toList=es.toList.set j' { e' with key:=p.1,val:=pv }:=by
    rw[Array.toList_modify];apply List.ext_getElem?;intro n;rw[List.getElem?_modify,List.getElem?_set];by_cases hij:j'=n
    .subst hij;rw[if_pos rfl,if_pos br];simp[r1,<-r2]
    .simp[hij]
   rw[e3];exact r3
  .exact absurd q1 (r _ (List.getElem_mem br))
 obtain⟨s1,s2⟩:=hs.writeMap (kt2:=kt') hg hl hm hb cQ (ZpI hD _ _ fun _=>rfl);refine⟨_,?_,s1,s2⟩;have hf:es.findIdx? (fun e=>(e.born:Int)==(i:Int))=some i:=by
  have e0:es=es.toList.toArray:=(Array.toArray_toList).symm;rw[e0,List.findIdx?_toArray];exact ZBy _ _ _ (Zmm br) iy
 simp only[Instr.entryStore,asInt,asIntOf,Sem.run_bind,Result.andThen_ok,Zji hb,Sem.run_pure,hf];exact ZkB w b es am _ hb
theorem ZBH(hT:Zes P T)(hs:Sim N w0.F S m st a w)(hg:Goes w0.F.no S0 S w0.w w){t ty:Nat}{x k:V}{px pk:Value}{an:Option Ans}{obl:List Prop}{st':St}(hx:RepV S w m x px)(hk:RepV S w m k pk)
  (h:Zta P T st t x k an=some (obl,st')) (ho:∀q∈obl,q) (t2:TypeId):∃w',(Builtin.delete_ #[t,t2] ty #[px,pk]).run P w=.ok (.tuple #[]) w'/\Sim N w0.F S m st' a w'/\Goes w0.F.no S0 S w0.w w':=by
 unfold Zta at h;split at h;rotate_left
 .cases h
 rename_i kt vt id kt' l kv l' dR dI eG;cases h;have hu:=Zpu hT dR;obtain⟨rfl,hl⟩:=ZoA dI;obtain⟨b,es,am,hm,hb,hE,hD⟩:=hs.mapBlock hl;obtain rfl:=V.val_rep hk eG;have hK:ZnG P kt pk (l.map (·.1)):=ho _ (by simp);have hM:MDel l pk l':=ho _ (by simp);have cR:px=.map (some b):=by
  cases hx with
  |mp h'=>rw[hm]at h';exact h'.symm
 subst cR;have fe:=hK;rw[<-hE.keysEq]at fe;obtain⟨r,h1,h2⟩:=fe.find w;have dA:∀w',Zgs S w w'->RepE S w' l es.toList am:=fun w' hw=>hE.keep hw fun _ h=>h;rcases h2 with⟨rfl,h3⟩|⟨j,e,h3,h4,rfl⟩
 .have key:∀w',Zgs S w w'->RepE S w' l' es.toList am:=fun w' hw=>by
   rcases(dA w' hw).del hM with⟨j,e,q1,q2,_⟩|⟨_,q⟩
   .exact absurd q2 (h3 e (List.mem_of_getElem? q1))
   .exact q
  obtain⟨s1,s2⟩:=hs.writeMap (kt2:=ZJI kt') hg hl hm hb key (ZBV _ _ _);refine⟨_,?_,s1,s2⟩;simp[Builtin.delete_,Sem.run_bind,run_underlying hu,Zji hb,hK.check,h1,ZkB w b es am _ hb]
 .have hj2:j<es.toList.length:=(List.getElem?_eq_some_iff.1 h3).1;have key:∀w',Zgs S w w'->RepE S w' l' (es.eraseIdxIfInBounds (0+j)).toList am:=fun w' hw=>by
   rcases(dA w' hw).del hM with⟨j',e',q1,q2,q3⟩|⟨q,_⟩
   .have iw:j'=j:=by
     have k1:(es.toList.map (·.key))[j']?=some pk:=by rw[List.getElem?_map,q1];simp[q2]
     have k2:(es.toList.map (·.key))[j]?=some pk:=by rw[List.getElem?_map,h3];simp[h4]
     exact Zqa (by rw[hE.keysEq];exact hE.keys) k1 k2
    subst iw;have hj3:0+j'<es.size:=by simpa using hj2
    have e3:(es.eraseIdxIfInBounds (0+j')).toList=es.toList.eraseIdx j':=by
     unfold Array.eraseIdxIfInBounds;rw[dif_pos hj3,Array.toList_eraseIdx,Nat.zero_add]
    rw[e3];exact q3
   .exact absurd h4 (q e (List.mem_of_getElem? h3))
  obtain⟨s1,s2⟩:=hs.writeMap (kt2:=ZJI kt') hg hl hm hb key (ZBV _ _ _);refine⟨_,?_,s1,s2⟩;simp only[Nat.zero_add]at s1 ⊢;simp[Builtin.delete_,Sem.run_bind,run_underlying hu,Zji hb,hK.check,h1,ZkB w b es am _ hb]
end
end Go.Proofs.YtnigiacmmedkhaaGreat
