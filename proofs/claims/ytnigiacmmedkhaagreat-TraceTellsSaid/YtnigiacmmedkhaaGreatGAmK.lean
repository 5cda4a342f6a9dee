import Derived.Test.YtnigiacmmedkhaaGreatGAmJm
import Derived.Lib.LazyBuf
import Derived.Laws.Pointers
namespace Go.Proofs.YtnigiacmmedkhaaGreat
open Go.RowKit
set_option linter.unusedSimpArgs false
set_option linter.unusedVariables false
def ZMZ:V->Option V | .one (.ptr id off)=>some (.one (.ptr id off)) | .one (.rp false n c)=>some (.one (.rp false n c)) | .one (.lrp n c)=>some (.one (.lrp n c)) | .one (.eptr id sz i off)=>some (.one (.eptr id sz i off)) | .one (.ifc t c)=>some (.one (.ifc t c)) | .one (.ifa t n c)=>some (.one (.ifa t n c)) | .one (.clo (.func f) na nb a b)=>some (.one (.clo (.func f) na nb a b)) | .one (.lit (.func (.func f) a b))=>some (.one (.lit (.func (.func f) a b)))|_=>none
def ZQt(P:Program)(t:TypeId)(name:String)(g:FuncId):Prop:=∀(x:Value)(w:World),(method (P.types.size+Made.depth) t x name).run P w=.ok (g,x) w
def ZPD(P:Program)(t:TypeId)(name:String):Prop:=∀(x:Value)(w:World),(nilAhead (P.types.size+Made.depth) t x name).run P w=.ok (some false) w
def ZKt(P:Program):V->Option (List Prop)
 | .one (.clo (.method name) na nb a b)=>match na with
  | 0=>none
  |_+1=>match a 0 with
   | .ifc t _=>some [ZPD P t name]
   | .ifa t _ _=>some [ZPD P t name]
   |_=>none
 |_=>none
theorem ZHE{P:Program}{S:Nat->Prop}{w:World}{m:Mp}{o:Oper}{a:Act}{x:Operand}(ho:o.op=.nilCheck x){u:V}{obl:List Prop}(hx:RepV S w m u (a.eval x))(h:ZKt P u=some obl)(hq:∀q∈obl,q) :
  (execOp a.eval o).run P w=.ok (.value (a.eval x)) w:=by
 unfold ZKt at h;split at h;rotate_left
 .cases h
 rename_i name na nb fa fb;obtain⟨xs,ys,he,e1,h1⟩ : ∃xs ys:Array Value,a.eval x=.func (.method name) xs ys/\xs.size=na/\∀i,i<xs.size->RepC S w m (fa i) (xs.getD i undef):=by
  generalize hv:a.eval x=v at hx;cases hx with
  |clo xs ys ha hb=>exact⟨xs,ys,rfl,rfl,ha⟩
 split at h
 .cases h
 rename_i n;have h0:=h1 0 (by omega);have key:∀t y,xs.getD 0 undef=.iface t y->ZPD P t name->(execOp a.eval o).run P w=.ok (.value (a.eval x)) w:=by
  intro t y hy hn;have jS:xs[0]?=some (.iface t y):=by
   rw[Array.getD_eq_getD_getElem?]at hy;rw[show xs[0]?=some xs[0]by simp[show 0<xs.size by omega]]at hy ⊢;simpa using hy
  unfold execOp;have:=hn y w;simp only[ho,he,jS];simp[Sem.run_bind,this]
 split at h
 .rename_i t c hc;rw[hc]at h0;cases h;generalize hy:xs.getD 0 undef=y at h0;cases h0 with
  |ifc hz=>exact key _ _ hy (hq _ (by simp))
 .rename_i t k c hc;rw[hc]at h0;cases h;generalize hy:xs.getD 0 undef=y at h0;cases h0 with
  |ifa zs hz1 hz=>exact key _ _ hy (hq _ (by simp))
 .cases h
def evUn(op:UnOp)(x:V):Option V:=match op,x with
 | .not,.one (.lit (.bool b))=>some (.one (.lit (.bool (!b))))
 | .neg,.one (.lit (.int k n))=>some (.one (.lit (.int k (k.wrap (0-n)))))
 | .xor,.one (.lit (.int k n))=>some (.one (.lit (.int k (k.wrap (BitVec.ofInt k.bits (if k.signed then -1 else k.max) ^^^ BitVec.ofInt k.bits n).toNat))))
 |_,_=>none
def ZKw(T:Tab)(s d:TypeId)(x:V):Option V:=match ZeV T s,ZeV T d with
 |some ts,some td=>match td.k,x with
  | .int k,.one (.lit (.int _ n))=>some (.one (.lit (.int k (k.wrap n))))
  | .str,.one (.lit (.string t))=>some (.one (.lit (.string t)))
  |_,_=>none
 |_,_=>none
def evMM(mx:Bool):List V->Option V | [.one (.lit (.int k x)),.one (.lit (.int _ y))]=>some (.one (.lit (.int k (match mx with|true=>if y>x then y else x|false=>if y<x then y else x))))|_=>none
def optV(st:St):Option Operand->Option V|none=>none|some x=>some (evo st x)
theorem ZwU{N:Nat}{F:Keep}{S:Nat->Prop}{m:Mp}{st:St}{a:Act}{w:World}(hs:Sim N F S m st a w)(x:Option Operand):RepO S w m (optV st x) (x.map a.eval):=by
 cases x with
 |none=>trivial
 |some x=>exact hs.evo x
def ZJl:V->Option Bool | .one (.rp b _ _)=>some b | .one (.ptr _ _)=>some false | .one (.eptr _ _ _ _)=>some false | .one (.lit (.pointer none))=>some true|_=>none
theorem ZHb{S:Nat->Prop}{w:World}{m:Mp}{v:V}{x:Value}{b:Bool}(h:RepV S w m v x)(hv:ZJl v=some b):∃p,x=.pointer p/\p.isNone=b:=by
 unfold ZJl at hv;split at hv
 .cases hv;cases h<;>exact⟨_,rfl,rfl⟩
 .cases hv;cases h;exact⟨_,rfl,rfl⟩
 .cases hv;cases h;exact⟨_,rfl,rfl⟩
 .cases hv;cases h;exact⟨_,rfl,rfl⟩
 .cases hv
def ZPo(T:Tab)(op:BinOp)(t:TypeId)(x:V):Option (V×List Prop):=match ZJl x with
 |some b=>match ZeV T t with
  |some ti=>match ti.k,op with
   | .ptr _,.eql=>some (.one (.lit (.bool b)),[])
   | .ptr _,.neq=>some (.one (.lit (.bool (!b))),[])
   |_,_=>none
  |none=>none
 |none=>none
theorem ZKq{P:Program}{T:Tab}(hT:Zes P T){S:Nat->Prop}{w:World}{m:Mp}{op:BinOp}{t:TypeId}{x v:V}{px:Value}{xo yo:Operand}{obl:List Prop}(hx:RepV S w m x px)
  (h:ZPo T op t x=some (v,obl)):∃r,(do eqGuard op t xo yo px (.pointer none);binOp op t px (.pointer none):Sem Value).run P w=.ok r w/\RepV S w m v r:=by
 unfold ZPo at h;split at h;rotate_left
 .cases h
 rename_i b hb;obtain⟨p,rfl,rfl⟩:=ZHb hx hb;split at h;rotate_left
 .cases h
 rename_i ti a7;obtain⟨d,hu,hf⟩:=hT.under a7;have jn:∀e,ti.k=.ptr e->P.underlying t=some (.pointer (P.pointee t)):=fun e hk=>by
  rw[hk]at hf;cases d<;>simp only[TK.fits]at hf;simp[Program.pointee,hu]
 split at h
 .rename_i e hk;simp only[Option.some.injEq,Prod.mk.injEq]at h;obtain⟨rfl,rfl⟩:=h;refine⟨_,?_,RepC.lit⟩;have hg:(eqGuard .eql t xo yo (.pointer p) (.pointer none)).run P w=.ok () w:=by simp[eqGuard]
  rw[Sem.run_bind,hg,Result.andThen_ok];exact run_eql_pointer_nil w t p (jn e hk)
 .rename_i e hk;simp only[Option.some.injEq,Prod.mk.injEq]at h;obtain⟨rfl,rfl⟩:=h;refine⟨_,?_,RepC.lit⟩;have hg:(eqGuard .neq t xo yo (.pointer p) (.pointer none)).run P w=.ok () w:=by simp[eqGuard]
  rw[Sem.run_bind,hg,Result.andThen_ok];exact run_neq_pointer_nil w t p (jn e hk)
 .cases h
def ZxD(T:Tab)(op:BinOp)(t:TypeId)(x y:V):Option (V×List Prop):=match y with
 | .one (.lit (.pointer none))=>ZPo T op t x
 | .one (.lit (.slice none 0 0))=>match op,x with
  | .eql,.one (.sl _ len _)=>match ZeV T t with
   |some ti=>match ti.k with
    | .slice _=>some (.one (.lit (.bool false)),[0<len])
    |_=>none
   |none=>none
  |_,_=>none
 | .one (.lit .nilIface)=>match ZeV T t with
  |some ti=>match ti.k,op,x with
   | .iface,.eql,.one (.ifc _ _)=>some (.one (.lit (.bool false)),[])
   | .iface,.eql,.one (.ifa _ _ _)=>some (.one (.lit (.bool false)),[])
   |_,_,_=>none
  |none=>none
 |_=>none
def ZMy:TK->Bool | .iface | .other=>false|_=>true
def Zwr(ti:TI):Option V:=match ti.zero with
 |some z=>match V.ofVal z with
  | .agg l=>some (.tup [(true,l),(false,[.lit (.bool false)])])
  | .one c=>some (.tup [(false,[c]),(false,[.lit (.bool false)])])
  |_=>none
 |none=>none
def ZxL(T:Tab)(x:V)(t:TypeId)(ok:Bool):Option V:=match ok with
 |false=>none
 |true=>match ZeV T t with
  |none=>none
  |some ti=>match ZMy ti.k with
   |false=>none
   |true=>match x with
    | .one (.ifc t' c)=>match Nat.beq t' t with
     |true=>some (.tup [(false,[c]),(false,[.lit (.bool true)])])
     |false=>Zwr ti
    | .one (.ifa t' n c)=>match Nat.beq t' t with
     |true=>some (.tup [(true,(List.range n).map c),(false,[.lit (.bool true)])])
     |false=>Zwr ti
    |_=>none
theorem ZsJ{S:Nat->Prop}{w:World}{m:Mp}{p:Bool×List C}{x:Value}{b:Bool} (h:match p with
   | (true,cs)=>∃ys,x=.agg ys/\RepL S w m cs ys.toList
   | (false,[c])=>RepC S w m c x
   |_=>True):RepV S w m (.tup [p,(false,[.lit (.bool b)])]) (.tuple #[x,.bool b]):=by
 refine⟨_,rfl,rfl,fun j q hq=>?_⟩
 match j,hq with
 | 0,hq=>cases hq;exact⟨x,rfl,h⟩
 | 1,hq=>cases hq;exact⟨.bool b,rfl,RepC.lit⟩
theorem Zte{P:Program}{T:Tab}(hT:Zes P T){t:TypeId}{ti:TI}(a7:ZeV T t=some ti){v:V}(h:Zwr ti=some v)(S:Nat->Prop)(w:World)(m:Mp) :
  ∃z,(zeroValue t).run P w=.ok z w/\RepV S w m v (.tuple #[z,.bool false]):=by
 obtain⟨i,h1,h2,h3,h4⟩:=hT.info a7;unfold Zwr at h;split at h;rotate_left
 .cases h
 rename_i z hz;refine⟨z,by simp[zeroValue,typeInfo,h1,h4,hz],?_⟩;have hr:=V.ofVal_rep (S:=S) (w:=w) (m:=m) z;split at h
 .rename_i l hl;cases h;rw[hl]at hr;exact ZsJ (p:=(true,l)) hr
 .rename_i c hc;cases h;rw[hc]at hr;exact ZsJ (p:=(false,[c])) hr
 .cases h
theorem ZBO{P:Program}{T:Tab}(hT:Zes P T){S:Nat->Prop}{w:World}{m:Mp}{x v:V}{px:Value}{xt t:TypeId}{ok:Bool}(hx:RepV S w m x px)(h:ZxL T x t ok=some v) :
  ∃y,(Instr.typeAssert px xt t ok).run P w=.ok y w/\RepV S w m v y:=by
 unfold ZxL at h;split at h
 .cases h
 split at h
 .cases h
 rename_i ti a7;split at h
 .cases h
 rename_i hn;obtain⟨d,hu,hf⟩:=hT.under a7;have hd:∀ms,d≠.interface ms:=by
  rintro ms rfl;generalize hk:ti.k=k at hn hf;cases k<;>first | (cases hn;done) | (cases hf;done)
 have db:∀y,(Instr.typeAssert (.iface t y) xt t true).run P w=.ok (.tuple #[y,.bool true]) w:=by
  intro y;cases d<;>first|exact absurd rfl (hd _)|simp[Instr.typeAssert,Sem.run_bind,run_underlying hu]
 have iA:∀t' y z,t'≠t->(zeroValue t).run P w=.ok z w->(Instr.typeAssert (.iface t' y) xt t true).run P w=.ok (.tuple #[z,.bool false]) w:=by
  intro t' y z hne hz;cases d<;>first|exact absurd rfl (hd _)|simp[Instr.typeAssert,Sem.run_bind,run_underlying hu,hne,hz]
 split at h
 .rename_i t' c;cases hx with
  |ifc hy=>
   split at h
   .rename_i hb;cases ZaH hb;cases h;exact⟨_,db _,ZsJ (p:=(false,[c])) hy⟩
   .rename_i hb;obtain⟨z,h1,h2⟩:=Zte hT a7 h S w m;exact⟨_,iA _ _ _ (Nat.ne_of_beq_eq_false hb) h1,h2⟩
 .rename_i t' n c;cases hx with
  |ifa ys h1 hy=>
   split at h
   .rename_i hb;cases ZaH hb;cases h;refine⟨_,db _,ZsJ (p:=(true,_)) ⟨ys,rfl,by simp,fun j c' hj=>?_,h1⟩⟩;simp only[List.getElem?_map,Option.map_eq_some_iff]at hj;obtain⟨i,hi,rfl⟩:=hj;obtain⟨hlt,e⟩:=List.getElem?_eq_some_iff.1 hi;simp only[List.getElem_range]at e;subst e;have hlt:j<ys.size:=by simpa using hlt
    refine⟨ys[j],by simp[hlt],?_⟩;have:=hy j hlt;simpa[Array.getD_eq_getD_getElem?,hlt]using this
   .rename_i hb;obtain⟨z,h1,h2⟩:=Zte hT a7 h S w m;exact⟨_,iA _ _ _ (Nat.ne_of_beq_eq_false hb) h1,h2⟩
 .cases h
theorem Zkk{P:Program}{w:World}{ti:TypeId}{ms:Array (String×TypeId)}(tp:TypeId)(v:Value)(hi:P.underlying ti=some (.interface ms)) :
  (binOp .eql ti (.iface tp v) .nilIface).run P w=.ok (.bool false) w:=by
 have h:∀d:Nat,(Op.equalIn (d+1) ti (.iface tp v) .nilIface).run P w=.ok false w:=fun d=>by simp[Op.equalIn,run_underlying hi]
 simp only[binOp];simp[Op.equal,Op.maxDepth,h 9999]
theorem Zue{P:Program}{T:Tab}(hT:Zes P T){S:Nat->Prop}{w:World}{m:Mp}{op:BinOp}{t:TypeId}{x y v:V}{px py:Value}{xo yo:Operand}{obl:List Prop}(hx:RepV S w m x px)(hy:RepV S w m y py)
  (h:ZxD T op t x y=some (v,obl)) (ho:∀q∈obl,q):∃r,(do eqGuard op t xo yo px py;binOp op t px py:Sem Value).run P w=.ok r w/\RepV S w m v r:=by
 unfold ZxD at h;split at h
 .cases hy;exact ZKq hT hx h
 rotate_left
 .split at h;rotate_left
  .cases h
  rename_i ti a7;obtain⟨d,hu,hf⟩:=hT.under a7;cases hy;have key:ti.k=.iface->∃ms,P.underlying t=some (.interface ms):=fun hk=>by
   rw[hk]at hf;cases d<;>simp only[TK.fits]at hf;exact⟨_,hu⟩
  split at h
  .rename_i hk;obtain⟨ms,jT⟩:=key hk;cases h;cases hx;refine⟨.bool false,?_,RepC.lit⟩;have hg:∀u y,(eqGuard .eql t xo yo (.iface u y) .nilIface).run P w=.ok () w:=fun u y=>by simp[eqGuard]
   rw[Sem.run_bind,hg,Result.andThen_ok];exact Zkk _ _ jT
  .rename_i hk;obtain⟨ms,jT⟩:=key hk;cases h;cases hx;refine⟨.bool false,?_,RepC.lit⟩;have hg:∀u y,(eqGuard .eql t xo yo (.iface u y) .nilIface).run P w=.ok () w:=fun u y=>by simp[eqGuard]
   rw[Sem.run_bind,hg,Result.andThen_ok];exact Zkk _ _ jT
  .cases h
 .cases h
 split at h;rotate_left
 .cases h
 rename_i sz len cell;split at h;rotate_left
 .cases h
 rename_i ti a7;obtain⟨d,hu,hf⟩:=hT.under a7;split at h;rotate_left
 .cases h
 rename_i e hk;rw[hk]at hf;cases d<;>simp only[TK.fits]at hf;subst hf;simp only[Option.some.injEq,Prod.mk.injEq]at h;obtain⟨rfl,rfl⟩:=h;have h0:0<len:=ho _ (by simp);cases hy;cases hx with
 |sl b off vals hcap ha hc h1 hr=>
  rename_i a cap;obtain⟨rfl,_⟩:=ha h0;refine⟨.bool false,?_,RepC.lit⟩;have hg:(eqGuard .eql t xo yo (.slice (some ⟨b,off,none⟩) len cap) (.slice none 0 0)).run P w=.ok () w:=by simp[eqGuard]
  rw[Sem.run_bind,hg,Result.andThen_ok];exact Go.run_eql_slice_nil w _ _ (some ⟨b,off,none⟩) len cap hu
def Zuf(N:Nat)(T:Tab)(st:St)(t:Nat)(l c:V)(n:Nat)(cc:Nat->Nat->C):Option (V×List Prop×St):=match Zme N T ⟨[],[]⟩ 0 t l c (some (.c n cc))with
 |some (_,obl,⟨_,[(_,.rows _ sz _ _)]⟩)=>some (.one (.sl sz n cc),obl,st)
 |_=>none
theorem ZBI{N:Nat}{T:Tab}{d t:Nat}{l c v:V}{n:Nat}{cc:Nat->Nat->C}{obl:List Prop}{st':St}(h:Zme N T ⟨[],[]⟩ d t l c (some (.c n cc))=some (v,obl,st')) :
  v=.one (.osl d n)/\∃e sz,st'=⟨[],[(d,.rows e sz n cc)]⟩:=by
 generalize ha:some (Ans.c n cc)=an at h;unfold Zme at h
 repeat' split at h
 all_goals first | (cases h;done)|skip
 cases ha;cases h;exact⟨rfl,_,_,rfl⟩
theorem ZEg{P:Program}{T:Tab}(hT:Zes P T){N:Nat}{S0:Nat->Prop}{w0:ZeC}{st:St}{a:Act}{w:World}{S:Nat->Prop}{m:Mp}(hs:Sim N w0.F S m st a w)(hg:Goes w0.F.no S0 S w0.w w)
  {t:Nat} {l c v:V} {pl pc:Value} {n:Nat} {cc:Nat->Nat->C} {obl:List Prop} {st':St} (hl:RepV S w m l pl) (hc:RepV S w m c pc) (h:Zuf N T st t l c n cc=some (v,obl,st')) (ho:∀q∈obl,q) :
  ∃y w' S' m',(Instr.makeSlice t pl pc).run P w=.ok y w'/\Sim N w0.F S' m' st' a w'/\Goes w0.F.no S0 S' w0.w w'/\RepV S' w' m' v y:=by
 unfold Zuf at h;split at h;rotate_left
 .cases h
 rename_i v0 cF e0 k0 t0 sz n0 c0 hm;cases h;obtain⟨rfl,e1,sz1,bD⟩:=ZBI hm;obtain⟨-,bD⟩:=St.mk.inj bD;simp only[List.cons.injEq,Prod.mk.injEq,B.rows.injEq,and_true]at bD;have hm1:=bD.2.2.1;subst hm1;have hj:∀t,(⟨[],[]⟩ : St).get t=.one .junk:=fun t=>rfl;have bH:Sim N (⟨fun k=>k<w.heap.size,m⟩ : Keep) S m ⟨[],[]⟩ a w:=⟨hs.size,fun t=>by rw[hj];exact RepC.junk,fun t _=>hj t,fun id b hb=>by simp[hget]at hb,fun id b hb=>by simp[hget]at hb,fun i j b b' hne h1=>by simp[hget]at h1,hs.dom,hs.defers,fun k hk=>hk,fun _ _=>rfl,rfl,fun k hk=>hs.base_le k (hs.len.2 k hk)⟩;rw[bD.1,bD.2.1,bD.2.2.2.1,bD.2.2.2.2]at hm;obtain⟨y,w',m1,h1,h2,h3,h4⟩:=Zwe (w0:=⟨w,⟨fun k=>k<w.heap.size,m⟩⟩) (S0:=S) hT bH (Goes.refl _ _ _) hl hc hm ho;have hgt:hget [(0,B.rows e1 sz n cc)] 0=some (.rows e1 sz n cc):=by rw[Zbk,if_pos rfl]
 have hB:=h2.heap 0 _ hgt;have hO:=h2.own 0 _ hgt;obtain⟨b,cap,ey,em⟩ : ∃b cap,y=.slice b n cap/\m1 0=.slice b n cap:=by
  cases h4 with
  |osl hm h0 hle=>exact⟨_,_,rfl,hm⟩
 refine⟨y,w',fun k=>S k\/blk (m1 0)=some k,m,h1,?_,?_,?_⟩
 .refine hs.grow h3.below.size (fun k hk=>h3.below.block k hk) (fun b hb=>.inl hb) fun b hb=>hb.imp id fun hb=>?_;obtain⟨q1,q2,q3⟩:=hO b hb;exact⟨Nat.le_of_not_lt q2,q3⟩
 .refine hg.step (h3.below.mono fun k hk=>hs.base_le k hk) (fun b hb=>.inl hb) fun b hb=>hb.imp id fun hb hF=>?_;exact(hO b hb).2.1 (hs.base_le b hF)
 .have:=(RepC.of_rows (m':=m) hB ⟨b,cap,em⟩ (fun b hb=>(.inl hb:S b\/blk (m1 0)=some b)) fun k hk=>.inr hk).2;have e3:m1 0=y:=em.trans ey.symm;rw[e3]at this ⊢;exact this
def ZBQ(N:Nat)(T:Tab)(st:St)(t:Nat)(s x:V)(an:Option Ans):Option (V×List Prop×St):=match s,an with
 | .one (.osl id l),some (.r (.one (.sl _ n cc)) _)=>match hget st.heap id with
  |some b=>match ZjR N T ⟨[],[(id,b)]⟩ (id+1) t (.one (.osl id l)) x (some (.c n cc))with
   |some (_,obl,⟨_,(_,.rows _ sz _ _) :: _⟩)=>some (.one (.sl sz n cc),obl,⟨st.env,hdel st.heap id⟩)
   |_=>none
  |none=>none
 |_,_=>none
theorem ZuZ{N:Nat}{T:Tab}{id l d t:Nat}{x v:V}{b:B}{n:Nat}{cc:Nat->Nat->C}{obl:List Prop}{st':St}(h:ZjR N T ⟨[],[(id,b)]⟩ d t (.one (.osl id l)) x (some (.c n cc))=some (v,obl,st')) :
  v=.one (.osl d n)/\∃e sz r,st'=⟨[],(d,.rows e sz n cc) :: r⟩:=by
 generalize ha:some (Ans.c n cc)=an at h;generalize hs:V.one (C.osl id l)=s at h;unfold ZjR at h
 repeat' split at h
 all_goals first | (cases h;done) | (cases hs;done)|skip
 cases ha;cases hs;cases h;exact⟨rfl,_,_,_,rfl⟩
theorem ZHJ{P:Program}{T:Tab}(hT:Zes P T){N:Nat}{S0:Nat->Prop}{w0:ZeC}{st:St}{a:Act}{w:World}{S:Nat->Prop}{m:Mp}(hs:Sim N w0.F S m st a w)(hg:Goes w0.F.no S0 S w0.w w)
  {t ty:Nat} {s x v:V} {ps px:Value} {an:Option Ans} {obl:List Prop} {st':St} (bL:RepV S w m s ps) (cR:RepV S w m x px) (h:ZBQ N T st t s x an=some (v,obl,st')) (ho:∀q∈obl,q) :
  ∃y w' S' m',(Builtin.append_ #[t,t] ty #[ps,px]).run P w=.ok y w'/\Sim N w0.F S' m' st' a w'/\Goes w0.F.no S0 S' w0.w w'/\RepV S' w' m' v y:=by
 unfold ZBQ at h;split at h;rotate_left
 .cases h
 rename_i id l sz0 n cc fz0;split at h;rotate_left
 .cases h
 rename_i b hb;split at h;rotate_left
 .cases h
 rename_i v0 cF e0 k0 t0 sz n0 c0 r0 hm;cases h;obtain⟨rfl,e1,sz1,r1,bD⟩:=ZuZ hm;obtain⟨he0,bD⟩:=St.mk.inj bD;rw[List.cons.injEq,Prod.mk.injEq,B.rows.injEq]at bD;obtain⟨⟨rfl,rfl,rfl,rfl,rfl⟩,rfl⟩:=bD;subst he0;have hj:∀t,(⟨[],[(id,b)]⟩ : St).get t=.one .junk:=fun t=>rfl;have eJ:∀i b',hget [(id,b)] i=some b'->i=id/\b'=b:=fun i b' h=>by
  rw[Zbk]at h;split at h
  .rename_i e;cases h;exact⟨e.symm,rfl⟩
  .simp[hget]at h
 have bH:Sim N (⟨fun k=>k<w.heap.size/\blk (m id)≠some k,m⟩ : Keep) S m ⟨[],[(id,b)]⟩ a w:=by
  refine⟨hs.size,fun t=>by rw[hj];exact RepC.junk,fun t _=>hj t,fun i b' h=>?_,fun i b' h k hk=>?_,fun i j b' jU hne h1 h2=>?_,hs.dom,hs.defers,fun k hk=>hk.1,fun _ _=>rfl,rfl,fun k hk=>⟨hs.base_le k (hs.len.2 k hk),fun e=>(hs.own _ _ hb k e).2.1 (hs.len.2 k hk)⟩⟩
  .obtain⟨rfl,rfl⟩:=eJ i b' h;exact hs.heap _ _ hb
  .obtain⟨rfl,rfl⟩:=eJ i b' h;obtain⟨q1,q2,q3⟩:=hs.own _ _ hb k hk;exact⟨q1,fun q=>q.2 hk,q3⟩
  .exact absurd ((eJ i b' h1).1.trans (eJ j jU h2).1.symm) hne
 obtain⟨y,w',m1,h1,h2,h3,h4⟩:=Zsx (ty:=ty) (w0:=⟨w,⟨fun k=>k<w.heap.size/\blk (m id)≠some k,m⟩⟩) (S0:=S) hT bH (Goes.refl _ _ _) bL cR hm ho;have hgt:hget ((id+1,B.rows t0 sz n0 c0) :: r0) (id+1)=some (.rows t0 sz n0 c0):=by rw[Zbk,if_pos rfl]
 have hB:=h2.heap _ _ hgt;have hO:=h2.own _ _ hgt;obtain⟨b1,cap,ey,em⟩ : ∃b cap,y=.slice b n0 cap/\m1 (id+1)=.slice b n0 cap:=by
  cases h4 with
  |osl hm h0 hle=>exact⟨_,_,rfl,hm⟩
 have fg:∀k,k<w.heap.size->blk (m id)≠some k->w'.heap[k]?=w.heap[k]?:=fun k hk hn=>h3.below.block k ⟨hk,hn⟩;have jV:∀k,S k->blk (m id)≠some k:=fun k hk e=>(hs.own _ _ hb k e).1 hk;have cQ:Zgs S w w':=fun k hk=>fg k (hs.dom k hk) (jV k hk);have dL:Zgs m.L w w':=fun k hk=>fg k (hs.base_le k (hs.len.2 k hk)) fun e=>(hs.own _ _ hb k e).2.1 (hs.len.2 k hk);have hdel:∀i b',hget (hdel st.heap id) i=some b'->i≠id/\hget st.heap i=some b':=fun i b' h=>by
  rw[Zlk]at h;split at h
  .cases h
  .rename_i e;exact⟨fun q=>e q.symm,h⟩
 refine⟨y,w',fun k=>S k\/blk (m1 (id+1))=some k,m,h1,?_,?_,?_⟩
 .refine⟨hs.size,fun t=>(hs.env t).keepL cQ (fun _ h=>.inl h) dL,hs.far,fun i b' h=>?_,fun i b' h k hk=>?_,fun i j b' jU hne g1 g2=>?_,fun k hk=>?_,hs.defers,fun k hk=>Nat.lt_of_lt_of_le (hs.base_le k hk) h3.below.size,hs.pin,hs.len⟩
  .obtain⟨q1,q2⟩:=hdel i b' h;refine(hs.heap _ _ q2).keepL cQ (fun _ h=>.inl h) dL fun k hk=>fg k (hs.own _ _ q2 k hk).2.2 fun e=>?_;exact hs.inj _ _ _ _ q1 q2 hb k hk e
  .obtain⟨q1,q2⟩:=hdel i b' h;obtain⟨q3,q4,q5⟩:=hs.own _ _ q2 k hk;refine⟨fun q=>?_,q4,Nat.lt_of_lt_of_le q5 h3.below.size⟩;rcases q with q|q
   .exact q3 q
   .exact(hO k q).2.1 ⟨q5,fun e=>hs.inj _ _ _ _ q1 q2 hb k hk e⟩
  .obtain⟨q1,q2⟩:=hdel i b' g1;obtain⟨q3,q4⟩:=hdel j jU g2;exact hs.inj _ _ _ _ hne q2 q4
  .rcases hk with hk|hk
   .exact Nat.lt_of_lt_of_le (hs.dom k hk) h3.below.size
   .exact(hO k hk).2.2
 .refine hg.step (h3.below.mono fun k hk=>⟨hs.base_le k hk,fun e=>(hs.own _ _ hb k e).2.1 hk⟩) (fun b hb=>.inl hb) fun k hk=>hk.imp (fun h=>h) fun hk hF=>?_;exact(hO k hk).2.1 ⟨hs.base_le k hF,fun e=>(hs.own _ _ hb k e).2.1 hF⟩
 .have:=(RepC.of_rows (m':=m) hB ⟨b1,cap,em⟩ (fun b hb=>(.inl hb:S b\/blk (m1 (id+1))=some b)) fun k hk=>.inr hk).2;have e3:m1 (id+1)=y:=em.trans ey.symm;rw[e3]at this ⊢;exact this
def ZBP(N:Nat)(T:Tab)(st:St)(t:Nat)(s x:V)(an:Option Ans):Option (V×List Prop×St):=match s with
 | .one (.osl _ _)=>ZBQ N T st t s x an
 |_=>Zuo T st t s x an
theorem ZHI{P:Program}{T:Tab}(hT:Zes P T){N:Nat}{S0:Nat->Prop}{w0:ZeC}{st:St}{a:Act}{w:World}{S:Nat->Prop}{m:Mp}(hs:Sim N w0.F S m st a w)(hg:Goes w0.F.no S0 S w0.w w)
  {t ty:Nat} {s x v:V} {ps px:Value} {an:Option Ans} {obl:List Prop} {st':St} (bL:RepV S w m s ps) (cR:RepV S w m x px) (h:ZBP N T st t s x an=some (v,obl,st')) (ho:∀q∈obl,q) :
  ∃y w' S' m',(Builtin.append_ #[t,t] ty #[ps,px]).run P w=.ok y w'/\Sim N w0.F S' m' st' a w'/\Goes w0.F.no S0 S' w0.w w'/\RepV S' w' m' v y:=by
 unfold ZBP at h;split at h
 .exact ZHJ hT hs hg bL cR h ho
 .obtain⟨y,w',h1,h2,h3,h4⟩:=ZEx (ty:=ty) hT hs hg bL cR h ho;exact⟨y,w',_,_,h1,h2,h3,h4⟩
def evOp(P:Program)(N:Nat)(T:Tab)(o:Oper)(st:St)(an:Option Ans):Option (V×List Prop×St):=
 let d:=o.dst.getD 0
 match o.op with
 | .move x=>match an with
  |some (.c n c)=>ZHC N st d (evo st x) n c
  |_=>some (evo st x,[],st)
 | .assign x=>match an with
  |some (.c n c)=>ZHC N st d (evo st x) n c
  |_=>some (evo st x,[],st)
 | .pick c x y=>match evo st c with
  | .one (.lit (.bool true))=>some (evo st x,[],st)
  | .one (.lit (.bool false))=>some (evo st y,[],st)
  |_=>none
 | .alloc e=>match ZeV T e with
  |some te=>match Ztf te with
   |some l=>ZpG N st d l
   |none=>none
  |none=>none
 | .box _ x=>match (evo st x).cells with
  |some l=>ZpG N st d l
  |none=>none
 | .build t ps=>match Zun T st t (ps.toList.map fun p=>(p.1,evo st p.2))with
  |some v=>some (v,[],st)
  |none=>none
 | .buildSlice t n ps=>Zfs N T st d t n (ps.toList.map fun p=>(p.1,evo st p.2)) an
 | .load t p=>match Zky T st t (evo st p) an with
  |some (v,obl)=>some (v,obl,st)
  |none=>none
 | .store t p x=>match ZnE T st t (evo st p) (evo st x) an with
  |some (obl,st')=>some (.one .junk,obl,st')
  |none=>none
 | .nilCheck x=>match ZMZ (evo st x)with
  |some v=>some (v,[],st)
  |none=>match ZKt P (evo st x)with
   |some obl=>some (evo st x,obl,st)
   |none=>none
 | .makeInterface t x=>match evo st x with
  | .one c=>some (.one (.ifc t c),[P.concrete t=true],st)
  | .agg l=>some (.one (.ifa t l.length fun i=>l.getD i .junk),[P.concrete t=true],st)
  | .tup _=>none
 | .binOp op t x y _=>match evo st x,evo st y with
  | .one (.lit p),.one (.lit q)=>match ZPp T op t p q with
   |some (r,obl)=>some (.one (.lit r),obl,st)
   |none=>match ZxD T op t (.one (.lit p)) (.one (.lit q))with
    |some (r,obl)=>some (r,obl,st)
    |none=>match an with
     |some (.r (.one (.lit r)) _)=>some (.one (.lit r),[∀w,(do eqGuard op t x y p q;binOp op t p q:Sem Value).run P w=.ok r w],st)
     |_=>none
  |vx,vy=>match ZxD T op t vx vy with
   |some (r,obl)=>some (r,obl,st)
   |none=>match vx.val,vy.val,an with
    |some p,some q,some (.r (.one (.lit r)) _)=>some (.one (.lit r),[∀w,(do eqGuard op t x y p q;binOp op t p q:Sem Value).run P w=.ok r w],st)
    |_,_,_=>none
 | .unOp op _ x=>match evUn op (evo st x)with
  |some v=>some (v,[],st)
  |none=>none
 | .convert s d x=>match ZKw T s d (evo st x)with
  |some v=>some (v,[],st)
  |none=>none
 | .makeSlice t l c=>match an with
  |some (.r (.one (.sl _ n cc)) _)=>Zuf N T st t (evo st l) (evo st c) n cc
  |some (.r _ _)=>none
  |_=>Zme N T st d t (evo st l) (evo st c) an
 | .slice t x lo hi mx=>match ZEc T t (evo st x) (optV st lo) (optV st hi) (optV st mx)with
  |some (v,obl)=>some (v,obl,st)
  |none=>none
 | .fieldAddr t x f=>match ZqR T t f (evo st x)with
  |some v=>some (v,[],st)
  |none=>none
 | .field t x f=>match ZEs T t f (evo st x)with
  |some v=>some (v,[],st)
  |none=>none
 | .indexAddr t x i=>match ZqP T t (evo st x) (evo st i)with
  |some (v,obl)=>some (v,obl,st)
  |none=>none
 | .index t x i=>match ZEl T t (evo st x) (evo st i)with
  |some (v,obl)=>some (v,obl,st)
  |none=>none
 | .extract x i=>match Zum (evo st x) i with
  |some v=>some (v,[],st)
  |none=>none
 | .typeAssert x _ t ok=>match ZxL T (evo st x) t ok with
  |some v=>some (v,[],st)
  |none=>none
 | .makeMap t r=>ZrC N T st d t (optV st r)
 | .lookup t x k ok=>match ZiW P T st t (evo st x) (evo st k) ok an with
  |some (v,obl)=>some (v,obl,st)
  |none=>none
 | .mapUpdate t x k v=>match ZxE P T st t (evo st x) (evo st k) (evo st v) an with
  |some (obl,st')=>some (.one .junk,obl,st')
  |none=>none
 | .mapEntry t x k=>ZiG P T st t (evo st x) (evo st k) an
 | .entryStore _ x s v=>match Zig st (evo st x) (evo st s) (evo st v) an with
  |some (obl,st')=>some (.one .junk,obl,st')
  |none=>none
 | .makeFunc fn first cap=>match litsV (first.toList.map (evo st)),litsV (cap.toList.map (evo st))with
  |some xs,some ys=>some (.one (.clo fn first.size cap.size (fun i=>xs.getD i .junk) fun i=>ys.getD i .junk),[],st)
  |_,_=>none
 | .call { callee:=.builtin .len,args,argTypes }=>match args.toList,argTypes.toList with
  | [x],[t]=>match ZKv T st t (evo st x)with
   |some v=>some (v,[],st)
   |none=>none
  |_,_=>none
 | .call { callee:=.builtin .append,args,argTypes }=>match args.toList,argTypes.toList with
  | [s,x],[t,t']=>match Nat.beq t t' with
   |true=>match an with
    |some (.r _ _)=>ZBP N T st t (evo st s) (evo st x) an
    |_=>ZjR N T st d t (evo st s) (evo st x) an
   |false=>none
  |_,_=>none
 | .call { callee:=.builtin .delete,args,argTypes }=>match args.toList,argTypes.toList with
  | [x,k],[t,_]=>match Zta P T st t (evo st x) (evo st k) an with
   |some (obl,st')=>some (.tup [],obl,st')
   |none=>none
  |_,_=>none
 | .call { callee:=.builtin .clear,args,argTypes }=>match args.toList,argTypes.toList with
  | [x],[t]=>ZxK T st t (evo st x) an
  |_,_=>none
 | .call { callee:=.builtin .min,args,.. }=>match evMM false (args.toList.map (evo st))with
  |some v=>some (v,[],st)
  |none=>none
 | .call { callee:=.builtin .max,args,.. }=>match evMM true (args.toList.map (evo st))with
  |some v=>some (v,[],st)
  |none=>none
 | .call { callee:=.value f,args,.. }=>match an with
  |some (.r r _)=>match ZrF P st f args.toList r with
   |some obl=>some (r,obl,st)
   |none=>none
  |_=>none
 |_=>none
where
 litsV:List V->Option (List C)
  | []=>some []
  | .one c :: l=>match litsV l with
   |some r=>some (c :: r)
   |none=>none
  | .agg l :: r=>match litsV r with
   |some r=>some (.agv l.length (fun i=>l.getD i .junk) :: r)
   |none=>none
  |_=>none
theorem ZtS{S:Nat->Prop}{w:World}{m:Mp}:∀{vs:List V}{xs:List C}{ys:List Value},(∀(j:Nat)(v:V),vs[j]?=some v->∃x,ys[j]?=some x/\RepV S w m v x)->evOp.litsV vs=some xs->xs.length=vs.length/\∀j,j<vs.length->RepC S w m (xs.getD j .junk) (ys.getD j undef)
 | [],xs,ys,h,hl=>by cases hl;exact⟨rfl,fun j h=>absurd h (by simp)⟩
 |v :: vs,xs,ys,h,hl=>by
  have au:∀c:C,(∀y,RepV S w m v y->RepC S w m c y)->∀r,evOp.litsV vs=some r->xs=c :: r->xs.length=(v :: vs).length/\∀j,j<(v :: vs).length->RepC S w m (xs.getD j .junk) (ys.getD j undef):=by
   intro c hcv r hr hl;subst hl;cases ys with
   |nil=>obtain⟨x,h1,_⟩:=h 0 _ rfl;simp at h1
   |cons y ys=>
    obtain⟨h1,h2⟩:=ZtS (ys:=ys) (fun j v hj=>by have:=h (j+1) v (by simpa using hj);simpa using this) hr;refine⟨by simp[h1],fun j hj=>?_⟩;cases j with
    |zero=>
     obtain⟨x,h3,h4⟩:=h 0 _ rfl;cases h3;exact hcv _ h4
    |succ j=>simpa using h2 j (by simpa using hj)
  cases v<;>simp only[evOp.litsV]at hl<;>try (cases hl;done)
  .rename_i c;split at hl
   .rename_i r hr;cases hl;exact au c (fun y hy=>hy) r hr rfl
   .cases hl
  .rename_i l;split at hl
   .rename_i r hr;cases hl;refine au _ (fun y hy=>?_) r hr rfl;obtain⟨zs,rfl,h1,h2,h3⟩:=hy;have aU:zs.size=l.length:=by simpa using h1
    rw[<-aU];refine .agv zs h3 fun i hi=>?_;obtain⟨x,h4,h5⟩:=h2 i _ (List.getElem?_eq_getElem (h:=by omega));have e1:l.getD i .junk=l[i]'(by omega):=by simp[List.getD_eq_getElem?_getD,show i<l.length by omega]
    have e2:zs.getD i undef=x:=by
     rw[Array.getElem?_toList]at h4;simp[Array.getD_eq_getD_getElem?,h4]
    rw[e1,e2];exact h5
   .cases hl
theorem Zxe{N:Nat}{F:Keep}{S:Nat->Prop}{m:Mp}{st:St}{a:Act}{w:World}(hs:Sim N F S m st a w)(args:List Operand):∀(j:Nat)(v:V),(args.map (evo st))[j]?=some v->∃x,(args.map a.eval)[j]?=some x/\RepV S w m v x:=by
 intro j v hj;simp only[List.getElem?_map,Option.map_eq_some_iff]at hj;obtain⟨y,h1,rfl⟩:=hj;exact⟨a.eval y,by simp[h1],hs.evo y⟩
theorem ZKs{P:Program}{S:Nat->Prop}{w:World}{m:Mp}{o:Oper}{a:Act}{x:Operand}(ho:o.op=.nilCheck x){u v:V}(hx:RepV S w m u (a.eval x))(h:ZMZ u=some v) :
  ∃y,(execOp a.eval o).run P w=.ok (.value y) w/\RepV S w m v y:=by
 refine⟨a.eval x,?_,?_⟩
 .unfold execOp;simp only[ho];generalize a.eval x=q at hx;unfold ZMZ at h;split at h<;>(try (cases h;done))<;>cases hx<;>simp
 .unfold ZMZ at h;split at h<;>(try (cases h;done))<;>(cases h;exact hx)
theorem ZMY{P:Program}{S:Nat->Prop}{w:World}{m:Mp}{op:UnOp}{u v:V}{x:Value}(hx:RepV S w m u x)(h:evUn op u=some v):∃y,(Op.unary op x).run P w=.ok y w/\RepV S w m v y:=by
 unfold evUn at h;split at h<;>(try (cases h;done))<;>cases h<;>cases hx
 .exact⟨_,by simp[Op.unary],RepC.lit⟩
 .exact⟨_,by simp[Op.unary,Op.intArith],RepC.lit⟩
 .exact⟨_,by simp[Op.unary,Op.intBits],RepC.lit⟩
theorem ZHH{P:Program}{T:Tab}(hT:Zes P T){S:Nat->Prop}{w:World}{m:Mp}{s d:TypeId}{u v:V}{x:Value}(hx:RepV S w m u x)(h:ZKw T s d u=some v):∃y,(convert s d x).run P w=.ok y w/\RepV S w m v y:=by
 unfold ZKw at h;split at h
 .rename_i ts td hts htd;obtain⟨ds,hus,_⟩:=hT.under hts;obtain⟨dd,hud,iB⟩:=hT.under htd;split at h
  .rename_i k k' n hk;cases h;cases hx;rw[hk]at iB;cases dd<;>simp only[TK.fits]at iB;subst iB;refine⟨_,?_,RepC.lit⟩;cases ds<;>simp[convert,Sem.run_bind,run_underlying hus,run_underlying hud,Conv.intToInt]
  .rename_i t hk;cases h;cases hx;rw[hk]at iB;cases dd<;>simp only[TK.fits]at iB;refine⟨_,?_,RepC.lit⟩;cases ds<;>simp[convert,Sem.run_bind,run_underlying hus,run_underlying hud]
  .cases h
 .cases h
end Go.Proofs.YtnigiacmmedkhaaGreat
