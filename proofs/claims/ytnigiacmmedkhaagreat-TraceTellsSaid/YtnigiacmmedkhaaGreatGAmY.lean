import Derived.Test.YtnigiacmmedkhaaGreatGAmW
import Derived.OpenShut
import Derived.Deep.Slices
import Derived.WideShapes
namespace Go.Proofs.YtnigiacmmedkhaaGreat
open Go.RowKit
set_option linter.unusedSimpArgs false
set_option linter.unusedVariables false
structure Opn (P:Program) (t:TypeId) {α:Type} (dw:α->List C) (ok:α->Prop):Prop where
 get:∀{H:Type}(en:TypeId×Value->H)(w:World)(bY:Nat)(bK:Nat->Bool)(cJ:Bool)(cu:Nat)(cs:List Value)(x:DataW H×List MemPlace),
  DataW.trod en P w bY bK cJ cu t cs=some x->∃a:α,RepL (fun b=>b<w.heap.size) w ZcK (dw a) cs/\ok a
def okI(k:IntKind)(n:Int):Prop:=(Lit.int k n).wf=true
theorem Zjy{n:Int}(h:okI .u64 n):0<=n/\n<=18446744073709551615:=bounds_u64 h
def okB(_:Bool):Prop:=True
def okL{α:Type}(ok:α->Prop)(l:List α):Prop:=l.length<=maxLen/\∀a∈l,ok a
def okP{α β:Type}(ok:α->Prop)(ok':β->Prop)(p:α×β):Prop:=ok p.1/\ok' p.2
theorem ZMc{S:Nat->Prop}{w:World}{m:Mp}{c:C}{x:Value}(h:RepC S w m c x)(h1:x.oneCell'=true):RepL S w m [c] [x]:=by
 refine⟨rfl,fun j c' hc=>?_,fun y hy=>by rw[List.mem_singleton.1 hy];exact h1⟩;cases j with
 |zero=>cases hc;exact⟨x,rfl,h⟩
 |succ j=>simp at hc
theorem ZMb{S:Nat->Prop}{w:World}{m:Mp}{l l':List C}{xs jR:List Value}(h:RepL S w m l xs)(h':RepL S w m l' jR):RepL S w m (l++l') (xs++jR):=by
 obtain⟨a,b,c⟩:=h;obtain⟨a',b',c'⟩:=h';refine⟨by simp[a,a'],fun j q hq=>?_,fun y hy=>?_⟩
 .by_cases hj:j<l.length
  .rw[List.getElem?_append_left hj]at hq;obtain⟨x,h1,h2⟩:=b j q hq;exact⟨x,by rw[List.getElem?_append_left (by omega)];exact h1,h2⟩
  .rw[List.getElem?_append_right (by omega)]at hq;obtain⟨x,h1,h2⟩:=b' _ q hq;exact⟨x,by rw[List.getElem?_append_right (by omega),a];exact h1,h2⟩
 .rcases List.mem_append.1 hy with h|h
  .exact c y h
  .exact c' y h
theorem ZMa{S:Nat->Prop}{w:World}{m:Mp}:RepL S w m [] []:=⟨rfl,fun j c h=>by simp at h,fun y h=>by simp at h⟩
theorem ZdV{P:Program}{t:TypeId}{k:IntKind}(ht:P.underlying t=some (.int k)):Opn P t (cI k) (okI k):=by
 refine⟨?_⟩;intro H en w bY bK cJ cu cs x h;obtain⟨n,rfl,_,hw⟩:=DataW.trod_int ht h;exact⟨n,ZMc .lit rfl,hw⟩
theorem ZwW{P:Program}{t:TypeId}(ht:P.underlying t=some .bool):Opn P t cB okB:=by
 refine⟨?_⟩;intro H en w bY bK cJ cu cs x h;obtain⟨b,rfl,_⟩:=DataW.trod_bool ht h;exact⟨b,ZMc .lit rfl,trivial⟩
theorem ZFF{α:Type}{p:Nat->α->Prop}:∀(n:Nat),(∀i,i<n->∃y,p i y)->∃Y:List α,Y.length=n/\∀i (h:i<Y.length),p i Y[i]
 | 0,_=>⟨[],rfl,fun i h=>absurd h (by simp)⟩
 |k+1,hy=>by
  obtain⟨Y,hl,hY⟩:=ZFF k (fun i hi=>hy i (by omega))
  obtain⟨y,hy1⟩:=hy k (by omega)
  refine⟨Y++[y],by simp[hl],fun i hi=>?_⟩
  by_cases hik:i<Y.length
  .rw[List.getElem_append_left hik]
   exact hY i hik
  .have:i=k:=by simp at hi;omega
   subst this
   rw[List.getElem_append_right (by omega)]
   simpa using hy1
theorem ZCp(b o k:Nat):(⟨b,o,none⟩ : Addr).add k=⟨b,o+k,none⟩:=by
 unfold Addr.add;by_cases h:k=0
 .subst h;simp
 .simp[h]
theorem ZnQ{P:Program}{t e:TypeId}{α:Type}{dw:α->List C}{ok:α->Prop}{sz:Nat}{d:α}(ht:P.underlying t=some (.slice e))(hc:P.cellsOf e=sz)(hz:0<sz)(hl:∀a,(dw a).length=sz)(he:Opn P e dw ok) :
  Opn P t (cLs sz dw d) (okL ok):=by
 refine⟨?_⟩;intro H en w bY bK cJ cu cs x h;rcases Go.Deep.open_slice ht h with⟨rfl,_⟩|⟨a,len,cap,m,n,D,Pl,rfl,_,hlc,hm,jt,_,hx⟩
 .exact⟨[],ZMc (.sl 0 0 (fun _ _=>undef) (Nat.le_refl _) (fun h=>absurd h (by simp)) (fun i j h=>absurd h (by simp)) (fun i j h=>absurd h (by simp)) (fun i j h=>absurd h (by simp))) rfl,by simp[maxLen],fun a h=>absurd h (by simp)⟩
 .have hlm:len<=m:=by rw[jt];split<;>omega
  have hy:∀i,i<len->∃y:α×List Value,w.cells? bY (a.add (i*sz)) sz=some y.2/\RepL (fun b=>b<w.heap.size) w ZcK (dw y.1) y.2/\ok y.1:=by
   intro i hi;obtain⟨fY,h1,h2⟩:=hx i (by omega);obtain⟨y,h3,h4⟩:=he.get _ _ _ _ _ _ _ _ h2;rw[hc]at h1;exact⟨(y,fY),h1,h3,h4⟩
  obtain⟨Y,hlen,hY⟩:=ZFF len hy;refine⟨Y.map (·.1),ZMc ?_ rfl,by simp[hlen];omega,fun y hy=>?_⟩
  .show RepC _ _ _ (.sl sz (Y.map (·.1)).length (Zax dw d (Y.map (·.1)))) _;have hll:(Y.map (·.1)).length=len:=by simp[hlen]
   rw[hll];by_cases h0:len=0
   .subst h0;exact .sl 0 0 (fun _ _=>undef) (by omega) (fun h=>absurd h (by simp)) (fun i j h=>absurd h (by simp)) (fun i j h=>absurd h (by simp)) (fun i j h=>absurd h (by simp))
   have hp:0<Y.length:=by omega
   obtain⟨h1,h2,_⟩:=hY 0 hp;have hc0:∀i (hi:i<Y.length) j,j<sz->w.cell? ((a.add (i*sz)).add j)=some ((Y[i].2).getD j undef):=by
    intro i hi j hj;obtain⟨k1,k2,k3⟩:=hY i hi;obtain⟨_,_,q⟩:=World.cells?_some k1;have gu:j<Y[i].2.length:=by rw[k2.1,hl];exact hj
    rw[q j (by first|exact gu|exact hj)]
    simp[List.getElem?_eq_getElem gu]
   have jk:a.spot=none:=by
    have h3:=hc0 0 hp 0 hz;simpa[Addr.add]using World.cell?_spot h3
   obtain⟨b,off,sp⟩:=a;simp only at jk;subst jk;have fd:∀i j,i<len->j<sz->w.cell? ⟨b,off+i*sz+j,none⟩=some (((Y.getD i (d,[])).2).getD j undef):=by
    intro i j hi hj;have:=hc0 i (by omega) j hj;rw[ZCp,ZCp]at this;have co:i<Y.length:=by omega
    have e:Y.getD i (d,[])=Y[i]:=by simp[List.getD_eq_getElem?_getD,List.getElem?_eq_getElem co]
    rw[e];exact this
   refine .sl b off (fun i j=>((Y.getD i (d,[])).2).getD j undef) (by omega) (fun _=>⟨rfl,?_⟩) fd (fun i j hi hj=>?_) (fun i j hi hj=>?_)
   .show b<w.heap.size;exact block_lt_of_cell (fd 0 0 (by omega) hz)
   .have co:i<Y.length:=by omega
    obtain⟨_,k2,_⟩:=hY i co;have gu:j<Y[i].2.length:=by rw[k2.1,hl];exact hj
    simp only[List.getD_eq_getElem?_getD,List.getElem?_eq_getElem co,Option.getD_some,List.getElem?_eq_getElem gu];exact k2.2.2 _ (List.getElem_mem gu)
   .have co:i<Y.length:=by omega
    obtain⟨_,k2,_⟩:=hY i co;have gu:j<Y[i].2.length:=by rw[k2.1,hl];exact hj
    have hle:j<(dw Y[i].1).length:=by rw[hl];exact hj
    simp only[Zax,List.getD_eq_getElem?_getD,List.getElem?_map,List.getElem?_eq_getElem co,Option.map_some,Option.getD_some,List.getElem?_eq_getElem gu,List.getElem?_eq_getElem hle];obtain⟨x,gz,eh⟩:=k2.2.1 j _ (List.getElem?_eq_getElem hle);rw[List.getElem?_eq_getElem gu]at gz;cases gz;exact eh
  .obtain⟨q,hq,rfl⟩:=List.mem_map.1 hy;obtain⟨i,hi,rfl⟩:=List.getElem_of_mem hq;exact(hY i hi).2.2
structure Tail (P:Program) (fs:Array Field) (N k o:Nat) {α:Type} (dw:α->List C) (ok:α->Prop):Prop where
 get:∀{H:Type}(en:TypeId×Value->H)(w:World)(bY:Nat)(bK:Nat->Bool)(cJ:Bool)(n:Nat)(cs:List Value)(xs:List (DataW H×List MemPlace)),cs.length=N->xs.length=fs.size ->
  (∀(i:Nat)(f:Field),fs[i]?=some f->DataW.trod en P w bY bK cJ n f.type ((cs.drop f.offset).take (P.cellsOf f.type))=xs[i]?)->∃a:α,RepL (fun b=>b<w.heap.size) w ZcK (dw a) (cs.drop o)/\ok a
def cU(_:Unit):List C:=[]
def okU(_:Unit):Prop:=True
theorem ZjP{P:Program}{fs:Array Field}{N k:Nat}:Tail P fs N k N cU okU:=by
 refine⟨?_⟩;intro H en w bY bK cJ n cs xs hN hl hf;exact⟨(),by rw[List.drop_of_length_le (by omega)];exact ZMa,trivial⟩
theorem ZaX{P:Program}{fs:Array Field}{N k o sz:Nat}{α β:Type}{ea:α->List C}{eb:β->List C}{oa:α->Prop}{ob:β->Prop}{f:Field}(hk:fs[k]?=some f)(ho:f.offset=o)(hs:P.cellsOf f.type=sz)
  (ha:Opn P f.type ea oa) (hr:Tail P fs N (k+1) (o+sz) eb ob):Tail P fs N k o (cP ea eb) (okP oa ob):=by
 refine⟨?_⟩;intro H en w bY bK cJ n cs xs hN hl hf;obtain⟨b,bo,bk⟩:=hr.get en w bY bK cJ n cs xs hN hl hf;have h:=hf k f hk;have hlt:k<xs.length:=by
  have:=(Array.getElem?_eq_some_iff.1 hk).1;omega
 rw[List.getElem?_eq_getElem hlt]at h;obtain⟨a,ia,ha2⟩:=ha.get _ _ _ _ _ _ _ _ h;refine⟨(a,b),?_,ha2,bk⟩;have:=ZMb ia bo;rw[ho,hs,<-List.drop_drop,List.take_append_drop]at this;exact this
theorem ZgL{P:Program}{t:TypeId}{fs:Array Field}{N:Nat}{α β:Type}{ea:α->List C}{oa:α->Prop}{eb:β->List C}{ob:β->Prop}(ht:P.underlying t=some (.struct fs))(hN:P.cellsOf t=N)(h:Tail P fs N 0 0 ea oa)
  (mk:α->β) (hc:∀a,eb (mk a)=ea a) (hd:∀a,oa a->ob (mk a)):Opn P t eb ob:=by
 refine⟨?_⟩;intro H en w bY bK cJ cu cs x hx;obtain⟨xs,n,_,_,hl,hlen,hf⟩:=DataW.trod_struct ht hx;obtain⟨a,h1,h2⟩:=h.get en w bY bK cJ n cs xs (hl.trans hN) hlen hf;exact⟨mk a,by rw[hc];exact h1,hd a h2⟩
theorem ZMd{S:Nat->Prop}{w:World}:RepA S w [] []:=⟨rfl,fun j v h=>by simp at h⟩
theorem Zzu{S:Nat->Prop}{w:World}{v:V}{x:Value}{l:List V}{xs:List Value}(h:RepV S w ZcK v x)(hr:RepA S w l xs):RepA S w (v :: l) (x :: xs):=by
 refine⟨by simp[hr.1],fun j u hj=>?_⟩;cases j with
 |zero=>cases hj;exact⟨x,rfl,h⟩
 |succ j=>exact hr.2 j u (by simpa using hj)
theorem ZLZ{S:Nat->Prop}{w:World}{l:List C}{c:Array Value}(h:RepL S w ZcK l c.toList):RepV S w ZcK (.agg l) (.agg c):=⟨c,rfl,h⟩
theorem Zgo.law{P:Program}{f:FuncId}{args:List V}(h:Zgo P f args (.one (.lit (.bool true)))){W:World}{vs:List Value}(hr:RepA (fun b=>b<W.heap.size) W args vs) :
  Calls P f vs.toArray W fun e w'=>e=.returned (.bool true)/\Below W.heap.size W w':=by
 refine(h.2 _ W vs (fun _ h=>h) hr).mono ?_;rintro e w' ⟨x,S',rfl,hg,_,hx⟩;cases hx;exact⟨rfl,⟨hg.below.os,hg.below.tape,hg.below.output,hg.below.size,fun k hk=>hg.below.block k hk⟩⟩
end Go.Proofs.YtnigiacmmedkhaaGreat
