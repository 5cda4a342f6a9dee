import Derived.Test.YtdjfoojllbfcgaaGreatJAmT
import Derived.KernelRfl
import Derived.IntWalk
namespace Go.Proofs.YtdjfoojllbfcgaaGreat
open Go.RowKit
set_option linter.unusedSimpArgs false
set_option linter.unusedVariables false
def Zap{α:Type}(e:α->List C)(d:α)(l:List α):Nat->Nat->C:=fun i j=>(e (l.getD i d)).getD j .junk
def cL{α:Type}(sz:Nat)(e:α->List C)(d:α)(l:List α):C:=.sl sz l.length (Zap e d l)
def cLn{α:Type}(sz:Nat)(e:α->List C)(d:α)(l:List α):C:=.lsl sz l.length (Zap e d l)
def cI(k:IntKind)(n:Int):List C:=[.lit (.int k n)]
def cB(b:Bool):List C:=[.lit (.bool b)]
def cS(s:ByteArray):List C:=[.lit (.string s)]
def cLs{α:Type}(sz:Nat)(e:α->List C)(d:α)(l:List α):List C:=[cL sz e d l]
def cP{α β:Type}(e:α->List C)(f:β->List C)(p:α×β):List C:=e p.1++f p.2
theorem Zcy{α:Type}{sz:Nat}{e:α->List C}{d:α}(out ys:List α):Ext sz out.length ys.length (Zap e d out) (Zap e d ys) (out++ys).length (Zap e d (out++ys)):=by
 refine⟨by simp,fun i j hi hj=>?_,fun i j hi hj=>?_⟩
 .simp[Zap,List.getD_eq_getElem?_getD,List.getElem?_append_left hi]
 .simp[Zap,List.getD_eq_getElem?_getD,List.getElem?_append_right]
theorem ZkK{α:Type}{sz:Nat}{e:α->List C}{d:α}(out:List α)(k:Nat)(x:α)(hx:(e x).length=sz):ExtU sz out.length (Zap e d out) k 0 (e x) (Zap e d (out.set k x)):=by
 intro i j hi hj;by_cases h:i=k
 .subst h;rw[if_pos ⟨rfl,by omega,by omega⟩];simp[Zap,List.getD_eq_getElem?_getD,hi]
 .rw[if_neg (fun hh=>h hh.1)];simp[Zap,List.getD_eq_getElem?_getD,List.getElem?_set_ne (Ne.symm h)]
theorem Ztr{α:Type}{sz:Nat}{e:α->List C}{d z:α}{zs:List C}(hz:∀j,j<sz->Ztn (zs.getD j .junk) ((e z).getD j .junk))(n:Nat):∀i j,i<n->j<sz->Ztn (zs.getD j .junk) (Zap e d (List.replicate n z) i j):=by
 intro i j hi hj;have:Zap e d (List.replicate n z) i j=(e z).getD j .junk:=by simp[Zap,List.getD_eq_getElem?_getD,hi]
 rw[this];exact hz j hj
theorem ZnY{α:Type}{sz:Nat}{e:α->List C}{d:α}(l:List α)(k:Nat):(l.drop k).length=l.length-k/\∀i j,i<l.length-k->j<sz->Zap e d (l.drop k) i j=Zap e d l (k+i) j:=
 ⟨by simp,fun i j hi hj=>by simp[Zap,List.getD_eq_getElem?_getD]⟩
theorem ZqR{α:Type}{sz:Nat}{e:α->List C}{d:α}(l:List α)(h:Int)(hh:0<=h/\h<=((l.length:Nat):Int)):(l.take h.toNat).length=h.toNat/\∀i j,i<h.toNat->j<sz->Zap e d (l.take h.toNat) i j=Zap e d l i j:=
 ⟨by simp;omega,fun i j hi hj=>by simp[Zap,List.getD_eq_getElem?_getD,hi]⟩
def need{α:Type}(p:Prop)[Decidable p](k:Option α):Option α:=if p then k else none
theorem Zar{α:Type}{p:Prop}[Decidable p]{k:Option α}{r:α}(h:need p k=some r):p/\k=some r:=by
 unfold need at h;split at h
 .rename_i hp;exact⟨hp,h⟩
 .cases h
theorem ZqT{α:Type}{p:Prop}[Decidable p](h:p)(k:Option α):need p k=k:=if_pos h
theorem Zaj{α:Type}{b:Bool}{x y:Option α}{r:α}(h:(bif b then x else y)=some r):(b=true/\x=some r)\/(b=false/\y=some r):=by
 cases b
 .exact .inr ⟨rfl,h⟩
 .exact .inl ⟨rfl,h⟩
theorem ltOf{a:Int}{n:Nat}(h:0<=a/\a<(n:Int)):a.toNat<n:=by omega
theorem ZaO{α:Type}{sz:Nat}{e:α->List C}{d:α}(he:∀x,(e x).length=sz):∀(l:List α)(i j:Nat),i<l.length->j<sz->Zap e d l i j=(l.flatMap e).getD (i*sz+j) .junk
 | [],i,j,hi,_=>absurd hi (by simp)
 |x :: l,0,j,_,hj=>by simp[Zap,List.getD_eq_getElem?_getD,List.getElem?_append_left,he,hj]
 |x :: l,i+1,j,hi,hj=>by
  have ih:=ZaO (d:=d) he l i j (by simpa using hi) hj
  simp only[Zap,List.getD_cons_succ]at ih ⊢
  rw[ih]
  simp only[List.flatMap_cons,List.getD_eq_getElem?_getD]
  rw[List.getElem?_append_right (by rw[he,Nat.add_mul];omega),he]
  congr 2
  rw[Nat.add_mul]
  omega
def ix2{α:Type}(n:Int)(a b:Option α):Option α:=if n=0 then a else b
theorem Zjs{α:Type}{n:Int}{a b:Option α}{r:α}(h:0<=n/\n<((2:Nat):Int))(hf:ix2 n a b=some r):(n=0/\a=some r)\/(n=1/\b=some r):=by
 unfold ix2 at hf;split at hf
 .rename_i e;exact .inl ⟨e,hf⟩
 .exact .inr ⟨by omega,hf⟩
theorem ZIN{α:Type}{sz:Nat}(e:α->List C)(d:α)(L:List α)(l:List C)(hs:∀x,(e x).length=sz)(hl:l=L.flatMap e):∀i j,i<L.length->j<sz->Zap e d L i j=l.getD (0+(i*sz+j)) .junk:=by
 subst hl;induction L with
 |nil=>intro i j hi;simp at hi
 |cons x L ih=>
  intro i j hi hj;have hx:=hs x;cases i with
  |zero=>
   simp only[Zap,List.flatMap_cons,List.getD_cons_zero,Nat.zero_mul,Nat.zero_add];simp only[List.getD_eq_getElem?_getD];rw[List.getElem?_append_left (by omega)]
  |succ i=>
   have h:=ih i j (by simpa using hi) hj;simp only[Zap,List.flatMap_cons,List.getD_cons_succ,Nat.zero_add]at h ⊢;rw[h];simp only[List.getD_eq_getElem?_getD];rw[List.getElem?_append_right (by rw[hx,Nat.add_mul,Nat.one_mul];omega),hx];congr 2;rw[Nat.add_mul,Nat.one_mul];omega
theorem Zac{α β:Type}{x:Option α}{f:α->Option β}{r:β}(h:x.bind f=some r):∃y,x=some y/\f y=some r:=by
 cases x with
 |none=>cases h
 |some y=>exact⟨y,rfl,h⟩
def ZaA(a b:Int):Int:=IntKind.i64.wrap (a+b)
def ZbT(a b:Int):Int:=IntKind.i64.wrap (a-b)
def Ztp(a b:Int):Int:=IntKind.i64.wrap (a*b)
theorem ZuD{a:Int}(h : -9223372036854775808<=a)(h':a<=9223372036854775807):IntKind.i64.wrap a=a:=IntWalk.i64_in a ⟨h,h'⟩
theorem Zeo{a b:Int}(h : -9223372036854775808<=a+b)(h':a+b<=9223372036854775807):ZaA a b=a+b:=ZuD h h'
theorem Zil{a b:Int}(h : -9223372036854775808<=a-b)(h':a-b<=9223372036854775807):ZbT a b=a-b:=ZuD h h'
theorem ZIe{a b:Int}(h : -9223372036854775808<=a*b)(h':a*b<=9223372036854775807):Ztp a b=a*b:=ZuD h h'
theorem ZCD{α:Type}{sz:Nat}{e:α->List C}{d:α}(l:List α)(k:Nat):∀i j,i<k->j<sz->Zap e d (l.take k) i j=Zap e d l i j:=by
 intro i j hi _;simp only[Zap,List.getD_eq_getElem?_getD,List.getElem?_take,if_pos hi]
theorem ZFy{α:Type}(l:List α)(k:Nat)(h:k<=l.length):(l.take k).length=k:=by simp;omega
def ZkO{α:Type}(l:List α)(lo k:Nat)(z:α):List α:=l.take lo++List.replicate k z++l.drop (lo+k)
theorem ZAM{α:Type}(l:List α)(lo k:Nat)(z:α)(h:lo+k<=l.length):(ZkO l lo k z).length=l.length:=by simp[ZkO];omega
theorem ZAN{α:Type}(l:List α)(lo k:Nat)(z d:α)(h:lo+k<=l.length)(i:Nat):(ZkO l lo k z).getD i d=if lo<=i/\i<lo+k then z else l.getD i d:=by
 simp only[ZkO,List.getD_eq_getElem?_getD];by_cases h1:i<lo
 .rw[if_neg (by omega),List.append_assoc,List.getElem?_append_left (by simp;omega),List.getElem?_take,if_pos h1]
 .by_cases h2:i<lo+k
  .rw[if_pos (by omega),List.getElem?_append_left (by simp;omega),List.getElem?_append_right (by simp;omega),List.getElem?_replicate,if_pos (by simp;omega)];rfl
  .rw[if_neg (by omega),List.getElem?_append_right (by simp;omega),List.getElem?_drop];congr 2;simp;omega
theorem ZHf{α:Type}{sz:Nat}{e:α->List C}{d z:α}(l:List α)(lo k:Nat)(h:lo+k<=l.length){R:Nat}:∀i j,i<R->j<sz->(i<lo\/lo+k<=i)->Zap e d (ZkO l lo k z) i j=Zap e d l i j:=by
 intro i j _ _ hi;simp only[Zap,ZAN l lo k z d h];rw[if_neg (by omega)]
theorem ZHg{α:Type}{sz:Nat}{e:α->List C}{d z:α}{zs:List C}(l:List α)(lo k:Nat)(h:lo+k<=l.length)(hz:∀j,j<sz->Ztn (zs.getD j .junk) ((e z).getD j .junk)):∀i j,i<k->j<sz->Ztn (zs.getD j .junk) (Zap e d (ZkO l lo k z) (lo+i) j):=by
 intro i j hi hj;simp only[Zap,ZAN l lo k z d h];rw[if_pos (by omega)];exact hz j hj
def C.isLit:C->Bool | .lit _=>true|_=>false
theorem Zul{α:Type}{sz:Nat}{e:α->List C}{d:α}(h:∀a,(e a).all C.isLit=true)(hl:∀a,(e a).length=sz)(l:List α)(n:Nat):∀i j,i<n->j<sz->∃x,Zap e d l i j=.lit x:=by
 intro i j _ hj;simp only[Zap];have h1:j<(e (l.getD i d)).length:=by rw[hl];exact hj
 have h2:=List.all_eq_true.1 (h (l.getD i d)) _ (List.getElem_mem h1);rw[List.getD_eq_getElem?_getD,List.getElem?_eq_getElem h1];simp only[Option.getD_some];generalize (e (l.getD i d))[j]=c at h2;cases c<;>simp only[C.isLit]at h2<;>try (cases h2;done)
 exact⟨_,rfl⟩
end Go.Proofs.YtdjfoojllbfcgaaGreat
