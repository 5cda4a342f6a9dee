import Derived.Test.YtnigiacmmedkhaaGreatGAmT
import Derived.KernelRfl
import Derived.IntWalk
namespace Go.Proofs.YtnigiacmmedkhaaGreat
open Go.RowKit
set_option linter.unusedSimpArgs false
set_option linter.unusedVariables false
def Zax{α:Type}(e:α->List C)(d:α)(l:List α):Nat->Nat->C:=fun i j=>(e (l.getD i d)).getD j .junk
def cL{α:Type}(sz:Nat)(e:α->List C)(d:α)(l:List α):C:=.sl sz l.length (Zax e d l)
def cI(k:IntKind)(n:Int):List C:=[.lit (.int k n)]
def cB(b:Bool):List C:=[.lit (.bool b)]
def cS(s:ByteArray):List C:=[.lit (.string s)]
def cLs{α:Type}(sz:Nat)(e:α->List C)(d:α)(l:List α):List C:=[cL sz e d l]
def cP{α β:Type}(e:α->List C)(f:β->List C)(p:α×β):List C:=e p.1++f p.2
theorem ZPn{α:Type}{sz:Nat}{e:α->List C}{d:α}(out ys:List α):Ext sz out.length ys.length (Zax e d out) (Zax e d ys) (out++ys).length (Zax e d (out++ys)):=by
 refine⟨by simp,fun i j hi hj=>?_,fun i j hi hj=>?_⟩
 .simp[Zax,List.getD_eq_getElem?_getD,List.getElem?_append_left hi]
 .simp[Zax,List.getD_eq_getElem?_getD,List.getElem?_append_right]
theorem ZDX{α:Type}{sz:Nat}{e:α->List C}{d:α}(out:List α)(k:Nat)(x:α)(hx:(e x).length=sz):ExtU sz out.length (Zax e d out) k 0 (e x) (Zax e d (out.set k x)):=by
 intro i j hi hj;by_cases h:i=k
 .subst h;rw[if_pos ⟨rfl,by omega,by omega⟩];simp[Zax,List.getD_eq_getElem?_getD,hi]
 .rw[if_neg (fun hh=>h hh.1)];simp[Zax,List.getD_eq_getElem?_getD,List.getElem?_set_ne (Ne.symm h)]
theorem ZGb{α:Type}{sz:Nat}{e:α->List C}{d:α}(out:List α)(k off:Nat)(x:α)(cs:List C)(hx:e x=ZjB (e (out.getD k d)) off cs)(hl:off+cs.length<=(e (out.getD k d)).length):ExtU sz out.length (Zax e d out) k off cs (Zax e d (out.set k x)):=by
 intro i j hi hj;by_cases h:i=k
 .subst h;have h1:Zax e d (out.set i x) i j=(e x).getD j .junk:=by simp[Zax,List.getD_eq_getElem?_getD,hi]
  have h2:=ZpQ (e (out.getD i d)) off cs hl j;rw[h1,hx,List.getD_eq_getElem?_getD,h2];by_cases hj2:off<=j/\j<off+cs.length
  .rw[if_pos hj2,if_pos ⟨rfl,hj2⟩,List.getD_eq_getElem?_getD]
  .rw[if_neg hj2,if_neg (fun hh=>hj2 hh.2)];simp[Zax,List.getD_eq_getElem?_getD]
 .rw[if_neg (fun hh=>h hh.1)];simp[Zax,List.getD_eq_getElem?_getD,List.getElem?_set_ne (Ne.symm h)]
theorem ZvF{α:Type}{sz:Nat}{e:α->List C}{d z:α}{zs:List C}(hz:∀j,j<sz->ZuP (zs.getD j .junk) ((e z).getD j .junk))(n:Nat):∀i j,i<n->j<sz->ZuP (zs.getD j .junk) (Zax e d (List.replicate n z) i j):=by
 intro i j hi hj;have:Zax e d (List.replicate n z) i j=(e z).getD j .junk:=by simp[Zax,List.getD_eq_getElem?_getD,hi]
 rw[this];exact hz j hj
theorem ZkF{α:Type}{sz:Nat}{e:α->List C}{d:α}(l:List α)(k:Nat):(l.drop k).length=l.length-k/\∀i j,i<l.length-k->j<sz->Zax e d (l.drop k) i j=Zax e d l (k+i) j:=
 ⟨by simp,fun i j hi hj=>by simp[Zax,List.getD_eq_getElem?_getD]⟩
theorem ZkE{α:Type}{sz:Nat}{e:α->List C}{d:α}(l:List α)(h:Int)(hh:0<=h/\h<=((l.length:Nat):Int)):(l.take h.toNat).length=h.toNat/\∀i j,i<h.toNat->j<sz->Zax e d (l.take h.toNat) i j=Zax e d l i j:=
 ⟨by simp;omega,fun i j hi hj=>by simp[Zax,List.getD_eq_getElem?_getD,hi]⟩
def need{α:Type}(p:Prop)[Decidable p](k:Option α):Option α:=if p then k else none
theorem Zkn{α:Type}{p:Prop}[Decidable p]{k:Option α}{r:α}(h:need p k=some r):p/\k=some r:=by
 unfold need at h;split at h
 .rename_i hp;exact⟨hp,h⟩
 .cases h
theorem ZpK{α:Type}{b:Bool}{x y:Option α}{r:α}(h:(bif b then x else y)=some r):(b=true/\x=some r)\/(b=false/\y=some r):=by
 cases b
 .exact .inr ⟨rfl,h⟩
 .exact .inl ⟨rfl,h⟩
theorem ltOf{a:Int}{n:Nat}(h:0<=a/\a<(n:Int)):a.toNat<n:=by omega
theorem Zbr{α:Type}{sz:Nat}{e:α->List C}{d:α}(he:∀x,(e x).length=sz):∀(l:List α)(i j:Nat),i<l.length->j<sz->Zax e d l i j=(l.flatMap e).getD (i*sz+j) .junk
 | [],i,j,hi,_=>absurd hi (by simp)
 |x :: l,0,j,_,hj=>by simp[Zax,List.getD_eq_getElem?_getD,List.getElem?_append_left,he,hj]
 |x :: l,i+1,j,hi,hj=>by
  have ih:=Zbr (d:=d) he l i j (by simpa using hi) hj
  simp only[Zax,List.getD_cons_succ]at ih ⊢
  rw[ih]
  simp only[List.flatMap_cons,List.getD_eq_getElem?_getD]
  rw[List.getElem?_append_right (by rw[he,Nat.add_mul];omega),he]
  congr 2
  rw[Nat.add_mul]
  omega
def ix2{α:Type}(n:Int)(a b:Option α):Option α:=if n=0 then a else b
def ix1{α:Type}(n k:Int)(a b:Option α):Option α:=if n=k then a else b
theorem Zbj{α β:Type}{x:Option α}{f:α->Option β}{r:β}(h:x.bind f=some r):∃y,x=some y/\f y=some r:=by
 cases x with
 |none=>cases h
 |some y=>exact⟨y,rfl,h⟩
def Zau(a b:Int):Int:=IntKind.i64.wrap (a+b)
def Zbl(a b:Int):Int:=IntKind.i64.wrap (a-b)
def Zml(a b:Int):Int:=IntKind.i64.wrap (a*b)
theorem Ztg{a:Int}(h : -9223372036854775808<=a)(h':a<=9223372036854775807):IntKind.i64.wrap a=a:=IntWalk.i64_in a ⟨h,h'⟩
theorem Zbs{a b:Int}(h : -9223372036854775808<=a+b)(h':a+b<=9223372036854775807):Zau a b=a+b:=Ztg h h'
theorem ZcC{a b:Int}(h : -9223372036854775808<=a-b)(h':a-b<=9223372036854775807):Zbl a b=a-b:=Ztg h h'
theorem ZsQ{a b:Int}(h : -9223372036854775808<=a*b)(h':a*b<=9223372036854775807):Zml a b=a*b:=Ztg h h'
def mget{κ ν:Type}[DecidableEq κ](l:List (κ×ν))(k:κ)(z:ν):ν:=match l with
 | []=>z
 |p :: r=>if p.1=k then p.2 else mget r k z
def mput{κ ν:Type}[DecidableEq κ](l:List (κ×ν))(k:κ)(v:ν):List (κ×ν):=match l with
 | []=>[(k,v)]
 |p :: r=>if p.1=k then(k,v) :: r else p :: mput r k v
def encM{κ ν:Type}(kv:κ->Value)(vv:ν->V)(l:List (κ×ν)):List (Value×V):=l.map fun p=>(kv p.1,vv p.2)
theorem ZJJ{κ ν:Type}[DecidableEq κ]{kv:κ->Value}{vv:ν->V}(hi:∀a b,kv a=kv b->a=b){zv:Value}{z:ν}(hz:∀S w m,RepV S w m (vv z) zv)(k:κ):∀l:List (κ×ν),Zyc (encM kv vv l) (kv k) zv (vv (mget l k z))
 | []=>.inr ⟨by simp[encM],hz⟩
 |p :: r=>by
  unfold mget
  by_cases h:p.1=k
  .rw[if_pos h]
   exact .inl ⟨(kv p.1,vv p.2),by simp[encM],by rw[h],fun _ _ _ _ h=>h⟩
  .rw[if_neg h]
   rcases ZJJ hi hz k r with⟨q,h1,h2,h3⟩|⟨h1,h2⟩
   .exact .inl ⟨q,by simp only[encM,List.map_cons,List.mem_cons];exact .inr h1,h2,h3⟩
   .refine .inr ⟨fun q hq=>?_,h2⟩
    simp only[encM,List.map_cons,List.mem_cons]at hq
    rcases hq with rfl|hq
    .exact fun e=>h (hi _ _ e)
    .exact h1 q hq
theorem ZNL{κ ν:Type}[DecidableEq κ]{kv:κ->Value}{vv:ν->V}(hi:∀a b,kv a=kv b->a=b)(k:κ)(v:ν):∀l:List (κ×ν),MPut (encM kv vv l) (kv k) (vv v) (encM kv vv (mput l k v))
 | []=>.inr ⟨by simp[encM],rfl⟩
 |p :: r=>by
  unfold mput
  by_cases h:p.1=k
  .rw[if_pos h]
   exact .inl ⟨0,by simp[encM,h],by simp[encM]⟩
  .rw[if_neg h]
   rcases ZNL (vv:=vv) hi k v r with⟨j,h1,h2⟩|⟨h1,h2⟩
   .refine .inl ⟨j+1,by simpa[encM]using h1,?_⟩
    simp only[encM,List.map_cons,List.set_cons_succ]at h2 ⊢
    rw[<-h2]
   .refine .inr ⟨fun q hq=>?_,?_⟩
    .simp only[encM,List.map_cons,List.mem_cons]at hq
     rcases hq with rfl|hq
     .exact fun e=>h (hi _ _ e)
     .exact h1 q hq
    .simp only[encM,List.map_cons,List.cons_append]at h2 ⊢
     rw[<-h2]
theorem ZBS{κ ν:Type}{kv:κ->Value}{vv:ν->V}{l:List (κ×ν)}{k':Value}(h:k'∈(encM kv vv l).map (·.1)):∃a,k'=kv a:=by
 simp only[encM,List.map_map,List.mem_map]at h;obtain⟨p,_,rfl⟩:=h;exact⟨p.1,rfl⟩
theorem ZAb{P:Program}{kt:TypeId}{κ ν:Type}[DecidableEq κ]{kv:κ->Value}{vv:ν->V}{fs:Array Field}(hu:P.underlying kt=some (.struct fs))(cz:∀a,∃xs,kv a=.agg xs)(dp:Nat)(hdp:dp<=10000)(ko:∀e n k w,(Instr.checkKey e (n+dp) kt (kv k)).run P w=.ok () w)
  (heq:∀n a b w,(Op.equalIn (n+dp) kt (kv a) (kv b)).run P w=.ok (decide (a=b)) w) (gY:∀a b,kv a=kv b->a=b) (dD:∀k,Instr.sameBits 10000 (kv k) (kv k)=true) (k:κ) (l:List (κ×ν)):ZnG P kt (kv k) ((encM kv vv l).map (·.1)):=by
 have e9:10000=(10000-dp)+dp:=by omega
 refine⟨fun e w=>by rw[e9];exact ko e _ k w,⟨_,hu,fun k' hk=>?_⟩,fun k' hk w=>?_,dD k⟩
 .obtain⟨a,rfl⟩:=ZBS hk;obtain⟨xs,h1⟩:=cz k;obtain⟨ys,h2⟩:=cz a;rw[h1,h2];exact .inl rfl
 .obtain⟨a,rfl⟩:=ZBS hk;refine⟨decide (k=a),?_,by simp;exact⟨fun h=>by rw[h],gY _ _⟩⟩;simp only[Op.equal,Op.maxDepth];rw[e9];exact heq _ k a w
theorem ZLp{xs:List Value}{l:List C}(eJ:xs.all Value.oneCell'=true)(hlen:l.length=xs.length)(h:∀j,j<xs.length->ZuP ((xs.map C.lit).getD j .junk) (l.getD j .junk)):∀S w m,RepV S w m (.agg l) (.agg xs.toArray):=by
 intro S w m;obtain⟨h1,h2,h3⟩:=RepL.lits (S:=S) (w:=w) (m:=m) eJ;refine⟨xs.toArray,rfl,by simp[hlen],fun j c hc=>?_,fun x hx=>h3 x (by simpa using hx)⟩;have hj:j<l.length:=(List.getElem?_eq_some_iff.1 hc).1;have hj2:j<(xs.map C.lit).length:=by simpa[hlen]using hj
 have e0:(xs.map C.lit)[j]?=some ((xs.map C.lit).getD j .junk):=by simp[List.getD_eq_getElem?_getD,show j<xs.length by omega]
 obtain⟨x,q1,q2⟩:=h2 j _ e0;refine⟨x,by simpa using q1,?_⟩;have:=ZtB q2 (h j (by omega));have e1:l.getD j .junk=c:=by simp[List.getD_eq_getElem?_getD,hc]
 rw[e1]at this;exact this
def C.isLit:C->Bool | .lit _=>true|_=>false
theorem ZFp{α:Type}{sz:Nat}{e:α->List C}{d:α}(h:∀a,(e a).all C.isLit=true)(hl:∀a,(e a).length=sz)(l:List α)(n:Nat):∀i j,i<n->j<sz->∃x,Zax e d l i j=.lit x:=by
 intro i j _ hj;simp only[Zax];have h1:j<(e (l.getD i d)).length:=by rw[hl];exact hj
 have h2:=List.all_eq_true.1 (h (l.getD i d)) _ (List.getElem_mem h1);rw[List.getD_eq_getElem?_getD,List.getElem?_eq_getElem h1];simp only[Option.getD_some];generalize (e (l.getD i d))[j]=c at h2;cases c<;>simp only[C.isLit]at h2<;>try (cases h2;done)
 exact⟨_,rfl⟩
end Go.Proofs.YtnigiacmmedkhaaGreat
