import Derived.Test.YtdjfoojllbfcgaaGreatJAmU
namespace Go.Proofs.YtdjfoojllbfcgaaGreat
set_option linter.unusedSimpArgs false
set_option linter.unusedVariables false
theorem ZdK{α:Type}(l:List α)(d:α)(i:Nat)(h:i<l.length):l.drop i=l.getD i d :: l.drop (i+1):=by
 rw[List.drop_eq_getElem_cons h];simp[List.getD_eq_getElem?_getD,h]
theorem Zdw{α:Type}(l:List α)(d:α)(i:Nat)(h:i<l.length):l.getD i d=l[i]:=by simp[List.getD_eq_getElem?_getD,h]
theorem Zeu{α:Type}(l:List α)(d:α)(i:Nat)(h:i<l.length):l.getD i d∈l:=by rw[Zdw l d i h];exact List.getElem_mem h
def ixOf{α:Type}(p:α->Bool):List α->Nat->Int | [],_=>-1|x :: r,i=>if p x then(i:Int)else ixOf p r (i+1)
theorem Zsw{α:Type}(p:α->Bool):∀(l:List α)(i:Nat),ixOf p l i<0↔∀x∈l,p x=false
 | [],i=>by simp[ixOf]
 |x :: r,i=>by
  simp only[ixOf]
  split
  .rename_i h
   constructor
   .intro h1;omega
   .intro h1;have:=h1 x (by simp);rw[h]at this;cases this
  .rename_i h
   rw[Zsw p r (i+1)]
   simp only[List.mem_cons,forall_eq_or_imp,Bool.not_eq_true]at h ⊢
   exact⟨fun h1=>⟨h,h1⟩,fun h1=>h1.2⟩
theorem Zyw{α:Type}(p:α->Bool):∀(l:List α)(i:Nat),0<=ixOf p l i->∃k,k<l.length/\ixOf p l i=((i+k:Nat):Int)/\(∃x,l[k]?=some x/\p x=true)/\∀j,j<k->∃x,l[j]?=some x/\p x=false
 | [],i,h=>by simp[ixOf]at h
 |x :: r,i,h=>by
  simp only[ixOf]at h ⊢
  split
  .rename_i hp
   exact⟨0,by simp,by simp,⟨x,rfl,hp⟩,fun j hj=>by omega⟩
  .rename_i hp
   rw[if_neg hp]at h
   obtain⟨k,h1,h2,⟨y,h3,h4⟩,h5⟩:=Zyw p r (i+1) h
   refine⟨k+1,by simp;exact h1,by rw[h2];congr 1;omega,⟨y,by simpa using h3,h4⟩,fun j hj=>?_⟩
   cases j with
   |zero=>exact⟨x,rfl,by simpa using hp⟩
   |succ j=>obtain⟨y,h6,h7⟩:=h5 j (by omega);exact⟨y,by simpa using h6,h7⟩
theorem Zyx{α:Type}(p:α->Bool):∀(l:List α)(i:Nat),ixOf p l i<((i+l.length:Nat):Int)
 | [],i=>by simp only[ixOf];omega
 |x :: r,i=>by
  simp only[ixOf]
  split
  .simp;omega
  .have:=Zyx p r (i+1)
   simp at this ⊢;omega
theorem Zxt{α:Type}(p:α->Bool):∀(l:List α)(i:Nat),(ixOf p l i<0->l.takeWhile (fun x=>!p x)=l/\l.dropWhile (fun x=>!p x)=[])/\(0<=ixOf p l i->i<=(ixOf p l i).toNat/\l.takeWhile (fun x=>!p x)=l.take ((ixOf p l i).toNat-i)/\l.dropWhile (fun x=>!p x)=l.drop ((ixOf p l i).toNat-i))
 | [],i=>by simp[ixOf]
 |x :: r,i=>by
  obtain⟨h1,h2⟩:=Zxt p r (i+1)
  simp only[ixOf]
  cases hp:p x
  .simp only[Bool.false_eq_true,if_false,List.takeWhile_cons,List.dropWhile_cons,hp,Bool.not_false,if_true]
   refine⟨fun h=>?_,fun h=>?_⟩
   .obtain⟨h3,h4⟩:=h1 h
    exact⟨by rw[h3],h4⟩
   .obtain⟨h3,h4,h5⟩:=h2 h
    have e:(ixOf p r (i+1)).toNat-i=((ixOf p r (i+1)).toNat-(i+1))+1:=by omega
    rw[e,List.take_succ_cons,List.drop_succ_cons,h4,h5]
    exact⟨by omega,rfl,rfl⟩
  .simp only[if_true,List.takeWhile_cons,List.dropWhile_cons,hp,Bool.not_true,Bool.false_eq_true,if_false]
   refine⟨fun h=>by omega,fun h=>?_⟩
   simp
def cmpI(a b:Int):Int:=if a<b then -1 else if b<a then 1 else 0
def orI(a b:Int):Int:=if a=0 then b else a
theorem ZlM{a b:Int}:cmpI a b=0↔a=b:=by unfold cmpI;constructor<;>intro h<;>(repeat' split at *)<;>omega
theorem Zwb{a b:Int}:cmpI a b<0↔a<b:=by unfold cmpI;constructor<;>intro h<;>(repeat' split at *)<;>omega
theorem ZyS{a b:Int}:0<cmpI a b↔b<a:=by unfold cmpI;constructor<;>intro h<;>(repeat' split at *)<;>omega
theorem Zoa{α:Type}{R:α->α->Prop}(ht:∀a b c,R a b->R b c->R a c):∀(l:List α),(∀i a b,l[i]?=some a->l[i+1]?=some b->R a b)->l.Pairwise R
 | [],_=>.nil
 | [a],_=>List.pairwise_singleton _ _
 |a :: b :: r,h=>by
  have ih:=Zoa ht (b :: r) fun i x y hx hy=>h (i+1) x y (by simpa using hx) (by simpa using hy)
  have hab:=h 0 a b rfl rfl
  refine List.pairwise_cons.2 ⟨fun x hx=>?_,ih⟩
  rcases List.mem_cons.1 hx with rfl|hx
  .exact hab
  .exact ht _ _ _ hab ((List.pairwise_cons.1 ih).1 x hx)
theorem Zam{α:Type}(p:Prop)[Decidable p](a b:α):(bif decide p then a else b)=if p then a else b:=by by_cases h:p<;>simp[h]
theorem Zax{α:Type}{p:Prop}[Decidable p](h:p)(k:Option α):need p k=k:=if_pos h
theorem Zlt{n:Nat}(h:n<=100000):n<=maxLen:=by simp only[maxLen];omega
theorem ZhJ{a:Int}(h:0<=a)(h':a<=18446744073709551615):IntKind.u64.wrap a=a:=by
 simp only[IntKind.wrap,IntKind.bits,IntKind.signed];simp;omega
theorem ZCr(a b:Nat)(ha:a<2 ^ 64)(hb:b<2 ^ 64):((BitVec.ofInt (IntKind.bits .u64) (a:Int)) &&& (BitVec.ofInt (IntKind.bits .u64) (b:Int))).toNat=a &&& b:=by
 have h1:∀c:Nat,c<2 ^ 64->(BitVec.ofInt 64 (c:Int)).toNat=c:=fun c hc=>by
  rw[BitVec.ofInt_natCast,BitVec.toNat_ofNat];exact Nat.mod_eq_of_lt hc
 show (BitVec.ofInt 64 (a:Int) &&& BitVec.ofInt 64 (b:Int)).toNat=a &&& b;rw[BitVec.toNat_and,h1 a ha,h1 b hb]
theorem add1{i n:Nat}(hi:i<n)(hn:n<=maxLen):ZaA (i:Int) 1=((i+1:Nat):Int):=by
 unfold maxLen at hn;rw[Zeo (by omega) (by omega)];omega
theorem Zts{α β:Type}(l:List α)(d:α)(p:α->Bool)(hl:l.length<=maxLen)(F:Nat->Int->Option β)(g:Int->β)
  (hF:∀fu (i:Nat),i<l.length->F (fu+1) (i:Int)=if p (l.getD i d)then some (g i)else F fu (ZaA (i:Int) 1)) (hE:∀fu,F (fu+1) (l.length:Int)=some (g (-1))) :
  ∀fu (i:Nat),i<=l.length->l.length-i<fu->F fu (i:Int)=some (g (ixOf p (l.drop i) i)):=by
 intro fu;induction fu with
 |zero=>intro i _ h;omega
 |succ fu ih=>
  intro i hi hf;by_cases h:i<l.length
  .rw[hF fu i h,ZdK l d i h];simp only[ixOf];split
   .rfl
   .rw[add1 h hl];exact ih (i+1) (by omega) (by omega)
  .have e:i=l.length:=by omega
   subst e;rw[hE,List.drop_length];rfl
theorem Zxn{α:Type}(l:List α)(d:α)(p:α->Bool)(hl:l.length<=maxLen)(F:Nat->Int->Int->Option Int)
  (hF:∀fu (i n:Nat),i<l.length->F (fu+1) (n:Int) (i:Int)=if p (l.getD i d)then F fu (ZaA (n:Int) 1) (ZaA (i:Int) 1)else F fu (n:Int) (ZaA (i:Int) 1)) (hE:∀fu n,F (fu+1) n (l.length:Int)=some n) :
  ∀fu (i n:Nat),i<=l.length->n<=i->l.length-i<fu->F fu (n:Int) (i:Int)=some ((n+(l.drop i).countP p:Nat):Int):=by
 intro fu;induction fu with
 |zero=>intro i _ _ _ h;omega
 |succ fu ih=>
  intro i n hi hn hf;by_cases h:i<l.length
  .rw[hF fu i n h,ZdK l d i h,List.countP_cons,add1 h hl];split
   .rename_i hp;rw[add1 (show n<l.length by omega) hl,ih (i+1) (n+1) (by omega) (by omega) (by omega)];congr 2;omega
   .rename_i hp;rw[ih (i+1) n (by omega) (by omega) (by omega)];rfl
  .have e:i=l.length:=by omega
   subst e;rw[hE,List.drop_length];simp
end Go.Proofs.YtdjfoojllbfcgaaGreat
