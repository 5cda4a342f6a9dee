import Derived.Test.YtmnloegcpaahcaaGreatAAmU
namespace Go.Proofs.YtmnloegcpaahcaaGreat
set_option linter.unusedSimpArgs false
set_option linter.unusedVariables false
theorem Zjr{α:Type}(l:List α)(d:α)(i:Nat)(h:i<l.length):l.drop i=l.getD i d :: l.drop (i+1):=by
 rw[List.drop_eq_getElem_cons h];simp[List.getD_eq_getElem?_getD,h]
theorem ZdM{α:Type}(l:List α)(d:α)(i:Nat)(h:i<l.length):l.getD i d=l[i]:=by simp[List.getD_eq_getElem?_getD,h]
theorem Zjv{α:Type}(l:List α)(d:α)(i:Nat)(h:i<l.length):l.getD i d∈l:=by rw[ZdM l d i h];exact List.getElem_mem h
def ixOf{α:Type}(p:α->Bool):List α->Nat->Int | [],_=>-1|x :: r,i=>if p x then(i:Int)else ixOf p r (i+1)
theorem ZpO{α:Type}(p:α->Bool):∀(l:List α)(i:Nat),ixOf p l i<0↔∀x∈l,p x=false
 | [],i=>by simp[ixOf]
 |x :: r,i=>by
  simp only[ixOf]
  split
  .rename_i h
   constructor
   .intro h1;omega
   .intro h1;have:=h1 x (by simp);rw[h]at this;cases this
  .rename_i h
   rw[ZpO p r (i+1)]
   simp only[List.mem_cons,forall_eq_or_imp,Bool.not_eq_true]at h ⊢
   exact⟨fun h1=>⟨h,h1⟩,fun h1=>h1.2⟩
theorem Zrh{α:Type}(p:α->Bool):∀(l:List α)(i:Nat),0<=ixOf p l i->∃k,k<l.length/\ixOf p l i=((i+k:Nat):Int)/\(∃x,l[k]?=some x/\p x=true)/\∀j,j<k->∃x,l[j]?=some x/\p x=false
 | [],i,h=>by simp[ixOf]at h
 |x :: r,i,h=>by
  simp only[ixOf]at h ⊢
  split
  .rename_i hp
   exact⟨0,by simp,by simp,⟨x,rfl,hp⟩,fun j hj=>by omega⟩
  .rename_i hp
   rw[if_neg hp]at h
   obtain⟨k,h1,h2,⟨y,h3,h4⟩,h5⟩:=Zrh p r (i+1) h
   refine⟨k+1,by simp;exact h1,by rw[h2];congr 1;omega,⟨y,by simpa using h3,h4⟩,fun j hj=>?_⟩
   cases j with
   |zero=>exact⟨x,rfl,by simpa using hp⟩
   |succ j=>obtain⟨y,h6,h7⟩:=h5 j (by omega);exact⟨y,by simpa using h6,h7⟩
theorem ZDU{α:Type}(p:α->Bool):∀(l:List α)(i:Nat),ixOf p l i<((i+l.length:Nat):Int)
 | [],i=>by simp only[ixOf];omega
 |x :: r,i=>by
  simp only[ixOf]
  split
  .simp;omega
  .have:=ZDU p r (i+1)
   simp at this ⊢;omega
theorem ZHe{α:Type}(p:α->Bool)(l:List α)(i:Nat) : -1<=ixOf p l i:=by
 rcases Int.lt_or_le (ixOf p l i) 0 with h|h
 .induction l generalizing i with
  |nil=>simp[ixOf]
  |cons x r ih=>
   simp only[ixOf]at h ⊢;split
   .omega
   .rename_i hp;rw[if_neg hp]at h;exact ih _ h
 .omega
def cmpI(a b:Int):Int:=if a<b then -1 else if b<a then 1 else 0
def orI(a b:Int):Int:=if a=0 then b else a
theorem Zms{a b:Int}:cmpI a b=0↔a=b:=by unfold cmpI;constructor<;>intro h<;>(repeat' split at *)<;>omega
theorem ZAz{a b:Int}:cmpI a b<0↔a<b:=by unfold cmpI;constructor<;>intro h<;>(repeat' split at *)<;>omega
theorem Zxh{a b:Int}:0<cmpI a b↔b<a:=by unfold cmpI;constructor<;>intro h<;>(repeat' split at *)<;>omega
theorem Zai{α:Type}(p:Prop)[Decidable p](a b:α):(bif decide p then a else b)=if p then a else b:=by by_cases h:p<;>simp[h]
theorem Zax{α:Type}{p:Prop}[Decidable p](h:p)(k:Option α):need p k=k:=if_pos h
theorem ZhV{a:Int}(h:0<=a)(h':a<=18446744073709551615):IntKind.u64.wrap a=a:=by
 simp only[IntKind.wrap,IntKind.bits,IntKind.signed];simp;omega
theorem ZAF(a b:Nat)(ha:a<2 ^ 64)(hb:b<2 ^ 64):((BitVec.ofInt (IntKind.bits .u64) (a:Int)) &&& (BitVec.ofInt (IntKind.bits .u64) (b:Int))).toNat=a &&& b:=by
 have h1:∀c:Nat,c<2 ^ 64->(BitVec.ofInt 64 (c:Int)).toNat=c:=fun c hc=>by
  rw[BitVec.ofInt_natCast,BitVec.toNat_ofNat];exact Nat.mod_eq_of_lt hc
 show (BitVec.ofInt 64 (a:Int) &&& BitVec.ofInt 64 (b:Int)).toNat=a &&& b;rw[BitVec.toNat_and,h1 a ha,h1 b hb]
theorem add1{i n:Nat}(hi:i<n)(hn:n<=maxLen):Zar (i:Int) 1=((i+1:Nat):Int):=by
 unfold maxLen at hn;rw[Zdg (by omega) (by omega)];omega
theorem ZrW{α β:Type}(l:List α)(d:α)(p:α->Bool)(hl:l.length<=maxLen)(F:Nat->Int->Option β)(g:Int->β)
  (hF:∀fu (i:Nat),i<l.length->F (fu+1) (i:Int)=if p (l.getD i d)then some (g i)else F fu (Zar (i:Int) 1)) (hE:∀fu,F (fu+1) (l.length:Int)=some (g (-1))) :
  ∀fu (i:Nat),i<=l.length->l.length-i<fu->F fu (i:Int)=some (g (ixOf p (l.drop i) i)):=by
 intro fu;induction fu with
 |zero=>intro i _ h;omega
 |succ fu ih=>
  intro i hi hf;by_cases h:i<l.length
  .rw[hF fu i h,Zjr l d i h];simp only[ixOf];split
   .rfl
   .rw[add1 h hl];exact ih (i+1) (by omega) (by omega)
  .have e:i=l.length:=by omega
   subst e;rw[hE,List.drop_length];rfl
end Go.Proofs.YtmnloegcpaahcaaGreat
