import Derived.Test.YtmnloegcpaahcaaGreatBAmU
namespace Go.Proofs.YtmnloegcpaahcaaGreat
set_option linter.unusedSimpArgs false
set_option linter.unusedVariables false
theorem ZeQ{α:Type}(l:List α)(d:α)(i:Nat)(h:i<l.length):l.drop i=l.getD i d :: l.drop (i+1):=by
 rw[List.drop_eq_getElem_cons h];simp[List.getD_eq_getElem?_getD,h]
theorem ZbT{α:Type}(l:List α)(d:α)(i:Nat)(h:i<l.length):l.getD i d=l[i]:=by simp[List.getD_eq_getElem?_getD,h]
theorem ZeH{α:Type}(l:List α)(d:α)(i:Nat)(h:i<l.length):l.getD i d∈l:=by rw[ZbT l d i h];exact List.getElem_mem h
def ixOf{α:Type}(p:α->Bool):List α->Nat->Int | [],_=>-1|x :: r,i=>if p x then(i:Int)else ixOf p r (i+1)
theorem ZqW{α:Type}(p:α->Bool):∀(l:List α)(i:Nat),ixOf p l i<0↔∀x∈l,p x=false
 | [],i=>by simp[ixOf]
 |x :: r,i=>by
  simp only[ixOf]
  split
  .rename_i h
   constructor
   .intro b;omega
   .intro b;have:=b x (by simp);rw[h]at this;cases this
  .rename_i h
   rw[ZqW p r (i+1)]
   simp only[List.mem_cons,forall_eq_or_imp,Bool.not_eq_true]at h ⊢
   exact⟨fun b=>⟨h,b⟩,fun b=>b.2⟩
theorem Zsx{α:Type}(p:α->Bool):∀(l:List α)(i:Nat),0<=ixOf p l i->∃k,k<l.length/\ixOf p l i=((i+k:Nat):Int)/\(∃x,l[k]?=some x/\p x=true)/\∀j,j<k->∃x,l[j]?=some x/\p x=false
 | [],i,h=>by simp[ixOf]at h
 |x :: r,i,h=>by
  simp only[ixOf]at h ⊢
  split
  .rename_i hp
   exact⟨0,by simp,by simp,⟨x,rfl,hp⟩,fun j b=>by omega⟩
  .rename_i hp
   rw[if_neg hp]at h
   obtain⟨k,d,g,⟨y,o,t⟩,u⟩:=Zsx p r (i+1) h
   refine⟨k+1,by simp;exact d,by rw[g];congr 1;omega,⟨y,by simpa using o,t⟩,fun j b=>?_⟩
   cases j with
   |zero=>exact⟨x,rfl,by simpa using hp⟩
   |succ j=>obtain⟨y,v,z⟩:=u j (by omega);exact⟨y,by simpa using v,z⟩
theorem ZBI{α:Type}(p:α->Bool):∀(l:List α)(i:Nat),ixOf p l i<((i+l.length:Nat):Int)
 | [],i=>by simp only[ixOf];omega
 |x :: r,i=>by
  simp only[ixOf]
  split
  .simp;omega
  .have:=ZBI p r (i+1)
   simp at this ⊢;omega
theorem ZKn{α:Type}(p:α->Bool)(l:List α)(i:Nat) : -1<=ixOf p l i:=by
 rcases Int.lt_or_le (ixOf p l i) 0 with h|h
 .induction l generalizing i with
  |nil=>simp[ixOf]
  |cons x r ih=>
   simp only[ixOf]at h ⊢;split
   .omega
   .rename_i hp;rw[if_neg hp]at h;exact ih _ h
 .omega
def cmpI(a b:Int):Int:=if a<b then -1 else if b<a then 1 else 0
def orI(a b:Int):Int:=if a=0 then b else a
theorem ZmZ{a b:Int}:cmpI a b=0↔a=b:=by unfold cmpI;constructor<;>intro h<;>(repeat' split at *)<;>omega
theorem ZyP{a b:Int}:cmpI a b<0↔a<b:=by unfold cmpI;constructor<;>intro h<;>(repeat' split at *)<;>omega
theorem ZyQ{a b:Int}:0<cmpI a b↔b<a:=by unfold cmpI;constructor<;>intro h<;>(repeat' split at *)<;>omega
theorem Zol{α:Type}{R:α->α->Prop}(d:∀a b c,R a b->R b c->R a c):∀(l:List α),(∀i a b,l[i]?=some a->l[i+1]?=some b->R a b)->l.Pairwise R
 | [],_=>.nil
 | [a],_=>List.pairwise_singleton _ _
 |a :: b :: r,h=>by
  have ih:=Zol d (b :: r) fun i x y hx g=>h (i+1) x y (by simpa using hx) (by simpa using g)
  have lA:=h 0 a b rfl rfl
  refine List.pairwise_cons.2 ⟨fun x hx=>?_,ih⟩
  rcases List.mem_cons.1 hx with rfl|hx
  .exact lA
  .exact d _ _ _ lA ((List.pairwise_cons.1 ih).1 x hx)
theorem Zai{α:Type}(p:Prop)[Decidable p](a b:α):(bif decide p then a else b)=if p then a else b:=by by_cases h:p<;>simp[h]
theorem Zar{α:Type}{p:Prop}[Decidable p](h:p)(k:Option α):need p k=k:=if_pos h
theorem Ziv{a:Int}(h:0<=a)(h':a<=18446744073709551615):IntKind.u64.wrap a=a:=by
 simp only[IntKind.wrap,IntKind.bits,IntKind.signed];simp;omega
theorem ZCz(a b:Nat)(ha:a<2 ^ 64)(hb:b<2 ^ 64):((BitVec.ofInt (IntKind.bits .u64) (a:Int)) &&& (BitVec.ofInt (IntKind.bits .u64) (b:Int))).toNat=a &&& b:=by
 have d:∀c:Nat,c<2 ^ 64->(BitVec.ofInt 64 (c:Int)).toNat=c:=fun c g=>by
  rw[BitVec.ofInt_natCast,BitVec.toNat_ofNat];exact Nat.mod_eq_of_lt g
 show (BitVec.ofInt 64 (a:Int) &&& BitVec.ofInt 64 (b:Int)).toNat=a &&& b;rw[BitVec.toNat_and,d a ha,d b hb]
theorem add1{i n:Nat}(hi:i<n)(b:n<=maxLen):Zan (i:Int) 1=((i+1:Nat):Int):=by
 unfold maxLen at b;rw[Zcs (by omega) (by omega)];omega
theorem Zto{α β:Type}(l:List α)(d:α)(p:α->Bool)(hl:l.length<=maxLen)(F:Nat->Int->Option β)(g:Int->β)
  (b:∀fu (i:Nat),i<l.length->F (fu+1) (i:Int)=if p (l.getD i d)then some (g i)else F fu (Zan (i:Int) 1)) (j:∀fu,F (fu+1) (l.length:Int)=some (g (-1))) :
  ∀fu (i:Nat),i<=l.length->l.length-i<fu->F fu (i:Int)=some (g (ixOf p (l.drop i) i)):=by
 intro fu;induction fu with
 |zero=>intro i _ h;omega
 |succ fu ih=>
  intro i hi o;by_cases h:i<l.length
  .rw[b fu i h,ZeQ l d i h];simp only[ixOf];split
   .rfl
   .rw[add1 h hl];exact ih (i+1) (by omega) (by omega)
  .have e:i=l.length:=by omega
   subst e;rw[j,List.drop_length];rfl
theorem Zxm{α:Type}(l:List α)(d:α)(p:α->Bool)(hl:l.length<=maxLen)(F:Nat->Int->Int->Option Int)
  (b:∀fu (i n:Nat),i<l.length->F (fu+1) (n:Int) (i:Int)=if p (l.getD i d)then F fu (Zan (n:Int) 1) (Zan (i:Int) 1)else F fu (n:Int) (Zan (i:Int) 1)) (g:∀fu n,F (fu+1) n (l.length:Int)=some n) :
  ∀fu (i n:Nat),i<=l.length->n<=i->l.length-i<fu->F fu (n:Int) (i:Int)=some ((n+(l.drop i).countP p:Nat):Int):=by
 intro fu;induction fu with
 |zero=>intro i _ _ _ h;omega
 |succ fu ih=>
  intro i n hi j o;by_cases h:i<l.length
  .rw[b fu i n h,ZeQ l d i h,List.countP_cons,add1 h hl];split
   .rename_i hp;rw[add1 (show n<l.length by omega) hl,ih (i+1) (n+1) (by omega) (by omega) (by omega)];congr 2;omega
   .rename_i hp;rw[ih (i+1) n (by omega) (by omega) (by omega)];rfl
  .have e:i=l.length:=by omega
   subst e;rw[g,List.drop_length];simp
end Go.Proofs.YtmnloegcpaahcaaGreat
