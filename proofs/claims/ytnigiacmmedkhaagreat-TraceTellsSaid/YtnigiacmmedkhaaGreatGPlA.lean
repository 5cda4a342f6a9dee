import Derived.Test.YtnigiacmmedkhaaGreatGAmU
namespace Go.Proofs.YtnigiacmmedkhaaGreat
set_option linter.unusedSimpArgs false
set_option linter.unusedVariables false
theorem iNa{c:Prop}[Decidable c]{α:Type}{t e:α}(h:¬c:=by omega):(if c then t else e)=e:=if_neg h
theorem iNb{c:Prop}[Decidable c]{α:Type}{t e:α}(h:c:=by omega):(if c then t else e)=t:=if_pos h
theorem sC(n:Nat)(h:0<n:=by omega):∃x,n=x+1:=⟨n-1,by omega⟩
theorem Zez{α:Type}(l:List α)(d:α)(i:Nat)(h:i<l.length):l.drop i=l.getD i d :: l.drop (i+1):=by
 rw[List.drop_eq_getElem_cons h];simp[List.getD_eq_getElem?_getD,h]
theorem ZbH{α:Type}(l:List α)(d:α)(i:Nat)(h:i<l.length):l.getD i d=l[i]:=by simp[List.getD_eq_getElem?_getD,h]
theorem ZbU{α:Type}(l:List α)(d:α)(i:Nat)(h:i<l.length):l.getD i d∈l:=by rw[ZbH l d i h];exact List.getElem_mem h
def ixOf{α:Type}(p:α->Bool):List α->Nat->Int | [],_=>-1|x :: r,i=>if p x then(i:Int)else ixOf p r (i+1)
theorem Zqc{α:Type}(p:α->Bool):∀(l:List α)(i:Nat),ixOf p l i<0↔∀x∈l,p x=false
 | [],i=>by simp[ixOf]
 |x :: r,i=>by
  simp only[ixOf]
  split
  .rename_i h
   constructor
   .intro d;omega
   .intro d;have:=d x (by simp);rw[h]at this;cases this
  .rename_i h
   rw[Zqc p r (i+1)]
   simp only[List.mem_cons,forall_eq_or_imp,Bool.not_eq_true]at h ⊢
   exact⟨fun d=>⟨h,d⟩,fun d=>d.2⟩
theorem Zru{α:Type}(p:α->Bool):∀(l:List α)(i:Nat),0<=ixOf p l i->∃k,k<l.length/\ixOf p l i=((i+k:Nat):Int)/\(∃x,l[k]?=some x/\p x=true)/\∀j,j<k->∃x,l[j]?=some x/\p x=false
 | [],i,h=>by simp[ixOf]at h
 |x :: r,i,h=>by
  simp only[ixOf]at h ⊢
  split
  .rename_i d
   exact⟨0,by simp,by simp,⟨x,rfl,d⟩,fun j e=>by omega⟩
  .rename_i d
   rw[if_neg d]at h
   obtain⟨k,g,o,⟨y,t,u⟩,v⟩:=Zru p r (i+1) h
   refine⟨k+1,by simp;exact g,by rw[o];congr 1;omega,⟨y,by simpa using t,u⟩,fun j e=>?_⟩
   cases j with
   |zero=>exact⟨x,rfl,by simpa using d⟩
   |succ j=>obtain⟨y,A,B⟩:=v j (by omega);exact⟨y,by simpa using A,B⟩
theorem Zxh{α:Type}(p:α->Bool):∀(l:List α)(i:Nat),ixOf p l i<((i+l.length:Nat):Int)
 | [],i=>by simp only[ixOf];omega
 |x :: r,i=>by
  simp only[ixOf]
  split
  .simp;omega
  .have:=Zxh p r (i+1)
   simp at this ⊢;omega
def cmpI(a b:Int):Int:=if a<b then -1 else if b<a then 1 else 0
def orI(a b:Int):Int:=if a=0 then b else a
theorem Zmg{a b:Int}:cmpI a b=0↔a=b:=by unfold cmpI;constructor<;>intro h<;>(repeat' split at *)<;>omega
theorem ZxP{a b:Int}:cmpI a b<0↔a<b:=by unfold cmpI;constructor<;>intro h<;>(repeat' split at *)<;>omega
theorem ZxQ{a b:Int}:0<cmpI a b↔b<a:=by unfold cmpI;constructor<;>intro h<;>(repeat' split at *)<;>omega
theorem ZnP{α:Type}{R:α->α->Prop}(d:∀a b c,R a b->R b c->R a c):∀(l:List α),(∀i a b,l[i]?=some a->l[i+1]?=some b->R a b)->l.Pairwise R
 | [],_=>.nil
 | [a],_=>List.pairwise_singleton _ _
 |a :: b :: r,h=>by
  have ih:=ZnP d (b :: r) fun i x y hx e=>h (i+1) x y (by simpa using hx) (by simpa using e)
  have hab:=h 0 a b rfl rfl
  refine List.pairwise_cons.2 ⟨fun x hx=>?_,ih⟩
  rcases List.mem_cons.1 hx with rfl|hx
  .exact hab
  .exact d _ _ _ hab ((List.pairwise_cons.1 ih).1 x hx)
theorem Zag{α:Type}(p:Prop)[Decidable p](a b:α):(bif decide p then a else b)=if p then a else b:=by by_cases h:p<;>simp[h]
theorem Zap{α:Type}{p:Prop}[Decidable p](h:p)(k:Option α):need p k=k:=if_pos h
theorem ZnK{n:Nat}(h:n<=100000):n<=maxLen:=by simp only[maxLen];omega
theorem ZgS{a:Int}(h:0<=a)(h':a<=18446744073709551615):IntKind.u64.wrap a=a:=by
 simp only[IntKind.wrap,IntKind.bits,IntKind.signed];simp;omega
theorem ZEJ(a b:Nat)(ha:a<2 ^ 64)(hb:b<2 ^ 64):((BitVec.ofInt (IntKind.bits .u64) (a:Int)) &&& (BitVec.ofInt (IntKind.bits .u64) (b:Int))).toNat=a &&& b:=by
 have d:∀c:Nat,c<2 ^ 64->(BitVec.ofInt 64 (c:Int)).toNat=c:=fun c e=>by
  rw[BitVec.ofInt_natCast,BitVec.toNat_ofNat];exact Nat.mod_eq_of_lt e
 show (BitVec.ofInt 64 (a:Int) &&& BitVec.ofInt 64 (b:Int)).toNat=a &&& b;rw[BitVec.toNat_and,d a ha,d b hb]
theorem add1{i n:Nat}(e:i<n)(d:n<=maxLen):Zau (i:Int) 1=((i+1:Nat):Int):=by
 unfold maxLen at d;rw[Zbs (by omega) (by omega)];omega
theorem ZtP{α β:Type}(l:List α)(d:α)(p:α->Bool)(hl:l.length<=maxLen)(F:Nat->Int->Option β)(g:Int->β)
  (j:∀fu (i:Nat),i<l.length->F (fu+1) (i:Int)=if p (l.getD i d)then some (g i)else F fu (Zau (i:Int) 1)) (o:∀fu,F (fu+1) (l.length:Int)=some (g (-1))) :
  ∀fu (i:Nat),i<=l.length->l.length-i<fu->F fu (i:Int)=some (g (ixOf p (l.drop i) i)):=by
 intro fu;induction fu with
 |zero=>intro i _ h;omega
 |succ fu ih=>
  intro i r t;by_cases h:i<l.length
  .rw[j fu i h,Zez l d i h];simp only[ixOf];split
   .rfl
   .rw[add1 h hl];exact ih (i+1) (by omega) (by omega)
  .have e:i=l.length:=by omega
   subst e;rw[o,List.drop_length];rfl
theorem ZvH{α:Type}(l:List α)(d:α)(p:α->Bool)(hl:l.length<=maxLen)(F:Nat->Int->Int->Option Int)
  (g:∀fu (i n:Nat),i<l.length->F (fu+1) (n:Int) (i:Int)=if p (l.getD i d)then F fu (Zau (n:Int) 1) (Zau (i:Int) 1)else F fu (n:Int) (Zau (i:Int) 1)) (j:∀fu n,F (fu+1) n (l.length:Int)=some n) :
  ∀fu (i n:Nat),i<=l.length->n<=i->l.length-i<fu->F fu (n:Int) (i:Int)=some ((n+(l.drop i).countP p:Nat):Int):=by
 intro fu;induction fu with
 |zero=>intro i _ _ _ h;omega
 |succ fu ih=>
  intro i n r t u;by_cases h:i<l.length
  .rw[g fu i n h,Zez l d i h,List.countP_cons,add1 h hl];split
   .rename_i o;rw[add1 (show n<l.length by omega) hl,ih (i+1) (n+1) (by omega) (by omega) (by omega)];congr 2;omega
   .rename_i o;rw[ih (i+1) n (by omega) (by omega) (by omega)];rfl
  .have e:i=l.length:=by omega
   subst e;rw[j,List.drop_length];simp
theorem ZMH{α β:Type}(f:α->α)(d:α)(n:Nat)(hl:n<=maxLen)(F:Nat->Int->List α->Option β)(g:List α->Option β)
  (r:∀fu (i:Nat) (w:List α),w.length=n->i<n->F (fu+1) (i:Int) w=F fu (Zau (i:Int) 1) (w.set i (f (w.getD i d)))) (t:∀fu w,w.length=n->F (fu+1) (n:Int) w=g w) :
  ∀fu (i:Nat) (w:List α),w.length=n->i<=n->n-i<fu->F fu (i:Int) w=g (w.take i++(w.drop i).map f):=by
 intro fu;induction fu with
 |zero=>intro i _ _ _ h;omega
 |succ fu ih=>
  intro i w j v y;by_cases h:i<n
  .rw[r fu i w j h,add1 h hl,ih (i+1) _ (by simp[j]) (by omega) (by omega)];congr 1;have hwi:i<w.length:=by omega
   apply List.ext_getElem?;intro k;rw[List.getElem?_append,List.getElem?_append];simp only[List.length_take,List.length_set,List.getElem?_take,List.getElem?_map,List.getElem?_drop,List.getElem?_set];rw[Nat.min_eq_left (by omega),Nat.min_eq_left (by omega)];by_cases o:k<i
   .rw[iNb,iNb,if_pos o,if_pos o,iNa]
   .by_cases u:k=i
    .subst u;rw[iNb,iNb,if_pos rfl,if_pos hwi,iNa];rw[ZbH w d k hwi];simp[hwi]
    .rw[iNa,if_neg o,iNa];congr 2;omega
  .have e:i=n:=by omega
   subst e;rw[t _ _ j];congr 1;rw[List.drop_of_length_le (by omega),List.take_of_length_le (by omega)];simp
end Go.Proofs.YtnigiacmmedkhaaGreat
