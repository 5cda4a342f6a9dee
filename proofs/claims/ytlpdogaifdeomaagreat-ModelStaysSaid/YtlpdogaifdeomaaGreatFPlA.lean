import Derived.Test.YtlpdogaifdeomaaGreatFAmU
namespace Go.Proofs.YtlpdogaifdeomaaGreat
set_option linter.unusedSimpArgs false
set_option linter.unusedVariables false
theorem iNa{c:Prop}[Decidable c]{α:Type}{t e:α}(h:¬c:=by omega):(if c then t else e)=e:=if_neg h
theorem iNb{c:Prop}[Decidable c]{α:Type}{t e:α}(h:c:=by omega):(if c then t else e)=t:=if_pos h
theorem sC(n:Nat)(h:0<n:=by omega):∃x,n=x+1:=⟨n-1,by omega⟩
theorem Zdc{α:Type}(l:List α)(d:α)(i:Nat)(h:i<l.length):l.drop i=l.getD i d :: l.drop (i+1):=by
 rw[List.drop_eq_getElem_cons h];simp[List.getD_eq_getElem?_getD,h]
theorem ZbA{α:Type}(l:List α)(d:α)(i:Nat)(h:i<l.length):l.getD i d=l[i]:=by simp[List.getD_eq_getElem?_getD,h]
theorem Zcw{α:Type}(l:List α)(d:α)(i:Nat)(h:i<l.length):l.getD i d∈l:=by rw[ZbA l d i h];exact List.getElem_mem h
def ixOf{α:Type}(p:α->Bool):List α->Nat->Int | [],_=>-1|x :: r,i=>if p x then(i:Int)else ixOf p r (i+1)
theorem ZmH{α:Type}(p:α->Bool):∀(l:List α)(i:Nat),ixOf p l i<0↔∀x∈l,p x=false
 | [],i=>by simp[ixOf]
 |x :: r,i=>by
  simp only[ixOf]
  split
  .rename_i h
   constructor
   .intro b;omega
   .intro b;have:=b x (by simp);rw[h]at this;cases this
  .rename_i h
   rw[ZmH p r (i+1)]
   simp only[List.mem_cons,forall_eq_or_imp,Bool.not_eq_true]at h ⊢
   exact⟨fun b=>⟨h,b⟩,fun b=>b.2⟩
theorem ZmG{α:Type}(p:α->Bool):∀(l:List α)(i:Nat),0<=ixOf p l i->∃k,k<l.length/\ixOf p l i=((i+k:Nat):Int)/\(∃x,l[k]?=some x/\p x=true)/\∀j,j<k->∃x,l[j]?=some x/\p x=false
 | [],i,h=>by simp[ixOf]at h
 |x :: r,i,h=>by
  simp only[ixOf]at h ⊢
  split
  .rename_i b
   exact⟨0,by simp,by simp,⟨x,rfl,b⟩,fun j d=>by omega⟩
  .rename_i b
   rw[if_neg b]at h
   obtain⟨k,e,f,⟨y,g,n⟩,o⟩:=ZmG p r (i+1) h
   refine⟨k+1,by simp;exact e,by rw[f];congr 1;omega,⟨y,by simpa using g,n⟩,fun j d=>?_⟩
   cases j with
   |zero=>exact⟨x,rfl,by simpa using b⟩
   |succ j=>obtain⟨y,t,u⟩:=o j (by omega);exact⟨y,by simpa using t,u⟩
theorem ZvL{α:Type}(p:α->Bool):∀(l:List α)(i:Nat),ixOf p l i<((i+l.length:Nat):Int)
 | [],i=>by simp only[ixOf];omega
 |x :: r,i=>by
  simp only[ixOf]
  split
  .simp;omega
  .have:=ZvL p r (i+1)
   simp at this ⊢;omega
theorem Zrc{α:Type}(p:α->Bool):∀(l:List α)(i:Nat),(ixOf p l i<0->l.takeWhile (fun x=>!p x)=l/\l.dropWhile (fun x=>!p x)=[])/\(0<=ixOf p l i->i<=(ixOf p l i).toNat/\l.takeWhile (fun x=>!p x)=l.take ((ixOf p l i).toNat-i)/\l.dropWhile (fun x=>!p x)=l.drop ((ixOf p l i).toNat-i))
 | [],i=>by simp[ixOf]
 |x :: r,i=>by
  obtain⟨g,j⟩:=Zrc p r (i+1)
  simp only[ixOf]
  cases d:p x
  .simp only[Bool.false_eq_true,if_false,List.takeWhile_cons,List.dropWhile_cons,d,Bool.not_false,if_true]
   refine⟨fun h=>?_,fun h=>?_⟩
   .obtain⟨f,b⟩:=g h
    exact⟨by rw[f],b⟩
   .obtain⟨f,b,n⟩:=j h
    have e:(ixOf p r (i+1)).toNat-i=((ixOf p r (i+1)).toNat-(i+1))+1:=by omega
    rw[e,List.take_succ_cons,List.drop_succ_cons,b,n]
    exact⟨by omega,rfl,rfl⟩
  .simp only[if_true,List.takeWhile_cons,List.dropWhile_cons,d,Bool.not_true,Bool.false_eq_true,if_false]
   refine⟨fun h=>by omega,fun h=>?_⟩
   simp
def cmpI(a b:Int):Int:=if a<b then -1 else if b<a then 1 else 0
def orI(a b:Int):Int:=if a=0 then b else a
theorem ZjS{a b:Int}:cmpI a b=0↔a=b:=by unfold cmpI;constructor<;>intro h<;>(repeat' split at *)<;>omega
theorem ZtR{a b:Int}:cmpI a b<0↔a<b:=by unfold cmpI;constructor<;>intro h<;>(repeat' split at *)<;>omega
theorem ZtS{a b:Int}:0<cmpI a b↔b<a:=by unfold cmpI;constructor<;>intro h<;>(repeat' split at *)<;>omega
theorem ZoL{α:Type}{R:α->α->Prop}(d:∀a b c,R a b->R b c->R a c):∀(l:List α),(∀i a b,l[i]?=some a->l[i+1]?=some b->R a b)->l.Pairwise R
 | [],_=>.nil
 | [a],_=>List.pairwise_singleton _ _
 |a :: b :: r,h=>by
  have ih:=ZoL d (b :: r) fun i x y hx e=>h (i+1) x y (by simpa using hx) (by simpa using e)
  have hab:=h 0 a b rfl rfl
  refine List.pairwise_cons.2 ⟨fun x hx=>?_,ih⟩
  rcases List.mem_cons.1 hx with rfl|hx
  .exact hab
  .exact d _ _ _ hab ((List.pairwise_cons.1 ih).1 x hx)
theorem Zad{α:Type}(p:Prop)[Decidable p](a b:α):(bif decide p then a else b)=if p then a else b:=by by_cases h:p<;>simp[h]
theorem Zaj{α:Type}{p:Prop}[Decidable p](h:p)(k:Option α):need p k=k:=if_pos h
theorem ZjD{n:Nat}(h:n<=100000):n<=maxLen:=by simp only[maxLen];omega
theorem ZhT{a:Int}(h:0<=a)(h':a<=18446744073709551615):IntKind.u64.wrap a=a:=by
 simp only[IntKind.wrap,IntKind.bits,IntKind.signed];simp;omega
theorem ZFR(a b:Nat)(e:a<2 ^ 64)(hb:b<2 ^ 64):((BitVec.ofInt (IntKind.bits .u64) (a:Int)) &&& (BitVec.ofInt (IntKind.bits .u64) (b:Int))).toNat=a &&& b:=by
 have d:∀c:Nat,c<2 ^ 64->(BitVec.ofInt 64 (c:Int)).toNat=c:=fun c f=>by
  rw[BitVec.ofInt_natCast,BitVec.toNat_ofNat];exact Nat.mod_eq_of_lt f
 show (BitVec.ofInt 64 (a:Int) &&& BitVec.ofInt 64 (b:Int)).toNat=a &&& b;rw[BitVec.toNat_and,d a e,d b hb]
theorem add1{i n:Nat}(d:i<n)(b:n<=maxLen):Zam (i:Int) 1=((i+1:Nat):Int):=by
 unfold maxLen at b;rw[Zbb (by omega) (by omega)];omega
theorem Zmx{α β:Type}(l:List α)(d:α)(p:α->Bool)(hl:l.length<=maxLen)(F:Nat->Int->Option β)(g:Int->β)
  (b:∀fu (i:Nat),i<l.length->F (fu+1) (i:Int)=if p (l.getD i d)then some (g i)else F fu (Zam (i:Int) 1)) (f:∀fu,F (fu+1) (l.length:Int)=some (g (-1))) :
  ∀fu (i:Nat),i<=l.length->l.length-i<fu->F fu (i:Int)=some (g (ixOf p (l.drop i) i)):=by
 intro fu;induction fu with
 |zero=>intro i _ h;omega
 |succ fu ih=>
  intro i j n;by_cases h:i<l.length
  .rw[b fu i h,Zdc l d i h];simp only[ixOf];split
   .rfl
   .rw[add1 h hl];exact ih (i+1) (by omega) (by omega)
  .have e:i=l.length:=by omega
   subst e;rw[f,List.drop_length];rfl
theorem Zra{α:Type}(l:List α)(d:α)(p:α->Bool)(hl:l.length<=maxLen)(F:Nat->Int->Int->Option Int)
  (b:∀fu (i n:Nat),i<l.length->F (fu+1) (n:Int) (i:Int)=if p (l.getD i d)then F fu (Zam (n:Int) 1) (Zam (i:Int) 1)else F fu (n:Int) (Zam (i:Int) 1)) (f:∀fu n,F (fu+1) n (l.length:Int)=some n) :
  ∀fu (i n:Nat),i<=l.length->n<=i->l.length-i<fu->F fu (n:Int) (i:Int)=some ((n+(l.drop i).countP p:Nat):Int):=by
 intro fu;induction fu with
 |zero=>intro i _ _ _ h;omega
 |succ fu ih=>
  intro i n j o r;by_cases h:i<l.length
  .rw[b fu i n h,Zdc l d i h,List.countP_cons,add1 h hl];split
   .rename_i g;rw[add1 (show n<l.length by omega) hl,ih (i+1) (n+1) (by omega) (by omega) (by omega)];congr 2;omega
   .rename_i g;rw[ih (i+1) n (by omega) (by omega) (by omega)];rfl
  .have e:i=l.length:=by omega
   subst e;rw[f,List.drop_length];simp
theorem ZGx{α β:Type}(f:α->α)(d:α)(n:Nat)(hl:n<=maxLen)(F:Nat->Int->List α->Option β)(g:List α->Option β)
  (o:∀fu (i:Nat) (w:List α),w.length=n->i<n->F (fu+1) (i:Int) w=F fu (Zam (i:Int) 1) (w.set i (f (w.getD i d)))) (p:∀fu w,w.length=n->F (fu+1) (n:Int) w=g w) :
  ∀fu (i:Nat) (w:List α),w.length=n->i<=n->n-i<fu->F fu (i:Int) w=g (w.take i++(w.drop i).map f):=by
 intro fu;induction fu with
 |zero=>intro i _ _ _ h;omega
 |succ fu ih=>
  intro i w b t u;by_cases h:i<n
  .rw[o fu i w b h,add1 h hl,ih (i+1) _ (by simp[b]) (by omega) (by omega)];congr 1;have hwi:i<w.length:=by omega
   apply List.ext_getElem?;intro k;rw[List.getElem?_append,List.getElem?_append];simp only[List.length_take,List.length_set,List.getElem?_take,List.getElem?_map,List.getElem?_drop,List.getElem?_set];rw[Nat.min_eq_left (by omega),Nat.min_eq_left (by omega)];by_cases j:k<i
   .rw[iNb,iNb,if_pos j,if_pos j,iNa]
   .by_cases r:k=i
    .subst r;rw[iNb,iNb,if_pos rfl,if_pos hwi,iNa];rw[ZbA w d k hwi];simp[hwi]
    .rw[iNa,if_neg j,iNa];congr 2;omega
  .have e:i=n:=by omega
   subst e;rw[p _ _ b];congr 1;rw[List.drop_of_length_le (by omega),List.take_of_length_le (by omega)];simp
end Go.Proofs.YtlpdogaifdeomaaGreat
