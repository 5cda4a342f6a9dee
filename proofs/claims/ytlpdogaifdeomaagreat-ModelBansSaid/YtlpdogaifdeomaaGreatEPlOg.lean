import Derived.Test.YtlpdogaifdeomaaGreatEPlSa
import Derived.Test.YtlpdogaifdeomaaGreatEPlXb
import Derived.Test.YtlpdogaifdeomaaGreatEPlY
namespace Go.Proofs.YtlpdogaifdeomaaGreat
set_option linter.unusedVariables false
set_option linter.unusedSimpArgs false
def ltP(x y:Zaa):Bool:=decide (cmpE x.fEnd y.fEnd<0)
theorem Zlj{x y:Zaa}:ltP x y=true↔cmpE x.fEnd y.fEnd<0:=by unfold ltP;simp
theorem Zqc{x y:Zaa}:ltP x y=false↔¬cmpE x.fEnd y.fEnd<0:=by unfold ltP;simp
theorem ZGQ{x y z:Zaa}(b:ltP x y=true)(d:ltP y z=true):ltP x z=true:=by
 rw[Zlj]at *
 exact Zlp b d
theorem Zmy{x y z:Zaa}(d:ltP x y=false)(b:ltP y z=false):ltP x z=false:=by
 rw[Zqc]at *
 intro h;have e:cmpE x.fEnd y.fEnd=0\/0<cmpE x.fEnd y.fEnd:=by omega
 rcases e with e|e
 .rw[ZgR.1 e]at h;exact b h
 .exact b (Zlp (ZfE.1 e) h)
theorem Zuf{x y z:Zaa}(b:ltP z x=true)(d:ltP y x=false):ltP z y=true:=by
 cases h:ltP z y with
 |true=>rfl
 |false=>rw[Zmy h d]at b;cases b
theorem Zth(a b:Zaa):ZeK a b=some (cmpE a.fEnd b.fEnd):=by
 unfold ZeK;rw[ZpJ];rfl
def mrg:Prs->Prs->Prs | [],ys=>ys|x :: xs,[]=>x :: xs|x :: xs,y :: ys=>if ltP y x=true then y :: mrg (x :: xs) ys else x :: mrg xs (y :: ys)
termination_by xs ys=>xs.length+ys.length
theorem Zkh(xs:Prs):mrg xs []=xs:=by cases xs<;>simp[mrg]
theorem ZfR(xs:Prs):mrg [] xs=xs:=by simp[mrg]
theorem Zlx{x y:Zaa}(xs ys:Prs)(h:ltP y x=true):mrg (x :: xs) (y :: ys)=y :: mrg (x :: xs) ys:=by rw[mrg,if_pos h]
theorem Zmx{x y:Zaa}(xs ys:Prs)(h:ltP y x=false):mrg (x :: xs) (y :: ys)=x :: mrg xs (y :: ys):=by rw[mrg,if_neg (by simp[h])]
theorem ZGM:∀(n:Nat)(a b c:Prs),a.length+b.length+c.length<=n->mrg (mrg a b) c=mrg a (mrg b c):=by
 intro n;induction n with
 |zero=>
  intro a b c h;obtain rfl:=List.eq_nil_of_length_eq_zero (show a.length=0 by omega);rw[ZfR,ZfR]
 |succ n ih=>
  intro a b c h;cases a with
  |nil=>rw[ZfR,ZfR]
  |cons x a=>
   cases b with
   |nil=>rw[Zkh,ZfR]
   |cons y b=>
    cases c with
    |nil=>rw[Zkh,Zkh]
    |cons z c=>
     simp only[List.length_cons]at h;cases e:ltP y x with
     |true=>
      rw[Zlx _ _ e];cases d:ltP z y with
      |true=>
       rw[Zlx _ _ d,Zlx _ _ d,Zlx _ _ (ZGQ d e),<-Zlx a b e,ih (x :: a) (y :: b) c (by simp only[List.length_cons];omega)]
      |false=>
       rw[Zmx _ _ d,Zmx _ _ d,Zlx _ _ e,ih (x :: a) b (z :: c) (by simp only[List.length_cons];omega)]
     |false=>
      rw[Zmx _ _ e];cases f:ltP z x with
      |true=>
       have d:=Zuf f e;rw[Zlx _ _ f,Zlx _ _ d,Zlx _ _ f,<-Zmx a b e,ih (x :: a) (y :: b) c (by simp only[List.length_cons];omega)]
      |false=>
       rw[Zmx _ _ f,ih a (y :: b) (z :: c) (by simp only[List.length_cons];omega)];cases d:ltP z y with
       |true=>rw[Zlx _ _ d,Zmx _ _ f]
       |false=>rw[Zmx _ _ d,Zmx _ _ e]
theorem ZoT:∀(n:Nat)(x1 x2 y1 y2:Prs),x1.length+y1.length<=n->(∀y∈y1,∀x∈x2,ltP y x=true)->(∀x∈x1,∀y∈y2,ltP y x=false)->mrg (x1++x2) (y1++y2)=mrg x1 y1++mrg x2 y2:=by
 intro n;induction n with
 |zero=>
  intro x1 x2 y1 y2 h _ _;obtain rfl:=List.eq_nil_of_length_eq_zero (show x1.length=0 by omega);obtain rfl:=List.eq_nil_of_length_eq_zero (show y1.length=0 by omega);simp[ZfR]
 |succ n ih=>
  intro x1 x2 y1 y2 h b d;cases x1 with
  |nil=>
   cases y1 with
   |nil=>simp[ZfR]
   |cons y y1=>
    cases x2 with
    |nil=>simp[ZfR]
    |cons x x2=>
     simp only[List.length_cons,List.length_nil]at h;rw[List.nil_append,List.cons_append,Zlx _ _ (b y (by simp) x (by simp)),ZfR];have:=ih [] (x :: x2) y1 y2 (by simp only[List.length_nil];omega) (fun y' fD=>b y' (by simp[fD])) (by simp);rw[List.nil_append,ZfR]at this;rw[this];rfl
  |cons x x1=>
   cases y1 with
   |nil=>
    cases y2 with
    |nil=>simp[Zkh]
    |cons y y2=>
     simp only[List.length_cons,List.length_nil]at h;rw[List.nil_append,List.cons_append,Zmx _ _ (d x (by simp) y (by simp)),Zkh];have:=ih x1 x2 [] (y :: y2) (by simp only[List.length_nil];omega) (by simp) (fun x' ji=>d x' (by simp[ji]));rw[List.nil_append,Zkh]at this;rw[this];rfl
   |cons y y1=>
    simp only[List.length_cons]at h;rw[List.cons_append,List.cons_append];cases e:ltP y x with
    |true=>
     rw[Zlx _ _ e,Zlx _ _ e,<-List.cons_append,ih (x :: x1) x2 y1 y2 (by simp only[List.length_cons];omega) (fun y' fD=>b y' (by simp[fD])) d];rfl
    |false=>
     have:=ih x1 x2 (y :: y1) y2 (by simp only[List.length_cons];omega) b (fun x' ji=>d x' (by simp[ji]));rw[List.cons_append]at this;rw[Zmx _ _ e,Zmx _ _ e,this];rfl
theorem ZGL:∀(n:Nat)(a b:Prs),a.length+b.length<=n->(mrg a b).length=a.length+b.length:=by
 intro n;induction n with
 |zero=>
  intro a b h;obtain rfl:=List.eq_nil_of_length_eq_zero (show a.length=0 by omega);simp[ZfR]
 |succ n ih=>
  intro a b h;cases a with
  |nil=>simp[ZfR]
  |cons x a=>
   cases b with
   |nil=>simp[Zkh]
   |cons y b=>
    simp only[List.length_cons]at h ⊢;cases d:ltP y x with
    |true=>rw[Zlx _ _ d,List.length_cons,ih _ _ (by simp only[List.length_cons];omega)];simp only[List.length_cons];omega
    |false=>rw[Zmx _ _ d,List.length_cons,ih _ _ (by simp only[List.length_cons];omega)];simp only[List.length_cons];omega
theorem ZGK:∀(n:Nat)(a b:Prs),a.length+b.length<=n->∀z∈mrg a b,z∈a\/z∈b:=by
 intro n;induction n with
 |zero=>
  intro a b h z hz;obtain rfl:=List.eq_nil_of_length_eq_zero (show a.length=0 by omega);rw[ZfR]at hz;exact .inr hz
 |succ n ih=>
  intro a b h z hz;cases a with
  |nil=>rw[ZfR]at hz;exact .inr hz
  |cons x a=>
   cases b with
   |nil=>rw[Zkh]at hz;exact .inl hz
   |cons y b=>
    simp only[List.length_cons]at h;cases d:ltP y x with
    |true=>
     rw[Zlx _ _ d]at hz;rcases List.mem_cons.1 hz with hz|hz
     .exact .inr (by simp[hz])
     .rcases ih _ _ (by simp only[List.length_cons];omega) z hz with q|q
      .exact .inl q
      .exact .inr (by simp[q])
    |false=>
     rw[Zmx _ _ d]at hz;rcases List.mem_cons.1 hz with hz|hz
     .exact .inl (by simp[hz])
     .rcases ih _ _ (by simp only[List.length_cons];omega) z hz with q|q
      .exact .inl (by simp[q])
      .exact .inr q
def bg(l:Prs):Prop:=l.Pairwise fun x y=>ltP y x=false
theorem ZCO{x y:Zaa}(h:ltP x y=true):ltP y x=false:=by
 rw[Zlj]at h;rw[Zqc];intro b;have:=ZfE.2 b;omega
theorem ZGJ:∀(n:Nat)(a b:Prs),a.length+b.length<=n->bg a->bg b->bg (mrg a b):=by
 intro n;induction n with
 |zero=>
  intro a b h e hb;obtain rfl:=List.eq_nil_of_length_eq_zero (show a.length=0 by omega);rw[ZfR];exact hb
 |succ n ih=>
  intro a b h e hb;cases a with
  |nil=>rw[ZfR];exact hb
  |cons x a=>
   cases b with
   |nil=>rw[Zkh];exact e
   |cons y b=>
    simp only[List.length_cons]at h;have cR:=List.pairwise_cons.1 e;have aR:=List.pairwise_cons.1 hb;cases d:ltP y x with
    |true=>
     rw[Zlx _ _ d];refine List.pairwise_cons.2 ⟨fun z f=>?_,ih _ _ (by simp only[List.length_cons];omega) e aR.2⟩;rcases ZGK _ _ _ (Nat.le_refl _) z f with q|q
     .have:ltP x y=false:=ZCO d;rcases List.mem_cons.1 q with q|q
      .rw[q];exact this
      .exact Zmy (cR.1 z q) this
     .exact aR.1 z q
    |false=>
     rw[Zmx _ _ d];refine List.pairwise_cons.2 ⟨fun z f=>?_,ih _ _ (by simp only[List.length_cons];omega) cR.2 hb⟩;rcases ZGK _ _ _ (Nat.le_refl _) z f with q|q
     .exact cR.1 z q
     .rcases List.mem_cons.1 q with q|q
      .rw[q];exact d
      .exact Zmy (aR.1 z q) d
def ZeY(l:Prs):Prs:=l.foldl (fun o x=>mrg o [x]) []
theorem ZnH(l:Prs)(x:Zaa):ZeY (l++[x])=mrg (ZeY l) [x]:=by unfold ZeY;rw[List.foldl_append];rfl
theorem ZsL(xs ys:Prs):ZeY (xs++ys)=mrg (ZeY xs) (ZeY ys):=by
 have:∀n,n<=ys.length->ZeY (xs++ys.take n)=mrg (ZeY xs) (ZeY (ys.take n)):=by
  intro n;induction n with
  |zero=>intro _;simp[ZeY,Zkh]
  |succ n ih=>
   intro h;rw[List.take_succ_eq_append_getElem (show n<ys.length by omega),<-List.append_assoc,ZnH,ZnH,ih (by omega),ZGM _ _ _ _ (Nat.le_refl _)]
 have h:=this ys.length (Nat.le_refl _);rwa [List.take_length]at h
theorem ZkG(l:Prs):(ZeY l).length=l.length:=by
 have:∀n,n<=l.length->(ZeY (l.take n)).length=n:=by
  intro n;induction n with
  |zero=>intro _;simp[ZeY]
  |succ n ih=>
   intro h;rw[List.take_succ_eq_append_getElem (show n<l.length by omega),ZnH,ZGL _ _ _ (Nat.le_refl _),ih (by omega)];rfl
 have h:=this l.length (Nat.le_refl _);rwa [List.take_length]at h
theorem ZnG(l:Prs):bg (ZeY l):=by
 have:∀n,n<=l.length->bg (ZeY (l.take n)):=by
  intro n;induction n with
  |zero=>intro _;simp[ZeY,bg]
  |succ n ih=>
   intro h;rw[List.take_succ_eq_append_getElem (show n<l.length by omega),ZnH];exact ZGJ _ _ _ (Nat.le_refl _) (ih (by omega)) (by simp[bg])
 have h:=this l.length (Nat.le_refl _);rwa [List.take_length]at h
theorem Zud{o1 d:Prs}{x:Zaa}(g:∀y∈o1,ltP x y=false)(h:∀y∈d,ltP x y=true):mrg (o1++d) [x]=o1++x :: d:=by
 have a:=ZoT _ o1 d [x] [] (Nat.le_refl _) (fun y e z f=>by rw[List.mem_singleton.1 e];exact h z f) (by simp);have b:=ZoT _ o1 [] [] [x] (Nat.le_refl _) (by simp) (fun z f y e=>by rw[List.mem_singleton.1 e];exact g z f);simp only[List.append_nil,List.nil_append,Zkh,ZfR]at a b;rw[a,b];simp
theorem ZMF{o1 d:Prs}{x:Zaa}(g:∀y∈o1,ltP y x=true)(h:∀y∈d,ltP y x=false):mrg [x] (o1++d)=o1++x :: d:=by
 have a:=ZoT _ [] [x] o1 d (Nat.le_refl _) (fun y e z f=>by rw[List.mem_singleton.1 f];exact g y e) (by simp);have b:=ZoT _ [x] [] [] d (Nat.le_refl _) (by simp) (fun z f y e=>by rw[List.mem_singleton.1 f];exact h y e);simp only[List.append_nil,List.nil_append,Zkh,ZfR]at a b;rw[a,b];simp
theorem Ztd(o:Prs)(x:Zaa)(g:bg o)(hl:o.length<=900000):Zff o x=some (mrg o [x]):=by
 have j:o.length<=maxLen:=by unfold maxLen;omega
 have aM:∀(fu i:Nat),i<=o.length->o.length-i<fu->(∀y∈o.take i,ltP x y=false)->ZgF o fu (i:Int) x=some (mrg o [x]):=by
  intro fu;induction fu with
  |zero=>intro _ _ h;omega
  |succ fu ih=>
   intro i r t dm;unfold ZgF;have fin:(∀y∈o.drop i,ltP x y=true)->o.take i++[x]++o.drop i=mrg o [x]:=fun h=>by
    have:=Zud dm h;rw[List.take_append_drop]at this;rw[this];simp
   have lt:(o.take i).length=i:=by simp;omega
   have ld:(o.drop i).length=o.length-i:=by simp
   have n1:(o.take i).length * 80<=140737488355328/\(o.take i).length<=maxLen:=by rw[lt];unfold maxLen;omega
   have n2:(o.take i++[x]).length * 80<=140737488355328/\(o.take i++[x]).length<=maxLen:=by simp only[List.length_append,lt,List.length_singleton,maxLen];omega
   have n3:(o.take i++[x]++o.drop i).length * 80<=140737488355328/\(o.take i++[x]++o.drop i).length<=maxLen:=by simp only[List.length_append,lt,ld,List.length_singleton,maxLen];omega
   simp only[Zad,Int.toNat_natCast,List.nil_append,Zai n1,Zai n2,Zai n3];by_cases h:i<o.length
   .rw[if_pos (by omega),Zai ⟨by omega,by omega⟩,Zrb,Zao];have n:Zan (i:Int) 1=((i+1:Nat):Int):=add1 h j;have hd:=Zdl o Zaa.d i h;by_cases e:cmpE (o.getD i Zaa.d).fEnd x.fEnd<=0
    .rw[if_pos e,n];refine ih (i+1) (by omega) (by omega) fun y b=>?_;rw[List.take_succ_eq_append_getElem h,<-ZbL o Zaa.d i h]at b;rcases List.mem_append.1 b with q|q
     .exact dm y q
     .rw[List.mem_singleton.1 q,Zqc];intro p;have:=ZfE.2 p;omega
    .rw[if_neg e,Zai ⟨by omega,by omega⟩,fin];intro y b;have hx:ltP x (o.getD i Zaa.d)=true:=by rw[Zlj];exact ZfE.1 (by omega)
     rw[hd]at b;have f:bg (o.drop i):=List.Pairwise.sublist (List.drop_sublist i o) g;rw[hd]at f;rcases List.mem_cons.1 b with q|q
     .rw[q];exact hx
     .exact Zuf hx ((List.pairwise_cons.1 f).1 y q)
   .rw[if_neg (by omega),Zai ⟨by omega,by omega⟩,fin];intro y b;rw[List.drop_eq_nil_of_le (by omega)]at b;cases b
 unfold Zff;have:=aM ((((o.length:Nat):Int)-(0:Int)).toNat+2) 0 (by omega) (by omega) (by simp);exact this
theorem snoc{α:Type}:∀(l:List α),l.length≠0->∃T s,l=T++[s]
 | [x],_=>⟨[],x,rfl⟩
 |x :: y :: l,_=>by
  obtain⟨T,s,h⟩:=snoc (y :: l) (by simp)
  exact⟨x :: T,s,by rw[h];rfl⟩
theorem ZJO{T:Prs}{s x:Zaa}(h:bg (T++[s]))(hx:ltP x s=false):∀y∈T++[s],ltP x y=false:=by
 intro y b;rcases List.mem_append.1 b with q|q
 .exact Zmy hx ((List.pairwise_append.1 h).2.2 y q s (by simp))
 .rw[List.mem_singleton.1 q];exact hx
theorem ZGY(P:Prs)(x:Zaa)(R:Prs)(h v8:Int)(k:Int->Prs->Option Prs):∀(n:Nat)(S1 S2:Prs)(fu:Nat),S1.length=n->bg S1->(∀y∈S2,ltP x y=true)->n+1<=fu->P.length+S1.length+S2.length+R.length<=900000 ->
  ZaZ (P.length:Int) h v8 k fu ((P.length+n:Nat):Int) (P++(S1++(x :: (S2++R))))=k (Zan v8 1) (P++(mrg (S1++S2) [x]++R)):=by
 intro n;induction n with
 |zero=>
  intro S1 S2 fu f g b i hb;obtain⟨fu,rfl⟩ : ∃x,fu=x+1:=⟨fu-1,by omega⟩;obtain rfl:=List.eq_nil_of_length_eq_zero f;unfold ZaZ;rw[Zad,if_neg (by omega),Zud (o1:=[]) (by simp) b];simp
 |succ n ih=>
  intro S1 S2 fu f g b i hb;obtain⟨fu,rfl⟩ : ∃x,fu=x+1:=⟨fu-1,by omega⟩;obtain⟨T,s,rfl⟩:=snoc S1 (by omega);have j:T.length=n:=by simpa using f
  have o:Zaz ((P.length+(n+1):Nat):Int) 1=((P.length+n:Nat):Int):=by rw[Zbp (by omega) (by omega)];omega
  have hl:(P++(T++[s]++(x :: (S2++R)))).length=P.length+(n+1)+1+S2.length+R.length:=by simp;omega
  unfold ZaZ;rw[Zad,if_pos (by omega),o,Zai (by rw[hl];omega),Zai (by rw[hl];omega)];simp only[Int.toNat_natCast];have p:(P++(T++[s]++(x :: (S2++R)))).getD (P.length+(n+1)) Zaa.d=x:=Zqd (L:=P++(T++[s])) (R:=S2++R) (by simp) (by simp;omega);have r:(P++(T++[s]++(x :: (S2++R)))).getD (P.length+n) Zaa.d=s:=Zqd (L:=P++T) (R:=x :: (S2++R)) (by simp) (by simp;omega);rw[p,r,Zth,Zao,Zad];by_cases e:cmpE x.fEnd s.fEnd<0
  .have hx:ltP x s=true:=Zlj.2 e;have s1:(P++(T++[s]++(x :: (S2++R)))).set (P.length+(n+1)) s=P++(T++(s :: (s :: (S2++R)))):=by
    rw[ZsI (L:=P++(T++[s])) (x:=x) (R:=S2++R) (by simp) (by simp;omega)];simp
   have s2:(P++(T++(s :: (s :: (S2++R))))).set (P.length+n) x=P++(T++(x :: (s :: S2++R))):=by
    rw[ZsI (L:=P++T) (x:=s) (R:=s :: (S2++R)) (by simp) (by simp;omega)];simp
   rw[if_pos e,s1,s2];have:=ih T (s :: S2) fu j (List.pairwise_append.1 g).1 (fun y t=>by
    rcases List.mem_cons.1 t with q|q
    .rw[q];exact hx
    .exact b y q) (by omega) (by simp only[List.length_append,List.length_singleton,List.length_cons]at hb ⊢;omega)
   rw[this];simp
  .rw[if_neg e,Zud (ZJO g (Zqc.2 e)) b];simp
theorem ZLI(P L Q:Prs)(hb:P.length+L.length+Q.length<=900000)(a b:Int)(g:a=(P.length:Int))(gA:b=((P.length+L.length:Nat):Int)) :
  ZbG (P++(L++Q)) a b=some (P++(ZeY L++Q)):=by
 subst g gA;have h:Zan (P.length:Int) 1=((P.length+1:Nat):Int):=by rw[Zbh (by omega) (by omega)];omega
 unfold ZbG;rw[h];cases hL:L with
 |nil=>
  unfold ZaI;rw[Zad,if_neg (by simp;omega)];simp[ZeY]
 |cons z Z=>
  rw[<-hL];have md:1<=L.length:=by rw[hL];simp
  have aM:∀(j k fu:Nat),L.length-k=j->1<=k->k<=L.length->j+1<=fu->ZaI (P.length:Int) ((P.length+L.length:Nat):Int) fu ((P.length+k:Nat):Int) (P++(ZeY (L.take k)++(L.drop k++Q)))=some (P++(ZeY L++Q)):=by
   intro j;induction j with
   |zero=>
    intro k fu i e f n;obtain⟨fu,rfl⟩ : ∃x,fu=x+1:=⟨fu-1,by omega⟩;unfold ZaI;rw[Zad,if_neg (by omega),List.take_of_length_le (by omega),List.drop_eq_nil_of_le (by omega)];rfl
   |succ j ih=>
    intro k fu i e f n;obtain⟨fu,rfl⟩ : ∃x,fu=x+1:=⟨fu-1,by omega⟩;unfold ZaI;have il:=ZkG (L.take k);rw[List.length_take,Nat.min_eq_left f]at il;have o:Zan ((P.length+k:Nat):Int) 1=((P.length+(k+1):Nat):Int):=by rw[Zbh (by omega) (by omega)];omega
    rw[Zad,if_pos (by omega),Zdl L Zaa.d k (by omega)];have:=ZGY P (L.getD k Zaa.d) (L.drop (k+1)++Q) ((P.length+L.length:Nat):Int) ((P.length+k:Nat):Int) (ZaI (P.length:Int) ((P.length+L.length:Nat):Int) fu) k (ZeY (L.take k)) [] ((((P.length+k:Nat):Int)-(P.length:Int)).toNat+2) il (ZnG _) (by simp) (by omega) (by simp[il];omega);simp only[List.nil_append,List.append_nil,List.cons_append]at this ⊢;rw[this,o,<-ZnH,ZbL L _ k (by omega),<-List.take_succ_eq_append_getElem (by omega)];exact ih (k+1) fu (by omega) (by omega) (by omega) (by omega)
  have e:ZeY (L.take 1)=L.take 1:=by rw[hL];simp[ZeY,ZfR]
  have:=aM (L.length-1) 1 ((((P.length+L.length:Nat):Int)-((P.length+1:Nat):Int)).toNat+2) rfl (Nat.le_refl _) md (by omega);rw[e,<-List.append_assoc (L.take 1),List.take_append_drop]at this;exact this
def inI(n a b:Int):Bool:=decide (a<=n)&&decide (n<=b)
def nowB(x:Zam):Bool:=inI x.fNow 0 1099511627776
def Zjs(x:Zam):Bool:=if x.fKind=1\/x.fKind=12\/x.fKind=13 then Ziz x.fEnd&&nowB x else if x.fKind=2 then Ziz x.fEnd else if x.fKind=3\/x.fKind=9 then nowB x else if x.fKind=4 then Ziz x.fEnd&&(nowB x&&inI x.fNum 0 1073741824)else if x.fKind=5 then Ziz x.fEnd&&(inI x.fNum 1 5&&nowB x)else if x.fKind=6 then Zhk x.fNet&&(inI x.fNum 1 1099511627776&&nowB x)else if x.fKind=7 then Zhk x.fNet else if x.fKind=8 then ZcJ x.fEnd.fAddr&&nowB x else if x.fKind=10 then true else if x.fKind=11 then Ziz x.fEnd&&inI x.fNum 1 1048576 else false
def ZAT(x:Zam)(s:Int×Int)(p:Int):Bool:=if p=0 then Ziz x.fEnd else if p=1 then Zhk x.fNet else if p=2 then ZcJ x.fEnd.fAddr else if p=3 then nowB x else if p=4 then inI x.fNum s.1 s.2 else true
theorem ZCg(x:Zam)(hx:x.ok)(s:Int×Int)(d:ZmL x.fKind=some s)(p:Int):Zni x p=some (ZAT x s p):=by
 have b:x.fEnd.ok:=hx.2.1;have e:x.fNet.ok:=hx.2.2.1;unfold Zni ZAT;simp only[ZcR,ZpI _ b,Zlq _ e.1,ZkC _ b.1,d,Option.bind_some,nowB,inI,Zad]
 repeat' split
 all_goals first|rfl | (simp_all;done) | (simp_all;omega)
theorem ZCh(x:Zam)(hx:x.ok)(s:Int×Int)(b:ZmL x.fKind=some s)(l:List Int)(hl:l.length<=100):Zgb ((((l.length:Nat):Int)-(0:Int)).toNat+2) l (l.length:Int) 0 x=some (l.all (ZAT x s)):=by
 have hL:l.length<=maxLen:=by unfold maxLen;omega
 have aM:∀fu (i:Nat),i<=l.length->l.length-i<fu->Zgb fu l (l.length:Int) (i:Int) x=some ((l.drop i).all (ZAT x s)):=by
  intro fu;induction fu with
  |zero=>intro i _ h;omega
  |succ fu ih=>
   intro i d e;unfold Zgb;simp only[Zad];by_cases h:i<l.length
   .rw[if_pos (by omega),Zai ⟨by omega,by omega⟩,ZCg x hx s b,Option.bind_some,add1 h hL,Zdl l (0:Int) i h,List.all_cons,Int.toNat_natCast];cases ZAT x s (l.getD i 0)with
    |true=>simp only[Bool.not_true,cond_false,Bool.true_and];exact ih (i+1) (by omega) (by omega)
    |false=>rfl
   .rw[if_neg (by omega),List.drop_of_length_le (by omega)];rfl
 exact aM _ 0 (by omega) (by omega)
theorem ZIz(k:Int):∃t,Zot k=some t/\((t.toList==(⟨#[]⟩ : ByteArray).toList) = !(decide (1<=k)&&decide (k<=13))):=by
 unfold Zot Zpb Zuw;simp only[Option.bind_some,Zad];by_cases h0:k<0
 .rw[if_pos h0];refine⟨_,rfl,?_⟩;rw[decide_eq_false (show ¬1<=k by omega)];simp
 .rw[if_neg h0];by_cases b:k>=14
  .have d:k>=(([(⟨#[]⟩ : ByteArray),(⟨#[97,99,99,101,112,116]⟩ : ByteArray),(⟨#[108,101,97,118,101]⟩ : ByteArray),(⟨#[100,105,97,108]⟩ : ByteArray),(⟨#[114,101,115,117,108,116]⟩ : ByteArray),(⟨#[98,108,97,109,101]⟩ : ByteArray),(⟨#[98,97,110]⟩ : ByteArray),(⟨#[117,110,98,97,110]⟩ : ByteArray),(⟨#[98,97,110,110,101,100]⟩ : ByteArray),(⟨#[116,105,99,107]⟩ : ByteArray),(⟨#[108,105,115,116]⟩ : ByteArray),(⟨#[112,111,110,103]⟩ : ByteArray),(⟨#[119,111,114,107]⟩ : ByteArray),(⟨#[108,101,97,114,110]⟩ : ByteArray)]:List ByteArray).length:Int):=b;rw[if_pos d];refine⟨_,rfl,?_⟩;rw[decide_eq_true (show 1<=k by omega),decide_eq_false (show ¬k<=13 by omega)];simp
  .obtain h|h|h|h|h|h|h|h|h|h|h|h|h|h:k=0\/k=1\/k=2\/k=3\/k=4\/k=5\/k=6\/k=7\/k=8\/k=9\/k=10\/k=11\/k=12\/k=13:=by omega
   all_goals subst h;exact⟨_,rfl,by decide +kernel⟩
theorem Zwp(x:Zam)(hx:x.ok):Znk x=some (Zjs x):=by
 obtain⟨t,d,f⟩:=ZIz x.fKind;unfold Znk;rw[d,Option.bind_some,f];by_cases b:1<=x.fKind/\x.fKind<=13
 .rw[decide_eq_true b.1,decide_eq_true b.2];simp only[Bool.and_self,Bool.not_true,cond_false];have key:∀(k:Int)(l:List Int)(s:Int×Int),x.fKind=k->ZlL k=some l->ZmL k=some s->l.length<=100->l.all (ZAT x s)=Zjs x->((ZlL x.fKind).bind fun x2=>Zgb ((((x2.length:Nat):Int)-(0:Int)).toNat+2) x2 ((x2.length:Nat):Int) (0:Int) x)=some (Zjs x):=by
   intro k l s e g i j n;rw[e,g,Option.bind_some,ZCh x hx s (by rw[e];exact i) l j,n]
  obtain h|h|h|h|h|h|h|h|h|h|h|h|h:x.fKind=1\/x.fKind=2\/x.fKind=3\/x.fKind=4\/x.fKind=5\/x.fKind=6\/x.fKind=7\/x.fKind=8\/x.fKind=9\/x.fKind=10\/x.fKind=11\/x.fKind=12\/x.fKind=13:=by omega
  all_goals exact key _ _ _ h rfl rfl (by simp) (by simp[Zjs,h,ZAT])
 .have o:(decide (1<=x.fKind)&&decide (x.fKind<=13))=false:=by
   rw[Bool.and_eq_false_iff,decide_eq_false_iff_not,decide_eq_false_iff_not];omega
  rw[o];simp only[Bool.not_false,cond_true];unfold Zjs
  repeat' rw[if_neg (by omega)]
theorem ZEb(x:Zam)(hx:x.ok)(a b:Int)(s:ByteArray)(L:List Int)(hL:L.length=s.size)(h:∀i:Nat,i<s.size->((Zld s i:Nat):Int)=L.getD i 0)(o:s.size<=100) :
  ZbF a b x ((((s.size:Nat):Int)-(0:Int)).toNat+2) s 0=some (L.all fun c=>if c=101 then Ziz x.fEnd else if c=110 then Zhk x.fNet else if c=97 then ZcJ x.fEnd.fAddr else if c=116 then nowB x else if c=107 then inI x.fNum a b else true):=by
 have e:x.fEnd.ok:=hx.2.1;have j:x.fNet.ok:=hx.2.2.1;have aM:∀fu (i:Nat),i<=s.size->s.size-i<fu->ZbF a b x fu s (i:Int)=some ((L.drop i).all fun c=>if c=101 then Ziz x.fEnd else if c=110 then Zhk x.fNet else if c=97 then ZcJ x.fEnd.fAddr else if c=116 then nowB x else if c=107 then inI x.fNum a b else true):=by
  intro fu;induction fu with
  |zero=>intro i _ h;omega
  |succ fu ih=>
   intro i d p;unfold ZbF;simp only[Zad,ZcR,ZsJ _ e,Zse _ j.1,ZjH _ e.1,Option.bind_some];by_cases hlt:i<s.size
   .rw[if_pos (by omega),Zai ⟨by omega,by omega⟩,add1 (n:=s.size) hlt (by unfold maxLen;omega),Zdl L (0:Int) i (by omega),List.all_cons,Int.toNat_natCast,h i hlt,ih (i+1) (by omega) (by omega)];generalize r:((L.drop (i+1)).all fun c=>if c=101 then Ziz x.fEnd else if c=110 then Zhk x.fNet else if c=97 then ZcJ x.fEnd.fAddr else if c=116 then nowB x else if c=107 then inI x.fNum a b else true)=R;have gQ:∀q:Bool,(bif !q then some false else some R)=some (q&&R):=fun q=>by cases q<;>rfl
    simp only[gQ];have rng:∀n lo d:Int,(if n<lo then some false else if n>d then some false else some R)=some (inI n lo d&&R):=fun n lo d=>by
     unfold inI;by_cases f:n<lo
     .rw[if_pos f,decide_eq_false (by omega)];rfl
     .rw[if_neg f,decide_eq_true (show lo<=n by omega)];by_cases g:n>d
      .rw[if_pos g,decide_eq_false (by omega)];rfl
      .rw[if_neg g,decide_eq_true (show n<=d by omega)];rfl
    simp only[rng];unfold nowB
    repeat' split
    all_goals first|rfl|omega
   .rw[if_neg (by omega),List.drop_of_length_le (by omega)];rfl
 exact aM _ 0 (by omega) (by omega)
theorem Zlg(x:Zam)(hx:x.ok):Zjy x=some (Zjs x):=by
 unfold Zjy Zef;simp only[Zad,ZcR];by_cases d:x.fKind<1
 .rw[if_pos d];unfold Zjs
  repeat' rw[if_neg (by omega)]
 .rw[if_neg d];by_cases f:x.fKind>13
  .rw[if_pos f];unfold Zjs
   repeat' rw[if_neg (by omega)]
  .rw[if_neg f];have key:∀(k a b:Int)(s:ByteArray)(L:List Int),x.fKind=k->Zjx k=some s->L.length=s.size->(∀i:Nat,i<s.size->((Zld s i:Nat):Int)=L.getD i 0)->s.size<=100 ->
     (L.all fun c=>if c=101 then Ziz x.fEnd else if c=110 then Zhk x.fNet else if c=97 then ZcJ x.fEnd.fAddr else if c=116 then nowB x else if c=107 then inI x.fNum a b else true)=Zjs x ->
     ((Zjx x.fKind).bind fun x1=>ZbF a b x ((((x1.size:Nat):Int)-(0:Int)).toNat+2) x1 (0:Int))=some (Zjs x):=by
    intro k a b s L e g j n o p;rw[e,g,Option.bind_some,ZEb x hx a b s L j n o,p]
   obtain h|h|h|h|h|h|h|h|h|h|h|h|h:x.fKind=1\/x.fKind=2\/x.fKind=3\/x.fKind=4\/x.fKind=5\/x.fKind=6\/x.fKind=7\/x.fKind=8\/x.fKind=9\/x.fKind=10\/x.fKind=11\/x.fKind=12\/x.fKind=13:=by omega
   .rw[if_neg (by omega),if_neg (by omega),if_neg (by omega)];exact key 1 _ _ _ [101,116] h rfl rfl (by decide) (by decide) (by simp[Zjs,h])
   .rw[if_neg (by omega),if_neg (by omega),if_neg (by omega)];exact key 2 _ _ _ [101] h rfl rfl (by decide) (by decide) (by simp[Zjs,h])
   .rw[if_neg (by omega),if_neg (by omega),if_neg (by omega)];exact key 3 _ _ _ [116] h rfl rfl (by decide) (by decide) (by simp[Zjs,h])
   .rw[if_neg (by omega),if_neg (by omega),if_neg (by omega)];exact key 4 _ _ _ [101,103,116,107] h rfl rfl (by decide) (by decide) (by simp[Zjs,h])
   .rw[if_pos h];exact key 5 _ _ _ [101,107,116] h rfl rfl (by decide) (by decide) (by simp[Zjs,h])
   .rw[if_neg (by omega),if_pos h];exact key 6 _ _ _ [110,107,116] h rfl rfl (by decide) (by decide) (by simp[Zjs,h])
   .rw[if_neg (by omega),if_neg (by omega),if_neg (by omega)];exact key 7 _ _ _ [110] h rfl rfl (by decide) (by decide) (by simp[Zjs,h])
   .rw[if_neg (by omega),if_neg (by omega),if_neg (by omega)];exact key 8 _ _ _ [97,116] h rfl rfl (by decide) (by decide) (by simp[Zjs,h])
   .rw[if_neg (by omega),if_neg (by omega),if_neg (by omega)];exact key 9 _ _ _ [116] h rfl rfl (by decide) (by decide) (by simp[Zjs,h])
   .rw[if_neg (by omega),if_neg (by omega),if_neg (by omega)];exact key 10 _ _ _ [] h rfl rfl (by decide) (by decide) (by simp[Zjs,h])
   .rw[if_neg (by omega),if_neg (by omega),if_pos h];exact key 11 _ _ _ [101,107] h rfl rfl (by decide) (by decide) (by simp[Zjs,h])
   .rw[if_neg (by omega),if_neg (by omega),if_neg (by omega)];exact key 12 _ _ _ [101,116] h rfl rfl (by decide) (by decide) (by simp[Zjs,h])
   .rw[if_neg (by omega),if_neg (by omega),if_neg (by omega)];exact key 13 _ _ _ [101,116] h rfl rfl (by decide) (by decide) (by simp[Zjs,h])
def Zkw(l:List Zac)(a:Zaf)(af:Int):Int:=(ZiY l a af).getD 0
theorem ZjG(l:List Zac)(a:Zaf)(af:Int)(hl:l.length<=maxLen)(aL:∀b∈l,b.ok)(d:a.ok):ZiY l a af=some (Zkw l a af)/\Zeq l a af=some (Zkw l a af):=by
 obtain⟨r,u1,u2⟩:=ZsY l a af hl aL d;obtain⟨s,u3,u4⟩:=ZtO l a af hl aL d;have me:r=s:=ZvX u2 u4 fun b=>Iff.rfl;subst me;unfold Zkw;rw[u1,u3];exact⟨rfl,rfl⟩
set_option linter.unusedSectionVars false
def ZqZ(k:Int):Zal:=⟨k,endZ,0,0,[]⟩
def ZEe(p:Zaa)(ms:Int):Zaa:=(Zkk p ms).getD p
theorem ZwN(p:Zaa)(ms:Int):Zkk p ms=some (ZEe p ms)/\ZhZ p ms=some (ZEe p ms):=by
 obtain⟨q,b,d⟩:=ZMC p ms;unfold ZEe;rw[b,d];exact⟨rfl,rfl⟩
def ZDM(p:Zaa)(af:Int):Zaa:=(ZhT p af).getD p
theorem Zww(p:Zaa)(af:Int):ZhT p af=some (ZDM p af)/\ZgJ p af=some (ZDM p af):=by
 obtain⟨q,b,d⟩:=ZFJ p af;unfold ZDM;rw[b,d];exact⟨rfl,rfl⟩
theorem ZCl(a b:Int):okI .i64 (addT a b):=by
 have:=Zid (fitI a+fitI b);unfold addT;simp only[okI,Lit.wf,IntKind.min,IntKind.max,IntKind.bits,IntKind.signed];simp;omega
theorem Zts(a:Zaf)(h:a.ok):(ZoH a).ok:=by
 unfold ZoH;split
 .refine⟨h,?_,trivial⟩;have:wid a<=128:=ZsG a;simp only[okI,Lit.wf,IntKind.min,IntKind.max,IntKind.bits,IntKind.signed];simp;omega
 .exact⟨⟨trivial,rfl,rfl,trivial⟩,rfl,trivial⟩
def stE(e:Zab)(s:Int):Zab:=⟨e.fEnd,s,e.fFails,e.fNext⟩
def ZLf(e:Zab):Zab:=⟨e.fEnd,3,0,e.fNext⟩
def newE(x:Zam):Zab:=⟨x.fEnd,1,0,fitI x.fNow⟩
def ZyO(x:Zam):Zaa:=⟨x.fEnd,false,fitI x.fNow,⟨0,fitI x.fNow⟩,0,0⟩
def entA(l:List Zab)(e:Zah):Zab:=l.getD (ZfD l e).toNat Zab.d
def StrP(l:Prs):Prop:=l.Pairwise fun x y=>ltP x y=true
theorem Ztk:∀(n:Nat)(a b:Prs),a.length+b.length<=n->(mrg a b).Perm (a++b)
 | 0,a,b,h=>by
  obtain rfl:=List.eq_nil_of_length_eq_zero (show a.length=0 by omega)
  rw[ZfR];exact List.Perm.refl _
 |n+1,[],b,h=>by rw[ZfR];exact List.Perm.refl _
 |n+1,x :: a,[],h=>by rw[Zkh,List.append_nil]
 |n+1,x :: a,y :: b,h=>by
  simp only[List.length_cons]at h
  cases d:ltP y x with
  |true=>
   rw[Zlx _ _ d]
   refine((Ztk n (x :: a) b (by simp only[List.length_cons];omega)).cons y).trans ?_
   exact List.perm_middle.symm
  |false=>
   rw[Zmx _ _ d]
   exact(Ztk n a (y :: b) (by simp only[List.length_cons];omega)).cons x
theorem StrP.filter{l:Prs}(h:StrP l)(p:Zaa->Bool):StrP (l.filter p):=List.Pairwise.filter p h
theorem StrP.inj{l:Prs}(h:StrP l){x y:Zaa}(hx:x∈l)(d:y∈l)(e:x.fEnd=y.fEnd):x=y:=by
 induction l with
 |nil=>cases hx
 |cons z l ih=>
  have b:=List.pairwise_cons.1 h;have key:∀{w},w∈l->w.fEnd≠z.fEnd:=fun{w} f ew=>by
   have:=Zlj.1 (b.1 w f);rw[ZgR.2 ew.symm]at this;omega
  rcases List.mem_cons.1 hx with h1|h1<;>rcases List.mem_cons.1 d with h2|h2
  .rw[h1,h2]
  .exact absurd (by rw[<-e,h1]) (key h2)
  .exact absurd (by rw[e,h2]) (key h1)
  .exact ih b.2 h1 h2
theorem ZsS(s:Zak)(b:s.fPeers.length<=1000)(d:s.fBook.length<=1000):Zit s=some (cntP s.fPeers false+ZlW s.fBook 2):=by
 have e:=ZIA s.fPeers false;have hb:0<=ZlW s.fBook 2/\ZlW s.fBook 2<=1000:=by
  unfold ZlW;have:=List.countP_le_length (p:=fun x:Zab=>decide (x.fState=2)) (l:=s.fBook);omega
 unfold Zit;rw[ZtP _ _ (by unfold maxLen;omega),Zao,ZGp _ _ (by unfold maxLen;omega),Zao,Zbh (by omega) (by omega)]
theorem ZrG{l:Prs}{e:Zah}:ZgP l e<0↔∀p∈l,p.fEnd≠e:=by
 unfold ZgP;rw[Zne];simp
theorem ZoB{l:Prs}{e:Zah}(h:0<=ZgP l e):∃k:Nat,k<l.length/\ZgP l e=(k:Int)/\(l.getD k Zaa.d).fEnd=e/\∀j,j<k->(l.getD j Zaa.d).fEnd≠e:=by
 obtain⟨k,b,f,⟨x,g,i⟩,n⟩:=Zma (fun x:Zaa=>decide (x.fEnd=e)) l 0 h;refine⟨k,b,by unfold ZgP;rw[f,Nat.zero_add],?_,fun j o=>?_⟩
 .have:l.getD k Zaa.d=x:=by rw[List.getD_eq_getElem?_getD,g];rfl
  rw[this];exact of_decide_eq_true i
 .have:=n j o;obtain⟨y,p,r⟩:=this;have t:l.getD j Zaa.d=y:=by rw[List.getD_eq_getElem?_getD,p];rfl
  rw[t];exact of_decide_eq_false r
def butK(l:Prs)(k:Nat):Prs:=l.take k++l.drop (k+1)
theorem ZrS{l:Prs}{k:Nat}(b:k<l.length):l.Perm (l.getD k Zaa.d :: butK l k):=by
 have e:l=l.take k++l.getD k Zaa.d :: l.drop (k+1):=by rw[<-Zdl l _ k b,List.take_append_drop]
 conv=>lhs;rw[e]
 exact List.perm_middle
theorem ZqT{l:Prs}(h:StrP l)(k:Nat):StrP (butK l k):=by
 have e:(butK l k).Sublist l:=by
  unfold butK
  conv=>rhs;rw[<-List.take_append_drop k l]
  refine List.Sublist.append (List.Sublist.refl _) ?_;have:l.drop (k+1)=(l.drop k).drop 1:=by rw[List.drop_drop]
  rw[this];exact List.drop_sublist 1 _
 exact List.Pairwise.sublist e h
theorem StrP.set{l:Prs}(h:StrP l){k:Nat}(p:k<l.length){y:Zaa}(b:y.fEnd=(l.getD k Zaa.d).fEnd):StrP (l.set k y):=by
 unfold StrP at h ⊢;rw[List.pairwise_iff_getElem]at h ⊢;intro i j n o hij;simp only[List.length_set]at n o;have e:=Zlj.1 (h i j n o hij);rw[ZbL l _ k p]at b;rw[Zlj];simp only[List.getElem_set];by_cases f:k=i<;>by_cases g:k=j
 .omega
 .subst f;rw[if_pos rfl,if_neg g,b];exact e
 .subst g;rw[if_neg f,if_pos rfl,b];exact e
 .rw[if_neg f,if_neg g];exact e
theorem ZGw(l:List Zab)(e:Zab):(putS l e).Perm (e :: l):=by
 unfold putS;have h:=List.takeWhile_append_dropWhile (p:=fun x:Zab=>!decide (0<cmpE x.fEnd e.fEnd)) (l:=l)
 conv=>rhs;rw[<-h]
 rw[List.append_assoc];exact List.perm_middle
theorem ZNP{x y:Zaa}(b:ltP y x=false)(d:x.fEnd≠y.fEnd):ltP x y=true:=by
 rw[Zqc]at b;rw[Zlj];have e:cmpE x.fEnd y.fEnd≠0:=fun h=>d (ZgR.1 h);have f:¬0<cmpE x.fEnd y.fEnd:=fun h=>b (ZfE.1 h);omega
theorem ZNQ{x y:Zaa}(h:ltP x y=true):x.fEnd≠y.fEnd:=fun e=>by
 rw[Zlj,ZgR.2 e]at h
 exact absurd h (by decide)
theorem ZoO{l:Prs}(h:StrP l):bg l:=h.imp fun h=>ZCO h
theorem ZFS{l:Prs}(h:StrP l){p:Zaa}(d:∀q∈l,q.fEnd≠p.fEnd):StrP (mrg l [p])/\(mrg l [p]).Perm (p :: l):=by
 have b:(mrg l [p]).Perm (p :: l):=(Ztk _ l [p] (Nat.le_refl _)).trans (List.perm_append_singleton p l);have hd:(p :: l).Pairwise fun x y=>x.fEnd≠y.fEnd:=List.pairwise_cons.2 ⟨fun q e=>(d q e).symm,h.imp fun h=>ZNQ h⟩;have jj:(mrg l [p]).Pairwise fun x y=>x.fEnd≠y.fEnd:=hd.perm b.symm fun h=>h.symm;have f:bg (mrg l [p]):=ZGJ _ l [p] (Nat.le_refl _) (ZoO h) (List.pairwise_singleton _ _);exact⟨(f.and jj).imp fun h=>ZNP h.1 h.2,b⟩
theorem ZLi{l:List Zab}{e:Zah}(h:0<=ZfD l e):(entA l e).fEnd=e/\entA l e∈l:=by
 obtain⟨k,j,d,⟨y,b,f⟩,_⟩:=Zma _ l 0 h;have g:(ZfD l e).toNat=k:=by unfold ZfD;rw[d];omega
 have i:entA l e=y:=by unfold entA;rw[g,List.getD_eq_getElem?_getD,b];rfl
 rw[i];exact⟨of_decide_eq_true f,List.mem_of_getElem? b⟩
theorem no35(k:Int):Zbz k=some (ZqZ k):=rfl
theorem ZIk(l:Prs)(hl:l.length<=1000000):ZmF l=some (ZoI l):=by
 have hL:l.length<=maxLen:=by unfold maxLen;omega
 have aM:∀fu (i:Nat) w,i<=l.length->l.length-i<fu->w=ZoI (l.take i)->Zgf l fu (i:Int) w=some (ZoI l):=by
  intro fu;induction fu with
  |zero=>intro i w _ h;omega
  |succ fu ih=>
   intro i w d e b;unfold Zgf;simp only[Zad];by_cases h:i<l.length
   .have hwl:w.length<=1000000:=by rw[b];unfold ZoI;simp;omega
    rw[if_pos (by omega),Zai ⟨by omega,by omega⟩,add1 h hL,Zai ⟨by simp;omega,by simp[maxLen];omega⟩];refine ih (i+1) _ (by omega) (by omega) ?_;rw[b];unfold ZoI;rw[List.take_succ_eq_append_getElem h,List.map_append,Int.toNat_natCast,ZbL l _ i h];rfl
   .rw[if_neg (by omega),b];have:i=l.length:=by omega
    rw[this,List.take_length]
 exact aM _ 0 [] (by omega) (by omega) rfl
theorem ZtZ{n:Int}(b : -9223372036854775808<=n)(d:n<=9223372036854775807):okI .i64 n:=by
 simp only[okI,Lit.wf,IntKind.min,IntKind.max,IntKind.bits,IntKind.signed];simp;omega
theorem okZ:okI .i64 0:=by rfl
def ZnQ(x:Zam):Zaa:=⟨x.fEnd,true,fitI x.fNow,⟨0,fitI x.fNow⟩,0,0⟩
theorem ZMO(n a b:Int):Zbo n a b=some (decide (n>=a)&&decide (n<=b)):=by
 unfold Zbo;cases decide (n>=a)<;>rfl
theorem ZNh{α:Type}{c:Bool}{x y:Option α}(d:∃b,x=some b)(e:∃b,y=some b):∃b,(bif c then x else y)=some b:=by
 cases c
 .exact e
 .exact d
theorem ZMx(c:Zar):∃b,Zhf c=some b:=by
 unfold Zhf;simp only[ZcQ,Zdt,ZMO,Zao]
 repeat' first|exact⟨_,rfl⟩|apply ZNh
theorem ZML{x b:Zac}(hx:x.ok)(hb:b.ok):(Zvp x b).ok:=by
 refine⟨hx.1,?_,trivial⟩;unfold Zvp;simp only;split
 .exact hb.2.1
 .exact hx.2.1
def SrtE(l:List Zab):Prop:=l.Pairwise fun a b=>cmpE a.fEnd b.fEnd<0
theorem ZGv{l:List Zab}{e:Zab}(f:SrtE l)(g:ZfD l e.fEnd<0):SrtE (putS l e):=by
 unfold SrtE at f ⊢;rw[Zuz]at g
 .have bI:=List.takeWhile_append_dropWhile (p:=fun x:Zab=>!decide (0<cmpE x.fEnd e.fEnd)) (l:=l);have i:(l.takeWhile (fun x:Zab=>!decide (0<cmpE x.fEnd e.fEnd))++l.dropWhile (fun x:Zab=>!decide (0<cmpE x.fEnd e.fEnd))).Pairwise (fun a b=>cmpE a.fEnd b.fEnd<0):=by rw[bI];exact f
  obtain⟨p1,p2,p3⟩:=List.pairwise_append.1 i;have lo:∀x∈l.takeWhile (fun x:Zab=>!decide (0<cmpE x.fEnd e.fEnd)),cmpE x.fEnd e.fEnd<0:=by
   intro x hx;have gn:¬0<cmpE x.fEnd e.fEnd:=by simpa using(ZqR _ _ hx)
   have dS:cmpE x.fEnd e.fEnd≠0:=fun h=>g x (List.takeWhile_subset _ hx) (ZgR.1 h);omega
  have j:∀x∈l.dropWhile (fun x:Zab=>!decide (0<cmpE x.fEnd e.fEnd)),cmpE e.fEnd x.fEnd<0:=by
   intro x hx;cases hd:l.dropWhile (fun x:Zab=>!decide (0<cmpE x.fEnd e.fEnd))with
   |nil=>rw[hd]at hx;cases hx
   |cons y r=>
    have n:0<cmpE y.fEnd e.fEnd:=by
     have:=List.head?_dropWhile_not (fun x:Zab=>!decide (0<cmpE x.fEnd e.fEnd)) l;rw[hd]at this;simpa using this
    rw[hd]at hx p2;have fD:=ZfE.1 n;rcases List.mem_cons.1 hx with rfl|hx
    .exact fD
    .exact Zlp fD ((List.pairwise_cons.1 p2).1 x hx)
  unfold putS;rw[List.append_assoc];refine List.pairwise_append.2 ⟨p1,List.pairwise_append.2 ⟨List.pairwise_singleton _ _,p2,fun a d b hb=>?_⟩,fun a d b hb=>?_⟩
  .rw[List.mem_singleton.1 d];exact j b hb
  .rcases List.mem_append.1 hb with hb|hb
   .rw[List.mem_singleton.1 hb];exact lo a d
   .exact p3 a d b hb
theorem ZFY{l:List Zab}{e:Zab}(h:SrtE l):SrtE (setS l e):=by
 unfold setS;split
 .rename_i o;obtain⟨k,p,hk2,⟨x,hx,mf⟩,_⟩:=Zma _ l 0 o;have mf:x.fEnd=e.fEnd:=of_decide_eq_true mf;rw[show ZfD l e.fEnd=((0+k:Nat):Int)from hk2,Nat.zero_add,Int.toNat_natCast];have n:∀j:Nat,((l.set k e)[j]?).map Zab.fEnd=(l[j]?).map Zab.fEnd:=by
   intro j;rw[List.getElem?_set];split
   .rename_i ej;subst ej;rw[hx];simp[mf]
   .rfl
  refine List.pairwise_iff_getElem.2 fun i j b d hij=>?_
  .rw[List.length_set]at b d;have f:=n i;have g:=n j;rw[List.getElem?_eq_getElem (by rw[List.length_set];exact b),List.getElem?_eq_getElem b]at f;rw[List.getElem?_eq_getElem (by rw[List.length_set];exact d),List.getElem?_eq_getElem d]at g;simp only[Option.map_some,Option.some.injEq]at f g;rw[f,g];exact List.pairwise_iff_getElem.1 h i j b d hij
 .exact h
theorem ZIZ{l:List Zab}(h:SrtE l)(b:Zab)(bi:Int):SrtE (addS l b bi).1:=by
 unfold addS;split
 .split
  .exact List.Pairwise.nil
  .rename_i d;split
   .exact List.Pairwise.nil
   .exact ZGv h (by omega)
 .exact List.Pairwise.nil
theorem ZIq(l:List Zah)(e:Zab):(ZpW l e).fEnd=e.fEnd:=by
 unfold ZpW;split
 .split<;>rfl
 .rfl
theorem ZIn{l:List Zab}(h:SrtE l)(g:List Zah):SrtE (l.map (ZpW g)):=by
 unfold SrtE at h ⊢;rw[List.pairwise_map];simp only[ZIq];exact h
structure cA (N:Nat) (s:Zak):Prop where
 bans:∀b∈s.fBans,b.ok
 book:∀e∈s.fBook,e.ok
 peers:∀p∈s.fPeers,p.ok
 str:StrP s.fPeers
 n1:s.fBans.length<=N
 n2:s.fBook.length<=N
 n3:s.fPeers.length<=N
 srt:SrtE s.fBook
theorem cA.up{N:Nat}{s:Zak}(h:cA N s):cA (N+1) s:=⟨h.bans,h.book,h.peers,h.str,by have:=h.n1;omega,by have:=h.n2;omega,by have:=h.n3;omega,h.srt⟩
theorem ZoA(a:Int):okI .i64 (fitI a):=by
 have:=Zid a;exact ZtZ (by omega) (by omega)
theorem ZGI{x:Zam}(hx:x.ok):(ZyO x).ok:=⟨hx.2.1,trivial,ZoA _,⟨okZ,ZoA _,trivial⟩,okZ,okZ,trivial⟩
theorem ZEW{x:Zam}(hx:x.ok):(ZnQ x).ok:=⟨hx.2.1,trivial,ZoA _,⟨okZ,ZoA _,trivial⟩,okZ,okZ,trivial⟩
theorem Ztj{x:Zam}(hx:x.ok):(newE x).ok:=⟨hx.2.1,rfl,rfl,ZoA _,trivial⟩
theorem ZFU{e:Zab}(b:e.ok)(k:Int)(d:okI .i64 k):(stE e k).ok:=⟨b.1,d,b.2.2.1,b.2.2.2.1,trivial⟩
theorem ZHP{e:Zab}(b:e.ok):(ZLf e).ok:=⟨b.1,rfl,rfl,b.2.2.2.1,trivial⟩
theorem ZIp{e:Zab}(b:e.ok)(l:List Zah):(ZpW l e).ok:=by
 unfold ZpW;split
 .split
  .exact⟨b.1,rfl,b.2.2.1,b.2.2.2.1,trivial⟩
  .exact b
 .exact b
theorem ZyE{p:Zaa}(b:p.ok){n:Int}(d:okI .i64 n):(ZEe p n).ok/\(ZEe p n).fEnd=p.fEnd:=by
 unfold ZEe Zkk;simp only[Zad,ZcR]
 repeat' split
 all_goals first|exact⟨b,rfl⟩|exact⟨⟨b.1,b.2.1,b.2.2.1,b.2.2.2.1,d,b.2.2.2.2.2.1,trivial⟩,rfl⟩
theorem ZxW{p:Zaa}(b:p.ok)(n:Int):(ZDM p n).ok/\(ZDM p n).fEnd=p.fEnd:=by
 unfold ZDM ZhT;rw[ZiH,Zao];refine⟨⟨b.1,b.2.1,b.2.2.1,b.2.2.2.1,b.2.2.2.2.1,?_,trivial⟩,rfl⟩;show okI .i64 (if fitI n>p.fWork then fitI n else p.fWork);split
 .exact ZoA _
 .exact b.2.2.2.2.2.1
theorem ZLl(s:Zat)(h af:Int):okI .i64 (decS s h af).fAt:=by
 have b:=Zid s.fAt;have d:=Zid af;have f:Zrk s h af*(ZnB h).toNat<=(fitI af-fitI s.fAt).toNat:=Nat.div_mul_le_self _ _;have e:(decS s h af).fAt=fitI s.fAt+((Zrk s h af*(ZnB h).toNat:Nat):Int):=rfl;rw[e];exact ZtZ (by omega) (by omega)
theorem ZDL{p:Zaa}(b:p.ok)(c:Zar)(x:Zam):(ZpX c x p).ok:=by
 refine⟨b.1,b.2.1,b.2.2.1,⟨ZoA _,?_,trivial⟩,b.2.2.2.2.1,b.2.2.2.2.2.1,trivial⟩;exact ZLl _ _ _
theorem ZHV{e:Zab}(f:e.ok)(c:Zar)(af r:Int):(ZuB c e af r).ok/\(ZuB c e af r).fEnd=e.fEnd:=by
 have h:=(ZuA c e af r).1;unfold ZhB at h;obtain⟨t,b,h⟩:=ZkB h;have g:=Option.some.inj h;unfold ZjV at b;obtain⟨x1,_,b⟩:=ZkB b;obtain⟨x2,_,b⟩:=ZkB b;obtain⟨x3,_,b⟩:=ZkB b;obtain⟨x4,d,b⟩:=ZkB b;have i:=Option.some.inj b;rw[(Zqh _ _).1]at d;have j:=Option.some.inj d;rw[<-g];refine⟨⟨f.1,rfl,?_,?_,trivial⟩,rfl⟩
 .show okI .i64 (Zan (if(999:Int)<(if(0:Int)>e.fFails then(0:Int)else e.fFails)then(999:Int)else(if(0:Int)>e.fFails then(0:Int)else e.fFails)) (1:Int));rw[Zbh (by split<;>(try split)<;>omega) (by split<;>(try split)<;>omega)]
  exact ZtZ (by split<;>(try split)<;>omega) (by split<;>(try split)<;>omega)
 .show okI .i64 t;rw[<-i,<-j];exact ZCl _ _
theorem ZDH{l:List Zac}(h:∀b∈l,b.ok){b:Zac}(hb:b.ok)(bi:Int):∀y∈(addB l b bi).1,y.ok:=by
 unfold addB;split
 .split
  .rename_i d;obtain⟨e,_⟩:=Zpi l b.fNet d;intro y hy;rcases List.mem_or_eq_of_mem_set hy with h2|h2
   .exact h y h2
   .rw[h2];exact ZML (h _ (ZdM l _ _ e)) hb
  .split
   .intro y hy;cases hy
   .intro y hy;simp only[putB,List.mem_append,List.mem_singleton]at hy;rcases hy with (hy|hy)|hy
    .exact h y ((List.takeWhile_sublist _).mem hy)
    .rw[hy];exact hb
    .exact h y ((List.dropWhile_sublist _).mem hy)
 .intro y hy;cases hy
theorem ZIl{l:List Zac}(h:∀b∈l,b.ok)(n:Zae):∀y∈(ZrO l n).1,y.ok:=by
 unfold ZrO;split
 .intro y d;cases d
 .intro y d;rcases List.mem_append.1 d with h1|h1
  .exact h y (List.mem_of_mem_take h1)
  .exact h y (List.mem_of_mem_drop h1)
theorem ZLz{l:List Zab}(h:∀b∈l,b.ok){b:Zab}(hb:b.ok)(bi:Int):∀y∈(addS l b bi).1,y.ok:=by
 unfold addS;split
 .split
  .intro y d;cases d
  .split
   .intro y d;cases d
   .intro y d;rcases List.mem_cons.1 ((ZGw l b).mem_iff.1 d)with h1|h1
    .rw[h1];exact hb
    .exact h y h1
 .intro y d;cases d
def Zrp(c:Zar)(s:Zak):Zah×Bool:=(Zim s.fPeers c.fQuota c.fSecret).getD (endZ,false)
def ZmT(c:Zar)(s:Zak)(x:Zam):Zak×Zal:=if Zkw s.fBans x.fEnd.fAddr x.fNow>0 then(s,⟨8,endZ,0,Zkw s.fBans x.fEnd.fAddr x.fNow,[]⟩)else if ZgP s.fPeers x.fEnd>=0 then(s,ZqZ 7)else if cntP s.fPeers true>=c.fMaxIn then if(Zrp c s).2=true then(⟨s.fBans,s.fBook,mrg (butK s.fPeers (ZgP s.fPeers (Zrp c s).1).toNat) [ZnQ x]⟩,⟨0,(Zrp c s).1,1,0,[]⟩)else(s,ZqZ 5)else(⟨s.fBans,s.fBook,mrg s.fPeers [ZnQ x]⟩,repZ)
section
variable {c:Zar} {s:Zak} {x:Zam} {N:Nat} (hx:x.ok) (hI:cA N s) (hN:N<=100)
include hx hI hN
theorem ZBS{e:Zah}{k:Nat}(f:k<s.fPeers.length)(b:ZgP s.fPeers e=(k:Int)):ZhX s.fPeers e=some (butK s.fPeers k,0):=by
 have g:=hI.n3;have d:Zan (k:Int) 1=((k+1:Nat):Int):=add1 (n:=k+1) (by omega) (by simp only[maxLen];omega);unfold ZhX;simp only[List.nil_append];rw[Zie _ _ (by unfold maxLen;omega),Zao,b,Zad,if_neg (by omega),Zai ⟨by omega,by omega⟩,Int.toNat_natCast,Zai ⟨by simp;omega,by simp[maxLen];omega⟩,d,Zai ⟨by omega,by omega⟩,Int.toNat_natCast,Zai ⟨by simp;omega,by simp[maxLen];omega⟩];rfl
theorem ZvF{k:Nat}{y:Zaa}(d:k<s.fPeers.length)(b:ZgP s.fPeers y.fEnd=(k:Int)):ZgE s.fPeers y=some (s.fPeers.set k y):=by
 have e:=hI.n3;unfold ZgE;simp only[List.nil_append];rw[Zie _ _ (by unfold maxLen;omega),Zao,b,Zad,if_neg (by omega),Zai ⟨by omega,by unfold maxLen;omega⟩,Zai ⟨by omega,by omega⟩,Int.toNat_natCast]
theorem ZBs(h:(Zrp c s).2=true):∃k:Nat,k<s.fPeers.length/\ZgP s.fPeers (Zrp c s).1=(k:Int)/\(s.fPeers.getD k Zaa.d).fEnd=(Zrp c s).1/\(s.fPeers.getD k Zaa.d).fIn=true:=by
 have u:=hI.n3;obtain⟨r,g,_,i⟩:=ZsQ s.fPeers c.fQuota c.fSecret (by omega) fun p j=>(hI.peers p j).1.1;have e:Zrp c s=r:=by unfold Zrp;rw[g];rfl
 rw[e]at h ⊢;obtain⟨p,p1,p2,p3⟩:=i h;have n:0<=ZgP s.fPeers r.1:=by
  by_cases o:ZgP s.fPeers r.1<0
  .exact absurd p2 (ZrG.1 o p p1)
  .omega
 obtain⟨k,b,t,f,_⟩:=ZoB n;refine⟨k,b,t,f,?_⟩;rw[hI.str.inj (ZdM _ _ k b) p1 (f.trans p2.symm)];exact p3
theorem ZuV:Zim s.fPeers c.fQuota c.fSecret=some (Zrp c s)/\ZgI s.fPeers c.fQuota c.fSecret=some (Zrp c s):=by
 have g:=hI.n3;obtain⟨r,b,d,_⟩:=ZsQ s.fPeers c.fQuota c.fSecret (by omega) fun p f=>(hI.peers p f).1.1;have e:Zrp c s=r:=by unfold Zrp;rw[b];rfl
 rw[e];exact⟨b,d⟩
theorem ZxB{k:Nat}(b:k<s.fPeers.length):(butK s.fPeers k).length+1=s.fPeers.length:=by
 have:=(ZrS b).length_eq;simp only[List.length_cons]at this;omega
theorem ZsF:ZiQ c s x=some (ZmT c s x):=by
 have i:=hI.n1;have j:=hI.n3;have en:ZdE x.fEnd true x.fNow=some (ZnQ x):=by unfold ZdE;rw[ZiI];rfl
 unfold ZiQ ZmT;rw[(ZjG s.fBans x.fEnd.fAddr x.fNow (by unfold maxLen;omega) hI.bans hx.2.1.1).2,Zao,Zad];by_cases b:Zkw s.fBans x.fEnd.fAddr x.fNow>0
 .rw[if_pos b,if_pos b];rfl
 rw[if_neg b,if_neg b,Zie _ _ (by unfold maxLen;omega),Zao,Zad];by_cases d:ZgP s.fPeers x.fEnd>=0
 .rw[if_pos d,if_pos d,no35,Zao]
 rw[if_neg d,if_neg d,en,Zao,ZtP _ _ (by unfold maxLen;omega),Zao,Zad];by_cases e:cntP s.fPeers true>=c.fMaxIn
 .rw[if_pos e,if_pos e,(ZuV hx hI hN).2,Zao];cases h:(Zrp c s).2 with
  |false=>rw[Bool.not_false,cond_true,if_neg (by decide),no35,Zao]
  |true=>
   obtain⟨k,f,g,_,_⟩:=ZBs hx hI hN (c:=c) h;have hb:=ZxB hx hI hN f;rw[Bool.not_true,cond_false,if_pos rfl,ZBS hx hI hN f g,Zao,g,Int.toNat_natCast];show ((Zff (butK s.fPeers k) (ZnQ x)).bind fun x9=>_)=_;rw[Ztd _ _ (ZoO (ZqT hI.str k)) (by omega),Zao]
 .rw[if_neg e,if_neg e,Ztd _ _ (ZoO hI.str) (by omega),Zao];rfl
theorem ZFo:cA (N+1) (ZmT c s x).1:=by
 have d:=hI.up;have r:=hI.n1;have t:=hI.n2;have g:=hI.n3;unfold ZmT;split
 .exact d
 split
 .exact d
 rename_i hnf;have hne:∀q∈s.fPeers,q.fEnd≠(ZnQ x).fEnd:=ZrG.1 (show ZgP s.fPeers x.fEnd<0 by omega);have put:∀l:Prs,StrP l->l.length<=N->(∀q∈l,q.ok/\q.fEnd≠(ZnQ x).fEnd)->cA (N+1) ⟨s.fBans,s.fBook,mrg l [ZnQ x]⟩:=fun l i hl ho=>by
  obtain⟨p1,p2⟩:=ZFS i fun q b=>(ho q b).2;refine⟨hI.bans,hI.book,fun p j=>?_,p1,by show s.fBans.length<=N+1;omega,by show s.fBook.length<=N+1;omega,?_,hI.srt⟩
  .rcases List.mem_cons.1 (p2.mem_iff.1 j)with h|h
   .rw[h];exact ZEW hx
   .exact(ho p h).1
  .show (mrg l [ZnQ x]).length<=N+1;rw[p2.length_eq,List.length_cons];omega
 split
 .split
  .rename_i n;obtain⟨k,e,o,_,_⟩:=ZBs hx hI hN (c:=c) n;have hb:=ZxB hx hI hN e;rw[o,Int.toNat_natCast];refine put _ (ZqT hI.str k) (by omega) fun q b=>?_;have f:=(ZrS e).symm.mem_iff.1 (List.mem_cons_of_mem _ b);exact⟨hI.peers q f,hne q f⟩
  .exact d
 .exact put _ hI.str g fun q b=>⟨hI.peers q b,hne q b⟩
end
def ZOj(c:Zar)(x:Zam)(a b:List Zac):Prop:=b=a\/(∃n:Zac,n.ok/\(addB a n c.fMaxBans).2=0/\b=(addB a n c.fMaxBans).1)\/(x.fKind=7/\(ZrO a x.fNet).2=0/\b=(ZrO a x.fNet).1)\/(x.fKind=9/\b=ZkD a x.fNow)
def Lt(c:Zar)(s:Zak)(x:Zam)(N:Nat)(r:Option (Zak×Zal)):Prop:=∃y,r=some y/\cA (N+1) y.1/\ZOj c x s.fBans y.1.fBans
theorem ZCn(c:Zar)(s:Zak)(x:Zam):(ZmT c s x).1.fBans=s.fBans:=by
 unfold ZmT
 repeat' split
 all_goals rfl
section
variable {c:Zar} {s:Zak} {x:Zam} {N:Nat} (hx:x.ok) (hI:cA N s) (hN:N<=100)
include hx hI hN
theorem Lt.same(r:Zal):Lt c s x N (some (s,r)):=⟨_,rfl,hI.up,.inl rfl⟩
theorem ZCW{b:List Zab}(d:∀e∈b,e.ok)(f:b.length<=N+1)(g:SrtE b):cA (N+1) ⟨s.fBans,b,s.fPeers⟩:=⟨hI.bans,d,hI.peers,hI.str,hI.up.n1,f,hI.up.n3,g⟩
theorem ZCX{b:List Zac}(d:∀e∈b,e.ok)(f:b.length<=N+1):cA (N+1) ⟨b,s.fBook,s.fPeers⟩:=⟨d,hI.book,hI.peers,hI.str,f,hI.up.n2,hI.up.n3,hI.srt⟩
theorem ZAL{k:Nat}(b:k<s.fPeers.length){y:Zaa}(e:y.ok)(f:y.fEnd=(s.fPeers.getD k Zaa.d).fEnd):cA (N+1) ⟨s.fBans,s.fBook,s.fPeers.set k y⟩:=by
 refine⟨hI.bans,hI.book,fun p g=>?_,hI.str.set b f,hI.up.n1,hI.up.n2,by show (s.fPeers.set k y).length<=N+1;rw[List.length_set];exact hI.up.n3,hI.srt⟩;rcases List.mem_or_eq_of_mem_set g with h|h
 .exact hI.peers p h
 .rw[h];exact e
theorem ZDq{bans:List Zac}(hb:(∀b∈bans,b.ok)/\bans.length<=N+1)(l:List Zah){ps:Prs}(d:∀p∈ps,p∈s.fPeers)(f:StrP ps)(j:ps.length<=s.fPeers.length):cA (N+1) ⟨bans,s.fBook.map (ZpW l),ps⟩:=by
 refine⟨hb.1,fun e g=>?_,fun p h=>hI.peers p (d p h),f,hb.2,by show (s.fBook.map (ZpW l)).length<=N+1;rw[List.length_map];exact hI.up.n2,by show ps.length<=N+1;have:=hI.n3;omega,ZIn hI.srt l⟩;obtain⟨y,i,rfl⟩:=List.mem_map.1 g;exact ZIp (hI.book y i) l
theorem Zsk{bans:List Zac}(hb:(∀b∈bans,b.ok)/\bans.length<=N+1){cF:Zae}(e:cF.fAddr.ok):∃z,Zcx ⟨bans,s.fBook,s.fPeers⟩ cF=some z/\cA (N+1) z.1/\z.1.fBans=bans:=by
 have n2:=hI.n2;have n3:=hI.n3;have aL:∀p∈s.fPeers,p.fEnd.fAddr.ok:=fun p d=>(hI.peers p d).1.1;have g:=Zua s.fPeers cF true;have f:=Zua s.fPeers cF false;unfold Zcx;dsimp only;rw[Zpw _ _ _ e (by omega) aL,Zao,Zpw _ _ _ e (by omega) aL,Zao,ZIk _ (by omega),Zao,Zra _ _ (by omega) (by simp[ZoI,maxLen];omega),Zao];exact⟨_,rfl,ZDq hx hI hN hb _ (fun p d=>(List.mem_filter.1 d).1) (hI.str.filter _) f,rfl⟩
theorem ZAS:Lt c s x N (ZcB c s x):=by
 have n2:=hI.n2;have n3:=hI.n3;unfold ZcB;rw[Zie _ _ (by unfold maxLen;omega),Zao,Zad];by_cases g:ZgP s.fPeers x.fEnd<0
 .rw[if_pos g,no35,Zao];exact Lt.same hx hI hN _
 obtain⟨k,b,e,h,_⟩:=ZoB (show 0<=ZgP s.fPeers x.fEnd by omega);have fm:=hI.peers _ (ZdM s.fPeers Zaa.d k b);have hb:=ZxB hx hI hN b;rw[if_neg g,ZcR,ZcR];by_cases i:x.fKind=2
 .rw[if_pos i,ZBS hx hI hN b e,Zao,Zra _ _ (by omega) (by simp[maxLen]),Zao];exact⟨_,rfl,ZDq hx hI hN ⟨hI.bans,hI.up.n1⟩ _ (fun p j=>(ZrS b).symm.mem_iff.1 (List.mem_cons_of_mem _ j)) (ZqT hI.str k) (by show (butK s.fPeers k).length<=_;omega),.inl rfl⟩
 rw[if_neg i];by_cases e11:x.fKind=11
 .obtain⟨o1,f⟩:=ZyE fm hx.2.2.2.2.1;rw[if_pos e11,Zai ⟨by omega,by omega⟩,e,Int.toNat_natCast,(ZwN _ _).2,Zao,ZvF hx hI hN b (by rw[f,h];exact e),Zao];exact⟨_,rfl,ZAL hx hI hN b o1 f,.inl rfl⟩
 .obtain⟨o1,f⟩:=ZxW fm x.fNow;rw[if_neg e11,Zai ⟨by omega,by omega⟩,e,Int.toNat_natCast,(Zww _ _).2,Zao,ZvF hx hI hN b (by rw[f,h];exact e),Zao];exact⟨_,rfl,ZAL hx hI hN b o1 f,.inl rfl⟩
theorem ZnC{e:Zab}(b:e.ok):cA (N+1) ⟨s.fBans,setS s.fBook e,s.fPeers⟩:=ZCW hx hI hN (ZMs hI.book b) (by rw[ZJR];exact hI.up.n2) (ZFY hI.srt)
theorem Zyo:Lt c s x N (ZdW c s x):=by
 have n1:=hI.n1;have n2:=hI.n2;have n3:=hI.n3;have hlt:=Zph s.fBook x.fEnd;unfold ZdW;rw[Zoa _ _ (by unfold maxLen;omega),Zao,Zad];by_cases e:ZfD s.fBook x.fEnd<0
 .rw[if_pos e,no35,Zao];exact Lt.same hx hI hN _
 have mg:(s.fBook.getD (ZfD s.fBook x.fEnd).toNat Zab.d).ok:=hI.book _ (ZdM _ _ _ (by omega));rw[if_neg e,Zai ⟨by omega,hlt⟩];cases g:((s.fBook.getD (ZfD s.fBook x.fEnd).toNat Zab.d).fState != 2)with
 |true=>rw[cond_true,no35,Zao];exact Lt.same hx hI hN _
 |false=>
  obtain⟨f1,_⟩:=ZHV mg c x.fNow x.fNum;rw[cond_false,(ZjG s.fBans x.fEnd.fAddr x.fNow (by unfold maxLen;omega) hI.bans hx.2.1.1).2,Zao,(ZuA c _ x.fNow x.fNum).2];cases i:x.fGood with
  |false=>
   rw[Bool.not_false,cond_true,Zao,Zmv _ _ (by omega),Zao,cond_false];exact⟨_,rfl,ZnC hx hI hN f1,.inl rfl⟩
  |true=>
   rw[Bool.not_true,cond_false,Zad];by_cases f:Zkw s.fBans x.fEnd.fAddr x.fNow>0
   .rw[if_pos f,Zao,Zmv _ _ (by omega),Zao,cond_true];exact⟨_,rfl,ZnC hx hI hN f1,.inl rfl⟩
   rw[if_neg f,Zie _ _ (by unfold maxLen;omega),Zao,Zad];by_cases b:ZgP s.fPeers x.fEnd>=0
   .have ed:Zep (s.fBook.getD (ZfD s.fBook x.fEnd).toNat Zab.d) 1=some (stE (s.fBook.getD (ZfD s.fBook x.fEnd).toNat Zab.d) 1):=rfl;rw[if_pos b,ed,Zao,Zmv _ _ (by omega),Zao,no35,Zao];exact⟨_,rfl,ZnC hx hI hN (ZFU mg 1 rfl),.inl rfl⟩
   .have eg:Zkn (s.fBook.getD (ZfD s.fBook x.fEnd).toNat Zab.d)=some (ZLf (s.fBook.getD (ZfD s.fBook x.fEnd).toNat Zab.d)):=rfl;have en:ZdE x.fEnd false x.fNow=some (ZyO x):=by unfold ZdE;rw[ZiI];rfl
    have hne:∀q∈s.fPeers,q.fEnd≠(ZyO x).fEnd:=ZrG.1 (show ZgP s.fPeers x.fEnd<0 by omega);obtain⟨p1,p2⟩:=ZFS hI.str hne;have hb:=ZnC hx hI hN (ZHP mg);rw[if_neg b,eg,Zao,Zmv _ _ (by omega),Zao,en,Zao,Ztd _ _ (ZoO hI.str) (by omega),Zao];refine⟨_,rfl,⟨hb.bans,hb.book,fun p b=>?_,p1,hb.n1,hb.n2,?_,hb.srt⟩,.inl rfl⟩
    .rcases List.mem_cons.1 (p2.mem_iff.1 b)with h|h
     .rw[h];exact ZGI hx
     .exact hI.peers p h
    .show (mrg s.fPeers [ZyO x]).length<=N+1;rw[p2.length_eq,List.length_cons];omega
theorem ZCi:Lt c s x N (Zfz c s x):=by
 have n1:=hI.n1;have n2:=hI.n2;have n3:=hI.n3;have cG:(⟨ZoH x.fEnd.fAddr,addT x.fNow c.fBanFor⟩ : Zac).ok:=⟨Zts _ hx.2.1.1,ZCl _ _,trivial⟩;unfold Zfz;rw[Zie _ _ (by unfold maxLen;omega),Zao,Zad];by_cases e:ZgP s.fPeers x.fEnd<0
 .rw[if_pos e,no35,Zao];exact Lt.same hx hI hN _
 obtain⟨k,b,f,g,_⟩:=ZoB (show 0<=ZgP s.fPeers x.fEnd by omega);have fm:=hI.peers _ (ZdM s.fPeers Zaa.d k b);have eG:=ZCq c x (s.fPeers.getD k Zaa.d);rw[if_neg e,Zai ⟨by omega,by omega⟩,f,Int.toNat_natCast,(ZCG x.fNum).2.1,Zao,(Zva c x _).2,Zao,(Zsf _ _ eG.1 eG.2).2,Zao];cases hin:ZvM (ZpX c x (s.fPeers.getD k Zaa.d)).fScore c.fLimit with
 |false=>
  rw[Bool.not_false,cond_true,(Zwx _).2,ZvF hx hI hN (y:=ZpX c x (s.fPeers.getD k Zaa.d)) b (show ZgP s.fPeers (s.fPeers.getD k Zaa.d).fEnd=(k:Int)by rw[g];exact f),Zao,Zao];exact⟨_,rfl,ZAL hx hI hN b (ZDL fm c x) rfl,.inl rfl⟩
 |true=>
  have fA:=ZDI s.fBans ⟨ZoH x.fEnd.fAddr,addT x.fNow c.fBanFor⟩ c.fMaxBans;have gB:(ZoH x.fEnd.fAddr).fAddr.ok:=(Zts _ hx.2.1.1).1;rw[Bool.not_true,cond_false,ZCD _ hx.2.1.1,Zao,(Zqh _ _).2,Zao,Zrc _ _ _ (by omega) cG,Zao];obtain⟨z1,h,i1,b1⟩:=Zsk hx hI hN (bans:=(addB s.fBans ⟨ZoH x.fEnd.fAddr,addT x.fNow c.fBanFor⟩ c.fMaxBans).1) ⟨ZDH hI.bans cG _,by omega⟩ gB;obtain⟨z2,i,i2,b2⟩:=Zsk hx hI hN (bans:=s.fBans) ⟨hI.bans,hI.up.n1⟩ gB;rw[h,Zao];show Lt c s x N (bif((addB s.fBans ⟨ZoH x.fEnd.fAddr,addT x.fNow c.fBanFor⟩ c.fMaxBans).2==0)then some (z1.1,_)else((Zcx ⟨s.fBans,s.fBook,s.fPeers⟩ (ZoH x.fEnd.fAddr)).bind fun x12=>_));rw[i,Zao,ZcR];split
  .rename_i h0;exact⟨_,rfl,i1,.inr (.inl ⟨_,cG,h0,b1⟩)⟩
  .exact⟨_,rfl,i2,.inl b2⟩
theorem ZFl(g:x.fKind=6\/x.fKind=7\/x.fKind=8\/x.fKind=9):Lt c s x N (Zcw c s x):=by
 have n1:=hI.n1;unfold Zcw;rw[ZcR,ZcR,ZcR,Zad];split
 .split
  .rw[no35,Zao];exact Lt.same hx hI hN _
  .have cG:(⟨x.fNet,x.fNum⟩ : Zac).ok:=⟨hx.2.2.1,hx.2.2.2.2.1,trivial⟩;have fA:=ZDI s.fBans ⟨x.fNet,x.fNum⟩ c.fMaxBans;obtain⟨z1,b,i1,b1⟩:=Zsk hx hI hN (bans:=(addB s.fBans ⟨x.fNet,x.fNum⟩ c.fMaxBans).1) ⟨ZDH hI.bans cG _,by omega⟩ hx.2.2.1.1;rw[Zrc _ _ _ (by omega) cG,Zao,b,Zao,no35,Zao];cases h0:((addB s.fBans ⟨x.fNet,x.fNum⟩ c.fMaxBans).2 != 0)with
   |true=>rw[cond_true];exact Lt.same hx hI hN _
   |false=>
    rw[cond_false];refine⟨_,rfl,i1,.inr (.inl ⟨_,cG,?_,b1⟩)⟩;rw[bne_eq_false_iff_eq]at h0;exact h0
 split
 .rename_i d;have fA:=ZIm s.fBans x.fNet;rw[Zyx _ _ (by omega),Zao,no35,Zao,Zao,ZcR];split
  .rename_i h0;exact⟨_,rfl,ZCX hx hI hN (ZIl hI.bans _) (by omega),.inr (.inr (.inl ⟨d,h0,rfl⟩))⟩
  .exact Lt.same hx hI hN _
 split
 .rw[(ZjG s.fBans x.fEnd.fAddr x.fNow (by unfold maxLen;omega) hI.bans hx.2.1.1).2,Zao];exact Lt.same hx hI hN _
 .have fA:=ZDR s.fBans x.fNow;rw[Zyv _ _ (by omega),Zao];exact⟨_,rfl,ZCX hx hI hN (fun e f=>hI.bans e (List.mem_filter.1 f).1) (by show (ZkD s.fBans x.fNow).length<=N+1;omega),.inr (.inr (.inr ⟨by omega,rfl⟩))⟩
theorem ZwZ:ZmU ⟨s.fBook,s.fPeers,s.fBans⟩:=⟨by show s.fBook.length<=900;have:=hI.n2;omega,by show s.fPeers.length<=900;have:=hI.n3;omega,by show s.fBans.length<=900;have:=hI.n1;omega,hI.book,hI.peers,hI.bans⟩
theorem ZEX:Lt c s x N (ZfW c s x):=by
 have n1:=hI.n1;have n2:=hI.n2;have n3:=hI.n3;have b:=ZwZ hx hI hN;unfold ZfW;rw[ZsS s (by omega) (by omega),Zao,Zad];split
 .rw[no35,Zao];exact Lt.same hx hI hN _
 obtain⟨_,d,f⟩:=ZAR b x.fNow;have g:=(ZAt b x.fNow).2;have fo:ZfY s.fBook s.fPeers s.fBans x.fNow=_:=d;have hQ:ZfX s.fBook x.fNow=_:=g;rw[fo,Zao,hQ,Zao];cases h:(Zhu ⟨s.fBook,s.fPeers,s.fBans⟩ x.fNow).2 with
 |false=>rw[Bool.not_false,cond_true];exact Lt.same hx hI hN _
 |true=>
  have h0:=f h;have hlt:=Zph s.fBook (Zhu ⟨s.fBook,s.fPeers,s.fBans⟩ x.fNow).1;have ed:∀e,Zep e 2=some (stE e 2):=fun e=>rfl;rw[Bool.not_true,cond_false,Zoa _ _ (by unfold maxLen;omega),Zao,Zai ⟨h0,hlt⟩,ed,Zao,Zmv _ _ (by omega),Zao];exact⟨_,rfl,ZnC hx hI hN (ZFU (hI.book _ (ZdM _ _ _ (by have h0':0<=ZfD s.fBook (Zhu ⟨s.fBook,s.fPeers,s.fBans⟩ x.fNow).1:=h0;omega))) 2 rfl),.inl rfl⟩
theorem Lt.fin{r:Option (Zak×Zal)}(h:Lt c s x N r):Lt c s x N (r.bind fun y=>some (y.1,y.2)):=by
 obtain⟨y,rfl,b,hb⟩:=h;exact⟨y,rfl,b,hb⟩
theorem Zxy:Lt c s x N (Zcp c s x):=by
 have n2:=hI.n2;unfold Zcp;rw[Zlg x hx,Zao];cases e:Zjs x with
 |false=>rw[Bool.not_false,cond_true,no35,Zao];exact Lt.same hx hI hN _
 |true=>
  rw[Bool.not_true,cond_false,ZsF hx hI hN];simp only[ZcR];split
  .exact⟨_,rfl,ZFo hx hI hN,.inl (ZCn c s x)⟩
  split
  .exact Lt.fin hx hI hN (ZEX hx hI hN)
  split
  .exact Lt.fin hx hI hN (Zyo hx hI hN)
  split
  .exact Lt.fin hx hI hN (ZCi hx hI hN)
  have b:∀v:Bool,(v=true->x.fKind=6\/x.fKind=7\/x.fKind=8\/x.fKind=9)->Lt c s x N (Zbv x.fKind v c s x ⟨[],[],[]⟩ repZ):=fun v d=>by
   unfold Zbv;cases v with
   |true=>rw[cond_true];exact Lt.fin hx hI hN (ZFl hx hI hN (d rfl))
   |false=>
    rw[cond_false,ZcR,ZcR];split
    .exact Lt.same hx hI hN _
    split
    .have en:ZgH x.fEnd x.fNow=some (newE x):=by unfold ZgH;rw[ZiI];rfl
     have fA:=ZLA s.fBook (newE x) c.fMaxBook;rw[en,Zao,ZGs _ _ _ (by omega) (Ztj hx),Zao,no35,Zao,Zao,ZcR];split
     .exact⟨_,rfl,ZCW hx hI hN (ZLz hI.book (Ztj hx) _) (by omega) (ZIZ hI.srt _ _),.inl rfl⟩
     .exact Lt.same hx hI hN _
    .exact Lt.fin hx hI hN (ZAS hx hI hN)
  split
  .rename_i h;exact b _ fun _=>.inl h
  split
  .rename_i h;exact b _ fun _=>.inr (.inl h)
  split
  .rename_i h;exact b _ fun _=>.inr (.inr (.inl h))
  .exact b _ fun h=>.inr (.inr (.inr (beq_iff_eq.1 h)))
end
theorem ZKu:cA 0 ⟨[],[],[]⟩:=⟨fun b h=>(by cases h),fun b h=>(by cases h),fun b h=>(by cases h),List.Pairwise.nil,Nat.le_refl _,Nat.le_refl _,Nat.le_refl _,List.Pairwise.nil⟩
theorem ZsC(l:List Zaa)(h:l.length<=10000):Zav l=some l:=by
 unfold Zav;rw[Zai ⟨by omega,by unfold maxLen;omega⟩]
theorem Zuo(l:List Zaa)(i:Int)(e:Zaa)(h:l.length<=10000)(h0:0<=i)(b:i.toNat<=l.length):ZaR l i [e]=some (l.take i.toNat++[e]++l.drop i.toNat):=by
 unfold ZaR;rw[Zai ⟨h0,b,by simp,by simp only[List.length_cons,List.length_nil];omega,by simp only[List.length_cons,List.length_nil,maxLen];omega⟩]
theorem ZBY(l:List Zaa)(i:Nat)(h:l.length<=10000)(b:i<l.length):Zdd l (i:Int) ((i+1:Nat):Int)=some (l.take i++l.drop (i+1)):=by
 unfold Zdd;have fA:(appL l i (i+1) (l.length-(i+1))).length=l.length:=ZxH l i (i+1) (l.length-(i+1)) ⟨by omega,by omega⟩;rw[Zai ⟨by omega,by omega,by omega,by omega⟩,show ((i:Int)==((i+1:Nat):Int))=false by rw[beq_eq_false_iff_ne];omega,cond_false];simp only[Int.toNat_natCast,Nat.zero_add];rw[Zai ⟨by omega,by omega,by omega⟩,Zai ⟨by omega,by omega,by omega⟩,Zai ⟨by omega,by omega⟩,Zai ⟨by omega,by omega,by omega⟩,Zai (by rw[fA];omega),Zai (by rw[ZnS _ _ _ _ (by rw[fA];omega),fA];omega)];congr 1;unfold ZdA;rw[List.append_assoc,List.take_append_of_le_length (by simp[fA];omega),List.take_take,Nat.min_self];unfold appL;rw[List.take_append_of_le_length (by simp;omega),List.take_of_length_le (by simp;omega)];congr 1;rw[List.take_of_length_le (by simp)]
theorem Zvz(l:List Zaa)(e:Zah)(h:l.length<=10000){k:Nat}(b:k<l.length)(f:ZgP l e=(k:Int)):ZiM l e=some (butK l k,0):=by
 have d:l.length<=maxLen:=by unfold maxLen;omega
 unfold ZiM;rw[Zja l e d,Zao,Zad,f,if_neg (by omega),ZsC l h,Zao,add1 b d,ZBY l k h b,Zao];rfl
def ZAd(l:List Zaa)(e:Zah):Int:=ixOf (fun x=>decide (0<cmpE x.fEnd e)) l 0
theorem ZAy(l:List Zaa)(p:Zaa)(hl:l.length<=maxLen):Zco l p=some (ZAd l p.fEnd):=by
 simp only[Zco];rw[show ((0:Int))=((0:Nat):Int)from rfl];rw[ZlR l Zaa.d (fun x=>decide (0<cmpE x.fEnd p.fEnd)) hl (fun fu i=>Zbe l p fu (l.length:Int) i) (fun i=>i) ?_ ?_ _ 0 (by omega) (by omega)]
 .rfl
 .intro fu i b;simp only[Zbe,Zol,ZeK,ZpJ,Zad,Option.bind_some];rw[if_pos (by omega),Zai ⟨by omega,by omega⟩];simp
 .intro fu;simp only[Zbe,Zad];rw[if_neg (by omega)]
theorem ZyC{l:Prs}(e:bg l)(p:Zaa){i:Nat}(n:i<=l.length)(f:∀y∈l.take i,¬0<cmpE y.fEnd p.fEnd)(g:i<l.length->0<cmpE (l.getD i Zaa.d).fEnd p.fEnd):l.take i++[p]++l.drop i=mrg l [p]:=by
 have hlt:∀y∈l.take i,ltP p y=false:=fun y b=>by
  rw[Zqc];intro h;exact f y b (ZfE.2 h)
 have mh:∀y∈l.drop i,ltP p y=true:=fun y b=>by
  by_cases hl:i<l.length
  .have hx:ltP p (l.getD i Zaa.d)=true:=by rw[Zlj];exact ZfE.1 (g hl)
   rw[Zdl l Zaa.d i hl]at b;rcases List.mem_cons.1 b with q|q
   .rw[q];exact hx
   .have ju:bg (l.drop i):=List.Pairwise.sublist (List.drop_sublist _ _) e;rw[Zdl l Zaa.d i hl]at ju;have j:=(List.pairwise_cons.1 ju).1 y q;exact Zuf hx j
  .rw[List.drop_eq_nil_of_le (by omega)]at b;cases b
 have:=Zud hlt mh;rw[List.take_append_drop]at this;rw[this];simp
theorem ZtV(n m:Int):ZgB n m=some (decide (0<=n)&&decide (n<=m)):=by
 unfold ZgB;rw[Zad];by_cases h:n>=0
 .rw[if_pos h,decide_eq_true (show 0<=n by omega),Bool.true_and]
 .rw[if_neg h,decide_eq_false (show ¬0<=n by omega),Bool.false_and]
theorem ZEV{x:Zam}(hx:x.ok)(b:Ziz x.fEnd=true):ZhA (ZnQ x)=some true:=by
 have d:=Zid x.fNow;have e:(decide (0<=fitI x.fNow)&&decide (fitI x.fNow<=1099511627776))=true:=by
  rw[Bool.and_eq_true,decide_eq_true_eq,decide_eq_true_eq];exact d
 unfold ZhA;simp only[ZnQ,ZpI _ hx.2.1,b,Zao,cond_true,ZtV,e];decide
theorem Zyc{l:Prs}(d:bg l)(hl:l.length<=10000){p:Zaa}(f:ZhA p=some true)(u:ZgP l p.fEnd<0):Zom l p=some (mrg l [p],0):=by
 have e:l.length<=maxLen:=by unfold maxLen;omega
 have jH:=ZpD (fun x:Zaa=>decide (0<cmpE x.fEnd p.fEnd)) l 0;have hle:=Zun (fun x:Zaa=>decide (0<cmpE x.fEnd p.fEnd)) l 0;unfold Zom;rw[f,Zao,Bool.not_true,cond_false,Zja l _ e,Zao,Zad,if_neg (by omega),ZAy l p e,Zao,ZsC l hl,Zao,Zao,Zad];by_cases b:ZAd l p.fEnd<0
 .rw[if_pos b,Zuo l _ p hl (by omega) (by simp),Zao];have hU:=(Zne (fun x:Zaa=>decide (0<cmpE x.fEnd p.fEnd)) l 0).1 b;rw[Int.toNat_natCast,ZyC d p (Nat.le_refl _) (fun y g h=>by
   have:=hU y (List.mem_of_mem_take g);rw[decide_eq_false_iff_not]at this;exact this h) (fun h=>by omega)]
 .obtain⟨k,v,A,⟨y,i,n⟩,o⟩:=Zma (fun x:Zaa=>decide (0<cmpE x.fEnd p.fEnd)) l 0 (by unfold ZAd at b;omega);have ek:ZAd l p.fEnd=(k:Int):=by unfold ZAd;omega
  rw[if_neg b,ek,Zuo l _ p hl (by omega) (by rw[Int.toNat_natCast];omega),Zao,Int.toNat_natCast];rw[ZyC d p (by omega) (fun z r h=>?_) (fun h=>by
   rw[List.getD_eq_getElem?_getD,i];exact of_decide_eq_true n)]
  obtain⟨j,t,rfl⟩:=List.getElem_of_mem r;have hj2:j<k:=by simp only[List.length_take]at t;omega
  obtain⟨w,w1,w2⟩:=o j hj2;rw[List.getElem_take,(List.getElem?_eq_some_iff.1 w1).2]at h;rw[decide_eq_false_iff_not]at w2;exact w2 h
section
variable {c:Zar} {s:Zak} {x:Zam} {N:Nat} (hx:x.ok) (hI:cA N s) (hN:N<=100)
include hx hI hN
theorem ZuP{l:Prs}(b:bg l)(hl:l.length<=1000)(d:Ziz x.fEnd=true)(e:ZgP l x.fEnd<0):ZdQ ⟨c,⟨s.fBans,s.fBook,l⟩,x⟩ true=some ⟨c,⟨s.fBans,s.fBook,mrg l [ZnQ x]⟩,x⟩:=by
 have en:Zms x.fEnd true x.fNow=some (ZnQ x):=by unfold Zms;rw[ZiH];rfl
 unfold ZdQ;dsimp only;rw[en,Zao,Zyc b (by omega) (ZEV hx d) e,Zao];rfl
theorem ZCm(f:Ziz x.fEnd=true):ZhV ⟨c,s,x⟩=some ((ZmT c s x).2,⟨c,(ZmT c s x).1,x⟩):=by
 have o:=hI.n1;have p:=hI.n3;have eu:Zdg ⟨c,s,x⟩=some (Zkw s.fBans x.fEnd.fAddr x.fNow,⟨c,s,x⟩):=by
  unfold Zdg;dsimp only;rw[(ZjG s.fBans x.fEnd.fAddr x.fNow (by unfold maxLen;omega) hI.bans hx.2.1.1).1,Zao]
 unfold ZhV ZmT;rw[eu,Zao,Zad];dsimp only;by_cases b:Zkw s.fBans x.fEnd.fAddr x.fNow>0
 .rw[if_pos b,if_pos b];rfl
 rw[if_neg b,if_neg b,Zja _ _ (by unfold maxLen;omega),Zao,Zad];by_cases d:ZgP s.fPeers x.fEnd>=0
 .rw[if_pos d,if_pos d];rfl
 have g:ZgP s.fPeers x.fEnd<0:=by omega
 rw[if_neg d,if_neg d,ZtE _ _ (by unfold maxLen;omega),Zao,Zad];by_cases h:cntP s.fPeers true>=c.fMaxIn
 .rw[if_neg (by omega),if_pos h,(ZuV hx hI hN).1,Zao];cases j:(Zrp c s).2 with
  |false=>rw[Bool.not_false,cond_true,if_neg (by decide)];rfl
  |true=>
   obtain⟨k,e,i,_,_⟩:=ZBs hx hI hN (c:=c) j;have hb:=ZxB hx hI hN e;have hn2:ZgP (butK s.fPeers k) x.fEnd<0:=ZrG.2 fun q n=>ZrG.1 g q ((ZrS e).symm.mem_iff.1 (List.mem_cons_of_mem _ n));rw[Bool.not_true,cond_false,if_pos rfl,Zvz _ _ (by omega) e i,Zao,i,Int.toNat_natCast];dsimp only;rw[ZuP hx hI hN (ZoO (ZqT hI.str k)) (by omega) f hn2,Zao]
 .rw[if_pos (by omega),if_neg h];have:=ZuP hx hI hN (c:=c) (l:=s.fPeers) (ZoO hI.str) (by omega) f g;rw[this,Zao];rfl
end
theorem ZIO{l:List Zab}(h:SrtE l):∀{x y:Zab},x∈l->y∈l->x.fEnd=y.fEnd->x=y:=by
 unfold SrtE at h;induction h with
 |nil=>intro x y hx;cases hx
 |cons b _ ih=>
  intro x y hx hy e;rcases List.mem_cons.1 hx with hx|hx
  .rcases List.mem_cons.1 hy with hy|hy
   .rw[hx,hy]
   .have:=b y hy;rw[<-hx,ZgR.2 e]at this;exact absurd this (by decide)
  .rcases List.mem_cons.1 hy with hy|hy
   .have:=b x hx;rw[<-hy,ZgR.2 e.symm]at this;exact absurd this (by decide)
   .exact ih hx hy e
theorem ZEh{v:ZaC}(h:ZmU v)(e:Zah)(b:e.ok)(af:Int)(ho:Zqk v e af=true):Zkw v.fBans e.fAddr af=0:=by
 have u1:=(ZjG v.fBans e.fAddr af (by have:=h.bans;unfold maxLen;omega) h.bansOk b.1).1;have d:=Zqg v.fPeers v.fBook e.fAddr (by have:=h.peers;omega) (by have:=h.book;omega) h.peersOk h.bookOk b.1;have aM:ZdO v e af=some (!conn v.fPeers e&&(Zkw v.fBans e.fAddr af==0)&&ZHT v e.fAddr):=by
  simp only[ZdO,ZuO v e (by have:=h.peers;unfold maxLen;omega),u1,d,Option.bind_some];cases conn v.fPeers e
  .simp only[Bool.not_false,cond_true,Bool.true_and];cases(Zkw v.fBans e.fAddr af==(0:Int))
   .rfl
   .simp only[cond_true,Bool.true_and];rfl
  .rfl
 unfold Zqk at ho;rw[aM]at ho;simp only[Option.getD_some,Bool.and_eq_true,Bool.not_eq_true',beq_iff_eq]at ho;exact ho.1.2
def vwO(s:Zak):ZaC:=⟨s.fBook,s.fPeers,s.fBans⟩
def ZBX(c:Zar)(s:Zak)(af:Int):Zak×Zal:=if cntP s.fPeers false+ZlW s.fBook 2>=c.fMaxOut then(s,ZqZ 5)else if(Zhu (vwO s) af).2=true then(⟨s.fBans,setS s.fBook (stE (entA s.fBook (Zhu (vwO s) af).1) 2),s.fPeers⟩,⟨0,(Zhu (vwO s) af).1,0,0,[]⟩)else(s,⟨6,endZ,0,ZAu (vwO s) af,[]⟩)
section
variable {c:Zar} {s:Zak} {x:Zam} {N:Nat} (hx:x.ok) (hI:cA N s) (hN:N<=100)
include hx hI hN
theorem ZzG:Zhq ⟨c,s,x⟩=some ((ZBX c s x.fNow).2,⟨c,(ZBX c s x.fNow).1,x⟩):=by
 have n2:=hI.n2;have n3:=hI.n3;have b:ZmU (vwO s):=ZwZ hx hI hN;have i:=ZIA s.fPeers false;have j:=List.countP_le_length (p:=fun x:Zab=>decide (x.fState=2)) (l:=s.fBook);have n:0<=ZlW s.fBook 2/\ZlW s.fBook 2<=100:=by unfold ZlW;omega
 have ed:ZiO s=some (cntP s.fPeers false+ZlW s.fBook 2):=by
  unfold ZiO;rw[ZtE _ _ (by unfold maxLen;omega),Zao,ZFg _ _ (by unfold maxLen;omega),Zao,Zbh (by omega) (by omega)]
 obtain⟨e,_,f⟩:=ZAR b x.fNow;have g:=(ZAt b x.fNow).1;unfold Zhq ZBX;dsimp only;have fo:Zkt ⟨s.fBook,s.fPeers,s.fBans⟩ x.fNow=some (Zhu (vwO s) x.fNow):=e;have hQ:Zks ⟨s.fBook,s.fPeers,s.fBans⟩ x.fNow=some (ZAu (vwO s) x.fNow):=g;rw[ed,Zao,Zad];by_cases ho:cntP s.fPeers false+ZlW s.fBook 2>=c.fMaxOut
 .rw[if_pos ho,if_pos ho];rfl
 rw[if_neg ho,if_neg ho,fo,Zao,hQ,Zao];cases h:(Zhu (vwO s) x.fNow).2 with
 |false=>rw[Bool.not_false,cond_true,if_neg (by decide)];rfl
 |true=>
  have h0:0<=ZfD s.fBook (Zhu (vwO s) x.fNow).1:=f h;have hlt:=Zph s.fBook (Zhu (vwO s) x.fNow).1;have ef:Zqy (s.fBook.getD (ZfD s.fBook (Zhu (vwO s) x.fNow).1).toNat Zab.d)=some (stE (entA s.fBook (Zhu (vwO s) x.fNow).1) 2):=rfl;rw[Bool.not_true,cond_false,if_pos rfl,ZrT _ _ (by unfold maxLen;omega),Zao,Zai ⟨h0,hlt⟩,ef,Zao,Ztz _ _ (by omega),Zao]
end
theorem ZMD{v:ZaC}(h:ZmU v)(n:SrtE v.fBook)(af:Int):((Zhu v af).2=true/\0<=ZfD v.fBook (Zhu v af).1/\(entA v.fBook (Zhu v af).1).fEnd=(Zhu v af).1/\entA v.fBook (Zhu v af).1∈v.fBook/\mayS v af (entA v.fBook (Zhu v af).1)=true/\∀y∈v.fBook,mayS v af y=true->(entA v.fBook (Zhu v af).1).fNext<=y.fNext) \/
  ((Zhu v af).2=false/\∀y∈v.fBook,mayS v af y=false):=by
 obtain⟨e,ok,o,p⟩:=ZzH h af;have r:=ZvO p;have t:Zhu v af=(e,ok):=by unfold Zhu;rw[o];rfl
 rw[t];rcases r with⟨d,x,f,b,u,A⟩|⟨d,_,b⟩
 .have g:0<=ZfD v.fBook e:=by
   have:¬ZfD v.fBook e<0:=fun h=>Zuz.1 h x f b;omega
  obtain⟨i,j⟩:=ZLi g;have hx:entA v.fBook e=x:=ZIO n j f (i.trans b.symm);refine .inl ⟨d,g,i,j,by rw[hx];exact u,fun y B C=>?_⟩;have:=ZpC.1 (A y B C);show (entA v.fBook e).fNext<=y.fNext;rw[hx];omega
 .exact .inr ⟨d,b⟩
section
variable {c:Zar} {s:Zak} {N:Nat} (hI:cA N s) (hN:N<=100) {af:Int} (mi:okI .i64 af) (h0:0<=af/\af<=1099511627776)
include hI hN mi h0
end
theorem Zxj(i j:Nat)(h:i+j<=10000000):IntKind.wrap .i64 (Int.fdiv (IntKind.wrap .u64 (Zan (i:Int) (j:Int))) (2 ^ (min (1:Int).toNat (IntKind.bits .u64))))=(((i+j) / 2:Nat):Int):=by
 have b:Zan (i:Int) (j:Int)=((i+j:Nat):Int):=by rw[Zbh (by omega) (by omega)];omega
 have d:IntKind.wrap .u64 ((i+j:Nat):Int)=((i+j:Nat):Int):=by
  simp only[IntKind.wrap,IntKind.bits,IntKind.signed];simp;omega
 have e:(2:Int) ^ (min (1:Int).toNat (IntKind.bits .u64))=2:=rfl;rw[b,d,e,Int.fdiv_eq_ediv_of_nonneg _ (by omega),ZfJ (by omega) (by omega)];omega
theorem ZCN{x y z:Zaa}(b:ltP z x=true)(d:ltP z y=false):ltP y x=true:=by
 cases h:ltP y x with
 |true=>rfl
 |false=>rw[Zmy d h]at b;cases b
theorem ZMK(x:Zaa):ltP x x=false:=by rw[Zqc,ZgR.2 rfl];omega
theorem Zno{Y:Prs}(h:bg Y){i j:Nat}(f:i<=j)(b:j<Y.length):ltP (Y.getD j Zaa.d) (Y.getD i Zaa.d)=false:=by
 by_cases e:i=j
 .rw[e];exact ZMK _
 .rw[ZbL Y _ j b,ZbL Y _ i (by omega)];exact List.pairwise_iff_getElem.1 h i j (by omega) b (by omega)
theorem Ztb{Y:Prs}{k:Nat}{y:Zaa}(h:y∈Y.take k):∃i,i<k/\i<Y.length/\y=Y.getD i Zaa.d:=by
 obtain⟨i,b,rfl⟩:=List.getElem_of_mem h;rw[List.length_take]at b;exact⟨i,by omega,by omega,by rw[ZbL Y _ i (by omega),List.getElem_take]⟩
theorem Ztw{Y:Prs}{k:Nat}{y:Zaa}(h:y∈Y.drop k):∃i,k<=i/\i<Y.length/\y=Y.getD i Zaa.d:=by
 obtain⟨i,b,rfl⟩:=List.getElem_of_mem h;rw[List.length_drop]at b;exact⟨k+i,by omega,by omega,by rw[ZbL Y _ (k+i) (by omega),List.getElem_drop]⟩
theorem ZDk{P Y Q:Prs}{i k:Nat}(f:k=P.length+i)(b:i<Y.length):(P++(Y++Q)).getD k Zaa.d=Y.getD i Zaa.d:=by
 have:=Zdl Y Zaa.d i b;have e:P++(Y++Q)=(P++Y.take i)++Y.getD i Zaa.d :: (Y.drop (i+1)++Q):=by
  rw[List.append_assoc,<-List.cons_append,<-this,<-List.append_assoc (Y.take i),List.take_append_drop]
 exact Zqd e (by simp;omega)
theorem mv1(P R:Prs)(x:Zaa)(ki:Int)(k:Int->Int->Prs->Option Prs):∀(Y2 Y1:Prs)(fu:Nat),Y2.length+1<=fu->P.length+Y1.length+Y2.length+R.length<=900000 ->
  Zbr (P.length:Int) ((P.length+Y1.length+Y2.length+1:Nat):Int) ki k fu ((P.length+Y1.length:Nat):Int) (P++(Y1++(x :: (Y2++R))))=some (P++(Y1++(Y2++(x :: R)))):=by
 intro Y2;induction Y2 with
 |nil=>
  intro Y1 fu b hb;obtain⟨fu,rfl⟩ : ∃x,fu=x+1:=⟨fu-1,by omega⟩;unfold Zbr;simp only[List.length_nil,Nat.add_zero];rw[Zad,if_neg (by rw[Zbp (by omega) (by omega)];omega)];rfl
 |cons y Y2 ih=>
  intro Y1 fu b hb;obtain⟨fu,rfl⟩ : ∃x,fu=x+1:=⟨fu-1,by omega⟩;simp only[List.length_cons]at b hb ⊢;have e:Zan ((P.length+Y1.length:Nat):Int) 1=((P.length+Y1.length+1:Nat):Int):=by rw[Zbh (by omega) (by omega)];omega
  have hl:(P++(Y1++(x :: (y :: Y2++R)))).length=P.length+Y1.length+Y2.length+R.length+2:=by simp;omega
  unfold Zbr;rw[Zad,if_pos (by rw[Zbp (by omega) (by omega)];omega),e,Zai (by rw[hl];omega),Zai (by rw[hl];omega)];simp only[Int.toNat_natCast];have f:(P++(Y1++(x :: (y :: Y2++R)))).getD (P.length+Y1.length+1) Zaa.d=y:=Zqd (L:=P++(Y1++[x])) (R:=Y2++R) (by simp) (by simp;omega);have g:(P++(Y1++(x :: (y :: Y2++R)))).getD (P.length+Y1.length) Zaa.d=x:=Zqd (L:=P++Y1) (R:=y :: (Y2++R)) (by simp) (by simp);have s1:(P++(Y1++(x :: (y :: Y2++R)))).set (P.length+Y1.length) y=P++(Y1++(y :: (y :: Y2++R))):=by
   rw[ZsI (L:=P++Y1) (x:=x) (R:=y :: (Y2++R)) (by simp) (by simp)];simp
  have s2:(P++(Y1++(y :: (y :: Y2++R)))).set (P.length+Y1.length+1) x=P++(Y1++(y :: (x :: (Y2++R)))):=by
   rw[ZsI (L:=P++(Y1++[y])) (x:=y) (R:=Y2++R) (by simp) (by simp;omega)];simp
  rw[f,g,s1,s2];have:=ih (Y1++[y]) fu (by omega) (by simp only[List.length_append,List.length_singleton];omega);simp only[List.length_append,List.length_singleton,List.append_assoc,List.singleton_append]at this;have x1:P.length+(Y1.length+1)+Y2.length+1=P.length+Y1.length+(Y2.length+1)+1:=by omega
  have x2:P.length+(Y1.length+1)=P.length+Y1.length+1:=by omega
  rw[x1,x2]at this;exact this
theorem bs1(P Y Q:Prs)(x:Zaa)(p:bg Y)(hb:P.length+Y.length+Q.length<=800000):∀(s lo b fu:Nat),b-lo<=s->lo<=b->b<=Y.length->s+1<=fu->(∀y∈Y.take lo,ltP y x=true)->(∀y∈Y.drop b,ltP y x=false) ->
  ZaF (P.length:Int) fu ((P.length+1+lo:Nat):Int) ((P.length+1+b:Nat):Int) (P++(x :: (Y++Q)))=some (P++(mrg [x] Y++Q)):=by
 intro s;have fin:∀(lo b fu:Nat),lo=b->b<=Y.length->(∀y∈Y.take lo,ltP y x=true)->(∀y∈Y.drop b,ltP y x=false) ->
   ZaF (P.length:Int) (fu+1) ((P.length+1+lo:Nat):Int) ((P.length+1+b:Nat):Int) (P++(x :: (Y++Q)))=some (P++(mrg [x] Y++Q)):=by
  intro lo b fu e t n f;subst e;unfold ZaF;rw[Zad,if_neg (by omega)];have ho:=ZMF n f;rw[List.take_append_drop]at ho;have:=mv1 P (Y.drop lo++Q) x ((P.length+1+lo:Nat):Int) (ZaF (P.length:Int) fu) (Y.take lo) [] 1000000 (by simp;omega) (by simp;omega);simp only[List.length_take,Nat.min_eq_left t,List.length_nil,Nat.add_zero,List.nil_append]at this;rw[<-List.append_assoc (Y.take lo),List.take_append_drop,show P.length+lo+1=P.length+1+lo by omega]at this;rw[this,ho];simp
 induction s with
 |zero=>
  intro lo b fu h0 n f u g h;obtain⟨fu,rfl⟩ : ∃x,fu=x+1:=⟨fu-1,by omega⟩;exact fin lo b fu (by omega) f g h
 |succ s ih=>
  intro lo b fu h0 n f u g h;obtain⟨fu,rfl⟩ : ∃x,fu=x+1:=⟨fu-1,by omega⟩;by_cases e:lo=b
  .exact fin lo b fu e f g h
  .have v:(P.length+1+lo+(P.length+1+b)) / 2=P.length+1+(lo+b) / 2:=by omega
   have r:(lo+b) / 2<Y.length:=by omega
   have hl:(P++(x :: (Y++Q))).length=P.length+1+Y.length+Q.length:=by simp;omega
   unfold ZaF;rw[Zad,if_pos (by omega),Zxj _ _ (by omega),v,Zai (by rw[hl];omega),Zai (by rw[hl];omega)];simp only[Int.toNat_natCast];have A:(P++(x :: (Y++Q))).getD (P.length+1+(lo+b) / 2) Zaa.d=Y.getD ((lo+b) / 2) Zaa.d:=by
    have:=ZDk (P:=P++[x]) (Y:=Y) (Q:=Q) (i:=(lo+b) / 2) (k:=P.length+1+(lo+b) / 2) (by simp) r;simpa using this
   rw[A,ZHQ,Zth,Zao,Zad];have B:Zan ((P.length+1+(lo+b) / 2:Nat):Int) 1=((P.length+1+((lo+b) / 2+1):Nat):Int):=by rw[Zbh (by omega) (by omega)];omega
   by_cases j:cmpE (Y.getD ((lo+b) / 2) Zaa.d).fEnd x.fEnd<0
   .rw[if_pos j,B];refine ih _ _ fu (by omega) (by omega) f (by omega) (fun y o=>?_) h;obtain⟨i,i1,i2,rfl⟩:=Ztb o;exact ZCN (Zlj.2 j) (Zno p (by omega) r)
   .rw[if_neg j];refine ih _ _ fu (by omega) (by omega) (by omega) (by omega) g (fun y o=>?_);obtain⟨i,i1,i2,rfl⟩:=Ztw o;exact Zmy (Zno p i1 i2) (Zqc.2 j)
theorem mv2(P Q:Prs)(y:Zaa)(e mj:Int)(k:Int->Int->Prs->Option Prs):∀(n:Nat)(T U:Prs)(fu:Nat),T.length=n->n+1<=fu->P.length+T.length+U.length+Q.length<=900000 ->
  Zbq e (P.length:Int) mj k fu ((P.length+n:Nat):Int) (P++(T++(y :: (U++Q))))=some (P++(y :: (T++(U++Q)))):=by
 intro n;induction n with
 |zero=>
  intro T U fu b f hb;obtain⟨fu,rfl⟩ : ∃x,fu=x+1:=⟨fu-1,by omega⟩;obtain rfl:=List.eq_nil_of_length_eq_zero b;unfold Zbq;rw[Zad,if_neg (by omega)];rfl
 |succ n ih=>
  intro T U fu b f hb;obtain⟨fu,rfl⟩ : ∃x,fu=x+1:=⟨fu-1,by omega⟩;obtain⟨T,s,rfl⟩:=snoc T (by omega);have g:T.length=n:=by simpa using b
  simp only[List.length_append,List.length_singleton]at hb;have h:Zaz ((P.length+(n+1):Nat):Int) 1=((P.length+n:Nat):Int):=by rw[Zbp (by omega) (by omega)];omega
  have hl:(P++(T++[s]++(y :: (U++Q)))).length=P.length+(n+1)+1+U.length+Q.length:=by simp;omega
  unfold Zbq;rw[Zad,if_pos (by omega),h,Zai (by rw[hl];omega),Zai (by rw[hl];omega)];simp only[Int.toNat_natCast];have i:(P++(T++[s]++(y :: (U++Q)))).getD (P.length+(n+1)) Zaa.d=y:=Zqd (L:=P++(T++[s])) (R:=U++Q) (by simp) (by simp;omega);have j:(P++(T++[s]++(y :: (U++Q)))).getD (P.length+n) Zaa.d=s:=Zqd (L:=P++T) (R:=y :: (U++Q)) (by simp) (by simp;omega);have s1:(P++(T++[s]++(y :: (U++Q)))).set (P.length+(n+1)) s=P++(T++(s :: (s :: (U++Q)))):=by
   rw[ZsI (L:=P++(T++[s])) (x:=y) (R:=U++Q) (by simp) (by simp;omega)];simp
  have s2:(P++(T++(s :: (s :: (U++Q))))).set (P.length+n) y=P++(T++(y :: (s :: U++Q))):=by
   rw[ZsI (L:=P++T) (x:=s) (R:=s :: (U++Q)) (by simp) (by simp;omega)];simp
  rw[i,j,s1,s2,ih T (s :: U) fu g (by omega) (by simp only[List.length_cons];omega)];simp
theorem bs2(P X Q:Prs)(y:Zaa)(o:bg X)(hb:P.length+X.length+Q.length<=800000):∀(s lo b fu:Nat),b-lo<=s->lo<=b->b<=X.length->s+1<=fu->(∀x∈X.take lo,ltP y x=false)->(∀x∈X.drop b,ltP y x=true) ->
  ZaE ((P.length+X.length:Nat):Int) fu ((P.length+lo:Nat):Int) ((P.length+b:Nat):Int) (P++(X++(y :: Q)))=some (P++(mrg X [y]++Q)):=by
 intro s;have fin:∀(lo b fu:Nat),lo=b->b<=X.length->(∀x∈X.take lo,ltP y x=false)->(∀x∈X.drop b,ltP y x=true) ->
   ZaE ((P.length+X.length:Nat):Int) (fu+1) ((P.length+lo:Nat):Int) ((P.length+b:Nat):Int) (P++(X++(y :: Q)))=some (P++(mrg X [y]++Q)):=by
  intro lo b fu e r n f;subst e;unfold ZaE;rw[Zad,if_neg (by omega)];have ho:=Zud n f;rw[List.take_append_drop]at ho;have:=mv2 (P++X.take lo) Q y ((P.length+X.length:Nat):Int) ((P.length+lo:Nat):Int) (ZaE ((P.length+X.length:Nat):Int) fu) (X.length-lo) (X.drop lo) [] ((((P.length+X.length:Nat):Int)-((P.length+lo:Nat):Int)).toNat+2) (by simp) (by omega) (by simp;omega);simp only[List.length_append,List.length_take,Nat.min_eq_left r,List.nil_append,List.append_assoc]at this;rw[<-List.append_assoc (X.take lo) (X.drop lo),List.take_append_drop,show P.length+lo+(X.length-lo)=P.length+X.length by omega]at this;rw[this,ho];simp
 induction s with
 |zero=>
  intro lo b fu h0 n f t g h;obtain⟨fu,rfl⟩ : ∃x,fu=x+1:=⟨fu-1,by omega⟩;exact fin lo b fu (by omega) f g h
 |succ s ih=>
  intro lo b fu h0 n f t g h;obtain⟨fu,rfl⟩ : ∃x,fu=x+1:=⟨fu-1,by omega⟩;by_cases e:lo=b
  .exact fin lo b fu e f g h
  .have u:(P.length+lo+(P.length+b)) / 2=P.length+(lo+b) / 2:=by omega
   have p:(lo+b) / 2<X.length:=by omega
   have hl:(P++(X++(y :: Q))).length=P.length+X.length+1+Q.length:=by simp;omega
   unfold ZaE;rw[Zad,if_pos (by omega),Zxj _ _ (by omega),u,Zai (by rw[hl];omega),Zai (by rw[hl];omega)];simp only[Int.toNat_natCast];have v:(P++(X++(y :: Q))).getD (P.length+(lo+b) / 2) Zaa.d=X.getD ((lo+b) / 2) Zaa.d:=ZDk rfl p;have A:(P++(X++(y :: Q))).getD (P.length+X.length) Zaa.d=y:=Zqd (L:=P++X) (R:=Q) (by simp) (by simp);rw[v,A,Zth,Zao];have B:Zan ((P.length+(lo+b) / 2:Nat):Int) 1=((P.length+((lo+b) / 2+1):Nat):Int):=by rw[Zbh (by omega) (by omega)];omega
   by_cases j:cmpE y.fEnd (X.getD ((lo+b) / 2) Zaa.d).fEnd<0
   .rw[decide_eq_true j,Bool.not_true,cond_false];refine ih _ _ fu (by omega) (by omega) (by omega) (by omega) g (fun x hx=>?_);obtain⟨i,i1,i2,rfl⟩:=Ztw hx;exact Zuf (Zlj.2 j) (Zno o i1 i2)
   .rw[decide_eq_false j,Bool.not_false,cond_true,B];refine ih _ _ fu (by omega) (by omega) f (by omega) (fun x hx=>?_) h;obtain⟨i,i1,i2,rfl⟩:=Ztb hx;exact Zmy (Zqc.2 j) (Zno o (by omega) p)
def Mg(gr:Prs->Int->Int->Int->Option Prs)(N:Nat):Prop:=∀(P X Y Q:Prs),0<X.length->0<Y.length->bg X->bg Y->X.length+Y.length<=N->P.length+X.length+Y.length+Q.length<=700000->gr (P++(X++(Y++Q))) (P.length:Int) ((P.length+X.length:Nat):Int) ((P.length+X.length+Y.length:Nat):Int)=some (P++(mrg X Y++Q))
theorem c7_eq{gr:Prs->Int->Int->Int->Option Prs}{N:Nat}(bF:Mg gr N)(P X Y Q:Prs)(hX:bg X)(hY:bg Y)(hN:X.length+Y.length<=N)(hb:P.length+X.length+Y.length+Q.length<=700000)(b d gC ml dw v22:Int)(k:Int->Int->Int->Prs->Option Prs) :
  ZaY b d ((P.length+X.length+Y.length:Nat):Int) gr (P.length:Int) gC ml dw v22 ((P.length+X.length:Nat):Int) k (P++(X++(Y++Q)))=some (P++(mrg X Y++Q)):=by
 unfold ZaY;rw[Zad,Zad];by_cases e:X.length=0
 .rw[if_neg (by omega)];obtain rfl:=List.eq_nil_of_length_eq_zero e;rw[ZfR];rfl
 .rw[if_pos (by omega)];by_cases f:Y.length=0
  .rw[if_neg (by omega)];obtain rfl:=List.eq_nil_of_length_eq_zero f;rw[Zkh];rfl
  .rw[if_pos (by omega),bF P X Y Q (by omega) (by omega) hX hY hN hb];rfl
theorem c6_eq{gr:Prs->Int->Int->Int->Option Prs}{N:Nat}(bF:Mg gr N)(P X1 Y1 X2 Y2 Q:Prs)(mn:bg X1)(mo:bg Y1)(dg:bg X2)(di:bg Y2)(mq:X1.length+Y1.length<=N)(mr:X2.length+Y2.length<=N)
  (hb:P.length+X1.length+Y1.length+X2.length+Y2.length+Q.length<=700000) (b gC dw v22:Int) (k:Int->Int->Int->Prs->Option Prs) :
  ZaJ (P.length:Int) b ((P.length+X1.length+Y1.length+X2.length+Y2.length:Nat):Int) gr ((P.length+X1.length+Y1.length:Nat):Int) gC ((P.length+X1.length:Nat):Int) dw v22 k ((P.length+X1.length+Y1.length+X2.length:Nat):Int) (P++(X1++(Y1++(X2++(Y2++Q))))) =
   some (P++(mrg X1 Y1++(mrg X2 Y2++Q))):=by
 have d:=ZGL _ X1 Y1 (Nat.le_refl _);have next:ZaY (P.length:Int) b ((P.length+X1.length+Y1.length+X2.length+Y2.length:Nat):Int) gr ((P.length+X1.length+Y1.length:Nat):Int) gC ((P.length+X1.length:Nat):Int) dw v22 ((P.length+X1.length+Y1.length+X2.length:Nat):Int) k (P++(mrg X1 Y1++(X2++(Y2++Q)))) =
   some (P++(mrg X1 Y1++(mrg X2 Y2++Q))):=by
  have:=c7_eq bF (P++mrg X1 Y1) X2 Y2 Q dg di mr (by simp only[List.length_append,d];omega) (P.length:Int) b gC ((P.length+X1.length:Nat):Int) dw v22 k;simp only[List.length_append,d,List.append_assoc]at this;rw[show P.length+(X1.length+Y1.length)=P.length+X1.length+Y1.length by omega]at this;exact this
 unfold ZaJ;rw[Zad,Zad];by_cases e:X1.length=0
 .rw[if_neg (by omega)];obtain rfl:=List.eq_nil_of_length_eq_zero e;rw[ZfR]at next ⊢
  exact next
 .rw[if_pos (by omega)];by_cases f:Y1.length=0
  .rw[if_neg (by omega)];obtain rfl:=List.eq_nil_of_length_eq_zero f;rw[Zkh]at next ⊢
   exact next
  .rw[if_pos (by omega),bF P X1 Y1 (X2++(Y2++Q)) (by omega) (by omega) mn mo mq (by simp only[List.length_append];omega),Zao];exact next
theorem bg.take{l:Prs}(h:bg l)(k:Nat):bg (l.take k):=List.Pairwise.sublist (List.take_sublist k l) h
theorem bg.drop{l:Prs}(h:bg l)(k:Nat):bg (l.drop k):=List.Pairwise.sublist (List.drop_sublist k l) h
section
variable {gr:Prs->Int->Int->Int->Option Prs} {N:Nat} (bF:Mg gr N) (P X Y Q:Prs) (hX:bg X) (hY:bg Y) (dg:0 < X.length) (di:0 < Y.length) (hN:X.length + Y.length<=N + 1) (hb:P.length + X.length + Y.length + Q.length<=700000)
 (mid s0 r0:Nat) (hmid:mid=(P.length+(P.length+X.length+Y.length)) / 2)
 (h0:(mid<P.length+X.length/\s0+(P.length+X.length+Y.length)=mid+(P.length+X.length)/\r0=mid)\/(P.length+X.length<=mid/\s0=P.length/\r0=P.length+X.length))
include bF hX hY dg di hN hb hmid h0
def okAt(P X Y:Prs)(mid c:Nat):Bool:=ltP (Y.getD (mid-1-c) Zaa.d) (X.getD (c-P.length) Zaa.d)
theorem ZOe(st:Nat)(r:s0<=st)(t:st<=r0)(jk:∀c,s0<=c->c<st->okAt P X Y mid c=false)(dR:∀c,st<=c->c<r0->okAt P X Y mid c=true)(dw v22:Int)(k:Int->Int->Int->Prs->Option Prs) :
  (bif(decide ((st:Int)<((P.length+X.length:Nat):Int)))then
    bif(decide (((P.length+X.length:Nat):Int)<(Zaz ((mid+(P.length+X.length):Nat):Int) (st:Int))))then
     (Zck (P++(X++(Y++Q))) (st:Int) ((P.length+X.length:Nat):Int) (Zaz ((mid+(P.length+X.length):Nat):Int) (st:Int))).bind fun x2=>
     ZaJ (P.length:Int) ((P.length+X.length:Nat):Int) ((P.length+X.length+Y.length:Nat):Int) gr (mid:Int) ((mid+(P.length+X.length):Nat):Int) (st:Int) dw v22 k (Zaz ((mid+(P.length+X.length):Nat):Int) (st:Int)) x2
    else
     ZaJ (P.length:Int) ((P.length+X.length:Nat):Int) ((P.length+X.length+Y.length:Nat):Int) gr (mid:Int) ((mid+(P.length+X.length):Nat):Int) (st:Int) dw v22 k (Zaz ((mid+(P.length+X.length):Nat):Int) (st:Int)) (P++(X++(Y++Q)))
   else
    ZaJ (P.length:Int) ((P.length+X.length:Nat):Int) ((P.length+X.length+Y.length:Nat):Int) gr (mid:Int) ((mid+(P.length+X.length):Nat):Int) (st:Int) dw v22 k (Zaz ((mid+(P.length+X.length):Nat):Int) (st:Int)) (P++(X++(Y++Q))))=some (P++(mrg X Y++Q)):=by
 have u:P.length<=st:=by omega
 have ma:st<=mid:=by omega
 have cn:st-P.length<=X.length:=by omega
 have hk2:mid-st<=Y.length:=by omega
 obtain⟨b,g⟩ : ∃b,st=P.length+b:=⟨st-P.length,by omega⟩;obtain⟨d,v⟩ : ∃d,mid=st+d:=⟨mid-st,by omega⟩;have ee:Zaz ((mid+(P.length+X.length):Nat):Int) (st:Int)=((P.length+X.length+d:Nat):Int):=by rw[Zbp (by omega) (by omega)];omega
 have hA:∀y∈Y.take d,∀x∈X.drop b,ltP y x=true:=by
  intro y e x hx;obtain⟨i,i1,i2,rfl⟩:=Ztb e;obtain⟨j,j1,j2,rfl⟩:=Ztw hx;have h:=dR st (Nat.le_refl _) (by omega);unfold okAt at h;rw[show mid-1-st=d-1 by omega,show st-P.length=b by omega]at h;exact Zuf (ZCN h (Zno hY (by omega) (by omega))) (Zno hX j1 j2)
 have n:∀x∈X.take b,∀y∈Y.drop d,ltP y x=false:=by
  intro x hx y e;obtain⟨i,i1,i2,rfl⟩:=Ztb hx;obtain⟨j,j1,j2,rfl⟩:=Ztw e;have h:=jk (st-1) (by omega) (by omega);unfold okAt at h;rw[show mid-1-(st-1)=d by omega,show st-1-P.length=b-1 by omega]at h;exact Zmy (Zmy (Zno hY j1 j2) h) (Zno hX (by omega) (by omega))
 have o:mrg X Y=mrg (X.take b) (Y.take d)++mrg (X.drop b) (Y.drop d):=by
  have:=ZoT _ (X.take b) (X.drop b) (Y.take d) (Y.drop d) (Nat.le_refl _) hA n;rwa [List.take_append_drop,List.take_append_drop]at this
 have l1:(X.take b).length=b:=by simp;omega
 have l2:(Y.take d).length=d:=by simp;omega
 have l3:(X.drop b).length=X.length-b:=by simp
 have l4:(Y.drop d).length=Y.length-d:=by simp
 have last:=c6_eq bF P (X.take b) (Y.take d) (X.drop b) (Y.drop d) Q (hX.take _) (hY.take _) (hX.drop _) (hY.drop _) (by omega) (by omega) (by omega) ((P.length+X.length:Nat):Int) ((mid+(P.length+X.length):Nat):Int) dw v22 k;rw[l1,l2,l3,l4,show P.length+b+d+(X.length-b)+(Y.length-d)=P.length+X.length+Y.length by omega,show P.length+b+d+(X.length-b)=P.length+X.length+d by omega,show P.length+b+d=mid by omega,<-g]at last;have f:P++(X++(Y++Q))=P++X.take b++(X.drop b++(Y.take d++(Y.drop d++Q))):=by
  rw[<-List.append_assoc (Y.take d),List.take_append_drop,List.append_assoc,<-List.append_assoc (X.take b),List.take_append_drop]
 have p:some (P++(mrg (X.take b) (Y.take d)++(mrg (X.drop b) (Y.drop d)++Q)))=some (P++(mrg X Y++Q)):=by rw[o,List.append_assoc]
 rw[p]at last;rw[ee,Zad,Zad];by_cases A:b<X.length
 .rw[if_pos (by omega)];by_cases B:0<d
  .rw[if_pos (by omega),f,ZNJ (P++X.take b) (X.drop b) (Y.take d) (Y.drop d++Q) (by omega) (by omega) (by simp only[List.length_append];omega) _ _ _ (by simp only[List.length_append];omega) (by simp only[List.length_append];omega) (by simp only[List.length_append];omega),Zao];simp only[List.append_assoc]at last ⊢;exact last
  .obtain rfl:d=0:=by omega
   rw[if_neg (by omega),f];simp only[List.append_assoc,List.take_zero,List.nil_append]at last ⊢;exact last
 .rw[if_neg (by omega),f,show b=X.length by omega];rw[show b=X.length by omega]at last;simp only[List.append_assoc,List.drop_length,List.nil_append]at last ⊢;exact last
end
section
variable {gr:Prs->Int->Int->Int->Option Prs} {N:Nat} (bF:Mg gr N) (P X Y Q:Prs) (hX:bg X) (hY:bg Y) (dg:0 < X.length) (di:0 < Y.length) (hN:X.length + Y.length<=N + 1) (hb:P.length + X.length + Y.length + Q.length<=700000)
 (mid s0 r0:Nat) (hmid:mid=(P.length+(P.length+X.length+Y.length)) / 2)
 (h0:(mid<P.length+X.length/\s0+(P.length+X.length+Y.length)=mid+(P.length+X.length)/\r0=mid)\/(P.length+X.length<=mid/\s0=P.length/\r0=P.length+X.length))
include bF hX hY dg di hN hb hmid h0
omit bF hN hb in
theorem ZyM{c c':Nat}(b:s0<=c')(d:c'<=c)(e:c<r0)(h:okAt P X Y mid c=false):okAt P X Y mid c'=false:=by
 unfold okAt at *
 exact Zmy (Zmy (Zno hY (by omega) (by omega)) h) (Zno hX (by omega) (by omega))
theorem ZIK:∀(s lo b fu:Nat),b-lo<=s->s0<=lo->lo<=b->b<=r0->s+1<=fu->(∀c,s0<=c->c<lo->okAt P X Y mid c=false)->(∀c,b<=c->c<r0->okAt P X Y mid c=true) ->
  ZaA (P.length:Int) ((P.length+X.length:Nat):Int) ((P.length+X.length+Y.length:Nat):Int) gr (mid:Int) ((mid+(P.length+X.length):Nat):Int) fu (lo:Int) (b:Int) ((mid+(P.length+X.length)-1:Nat):Int) (P++(X++(Y++Q)))=some (P++(mrg X Y++Q)):=by
 intro s;have fin:∀(lo fu:Nat),s0<=lo->lo<=r0->(∀c,s0<=c->c<lo->okAt P X Y mid c=false)->(∀c,lo<=c->c<r0->okAt P X Y mid c=true) ->
   ZaA (P.length:Int) ((P.length+X.length:Nat):Int) ((P.length+X.length+Y.length:Nat):Int) gr (mid:Int) ((mid+(P.length+X.length):Nat):Int) (fu+1) (lo:Int) (lo:Int) ((mid+(P.length+X.length)-1:Nat):Int) (P++(X++(Y++Q)))=some (P++(mrg X Y++Q)):=by
  intro lo fu f g r t;unfold ZaA;rw[Zad,if_neg (by omega)];exact ZOe bF P X Y Q hX hY dg di hN hb mid s0 r0 hmid h0 lo f g r t _ _ _
 induction s with
 |zero=>
  intro lo b fu u h v j y f g;obtain⟨fu,rfl⟩ : ∃x,fu=x+1:=⟨fu-1,by omega⟩;obtain rfl:lo=b:=by omega
  exact fin lo fu h j f g
 |succ s ih=>
  intro lo b fu u h v j y f g;obtain⟨fu,rfl⟩ : ∃x,fu=x+1:=⟨fu-1,by omega⟩;by_cases e:lo=b
  .subst e;exact fin lo fu h j f g
  .have t1:(lo+b) / 2<r0:=by omega
   have t2:s0<=(lo+b) / 2:=by omega
   have ep:Zaz ((mid+(P.length+X.length)-1:Nat):Int) (((lo+b) / 2:Nat):Int)=((P.length+X.length+(mid-1-(lo+b) / 2):Nat):Int):=by rw[Zbp (by omega) (by omega)];omega
   have hl:(P++(X++(Y++Q))).length=P.length+X.length+Y.length+Q.length:=by simp;omega
   have mt:Zan (((lo+b) / 2:Nat):Int) 1=(((lo+b) / 2+1:Nat):Int):=by rw[Zbh (by omega) (by omega)];omega
   unfold ZaA;rw[Zad,if_pos (by omega),Zxj _ _ (by omega),ep,Zai (by rw[hl];omega),Zai (by rw[hl];omega)];simp only[Int.toNat_natCast];have A:(P++(X++(Y++Q))).getD (P.length+X.length+(mid-1-(lo+b) / 2)) Zaa.d=Y.getD (mid-1-(lo+b) / 2) Zaa.d:=by
    have:=ZDk (P:=P++X) (Y:=Y) (Q:=Q) (i:=mid-1-(lo+b) / 2) (k:=P.length+X.length+(mid-1-(lo+b) / 2)) (by simp) (by omega);simpa using this
   have B:(P++(X++(Y++Q))).getD ((lo+b) / 2) Zaa.d=X.getD ((lo+b) / 2-P.length) Zaa.d:=ZDk (by omega) (by omega);rw[A,B,Zth,Zao,mt];by_cases n:cmpE (Y.getD (mid-1-(lo+b) / 2) Zaa.d).fEnd (X.getD ((lo+b) / 2-P.length) Zaa.d).fEnd<0
   .have ok:okAt P X Y mid ((lo+b) / 2)=true:=Zlj.2 n;rw[decide_eq_true n,Bool.not_true,cond_false];refine ih lo _ fu (by omega) h (by omega) (by omega) (by omega) f (fun c o p=>?_);cases q:okAt P X Y mid c with
    |true=>rfl
    |false=>
     have:=ZyM P X Y hX hY dg di mid s0 r0 hmid h0 t2 o p q;rw[ok]at this;cases this
   .have ok:okAt P X Y mid ((lo+b) / 2)=false:=Zqc.2 n;rw[decide_eq_false n,Bool.not_false,cond_true];exact ih _ b fu (by omega) (by omega) (by omega) j (by omega) (fun c o p=>ZyM P X Y hX hY dg di mid s0 r0 hmid h0 o (by omega) t1 ok) g
end
theorem ZNx{gr:Prs->Int->Int->Int->Option Prs}{N:Nat}(bF:Mg gr N):Mg (Zcs gr) (N+1):=by
 intro P X Y Q dg di hX hY hN hb;unfold Zcs;have g:Zaz ((P.length+X.length:Nat):Int) (P.length:Int)=(X.length:Int):=by rw[Zbp (by omega) (by omega)];omega
 have h:Zaz ((P.length+X.length+Y.length:Nat):Int) ((P.length+X.length:Nat):Int)=(Y.length:Int):=by rw[Zbp (by omega) (by omega)];omega
 rw[g,h,ZcR,ZcR];by_cases e:X.length=1
 .rw[if_pos (by omega)];obtain⟨x,rfl⟩ : ∃x,X=[x]:=by
   cases X with
   |nil=>cases e
   |cons x X=>exact⟨x,by rw[List.eq_nil_of_length_eq_zero (show X.length=0 by simpa using e)]⟩
  have:=bs1 P Y Q x hY (by omega) Y.length 0 Y.length ((((P.length+[x].length+Y.length:Nat):Int)-((P.length+[x].length:Nat):Int)).toNat+2) (by omega) (by omega) (Nat.le_refl _) (by simp only[List.length_singleton];omega) (by simp) (by simp);exact this
 .rw[if_neg (by omega)];by_cases f:Y.length=1
  .rw[if_pos (by omega)];obtain⟨y,rfl⟩ : ∃y,Y=[y]:=by
    cases Y with
    |nil=>cases f
    |cons y Y=>exact⟨y,by rw[List.eq_nil_of_length_eq_zero (show Y.length=0 by simpa using f)]⟩
   have:=bs2 P X Q y hX (by omega) X.length 0 X.length ((((P.length+X.length:Nat):Int)-(P.length:Int)).toNat+2) (by omega) (by omega) (Nat.le_refl _) (by omega) (by simp) (by simp);exact this
  .rw[if_neg (by omega)];rw[Zxj _ _ (by omega)];obtain⟨mid,hmid⟩ : ∃mid,mid=(P.length+(P.length+X.length+Y.length)) / 2:=⟨_,rfl⟩;rw[<-hmid];have en:Zan (mid:Int) ((P.length+X.length:Nat):Int)=((mid+(P.length+X.length):Nat):Int):=by rw[Zbh (by omega) (by omega)];omega
   have ep:Zaz ((mid+(P.length+X.length):Nat):Int) 1=((mid+(P.length+X.length)-1:Nat):Int):=by rw[Zbp (by omega) (by omega)];omega
   rw[en,Zad];by_cases i:mid<P.length+X.length
   .have es:Zaz ((mid+(P.length+X.length):Nat):Int) ((P.length+X.length+Y.length:Nat):Int)=((mid+(P.length+X.length)-(P.length+X.length+Y.length):Nat):Int):=by rw[Zbp (by omega) (by omega)];omega
    rw[if_pos (by omega),es];unfold ZbV;rw[ep];exact ZIK bF P X Y Q hX hY dg di hN hb mid (mid+(P.length+X.length)-(P.length+X.length+Y.length)) mid hmid (.inl ⟨i,by omega,rfl⟩) _ _ _ _ (Nat.le_refl _) (Nat.le_refl _) (by omega) (Nat.le_refl _) (by omega) (fun c b d=>by omega) (fun c b d=>by omega)
   .rw[if_neg (by omega)];unfold ZbV;rw[ep];exact ZIK bF P X Y Q hX hY dg di hN hb mid P.length (P.length+X.length) hmid (.inr ⟨by omega,rfl,rfl⟩) _ _ _ _ (Nat.le_refl _) (Nat.le_refl _) (by omega) (Nat.le_refl _) (by omega) (fun c b d=>by omega) (fun c b d=>by omega)
theorem ZJb:∀fu,Mg (Zbi fu) fu
 | 0=>fun P X Y Q b d _ _ e=>by omega
 |fu+1=>fun P X Y Q b d e f g h=>by
  unfold Zbi
  exact ZNx (ZJb fu) P X Y Q b d e f g h
inductive Blk (B:Nat):Prs->Prs->Prop
 |last (L:Prs) (h:L.length<=B):Blk B L (ZeY L)
 |more (L D:Prs) (h:B<=L.length) (r:Blk B (L.drop B) D):Blk B L (ZeY (L.take B)++D)
theorem Blk.len{B:Nat}{L D:Prs}(h:Blk B L D):D.length=L.length:=by
 induction h with
 |last L h=>exact ZkG L
 |more L D h r ih=>rw[List.length_append,ZkG,ih];simp;omega
theorem Blk.one{B:Nat}(d:0<B){L D:Prs}(h:Blk B L D)(hl:L.length<=B):D=ZeY L:=by
 cases h with
 |last _ h=>rfl
 |more _ D h r=>
  have:L.length=B:=by omega
  have hd:L.drop B=[]:=List.drop_eq_nil_of_le (by omega);have b:=r.len;rw[hd]at b;rw[List.eq_nil_of_length_eq_zero b,List.take_of_length_le (by omega),List.append_nil]
theorem Blk.split{B:Nat}{L D:Prs}(h:Blk B L D)(hl:B<=L.length):∃D1,D=ZeY (L.take B)++D1/\Blk B (L.drop B) D1:=by
 cases h with
 |last _ h=>
  have e:L.length=B:=by omega
  refine⟨[],by rw[List.take_of_length_le (by omega),List.append_nil],?_⟩;rw[List.drop_eq_nil_of_le (by omega)];exact Blk.last [] (by simp)
 |more _ D h r=>exact⟨D,rfl,r⟩
theorem st_c2(B:Nat)(i:0<B)(kj:B<=800)(o:Int->Int->Int->Prs->Option Prs)(j:Int->Prs->Option Prs):∀(s:Nat)(L P D:Prs)(fu:Nat),L.length<2*B*(s+1)->s+1<=fu->P.length+L.length<=900->Blk B L D ->
  ∃D',Blk (2*B) L D'/\Zbd ((P.length+L.length:Nat):Int) (B:Int) o j fu (P.length:Int) ((P.length+2*B:Nat):Int) (P++D)=j ((2*B:Nat):Int) (P++D'):=by
 intro s;induction s with
 |zero=>
  intro L P D fu n p hb h;obtain⟨fu,rfl⟩ : ∃x,fu=x+1:=⟨fu-1,by omega⟩;have d:Zan (P.length:Int) (B:Int)=((P.length+B:Nat):Int):=by rw[Zbh (by omega) (by omega)];omega
  have r:ZhI (B:Int) 2=((2*B:Nat):Int):=by rw[Zoe (by omega) (by omega)];omega
  unfold Zbd;rw[Zad,if_neg (by omega),d,r,Zad];refine⟨ZeY L,Blk.last L (by omega),?_⟩;by_cases A:B<L.length
  .obtain⟨D1,rfl,f⟩:=h.split (by omega);have e:=f.one i (by simp;omega);subst e;have l1:(ZeY (L.take B)).length=B:=by rw[ZkG];simp;omega
   have l2:(ZeY (L.drop B)).length=L.length-B:=by rw[ZkG];simp
   have b:=ZJb 1000 P (ZeY (L.take B)) (ZeY (L.drop B)) [] (by omega) (by omega) (ZnG _) (ZnG _) (by omega) (by simp;omega);rw[l1,l2,show P.length+B+(L.length-B)=P.length+L.length by omega,<-ZsL,List.take_append_drop,List.append_nil,List.append_nil]at b;rw[if_pos (by omega),b,Zao]
  .rw[if_neg (by omega),h.one i (by omega)]
 |succ s ih=>
  intro L P D fu n p hb h;rw[Nat.mul_succ]at n;by_cases t:2*B<=L.length
  .obtain⟨fu,rfl⟩ : ∃x,fu=x+1:=⟨fu-1,by omega⟩;have d:Zan (P.length:Int) (B:Int)=((P.length+B:Nat):Int):=by rw[Zbh (by omega) (by omega)];omega
   have u:ZhI (2:Int) (B:Int)=((2*B:Nat):Int):=by rw[Zoe (by omega) (by omega)];omega
   have v:Zan ((P.length+2*B:Nat):Int) ((2*B:Nat):Int)=((P.length+2*B+2*B:Nat):Int):=by rw[Zbh (by omega) (by omega)];omega
   unfold Zbd;rw[Zad,d,u,v];obtain⟨D1,rfl,f⟩:=h.split (by omega);obtain⟨D2,rfl,g⟩:=f.split (by simp;omega);have l1:(ZeY (L.take B)).length=B:=by rw[ZkG];simp;omega
   have l2:(ZeY ((L.drop B).take B)).length=B:=by rw[ZkG];simp;omega
   have lD:=g.len;simp only[List.length_drop]at lD;have b:=ZJb 1000 P (ZeY (L.take B)) (ZeY ((L.drop B).take B)) D2 (by omega) (by omega) (ZnG _) (ZnG _) (by omega) (by omega);rw[l1,l2,show P.length+B+B=P.length+2*B by omega,<-ZsL]at b;have et:L.take B++(L.drop B).take B=L.take (2*B):=by rw[show 2*B=B+B by omega,List.take_add]
   have ed:(L.drop B).drop B=L.drop (2*B):=by rw[List.drop_drop];congr 1;omega
   rw[et]at b;rw[ed]at g;rw[if_pos (by omega),b,Zao];have lt:(ZeY (L.take (2*B))).length=2*B:=by rw[ZkG];simp;omega
   obtain⟨D',d1,d2⟩:=ih (L.drop (2*B)) (P++ZeY (L.take (2*B))) D2 fu (by rw[List.length_drop];omega) (by omega) (by simp only[List.length_append,lt,List.length_drop];omega) g;refine⟨ZeY (L.take (2*B))++D',Blk.more L D' t d1,?_⟩;simp only[List.length_append,lt,List.length_drop,List.append_assoc]at d2;rw[show P.length+2*B+(L.length-2*B)=P.length+L.length by omega]at d2;exact d2
  .obtain⟨fu,rfl⟩ : ∃x,fu=x+1:=⟨fu-1,by omega⟩;have y:L.length<2*B*(s+1):=by
    have:2*B<=2*B*(s+1):=Nat.le_mul_of_pos_right _ (by omega);omega
   exact ih L P D (fu+1) y (by omega) hb h
theorem st_c1(v7 v8:Int)(b:Int->Int->Int->Prs->Option Prs)(L:Prs)(hL:L.length<=800):∀(s B:Nat)(D:Prs)(fu:Nat),L.length-B<=s->0<B->B<=1600->s+1<=fu->Blk B L D ->
  ZaT (L.length:Int) v7 v8 b fu (B:Int) D=some (ZeY L):=by
 intro s;induction s with
 |zero=>
  intro B D fu e d kj f h;obtain⟨fu,rfl⟩ : ∃x,fu=x+1:=⟨fu-1,by omega⟩;unfold ZaT;rw[Zad,if_neg (by omega),h.one d (by omega)]
 |succ s ih=>
  intro B D fu e d kj f h;obtain⟨fu,rfl⟩ : ∃x,fu=x+1:=⟨fu-1,by omega⟩;unfold ZaT;rw[Zad];by_cases n:B<L.length
  .have g:ZhI (2:Int) (B:Int)=((2*B:Nat):Int):=by rw[Zoe (by omega) (by omega)];omega
   rw[if_pos (by omega),g];have i:L.length / (2*B)+1<=(((L.length:Nat):Int)-((2*B:Nat):Int)).toNat+2:=by
    by_cases j:L.length<2*B
    .rw[Nat.div_eq_of_lt j];omega
    .rw[Nat.div_eq_sub_div (by omega) (by omega)];have:=Nat.div_le_self (L.length-2*B) (2*B);omega
   obtain⟨D',d1,d2⟩:=st_c2 B d (by omega) b (ZaT (L.length:Int) v7 v8 b fu) (L.length / (2*B)) L [] D _ (Nat.lt_mul_div_succ _ (by omega)) i (by simp;omega) h;simp only[List.length_nil,Nat.zero_add,List.nil_append]at d2;have mu:Zbd (L.length:Int) (B:Int) b (ZaT (L.length:Int) v7 v8 b fu) ((((L.length:Nat):Int)-((2*B:Nat):Int)).toNat+2) 0 ((2*B:Nat):Int) D=_:=d2;rw[mu];exact ih (2*B) D' fu (by omega) (by omega) (by omega) (by omega) d1
  .rw[if_neg (by omega),h.one d (by omega)]
theorem st_c0(A:Prs)(hA:A.length<=800):∀(s:Nat)(L P:Prs)(fu:Nat),L.length<20*(s+1)->s+1<=fu->P.length+L.length=A.length->(∀D,Blk 20 L D->Blk 20 A (P++D)) ->
  ZaN (A.length:Int) fu 20 (P.length:Int) ((P.length+20:Nat):Int) (P++L)=some (ZeY A):=by
 intro s;have fin:∀(L P:Prs)(fu:Nat),L.length<20->P.length+L.length=A.length->(∀D,Blk 20 L D->Blk 20 A (P++D)) ->
   ZaN (A.length:Int) (fu+1) 20 (P.length:Int) ((P.length+20:Nat):Int) (P++L)=some (ZeY A):=by
  intro L P fu e hl b;unfold ZaN;have d:=ZLI P L [] (by simp;omega) (P.length:Int) (A.length:Int) rfl (by omega);simp only[List.append_nil]at d;rw[Zad,if_neg (by omega),d,Zao];exact st_c1 _ _ _ A hA (A.length-20) 20 _ _ (Nat.le_refl _) (by omega) (by omega) (by omega) (b _ (Blk.last L (by omega)))
 induction s with
 |zero=>
  intro L P fu e f hl b;obtain⟨fu,rfl⟩ : ∃x,fu=x+1:=⟨fu-1,by omega⟩;exact fin L P fu (by omega) hl b
 |succ s ih=>
  intro L P fu e f hl b;obtain⟨fu,rfl⟩ : ∃x,fu=x+1:=⟨fu-1,by omega⟩;by_cases g:L.length<20
  .exact fin L P fu g hl b
  .unfold ZaN;have lt:(L.take 20).length=20:=by simp;omega
   have d:=ZLI P (L.take 20) (L.drop 20) (by simp;omega) (P.length:Int) ((P.length+20:Nat):Int) rfl (by rw[lt]);rw[List.take_append_drop]at d;have h:Zan ((P.length+20:Nat):Int) 20=((P.length+20+20:Nat):Int):=by rw[Zbh (by omega) (by omega)];omega
   rw[Zad,if_pos (by omega),d,Zao,h];have li:(ZeY (L.take 20)).length=20:=by rw[ZkG,lt]
   have:=ih (L.drop 20) (P++ZeY (L.take 20)) fu (by rw[List.length_drop];omega) (by omega) (by simp only[List.length_append,li,List.length_drop];omega) (fun D i=>by
    have:=b _ (Blk.more L D (by omega) i);rwa [<-List.append_assoc]at this)
   simp only[List.length_append,li,List.append_assoc]at this;exact this
theorem ZAH(A:Prs)(hA:A.length<=800):Zcb A=some (ZeY A):=by
 unfold Zcb ZdP;have b:A.length / 20+1<=(((A.length:Nat):Int)-(20:Int)).toNat+2:=by omega
 have:=st_c0 A hA (A.length / 20) A [] ((((A.length:Nat):Int)-(20:Int)).toNat+2) (by omega) b (by simp) (fun D h=>h);simp only[List.length_nil,Nat.zero_add,List.nil_append]at this;have er:ZaN (A.length:Int) ((((A.length:Nat):Int)-(20:Int)).toNat+2) 20 0 20 A=some (ZeY A):=this;rw[er];rfl
theorem Zyb(A:Prs)(hA:A.length<=800):ZjK A=some (ZeY A):=by
 unfold ZjK;have ec:Zav A=some A:=by
  unfold Zav;rw[Zai ⟨by omega,by unfold maxLen;omega⟩]
 rw[ec,Zao,ZAH A hA];rfl
theorem ZEs(l:Prs):(ZeY l).Perm l:=by
 have:∀n,n<=l.length->(ZeY (l.take n)).Perm (l.take n):=by
  intro n;induction n with
  |zero=>intro _;simp[ZeY]
  |succ n ih=>
   intro h;rw[List.take_succ_eq_append_getElem (show n<l.length by omega),ZnH];exact(Ztk _ _ _ (Nat.le_refl _)).trans ((ih (by omega)).append_right _)
 have h:=this l.length (Nat.le_refl _);rwa [List.take_length]at h
theorem ZvC:∀(m l:Prs),bg l->StrP m->l.Perm m->l=m
 | [],l,_,_,h=>List.perm_nil.1 h
 |y :: m,l,hl,d,h=>by
  cases l with
  |nil=>exact absurd h.length_eq (by simp)
  |cons x l=>
   have ia:=List.pairwise_cons.1 hl
   have fL:=List.pairwise_cons.1 d
   by_cases e:x=y
   .subst e
    rw[ZvC m l ia.2 fL.2 h.cons_inv]
   .have h1:y∈x :: l:=h.symm.subset (by simp)
    have h2:x∈y :: m:=h.subset (by simp)
    rcases List.mem_cons.1 h1 with h1|h1
    .exact absurd h1.symm e
    .rcases List.mem_cons.1 h2 with h2|h2
     .exact absurd h2 e
     .have f:=ia.1 y h1
      have b:=fL.1 x h2
      rw[f]at b;cases b
theorem ZyU{xs l:Prs}(hl:StrP l)(h:xs.Perm l):ZeY xs=l:=ZvC l _ (ZnG xs) hl ((ZEs xs).trans h)
theorem ZGH{x:Zam}(hx:x.ok)(b:Ziz x.fEnd=true):ZhA (ZyO x)=some true:=by
 have d:=Zid x.fNow;have e:(decide (0<=fitI x.fNow)&&decide (fitI x.fNow<=1099511627776))=true:=by
  rw[Bool.and_eq_true,decide_eq_true_eq,decide_eq_true_eq];exact d
 unfold ZhA;simp only[ZyO,ZpI _ hx.2.1,b,Zao,cond_true,ZtV,e];decide
theorem ZwA(l:List Zaa)(e:Zah)(h:l.length<=10000)(b:ZgP l e<0):ZiM l e=some ([],6):=by
 unfold ZiM;rw[Zja l e (by unfold maxLen;omega),Zao,Zad,if_pos b]
theorem ZtD(l:List Zaa)(y:Zaa)(h:l.length<=10000){k:Nat}(d:k<l.length)(b:ZgP l y.fEnd=(k:Int)):Zkj l y=some (l.set k y):=by
 unfold Zkj;rw[ZsC l h,Zao,Zja l _ (by unfold maxLen;omega),Zao,Zad,b,if_pos (by omega),Zai (by omega),Int.toNat_natCast]
def dk(c:Zar)(x:Zam)(r:Zak×Zal):Option (Zal×Zap):=some (r.2,⟨c,r.1,x⟩)
def Dk(c:Zar)(x:Zam)(p:Option (Zal×Zap))(r:Option (Zak×Zal)):Prop:=∃y,r=some y/\p=dk c x y
section
variable {c:Zar} {s:Zak} {x:Zam} {N:Nat} (hx:x.ok) (hI:cA N s) (hN:N<=100)
include hx hI hN
theorem Dk.no(k:Int):Dk c x ((ZbE k).bind fun x2=>some (x2,⟨c,s,x⟩)) ((Zbz k).bind fun x2=>some (s,x2)):=⟨_,rfl,rfl⟩
theorem Zut{bans:List Zac}{cF:Zae}(b:cF.fAddr.ok):∃z:Zak×Int,Zcx ⟨bans,s.fBook,s.fPeers⟩ cF=some z/\ZeD ⟨c,⟨bans,s.fBook,s.fPeers⟩,x⟩ cF=some (z.2,⟨c,z.1,x⟩):=by
 have n2:=hI.n2;have n3:=hI.n3;have aL:∀p∈s.fPeers,p.fEnd.fAddr.ok:=fun p e=>(hI.peers p e).1.1;have f:=Zua s.fPeers cF true;refine⟨(⟨bans,s.fBook.map (ZpW (ZoI (ofP s.fPeers cF true))),ofP s.fPeers cF false⟩,((ofP s.fPeers cF true).length:Int)),?_,?_⟩
 .unfold Zcx;dsimp only;rw[Zpw _ _ _ b (by omega) aL,Zao,Zpw _ _ _ b (by omega) aL,Zao,ZIk _ (by omega),Zao,Zra _ _ (by omega) (by simp[ZoI,maxLen];omega),Zao]
 .obtain⟨L,hL⟩ : ∃L,L=ofP s.fPeers cF true:=⟨_,rfl⟩;have jx:L.length<=s.fPeers.length:=by rw[hL];exact f
  have aM:∀(k i fu:Nat),L.length-i=k->i<=L.length->k+1<=fu->Zeo ⟨c,⟨bans,s.fBook,s.fPeers⟩,x⟩ fu L (ofP s.fPeers cF false) L (L.length:Int) (i:Int) (ZoI (L.take i))=some ((L.length:Int),⟨c,⟨bans,s.fBook.map (ZpW (ZoI L)),ofP s.fPeers cF false⟩,x⟩):=by
   intro k;induction k with
   |zero=>
    intro i fu g h j;obtain⟨fu,rfl⟩ : ∃x,fu=x+1:=⟨fu-1,by omega⟩;unfold Zeo;rw[Zad,if_neg (by omega),List.take_of_length_le (by omega)];dsimp only;rw[ZzW _ _ (by omega) (by rw[hL];simp[ZoI,maxLen];omega),Zao]
   |succ k ih=>
    intro i fu g h j;obtain⟨fu,rfl⟩ : ∃x,fu=x+1:=⟨fu-1,by omega⟩;have bC:i<L.length:=by omega
    have o:Zan (i:Int) 1=((i+1:Nat):Int):=add1 (n:=i+1) (by omega) (by simp only[maxLen];omega);have et:ZoI (L.take i)++[(L.getD i Zaa.d).fEnd]=ZoI (L.take (i+1)):=by
     unfold ZoI;rw[List.take_succ_eq_append_getElem bC,List.map_append,ZbL L _ i bC];rfl
    have hl:(ZoI (L.take (i+1))).length<=200:=by unfold ZoI;simp;omega
    unfold Zeo;rw[Zad,if_pos (by omega),Zai (by omega),Int.toNat_natCast,et,Zai ⟨by omega,by unfold maxLen;omega⟩,o];exact ih (i+1) fu (by omega) (by omega) (by omega)
  unfold ZeD;dsimp only;rw[ZAx _ _ b (by omega) aL,Zao,<-hL];dsimp only;exact aM L.length 0 _ (by omega) (by omega) (by omega)
theorem ZEq(f:x.fKind=2):Dk c x (ZiB ⟨c,s,x⟩) (ZcB c s x):=by
 have n2:=hI.n2;have n3:=hI.n3;unfold ZiB ZcB;dsimp only;rw[Zie _ _ (by unfold maxLen;omega),Zao,Zad];by_cases b:ZgP s.fPeers x.fEnd<0
 .rw[if_pos b,ZwA _ _ (by omega) b,Zao];exact Dk.no hx hI hN 6
 obtain⟨k,d,e,g,_⟩:=ZoB (show 0<=ZgP s.fPeers x.fEnd by omega);rw[if_neg b,ZcR,if_pos f,ZBS hx hI hN d e,Zao,Zra _ _ (by omega) (by simp[maxLen]),Zao,Zvz _ _ (by omega) d e,Zao];show Dk c x (bif((0:Int) != 0)then _ else _) _;rw[show ((0:Int) != 0)=false from rfl,cond_false,ZzW _ _ (by omega) (by simp[maxLen]),Zao];exact⟨_,rfl,rfl⟩
theorem ZGz(i:x.fKind=11):Dk c x (Zjo ⟨c,s,x⟩) (ZcB c s x):=by
 have n3:=hI.n3;unfold Zjo ZcB;dsimp only;rw[Zie _ _ (by unfold maxLen;omega),Zao,Zad,Zja _ _ (by unfold maxLen;omega),Zao,Zad];by_cases b:ZgP s.fPeers x.fEnd<0
 .rw[if_pos b,if_pos b];exact Dk.no hx hI hN 6
 obtain⟨k,e,f,g,_⟩:=ZoB (show 0<=ZgP s.fPeers x.fEnd by omega);have fm:=hI.peers _ (ZdM s.fPeers Zaa.d k e);obtain⟨o1,h⟩:=ZyE fm hx.2.2.2.2.1;rw[if_neg b,if_neg b,ZcR,if_neg (by omega),ZcR,if_pos i,Zai ⟨by omega,by omega⟩,Zai ⟨by omega,by omega⟩,f,Int.toNat_natCast,(ZwN _ _).2,Zao,(ZwN _ _).1,Zao,ZvF hx hI hN e (by rw[h,g];exact f),Zao,ZtD _ _ (by omega) e (by rw[h,g];exact f),Zao];exact⟨_,rfl,rfl⟩
theorem ZFK(fO:x.fKind≠2)(gO:x.fKind≠11):Dk c x (Zjn ⟨c,s,x⟩) (ZcB c s x):=by
 have n3:=hI.n3;unfold Zjn ZcB;dsimp only;rw[Zie _ _ (by unfold maxLen;omega),Zao,Zad,Zja _ _ (by unfold maxLen;omega),Zao,Zad];by_cases b:ZgP s.fPeers x.fEnd<0
 .rw[if_pos b,if_pos b];exact Dk.no hx hI hN 6
 obtain⟨k,e,f,g,_⟩:=ZoB (show 0<=ZgP s.fPeers x.fEnd by omega);have fm:=hI.peers _ (ZdM s.fPeers Zaa.d k e);obtain⟨o1,h⟩:=ZxW fm x.fNow;rw[if_neg b,if_neg b,ZcR,if_neg fO,ZcR,if_neg gO,Zai ⟨by omega,by omega⟩,Zai ⟨by omega,by omega⟩,f,Int.toNat_natCast,(Zww _ _).2,Zao,(Zww _ _).1,Zao,ZvF hx hI hN e (by rw[h,g];exact f),Zao,ZtD _ _ (by omega) e (by rw[h,g];exact f),Zao];exact⟨_,rfl,rfl⟩
theorem ZAN(g:Ziz x.fEnd=true):Dk c x (ZhU ⟨c,s,x⟩) (ZdW c s x):=by
 have n1:=hI.n1;have n2:=hI.n2;have n3:=hI.n3;have hlt:=Zph s.fBook x.fEnd;have eu:Zdg ⟨c,s,x⟩=some (Zkw s.fBans x.fEnd.fAddr x.fNow,⟨c,s,x⟩):=by
  unfold Zdg;dsimp only;rw[(ZjG s.fBans x.fEnd.fAddr x.fNow (by unfold maxLen;omega) hI.bans hx.2.1.1).1,Zao]
 unfold ZhU ZdW;dsimp only;rw[Zoa _ _ (by unfold maxLen;omega),Zao,Zad,ZrT _ _ (by unfold maxLen;omega),Zao,Zad];by_cases b:ZfD s.fBook x.fEnd<0
 .rw[if_pos b,if_pos b];exact Dk.no hx hI hN 6
 rw[if_neg b,if_neg b,Zai ⟨by omega,hlt⟩,Zai ⟨by omega,hlt⟩];cases h:((s.fBook.getD (ZfD s.fBook x.fEnd).toNat Zab.d).fState != 2)with
 |true=>rw[cond_true,cond_true];exact Dk.no hx hI hN 6
 |false=>
  have ef:∀k:Int,ZgC ⟨c,s,x⟩ (s.fBook.getD (ZfD s.fBook x.fEnd).toNat Zab.d) k=some (⟨k,endZ,(ZuB c (s.fBook.getD (ZfD s.fBook x.fEnd).toNat Zab.d) x.fNow x.fNum).fFails,(ZuB c (s.fBook.getD (ZfD s.fBook x.fEnd).toNat Zab.d) x.fNow x.fNum).fNext,[]⟩,⟨c,⟨s.fBans,setS s.fBook (ZuB c (s.fBook.getD (ZfD s.fBook x.fEnd).toNat Zab.d) x.fNow x.fNum),s.fPeers⟩,x⟩):=fun k=>by
   unfold ZgC;dsimp only;rw[(ZuA c _ x.fNow x.fNum).1,Zao,Ztz _ _ (by omega),Zao];rfl
  rw[cond_false,cond_false,(ZjG s.fBans x.fEnd.fAddr x.fNow (by unfold maxLen;omega) hI.bans hx.2.1.1).2,Zao,(ZuA c _ x.fNow x.fNum).2];cases i:x.fGood with
  |false=>
   rw[Bool.not_false,cond_true,cond_true,Zao,Zmv _ _ (by omega),Zao,cond_false,ef,Zao];exact⟨_,rfl,rfl⟩
  |true=>
   rw[Bool.not_true,cond_false,cond_false,Zad,eu,Zao,Zad];dsimp only;by_cases e:Zkw s.fBans x.fEnd.fAddr x.fNow>0
   .rw[if_pos e,if_pos e,Zao,Zmv _ _ (by omega),Zao,cond_true,ef,Zao];exact⟨_,rfl,rfl⟩
   rw[if_neg e,if_neg e,Zie _ _ (by unfold maxLen;omega),Zao,Zad,Zja _ _ (by unfold maxLen;omega),Zao,Zad];by_cases f:ZgP s.fPeers x.fEnd>=0
   .have ed:Zep (s.fBook.getD (ZfD s.fBook x.fEnd).toNat Zab.d) 1=some (stE (s.fBook.getD (ZfD s.fBook x.fEnd).toNat Zab.d) 1):=rfl;have ed2:ZlH (s.fBook.getD (ZfD s.fBook x.fEnd).toNat Zab.d)=some (stE (s.fBook.getD (ZfD s.fBook x.fEnd).toNat Zab.d) 1):=rfl;rw[if_pos f,if_pos f,ed,Zao,Zmv _ _ (by omega),Zao,ed2,Zao,Ztz _ _ (by omega),Zao];exact⟨_,rfl,rfl⟩
   .have eg:Zkn (s.fBook.getD (ZfD s.fBook x.fEnd).toNat Zab.d)=some (ZLf (s.fBook.getD (ZfD s.fBook x.fEnd).toNat Zab.d)):=rfl;have eg2:Zpa (s.fBook.getD (ZfD s.fBook x.fEnd).toNat Zab.d)=some (ZLf (s.fBook.getD (ZfD s.fBook x.fEnd).toNat Zab.d)):=rfl;have en:ZdE x.fEnd false x.fNow=some (ZyO x):=by unfold ZdE;rw[ZiI];rfl
    have mw:Zms x.fEnd false x.fNow=some (ZyO x):=by unfold Zms;rw[ZiH];rfl
    rw[if_neg f,if_neg f,eg,Zao,Zmv _ _ (by omega),Zao,en,Zao,Ztd _ _ (ZoO hI.str) (by omega),Zao,eg2,Zao,Ztz _ _ (by omega),Zao];unfold ZdQ;dsimp only;rw[mw,Zao,Zyc (ZoO hI.str) (by omega) (ZGH hx g) (show ZgP s.fPeers x.fEnd<0 by omega),Zao];exact⟨_,rfl,rfl⟩
theorem ZFi:Dk c x (ZiC ⟨c,s,x⟩) (Zfz c s x):=by
 have n1:=hI.n1;have n3:=hI.n3;have cG:(⟨ZoH x.fEnd.fAddr,addT x.fNow c.fBanFor⟩ : Zac).ok:=⟨Zts _ hx.2.1.1,ZCl _ _,trivial⟩;unfold ZiC Zfz;dsimp only;rw[Zie _ _ (by unfold maxLen;omega),Zao,Zad,Zja _ _ (by unfold maxLen;omega),Zao,Zad];by_cases b:ZgP s.fPeers x.fEnd<0
 .rw[if_pos b,if_pos b];exact Dk.no hx hI hN 6
 obtain⟨k,f,e,g,_⟩:=ZoB (show 0<=ZgP s.fPeers x.fEnd by omega);have eG:=ZCq c x (s.fPeers.getD k Zaa.d);have my:(ZpX c x (s.fPeers.getD k Zaa.d)).fEnd=x.fEnd:=g;rw[if_neg b,if_neg b,Zai ⟨by omega,by omega⟩,Zai ⟨by omega,by omega⟩,e,Int.toNat_natCast,(ZCG x.fNum).2.1,Zao,(ZCG x.fNum).1,Zao,(Zva c x _).2,Zao,(Zva c x _).1,Zao,(Zsf _ _ eG.1 eG.2).2,Zao,(Zsf _ _ eG.1 eG.2).1,Zao];cases hin:ZvM (ZpX c x (s.fPeers.getD k Zaa.d)).fScore c.fLimit with
 |false=>
  rw[Bool.not_false,cond_true,cond_true,(Zwx _).2,(Zwx _).1,ZvF hx hI hN (y:=ZpX c x (s.fPeers.getD k Zaa.d)) f (by rw[my];exact e),Zao,Zao,ZtD _ _ (by omega) f (by rw[my];exact e),Zao,Zao];exact⟨_,rfl,rfl⟩
 |true=>
  have gB:(ZoH x.fEnd.fAddr).fAddr.ok:=(Zts _ hx.2.1.1).1;rw[Bool.not_true,cond_false,cond_false,ZCD _ hx.2.1.1,Zao,(Zqh _ _).2,Zao,Zrc _ _ _ (by omega) cG,Zao,my,ZIH _ hx.2.1.1,Zao,(Zqh _ _).1,Zao,ZDD _ _ _ (by omega) cG,Zao];obtain⟨z1,h,i⟩:=Zut hx hI hN (c:=c) (bans:=(addB s.fBans ⟨ZoH x.fEnd.fAddr,addT x.fNow c.fBanFor⟩ c.fMaxBans).1) gB;obtain⟨z2,j,n⟩:=Zut hx hI hN (c:=c) (bans:=s.fBans) gB;rw[ZcR,ZcR];by_cases h0:(addB s.fBans ⟨ZoH x.fEnd.fAddr,addT x.fNow c.fBanFor⟩ c.fMaxBans).2=0
  .rw[if_pos h0,if_pos h0,h,Zao,i,Zao];exact⟨_,rfl,rfl⟩
  .rw[if_neg h0,if_neg h0];have g3':Zcx s (ZoH x.fEnd.fAddr)=some z2:=j;have g4':ZeD ⟨c,s,x⟩ (ZoH x.fEnd.fAddr)=some (z2.2,⟨c,z2.1,x⟩):=n;rw[g3',Zao,g4',Zao];exact⟨_,rfl,rfl⟩
theorem ZLr(b:x.fKind=6):Dk c x (Zkd ⟨c,s,x⟩) (Zcw c s x):=by
 have n1:=hI.n1;unfold Zkd Zcw;dsimp only;rw[ZcR,if_pos b,Zad,Zad];by_cases h:x.fNum<=x.fNow
 .rw[if_pos h,if_pos h];exact Dk.no hx hI hN 3
 have cG:(⟨x.fNet,x.fNum⟩ : Zac).ok:=⟨hx.2.2.1,hx.2.2.2.2.1,trivial⟩;obtain⟨z1,d,e⟩:=Zut hx hI hN (c:=c) (bans:=(addB s.fBans ⟨x.fNet,x.fNum⟩ c.fMaxBans).1) hx.2.2.1.1;rw[if_neg h,if_neg h,Zrc _ _ _ (by omega) cG,Zao,ZDD _ _ _ (by omega) cG,Zao,d,Zao,e,Zao];cases((addB s.fBans ⟨x.fNet,x.fNum⟩ c.fMaxBans).2 != 0)with
 |true=>rw[cond_true,cond_true];exact Dk.no hx hI hN _
 |false=>rw[cond_false,cond_false];exact⟨_,rfl,rfl⟩
theorem ZDN(b:x.fKind=7):Dk c x (ZiA ⟨c,s,x⟩) (Zcw c s x):=by
 have n1:=hI.n1;unfold ZiA Zcw;dsimp only;rw[ZcR,if_neg (by omega),ZcR,if_pos b,Zyx _ _ (by omega),Zao,ZIQ _ _ (by omega),Zao];cases((ZrO s.fBans x.fNet).2==0)with
 |true=>rw[cond_true,cond_true];exact⟨_,rfl,rfl⟩
 |false=>rw[cond_false,cond_false];exact Dk.no hx hI hN _
theorem ZzF:Dk c x (Zhq ⟨c,s,x⟩) (ZfW c s x):=by
 have n1:=hI.n1;have n2:=hI.n2;have n3:=hI.n3;have b:ZmU (vwO s):=ZwZ hx hI hN;refine⟨ZBX c s x.fNow,?_,ZzG hx hI hN⟩;unfold ZfW ZBX;rw[ZsS s (by omega) (by omega),Zao,Zad];by_cases ho:cntP s.fPeers false+ZlW s.fBook 2>=c.fMaxOut
 .rw[if_pos ho,if_pos ho,no35,Zao]
 rw[if_neg ho,if_neg ho];obtain⟨_,e,f⟩:=ZAR b x.fNow;have g:=(ZAt b x.fNow).2;have fo:ZfY s.fBook s.fPeers s.fBans x.fNow=some (Zhu (vwO s) x.fNow):=e;have hQ:ZfX s.fBook x.fNow=some (ZAu (vwO s) x.fNow):=g;rw[fo,Zao,hQ,Zao];cases h:(Zhu (vwO s) x.fNow).2 with
 |false=>rw[Bool.not_false,cond_true,if_neg (by decide)];rfl
 |true=>
  have h0:0<=ZfD s.fBook (Zhu (vwO s) x.fNow).1:=f h;have hlt:=Zph s.fBook (Zhu (vwO s) x.fNow).1;have ed:Zep (s.fBook.getD (ZfD s.fBook (Zhu (vwO s) x.fNow).1).toNat Zab.d) 2=some (stE (entA s.fBook (Zhu (vwO s) x.fNow).1) 2):=rfl;rw[Bool.not_true,cond_false,if_pos rfl,Zoa _ _ (by unfold maxLen;omega),Zao,Zai ⟨h0,hlt⟩,ed,Zao,Zmv _ _ (by omega),Zao]
theorem Dk.fin{p:Option (Zal×Zap)}{r:Option (Zak×Zal)}(h:Dk c x p r):Dk c x (p.bind fun y=>some (y.1,y.2)) (r.bind fun y=>some (y.1,y.2)):=by
 obtain⟨y,rfl,rfl⟩:=h;exact⟨y,rfl,rfl⟩
theorem ZBU:Zkz c s x=Zcp c s x:=by
 have n1:=hI.n1;have n2:=hI.n2;have n3:=hI.n3;have go:Dk c x (ZkM ⟨c,s,x⟩) (Zcp c s x)->Zjs x=true->Zkz c s x=Zcp c s x:=fun h b=>by
  obtain⟨y,u,v⟩:=h;unfold Zkz;rw[Zwp x hx,Zao,b,Bool.not_true,cond_false,v,u];rfl
 cases b:Zjs x with
 |false=>
  unfold Zkz Zcp;rw[Zwp x hx,Zao,Zlg x hx,Zao,b,Bool.not_false,cond_true,cond_true];rfl
 |true=>
  refine go ?_ b;have d:∀k:Int,x.fKind=k->(x.fKind==k)=true:=fun k h=>beq_iff_eq.2 h;have n6:∀k:Int,x.fKind≠k->(x.fKind==k)=false:=fun k h=>beq_false_of_ne h;unfold Zcp;rw[Zlg x hx,Zao,b,Bool.not_true,cond_false];unfold ZkM;dsimp only;by_cases n:x.fKind=1
  .have o:Ziz x.fEnd=true:=by
    unfold Zjs at b;rw[if_pos (.inl n),Bool.and_eq_true]at b;exact b.1
   rw[d 1 n,cond_true,cond_true];exact Dk.fin hx hI hN ⟨ZmT c s x,ZsF hx hI hN,ZCm hx hI hN o⟩
  rw[n6 1 n,cond_false,cond_false];by_cases g:x.fKind=2
  .rw[d 2 g,cond_true,n6 3 (by omega),cond_false,n6 4 (by omega),cond_false,n6 5 (by omega),cond_false,n6 6 (by omega),cond_false,n6 7 (by omega),cond_false,n6 8 (by omega),cond_false,n6 9 (by omega)];unfold Zbv;rw[cond_false,n6 10 (by omega),cond_false,n6 13 (by omega),cond_false];exact Dk.fin hx hI hN (ZEq hx hI hN g)
  rw[n6 2 g,cond_false];by_cases r:x.fKind=3
  .rw[d 3 r,cond_true,cond_true];exact Dk.fin hx hI hN (ZzF hx hI hN)
  rw[n6 3 r,cond_false,cond_false];by_cases j:x.fKind=4
  .have o:Ziz x.fEnd=true:=by
    unfold Zjs at b;rw[if_neg (by omega),if_neg (by omega),if_neg (by omega),if_pos j,Bool.and_eq_true]at b;exact b.1
   rw[d 4 j,cond_true,cond_true];exact Dk.fin hx hI hN (ZAN hx hI hN o)
  rw[n6 4 j,cond_false,cond_false];by_cases p:x.fKind=5
  .rw[d 5 p,cond_true,cond_true];exact Dk.fin hx hI hN (ZFi hx hI hN)
  rw[n6 5 p,cond_false,cond_false];by_cases e:x.fKind=6
  .rw[d 6 e,cond_true,cond_true];unfold Zbv;rw[cond_true];exact Dk.fin hx hI hN (ZLr hx hI hN e)
  rw[n6 6 e,cond_false,cond_false];by_cases f:x.fKind=7
  .rw[d 7 f,cond_true,cond_true];unfold Zbv;rw[cond_true];exact Dk.fin hx hI hN (ZDN hx hI hN f)
  rw[n6 7 f,cond_false,cond_false];by_cases i:x.fKind=8
  .rw[d 8 i,cond_true,cond_true];unfold Zbv Zcw Zdg;dsimp only;rw[cond_true,n6 6 e,cond_false,n6 7 f,cond_false,d 8 i,cond_true,(ZjG s.fBans x.fEnd.fAddr x.fNow (by unfold maxLen;omega) hI.bans hx.2.1.1).2,Zao,(ZjG s.fBans x.fEnd.fAddr x.fNow (by unfold maxLen;omega) hI.bans hx.2.1.1).1,Zao];exact⟨_,rfl,rfl⟩
  rw[n6 8 i,cond_false,cond_false];by_cases t:x.fKind=9
  .rw[d 9 t,cond_true];unfold Zbv Zcw;rw[cond_true,n6 6 e,cond_false,n6 7 f,cond_false,n6 8 i,cond_false,Zyv _ _ (by omega),Zao,ZFj _ _ (by omega),Zao];exact⟨_,rfl,rfl⟩
  rw[n6 9 t,cond_false];unfold Zbv;rw[cond_false];by_cases k10:x.fKind=10
  .have hso:ZeY s.fPeers=s.fPeers:=ZyU hI.str (List.Perm.refl _);rw[d 10 k10,cond_true,cond_true,Zyb _ (by omega),Zao,hso];exact⟨_,rfl,rfl⟩
  rw[n6 10 k10,cond_false,cond_false];by_cases k13:x.fKind=13
  .have en:ZgH x.fEnd x.fNow=some (newE x):=by unfold ZgH;rw[ZiI];rfl
   have mw:Zoq x.fEnd x.fNow=some (newE x):=by unfold Zoq;rw[ZiH];rfl
   rw[n6 11 (by omega),cond_false,n6 12 (by omega),cond_false,d 13 k13,cond_true,en,Zao,ZGs _ _ _ (by omega) (Ztj hx),Zao];unfold ZkL;dsimp only;rw[mw,Zao,ZLp _ _ _ (by omega) (Ztj hx),Zao];cases((addS s.fBook (newE x) c.fMaxBook).2==0)with
   |true=>rw[cond_true,cond_true];exact⟨_,rfl,rfl⟩
   |false=>rw[cond_false,cond_false];exact⟨_,rfl,rfl⟩
  rw[n6 13 k13,cond_false];by_cases k11:x.fKind=11
  .rw[d 11 k11,cond_true];exact Dk.fin hx hI hN (ZGz hx hI hN k11)
  rw[n6 11 k11,cond_false];by_cases k12:x.fKind=12
  .rw[d 12 k12,cond_true];exact Dk.fin hx hI hN (ZFK hx hI hN g k11)
  .exfalso;unfold Zjs at b;rw[if_neg (by omega),if_neg g,if_neg (by omega),if_neg j,if_neg p,if_neg e,if_neg f,if_neg i,if_neg k10,if_neg k11]at b;cases b
end
end Go.Proofs.YtlpdogaifdeomaaGreat
