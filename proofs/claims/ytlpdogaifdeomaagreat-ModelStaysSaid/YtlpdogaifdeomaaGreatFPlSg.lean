import Derived.Test.YtlpdogaifdeomaaGreatFPlSa
import Derived.Test.YtlpdogaifdeomaaGreatFPlXb
import Derived.Test.YtlpdogaifdeomaaGreatFPlY
namespace Go.Proofs.YtlpdogaifdeomaaGreat
set_option linter.unusedVariables false
set_option linter.unusedSimpArgs false
def ltP(x y:Zaa):Bool:=decide (cmpE x.fEnd y.fEnd<0)
theorem Zlj{x y:Zaa}:ltP x y=true↔cmpE x.fEnd y.fEnd<0:=by unfold ltP;simp
theorem Zrz{x y:Zaa}:ltP x y=false↔¬cmpE x.fEnd y.fEnd<0:=by unfold ltP;simp
theorem ZKH{x y z:Zaa}(b:ltP x y=true)(d:ltP y z=true):ltP x z=true:=by
 rw[Zlj]at *
 exact ZlS b d
theorem Znf{x y z:Zaa}(d:ltP x y=false)(b:ltP y z=false):ltP x z=false:=by
 rw[Zrz]at *
 intro h;have e:cmpE x.fEnd y.fEnd=0\/0<cmpE x.fEnd y.fEnd:=by omega
 rcases e with e|e
 .rw[ZgT.1 e]at h;exact b h
 .exact b (ZlS (Zgl.1 e) h)
theorem ZvD{x y z:Zaa}(b:ltP z x=true)(d:ltP y x=false):ltP z y=true:=by
 cases h:ltP z y with
 |true=>rfl
 |false=>rw[Znf h d]at b;cases b
theorem ZuB(a b:Zaa):ZdX a b=some (cmpE a.fEnd b.fEnd):=by
 unfold ZdX;rw[Zog];rfl
def mrg:Prs->Prs->Prs | [],ys=>ys|x :: xs,[]=>x :: xs|x :: xs,y :: ys=>if ltP y x=true then y :: mrg (x :: xs) ys else x :: mrg xs (y :: ys)
termination_by xs ys=>xs.length+ys.length
theorem ZkQ(xs:Prs):mrg xs []=xs:=by cases xs<;>simp[mrg]
theorem ZgC(xs:Prs):mrg [] xs=xs:=by simp[mrg]
theorem Zme{x y:Zaa}(xs ys:Prs)(h:ltP y x=true):mrg (x :: xs) (y :: ys)=y :: mrg (x :: xs) ys:=by rw[mrg,if_pos h]
theorem Zne{x y:Zaa}(xs ys:Prs)(h:ltP y x=false):mrg (x :: xs) (y :: ys)=x :: mrg xs (y :: ys):=by rw[mrg,if_neg (by simp[h])]
theorem ZKC:∀(n:Nat)(a b c:Prs),a.length+b.length+c.length<=n->mrg (mrg a b) c=mrg a (mrg b c):=by
 intro n;induction n with
 |zero=>
  intro a b c h;obtain rfl:=List.eq_nil_of_length_eq_zero (show a.length=0 by omega);rw[ZgC,ZgC]
 |succ n ih=>
  intro a b c h;cases a with
  |nil=>rw[ZgC,ZgC]
  |cons x a=>
   cases b with
   |nil=>rw[ZkQ,ZgC]
   |cons y b=>
    cases c with
    |nil=>rw[ZkQ,ZkQ]
    |cons z c=>
     simp only[List.length_cons]at h;cases e:ltP y x with
     |true=>
      rw[Zme _ _ e];cases d:ltP z y with
      |true=>
       rw[Zme _ _ d,Zme _ _ d,Zme _ _ (ZKH d e),<-Zme a b e,ih (x :: a) (y :: b) c (by simp only[List.length_cons];omega)]
      |false=>
       rw[Zne _ _ d,Zne _ _ d,Zme _ _ e,ih (x :: a) b (z :: c) (by simp only[List.length_cons];omega)]
     |false=>
      rw[Zne _ _ e];cases f:ltP z x with
      |true=>
       have d:=ZvD f e;rw[Zme _ _ f,Zme _ _ d,Zme _ _ f,<-Zne a b e,ih (x :: a) (y :: b) c (by simp only[List.length_cons];omega)]
      |false=>
       rw[Zne _ _ f,ih a (y :: b) (z :: c) (by simp only[List.length_cons];omega)];cases d:ltP z y with
       |true=>rw[Zme _ _ d,Zne _ _ f]
       |false=>rw[Zne _ _ d,Zne _ _ e]
theorem Zqr:∀(n:Nat)(x1 x2 y1 y2:Prs),x1.length+y1.length<=n->(∀y∈y1,∀x∈x2,ltP y x=true)->(∀x∈x1,∀y∈y2,ltP y x=false)->mrg (x1++x2) (y1++y2)=mrg x1 y1++mrg x2 y2:=by
 intro n;induction n with
 |zero=>
  intro x1 x2 y1 y2 h _ _;obtain rfl:=List.eq_nil_of_length_eq_zero (show x1.length=0 by omega);obtain rfl:=List.eq_nil_of_length_eq_zero (show y1.length=0 by omega);simp[ZgC]
 |succ n ih=>
  intro x1 x2 y1 y2 h b d;cases x1 with
  |nil=>
   cases y1 with
   |nil=>simp[ZgC]
   |cons y y1=>
    cases x2 with
    |nil=>simp[ZgC]
    |cons x x2=>
     simp only[List.length_cons,List.length_nil]at h;rw[List.nil_append,List.cons_append,Zme _ _ (b y (by simp) x (by simp)),ZgC];have:=ih [] (x :: x2) y1 y2 (by simp only[List.length_nil];omega) (fun y' fC=>b y' (by simp[fC])) (by simp);rw[List.nil_append,ZgC]at this;rw[this];rfl
  |cons x x1=>
   cases y1 with
   |nil=>
    cases y2 with
    |nil=>simp[ZkQ]
    |cons y y2=>
     simp only[List.length_cons,List.length_nil]at h;rw[List.nil_append,List.cons_append,Zne _ _ (d x (by simp) y (by simp)),ZkQ];have:=ih x1 x2 [] (y :: y2) (by simp only[List.length_nil];omega) (by simp) (fun x' ji=>d x' (by simp[ji]));rw[List.nil_append,ZkQ]at this;rw[this];rfl
   |cons y y1=>
    simp only[List.length_cons]at h;rw[List.cons_append,List.cons_append];cases e:ltP y x with
    |true=>
     rw[Zme _ _ e,Zme _ _ e,<-List.cons_append,ih (x :: x1) x2 y1 y2 (by simp only[List.length_cons];omega) (fun y' fC=>b y' (by simp[fC])) d];rfl
    |false=>
     have:=ih x1 x2 (y :: y1) y2 (by simp only[List.length_cons];omega) b (fun x' ji=>d x' (by simp[ji]));rw[List.cons_append]at this;rw[Zne _ _ e,Zne _ _ e,this];rfl
theorem ZKB:∀(n:Nat)(a b:Prs),a.length+b.length<=n->(mrg a b).length=a.length+b.length:=by
 intro n;induction n with
 |zero=>
  intro a b h;obtain rfl:=List.eq_nil_of_length_eq_zero (show a.length=0 by omega);simp[ZgC]
 |succ n ih=>
  intro a b h;cases a with
  |nil=>simp[ZgC]
  |cons x a=>
   cases b with
   |nil=>simp[ZkQ]
   |cons y b=>
    simp only[List.length_cons]at h ⊢;cases d:ltP y x with
    |true=>rw[Zme _ _ d,List.length_cons,ih _ _ (by simp only[List.length_cons];omega)];simp only[List.length_cons];omega
    |false=>rw[Zne _ _ d,List.length_cons,ih _ _ (by simp only[List.length_cons];omega)];simp only[List.length_cons];omega
theorem ZKA:∀(n:Nat)(a b:Prs),a.length+b.length<=n->∀z∈mrg a b,z∈a\/z∈b:=by
 intro n;induction n with
 |zero=>
  intro a b h z hz;obtain rfl:=List.eq_nil_of_length_eq_zero (show a.length=0 by omega);rw[ZgC]at hz;exact .inr hz
 |succ n ih=>
  intro a b h z hz;cases a with
  |nil=>rw[ZgC]at hz;exact .inr hz
  |cons x a=>
   cases b with
   |nil=>rw[ZkQ]at hz;exact .inl hz
   |cons y b=>
    simp only[List.length_cons]at h;cases d:ltP y x with
    |true=>
     rw[Zme _ _ d]at hz;rcases List.mem_cons.1 hz with hz|hz
     .exact .inr (by simp[hz])
     .rcases ih _ _ (by simp only[List.length_cons];omega) z hz with q|q
      .exact .inl q
      .exact .inr (by simp[q])
    |false=>
     rw[Zne _ _ d]at hz;rcases List.mem_cons.1 hz with hz|hz
     .exact .inl (by simp[hz])
     .rcases ih _ _ (by simp only[List.length_cons];omega) z hz with q|q
      .exact .inl (by simp[q])
      .exact .inr q
def SrtP(l:Prs):Prop:=l.Pairwise fun x y=>ltP y x=false
theorem ZGv{x y:Zaa}(h:ltP x y=true):ltP y x=false:=by
 rw[Zlj]at h;rw[Zrz];intro b;have:=Zgl.2 b;omega
theorem ZKz:∀(n:Nat)(a b:Prs),a.length+b.length<=n->SrtP a->SrtP b->SrtP (mrg a b):=by
 intro n;induction n with
 |zero=>
  intro a b h e hb;obtain rfl:=List.eq_nil_of_length_eq_zero (show a.length=0 by omega);rw[ZgC];exact hb
 |succ n ih=>
  intro a b h e hb;cases a with
  |nil=>rw[ZgC];exact hb
  |cons x a=>
   cases b with
   |nil=>rw[ZkQ];exact e
   |cons y b=>
    simp only[List.length_cons]at h;have cT:=List.pairwise_cons.1 e;have aQ:=List.pairwise_cons.1 hb;cases d:ltP y x with
    |true=>
     rw[Zme _ _ d];refine List.pairwise_cons.2 ⟨fun z f=>?_,ih _ _ (by simp only[List.length_cons];omega) e aQ.2⟩;rcases ZKA _ _ _ (Nat.le_refl _) z f with q|q
     .have:ltP x y=false:=ZGv d;rcases List.mem_cons.1 q with q|q
      .rw[q];exact this
      .exact Znf (cT.1 z q) this
     .exact aQ.1 z q
    |false=>
     rw[Zne _ _ d];refine List.pairwise_cons.2 ⟨fun z f=>?_,ih _ _ (by simp only[List.length_cons];omega) cT.2 hb⟩;rcases ZKA _ _ _ (Nat.le_refl _) z f with q|q
     .exact cT.1 z q
     .rcases List.mem_cons.1 q with q|q
      .rw[q];exact d
      .exact Znf (aQ.1 z q) d
def ZfC(l:Prs):Prs:=l.foldl (fun o x=>mrg o [x]) []
theorem ZoO(l:Prs)(x:Zaa):ZfC (l++[x])=mrg (ZfC l) [x]:=by unfold ZfC;rw[List.foldl_append];rfl
theorem Zuc(xs ys:Prs):ZfC (xs++ys)=mrg (ZfC xs) (ZfC ys):=by
 have:∀n,n<=ys.length->ZfC (xs++ys.take n)=mrg (ZfC xs) (ZfC (ys.take n)):=by
  intro n;induction n with
  |zero=>intro _;simp[ZfC,ZkQ]
  |succ n ih=>
   intro h;rw[List.take_succ_eq_append_getElem (show n<ys.length by omega),<-List.append_assoc,ZoO,ZoO,ih (by omega),ZKC _ _ _ _ (Nat.le_refl _)]
 have h:=this ys.length (Nat.le_refl _);rwa [List.take_length]at h
theorem Zll(l:Prs):(ZfC l).length=l.length:=by
 have:∀n,n<=l.length->(ZfC (l.take n)).length=n:=by
  intro n;induction n with
  |zero=>intro _;simp[ZfC]
  |succ n ih=>
   intro h;rw[List.take_succ_eq_append_getElem (show n<l.length by omega),ZoO,ZKB _ _ _ (Nat.le_refl _),ih (by omega)];rfl
 have h:=this l.length (Nat.le_refl _);rwa [List.take_length]at h
theorem ZoN(l:Prs):SrtP (ZfC l):=by
 have:∀n,n<=l.length->SrtP (ZfC (l.take n)):=by
  intro n;induction n with
  |zero=>intro _;simp[ZfC,SrtP]
  |succ n ih=>
   intro h;rw[List.take_succ_eq_append_getElem (show n<l.length by omega),ZoO];exact ZKz _ _ _ (Nat.le_refl _) (ih (by omega)) (by simp[SrtP])
 have h:=this l.length (Nat.le_refl _);rwa [List.take_length]at h
theorem ZvB{o1 d:Prs}{x:Zaa}(g:∀y∈o1,ltP x y=false)(h:∀y∈d,ltP x y=true):mrg (o1++d) [x]=o1++x :: d:=by
 have a:=Zqr _ o1 d [x] [] (Nat.le_refl _) (fun y e z f=>by rw[List.mem_singleton.1 e];exact h z f) (by simp);have b:=Zqr _ o1 [] [] [x] (Nat.le_refl _) (by simp) (fun z f y e=>by rw[List.mem_singleton.1 e];exact g z f);simp only[List.append_nil,List.nil_append,ZkQ,ZgC]at a b;rw[a,b];simp
theorem ZQw{o1 d:Prs}{x:Zaa}(g:∀y∈o1,ltP y x=true)(h:∀y∈d,ltP y x=false):mrg [x] (o1++d)=o1++x :: d:=by
 have a:=Zqr _ [] [x] o1 d (Nat.le_refl _) (fun y e z f=>by rw[List.mem_singleton.1 f];exact g y e) (by simp);have b:=Zqr _ [x] [] [] d (Nat.le_refl _) (by simp) (fun z f y e=>by rw[List.mem_singleton.1 f];exact h y e);simp only[List.append_nil,List.nil_append,ZkQ,ZgC]at a b;rw[a,b];simp
theorem Zuv(o:Prs)(x:Zaa)(g:SrtP o)(hl:o.length<=900000):ZdM o x=some (mrg o [x]):=by
 have j:o.length<=maxLen:=by unfold maxLen;omega
 have aK:∀(fu i:Nat),i<=o.length->o.length-i<fu->(∀y∈o.take i,ltP x y=false)->Zfs o fu (i:Int) x=some (mrg o [x]):=by
  intro fu;induction fu with
  |zero=>intro _ _ h;omega
  |succ fu ih=>
   intro i r t dr;unfold Zfs;have fin:(∀y∈o.drop i,ltP x y=true)->o.take i++[x]++o.drop i=mrg o [x]:=fun h=>by
    have:=ZvB dr h;rw[List.take_append_drop]at this;rw[this];simp
   have lt:(o.take i).length=i:=by simp;omega
   have ld:(o.drop i).length=o.length-i:=by simp
   have n1:(o.take i).length * 80<=140737488355328/\(o.take i).length<=maxLen:=by rw[lt];unfold maxLen;omega
   have n2:(o.take i++[x]).length * 80<=140737488355328/\(o.take i++[x]).length<=maxLen:=by simp only[List.length_append,lt,List.length_singleton,maxLen];omega
   have n3:(o.take i++[x]++o.drop i).length * 80<=140737488355328/\(o.take i++[x]++o.drop i).length<=maxLen:=by simp only[List.length_append,lt,ld,List.length_singleton,maxLen];omega
   simp only[Zad,Int.toNat_natCast,List.nil_append,Zaj n1,Zaj n2,Zaj n3];by_cases h:i<o.length
   .rw[iNb,Zaj ⟨by omega,by omega⟩,Zsw,Zan];have n:Zam (i:Int) 1=((i+1:Nat):Int):=add1 h j;have hd:=Zdc o Zaa.d i h;by_cases e:cmpE (o.getD i Zaa.d).fEnd x.fEnd<=0
    .rw[if_pos e,n];refine ih (i+1) (by omega) (by omega) fun y b=>?_;rw[List.take_succ_eq_append_getElem h,<-ZbA o Zaa.d i h]at b;rcases List.mem_append.1 b with q|q
     .exact dr y q
     .rw[List.mem_singleton.1 q,Zrz];intro p;have:=Zgl.2 p;omega
    .rw[if_neg e,Zaj ⟨by omega,by omega⟩,fin];intro y b;have hx:ltP x (o.getD i Zaa.d)=true:=by rw[Zlj];exact Zgl.1 (by omega)
     rw[hd]at b;have f:SrtP (o.drop i):=List.Pairwise.sublist (List.drop_sublist i o) g;rw[hd]at f;rcases List.mem_cons.1 b with q|q
     .rw[q];exact hx
     .exact ZvD hx ((List.pairwise_cons.1 f).1 y q)
   .rw[iNa,Zaj ⟨by omega,by omega⟩,fin];intro y b;rw[List.drop_eq_nil_of_le (by omega)]at b;cases b
 unfold ZdM;have:=aK ((((o.length:Nat):Int)-(0:Int)).toNat+2) 0 (by omega) (by omega) (by simp);exact this
theorem snoc{α:Type}:∀(l:List α),l.length≠0->∃T s,l=T++[s]
 | [x],_=>⟨[],x,rfl⟩
 |x :: y :: l,_=>by
  obtain⟨T,s,h⟩:=snoc (y :: l) (by simp)
  exact⟨x :: T,s,by rw[h];rfl⟩
theorem ZNI{T:Prs}{s x:Zaa}(h:SrtP (T++[s]))(hx:ltP x s=false):∀y∈T++[s],ltP x y=false:=by
 intro y b;rcases List.mem_append.1 b with q|q
 .exact Znf hx ((List.pairwise_append.1 h).2.2 y q s (by simp))
 .rw[List.mem_singleton.1 q];exact hx
theorem ZKQ(P:Prs)(x:Zaa)(R:Prs)(h v8:Int)(k:Int->Prs->Option Prs):∀(n:Nat)(S1 S2:Prs)(fu:Nat),S1.length=n->SrtP S1->(∀y∈S2,ltP x y=true)->n+1<=fu->P.length+S1.length+S2.length+R.length<=900000 ->
  ZaY (P.length:Int) h v8 k fu ((P.length+n:Nat):Int) (P++(S1++(x :: (S2++R))))=k (Zam v8 1) (P++(mrg (S1++S2) [x]++R)):=by
 intro n;induction n with
 |zero=>
  intro S1 S2 fu f g b i hb;obtain⟨fu,rfl⟩:=sC fu;obtain rfl:=List.eq_nil_of_length_eq_zero f;unfold ZaY;rw[Zad,iNa,ZvB (o1:=[]) (by simp) b];simp
 |succ n ih=>
  intro S1 S2 fu f g b i hb;obtain⟨fu,rfl⟩:=sC fu;obtain⟨T,s,rfl⟩:=snoc S1 (by omega);have j:T.length=n:=by simpa using f
  have o:Zay ((P.length+(n+1):Nat):Int) 1=((P.length+n:Nat):Int):=by rw[Zbi (by omega) (by omega)];omega
  have hl:(P++(T++[s]++(x :: (S2++R)))).length=P.length+(n+1)+1+S2.length+R.length:=by simp;omega
  unfold ZaY;rw[Zad,iNb,o,Zaj (by rw[hl];omega),Zaj (by rw[hl];omega)];simp only[Int.toNat_natCast];have p:(P++(T++[s]++(x :: (S2++R)))).getD (P.length+(n+1)) Zaa.d=x:=ZrA (L:=P++(T++[s])) (R:=S2++R) (by simp) (by simp;omega);have r:(P++(T++[s]++(x :: (S2++R)))).getD (P.length+n) Zaa.d=s:=ZrA (L:=P++T) (R:=x :: (S2++R)) (by simp) (by simp;omega);rw[p,r,ZuB,Zan,Zad];by_cases e:cmpE x.fEnd s.fEnd<0
  .have hx:ltP x s=true:=Zlj.2 e;have s1:(P++(T++[s]++(x :: (S2++R)))).set (P.length+(n+1)) s=P++(T++(s :: (s :: (S2++R)))):=by
    rw[ZtZ (L:=P++(T++[s])) (x:=x) (R:=S2++R) (by simp) (by simp;omega)];simp
   have s2:(P++(T++(s :: (s :: (S2++R))))).set (P.length+n) x=P++(T++(x :: (s :: S2++R))):=by
    rw[ZtZ (L:=P++T) (x:=s) (R:=s :: (S2++R)) (by simp) (by simp;omega)];simp
   rw[if_pos e,s1,s2];have:=ih T (s :: S2) fu j (List.pairwise_append.1 g).1 (fun y t=>by
    rcases List.mem_cons.1 t with q|q
    .rw[q];exact hx
    .exact b y q) (by omega) (by simp only[List.length_append,List.length_singleton,List.length_cons]at hb ⊢;omega)
   rw[this];simp
  .rw[if_neg e,ZvB (ZNI g (Zrz.2 e)) b];simp
theorem ZPz(P L Q:Prs)(hb:P.length+L.length+Q.length<=900000)(a b:Int)(g:a=(P.length:Int))(gC:b=((P.length+L.length:Nat):Int)) :
  ZbK (P++(L++Q)) a b=some (P++(ZfC L++Q)):=by
 subst g gC;have h:Zam (P.length:Int) 1=((P.length+1:Nat):Int):=by rw[Zbb (by omega) (by omega)];omega
 unfold ZbK;rw[h];cases hL:L with
 |nil=>
  unfold ZaH;rw[Zad,if_neg (by simp;omega)];simp[ZfC]
 |cons z Z=>
  rw[<-hL];have mn:1<=L.length:=by rw[hL];simp
  have aK:∀(j k fu:Nat),L.length-k=j->1<=k->k<=L.length->j+1<=fu->ZaH (P.length:Int) ((P.length+L.length:Nat):Int) fu ((P.length+k:Nat):Int) (P++(ZfC (L.take k)++(L.drop k++Q)))=some (P++(ZfC L++Q)):=by
   intro j;induction j with
   |zero=>
    intro k fu i e f n;obtain⟨fu,rfl⟩:=sC fu;unfold ZaH;rw[Zad,iNa,List.take_of_length_le (by omega),List.drop_eq_nil_of_le (by omega)];rfl
   |succ j ih=>
    intro k fu i e f n;obtain⟨fu,rfl⟩:=sC fu;unfold ZaH;have il:=Zll (L.take k);rw[List.length_take,Nat.min_eq_left f]at il;have o:Zam ((P.length+k:Nat):Int) 1=((P.length+(k+1):Nat):Int):=by rw[Zbb (by omega) (by omega)];omega
    rw[Zad,iNb,Zdc L Zaa.d k (by omega)];have:=ZKQ P (L.getD k Zaa.d) (L.drop (k+1)++Q) ((P.length+L.length:Nat):Int) ((P.length+k:Nat):Int) (ZaH (P.length:Int) ((P.length+L.length:Nat):Int) fu) k (ZfC (L.take k)) [] ((((P.length+k:Nat):Int)-(P.length:Int)).toNat+2) il (ZoN _) (by simp) (by omega) (by simp[il];omega);simp only[List.nil_append,List.append_nil,List.cons_append]at this ⊢;rw[this,o,<-ZoO,ZbA L _ k (by omega),<-List.take_succ_eq_append_getElem (by omega)];exact ih (k+1) fu (by omega) (by omega) (by omega) (by omega)
  have e:ZfC (L.take 1)=L.take 1:=by rw[hL];simp[ZfC,ZgC]
  have:=aK (L.length-1) 1 ((((P.length+L.length:Nat):Int)-((P.length+1:Nat):Int)).toNat+2) rfl (Nat.le_refl _) mn (by omega);rw[e,<-List.append_assoc (L.take 1),List.take_append_drop]at this;exact this
def inI(n a b:Int):Bool:=decide (a<=n)&&decide (n<=b)
def nowB(x:Zar):Bool:=inI x.fNow 0 1099511627776
def ZkZ(x:Zar):Bool:=if x.fKind=1\/x.fKind=12\/x.fKind=13 then Zgq x.fEnd&&nowB x else if x.fKind=2 then Zgq x.fEnd else if x.fKind=3\/x.fKind=9 then nowB x else if x.fKind=4 then Zgq x.fEnd&&(nowB x&&inI x.fNum 0 1073741824)else if x.fKind=5 then Zgq x.fEnd&&(inI x.fNum 1 5&&nowB x)else if x.fKind=6 then ZhQ x.fNet&&(inI x.fNum 1 1099511627776&&nowB x)else if x.fKind=7 then ZhQ x.fNet else if x.fKind=8 then ZcN x.fEnd.fAddr&&nowB x else if x.fKind=10 then true else if x.fKind=11 then Zgq x.fEnd&&inI x.fNum 1 1048576 else false
def ZEr(x:Zar)(s:Int×Int)(p:Int):Bool:=if p=0 then Zgq x.fEnd else if p=1 then ZhQ x.fNet else if p=2 then ZcN x.fEnd.fAddr else if p=3 then nowB x else if p=4 then inI x.fNum s.1 s.2 else true
theorem ZFN(x:Zar)(hx:x.ok)(s:Int×Int)(d:Znp x.fKind=some s)(p:Int):Zoa x p=some (ZEr x s p):=by
 have b:x.fEnd.ok:=hx.2.1;have e:x.fNet.ok:=hx.2.2.1;unfold Zoa ZEr;simp only[Zdp,Zpe _ b,ZlT _ e.1,Zlg _ b.1,d,Option.bind_some,nowB,inI,Zad]
 repeat' split
 all_goals first|rfl | (simp_all;done) | (simp_all;omega)
theorem ZFO(x:Zar)(hx:x.ok)(s:Int×Int)(b:Znp x.fKind=some s)(l:List Int)(hl:l.length<=100):ZgP ((((l.length:Nat):Int)-(0:Int)).toNat+2) l (l.length:Int) 0 x=some (l.all (ZEr x s)):=by
 have hL:l.length<=maxLen:=by unfold maxLen;omega
 have aK:∀fu (i:Nat),i<=l.length->l.length-i<fu->ZgP fu l (l.length:Int) (i:Int) x=some ((l.drop i).all (ZEr x s)):=by
  intro fu;induction fu with
  |zero=>intro i _ h;omega
  |succ fu ih=>
   intro i d e;unfold ZgP;simp only[Zad];by_cases h:i<l.length
   .rw[iNb,Zaj ⟨by omega,by omega⟩,ZFN x hx s b,Option.bind_some,add1 h hL,Zdc l (0:Int) i h,List.all_cons,Int.toNat_natCast];cases ZEr x s (l.getD i 0)with
    |true=>simp only[Bool.not_true,cond_false,Bool.true_and];exact ih (i+1) (by omega) (by omega)
    |false=>rfl
   .rw[iNa,List.drop_of_length_le (by omega)];rfl
 exact aK _ 0 (by omega) (by omega)
theorem ZMu(k:Int):∃t,ZpK k=some t/\((t.toList==(⟨#[]⟩ : ByteArray).toList) = !(decide (1<=k)&&decide (k<=13))):=by
 unfold ZpK ZqA ZvY;simp only[Option.bind_some,Zad];by_cases h0:k<0
 .rw[if_pos h0];refine⟨_,rfl,?_⟩;rw[decide_eq_false (show ¬1<=k by omega)];simp
 .rw[if_neg h0];by_cases b:k>=14
  .have d:k>=(([(⟨#[]⟩ : ByteArray),(⟨#[97,99,99,101,112,116]⟩ : ByteArray),(⟨#[108,101,97,118,101]⟩ : ByteArray),(⟨#[100,105,97,108]⟩ : ByteArray),(⟨#[114,101,115,117,108,116]⟩ : ByteArray),(⟨#[98,108,97,109,101]⟩ : ByteArray),(⟨#[98,97,110]⟩ : ByteArray),(⟨#[117,110,98,97,110]⟩ : ByteArray),(⟨#[98,97,110,110,101,100]⟩ : ByteArray),(⟨#[116,105,99,107]⟩ : ByteArray),(⟨#[108,105,115,116]⟩ : ByteArray),(⟨#[112,111,110,103]⟩ : ByteArray),(⟨#[119,111,114,107]⟩ : ByteArray),(⟨#[108,101,97,114,110]⟩ : ByteArray)]:List ByteArray).length:Int):=b;rw[if_pos d];refine⟨_,rfl,?_⟩;rw[decide_eq_true (show 1<=k by omega),decide_eq_false (show ¬k<=13 by omega)];simp
  .obtain h|h|h|h|h|h|h|h|h|h|h|h|h|h:k=0\/k=1\/k=2\/k=3\/k=4\/k=5\/k=6\/k=7\/k=8\/k=9\/k=10\/k=11\/k=12\/k=13:=by omega
   all_goals subst h;exact⟨_,rfl,by decide +kernel⟩
theorem ZxX(x:Zar)(hx:x.ok):Zoc x=some (ZkZ x):=by
 obtain⟨t,d,f⟩:=ZMu x.fKind;unfold Zoc;rw[d,Option.bind_some,f];by_cases b:1<=x.fKind/\x.fKind<=13
 .rw[decide_eq_true b.1,decide_eq_true b.2];simp only[Bool.and_self,Bool.not_true,cond_false];have key:∀(k:Int)(l:List Int)(s:Int×Int),x.fKind=k->Zmq k=some l->Znp k=some s->l.length<=100->l.all (ZEr x s)=ZkZ x->((Zmq x.fKind).bind fun x2=>ZgP ((((x2.length:Nat):Int)-(0:Int)).toNat+2) x2 ((x2.length:Nat):Int) (0:Int) x)=some (ZkZ x):=by
   intro k l s e g i j n;rw[e,g,Option.bind_some,ZFO x hx s (by rw[e];exact i) l j,n]
  obtain h|h|h|h|h|h|h|h|h|h|h|h|h:x.fKind=1\/x.fKind=2\/x.fKind=3\/x.fKind=4\/x.fKind=5\/x.fKind=6\/x.fKind=7\/x.fKind=8\/x.fKind=9\/x.fKind=10\/x.fKind=11\/x.fKind=12\/x.fKind=13:=by omega
  all_goals exact key _ _ _ h rfl rfl (by simp) (by simp[ZkZ,h,ZEr])
 .have o:(decide (1<=x.fKind)&&decide (x.fKind<=13))=false:=by
   rw[Bool.and_eq_false_iff,decide_eq_false_iff_not,decide_eq_false_iff_not];omega
  rw[o];simp only[Bool.not_false,cond_true];unfold ZkZ
  repeat' rw[iNa]
theorem ZHN(x:Zar)(hx:x.ok)(a b:Int)(s:ByteArray)(L:List Int)(hL:L.length=s.size)(h:∀i:Nat,i<s.size->((ZlF s i:Nat):Int)=L.getD i 0)(o:s.size<=100) :
  Zbs a b x ((((s.size:Nat):Int)-(0:Int)).toNat+2) s 0=some (L.all fun c=>if c=101 then Zgq x.fEnd else if c=110 then ZhQ x.fNet else if c=97 then ZcN x.fEnd.fAddr else if c=116 then nowB x else if c=107 then inI x.fNum a b else true):=by
 have e:x.fEnd.ok:=hx.2.1;have j:x.fNet.ok:=hx.2.2.1;have aK:∀fu (i:Nat),i<=s.size->s.size-i<fu->Zbs a b x fu s (i:Int)=some ((L.drop i).all fun c=>if c=101 then Zgq x.fEnd else if c=110 then ZhQ x.fNet else if c=97 then ZcN x.fEnd.fAddr else if c=116 then nowB x else if c=107 then inI x.fNum a b else true):=by
  intro fu;induction fu with
  |zero=>intro i _ h;omega
  |succ fu ih=>
   intro i d p;unfold Zbs;simp only[Zad,Zdp,Zua _ e,Zts _ j.1,Zkq _ e.1,Option.bind_some];by_cases hlt:i<s.size
   .rw[iNb,Zaj ⟨by omega,by omega⟩,add1 (n:=s.size) hlt (by unfold maxLen;omega),Zdc L (0:Int) i (by omega),List.all_cons,Int.toNat_natCast,h i hlt,ih (i+1) (by omega) (by omega)];generalize r:((L.drop (i+1)).all fun c=>if c=101 then Zgq x.fEnd else if c=110 then ZhQ x.fNet else if c=97 then ZcN x.fEnd.fAddr else if c=116 then nowB x else if c=107 then inI x.fNum a b else true)=R;have gQ:∀q:Bool,(bif !q then some false else some R)=some (q&&R):=fun q=>by cases q<;>rfl
    simp only[gQ];have rng:∀n lo d:Int,(if n<lo then some false else if n>d then some false else some R)=some (inI n lo d&&R):=fun n lo d=>by
     unfold inI;by_cases f:n<lo
     .rw[if_pos f,decide_eq_false (by omega)];rfl
     .rw[if_neg f,decide_eq_true (show lo<=n by omega)];by_cases g:n>d
      .rw[if_pos g,decide_eq_false (by omega)];rfl
      .rw[if_neg g,decide_eq_true (show n<=d by omega)];rfl
    simp only[rng];unfold nowB
    repeat' split
    all_goals first|rfl|omega
   .rw[iNa,List.drop_of_length_le (by omega)];rfl
 exact aK _ 0 (by omega) (by omega)
theorem ZrE(x:Zar)(hx:x.ok):ZhW x=some (ZkZ x):=by
 unfold ZhW Zdz;simp only[Zad,Zdp];by_cases d:x.fKind<1
 .rw[if_pos d];unfold ZkZ
  repeat' rw[iNa]
 .rw[if_neg d];by_cases f:x.fKind>13
  .rw[if_pos f];unfold ZkZ
   repeat' rw[iNa]
  .rw[if_neg f];have key:∀(k a b:Int)(s:ByteArray)(L:List Int),x.fKind=k->ZhV k=some s->L.length=s.size->(∀i:Nat,i<s.size->((ZlF s i:Nat):Int)=L.getD i 0)->s.size<=100 ->
     (L.all fun c=>if c=101 then Zgq x.fEnd else if c=110 then ZhQ x.fNet else if c=97 then ZcN x.fEnd.fAddr else if c=116 then nowB x else if c=107 then inI x.fNum a b else true)=ZkZ x ->
     ((ZhV x.fKind).bind fun x1=>Zbs a b x ((((x1.size:Nat):Int)-(0:Int)).toNat+2) x1 (0:Int))=some (ZkZ x):=by
    intro k a b s L e g j n o p;rw[e,g,Option.bind_some,ZHN x hx a b s L j n o,p]
   obtain h|h|h|h|h|h|h|h|h|h|h|h|h:x.fKind=1\/x.fKind=2\/x.fKind=3\/x.fKind=4\/x.fKind=5\/x.fKind=6\/x.fKind=7\/x.fKind=8\/x.fKind=9\/x.fKind=10\/x.fKind=11\/x.fKind=12\/x.fKind=13:=by omega
   .rw[iNa,iNa,iNa];exact key 1 _ _ _ [101,116] h rfl rfl (by decide) (by decide) (by simp[ZkZ,h])
   .rw[iNa,iNa,iNa];exact key 2 _ _ _ [101] h rfl rfl (by decide) (by decide) (by simp[ZkZ,h])
   .rw[iNa,iNa,iNa];exact key 3 _ _ _ [116] h rfl rfl (by decide) (by decide) (by simp[ZkZ,h])
   .rw[iNa,iNa,iNa];exact key 4 _ _ _ [101,103,116,107] h rfl rfl (by decide) (by decide) (by simp[ZkZ,h])
   .rw[if_pos h];exact key 5 _ _ _ [101,107,116] h rfl rfl (by decide) (by decide) (by simp[ZkZ,h])
   .rw[iNa,if_pos h];exact key 6 _ _ _ [110,107,116] h rfl rfl (by decide) (by decide) (by simp[ZkZ,h])
   .rw[iNa,iNa,iNa];exact key 7 _ _ _ [110] h rfl rfl (by decide) (by decide) (by simp[ZkZ,h])
   .rw[iNa,iNa,iNa];exact key 8 _ _ _ [97,116] h rfl rfl (by decide) (by decide) (by simp[ZkZ,h])
   .rw[iNa,iNa,iNa];exact key 9 _ _ _ [116] h rfl rfl (by decide) (by decide) (by simp[ZkZ,h])
   .rw[iNa,iNa,iNa];exact key 10 _ _ _ [] h rfl rfl (by decide) (by decide) (by simp[ZkZ,h])
   .rw[iNa,iNa,if_pos h];exact key 11 _ _ _ [101,107] h rfl rfl (by decide) (by decide) (by simp[ZkZ,h])
   .rw[iNa,iNa,iNa];exact key 12 _ _ _ [101,116] h rfl rfl (by decide) (by decide) (by simp[ZkZ,h])
   .rw[iNa,iNa,iNa];exact key 13 _ _ _ [101,116] h rfl rfl (by decide) (by decide) (by simp[ZkZ,h])
def Zqh(l:List Zac)(a:Zaf)(ah:Int):Int:=(ZjQ l a ah).getD 0
theorem Zmd(l:List Zac)(a:Zaf)(ah:Int)(hl:l.length<=maxLen)(aJ:∀b∈l,b.ok)(d:a.ok):ZjQ l a ah=some (Zqh l a ah)/\ZdK l a ah=some (Zqh l a ah):=by
 obtain⟨r,u1,u2⟩:=Zyi l a ah hl aJ d;obtain⟨s,u3,u4⟩:=Zvm l a ah hl aJ d;have ml:r=s:=Zxy u2 u4 fun b=>Iff.rfl;subst ml;unfold Zqh;rw[u1,u3];exact⟨rfl,rfl⟩
set_option linter.unusedSectionVars false
def Zuu(k:Int):Zal:=⟨k,endZ,0,0,[]⟩
def Zvt(p:Zaa)(ms:Int):Zaa:=(ZjK p ms).getD p
theorem ZyD(p:Zaa)(ms:Int):ZjK p ms=some (Zvt p ms)/\ZgM p ms=some (Zvt p ms):=by
 obtain⟨q,b,d⟩:=ZQv p ms;unfold Zvt;rw[b,d];exact⟨rfl,rfl⟩
def ZuY(p:Zaa)(ah:Int):Zaa:=(Zhv p ah).getD p
theorem Zyg(p:Zaa)(ah:Int):Zhv p ah=some (ZuY p ah)/\Zfv p ah=some (ZuY p ah):=by
 obtain⟨q,b,d⟩:=ZJy p ah;unfold ZuY;rw[b,d];exact⟨rfl,rfl⟩
theorem ZFS(a b:Int):okI .i64 (addT a b):=by
 have:=ZfA (fitI a+fitI b);unfold addT;simp only[okI,Lit.wf,IntKind.min,IntKind.max,IntKind.bits,IntKind.signed];simp;omega
theorem ZuM(a:Zaf)(h:a.ok):(Zqc a).ok:=by
 unfold Zqc;split
 .refine⟨h,?_,trivial⟩;have:wid a<=128:=ZtX a;simp only[okI,Lit.wf,IntKind.min,IntKind.max,IntKind.bits,IntKind.signed];simp;omega
 .exact⟨⟨trivial,rfl,rfl,trivial⟩,rfl,trivial⟩
def stE(e:Zab)(s:Int):Zab:=⟨e.fEnd,s,e.fFails,e.fNext⟩
def ZvU(e:Zab):Zab:=⟨e.fEnd,3,0,e.fNext⟩
def newE(x:Zar):Zab:=⟨x.fEnd,1,0,fitI x.fNow⟩
def ZrG(x:Zar):Zaa:=⟨x.fEnd,false,fitI x.fNow,⟨0,fitI x.fNow⟩,0,0⟩
def entA(l:List Zab)(e:Zag):Zab:=l.getD (Zer l e).toNat Zab.d
def StrP(l:Prs):Prop:=l.Pairwise fun x y=>ltP x y=true
theorem ZuE:∀(n:Nat)(a b:Prs),a.length+b.length<=n->(mrg a b).Perm (a++b)
 | 0,a,b,h=>by
  obtain rfl:=List.eq_nil_of_length_eq_zero (show a.length=0 by omega)
  rw[ZgC];exact List.Perm.refl _
 |n+1,[],b,h=>by rw[ZgC];exact List.Perm.refl _
 |n+1,x :: a,[],h=>by rw[ZkQ,List.append_nil]
 |n+1,x :: a,y :: b,h=>by
  simp only[List.length_cons]at h
  cases d:ltP y x with
  |true=>
   rw[Zme _ _ d]
   refine((ZuE n (x :: a) b (by simp only[List.length_cons];omega)).cons y).trans ?_
   exact List.perm_middle.symm
  |false=>
   rw[Zne _ _ d]
   exact(ZuE n a (y :: b) (by simp only[List.length_cons];omega)).cons x
theorem StrP.filter{l:Prs}(h:StrP l)(p:Zaa->Bool):StrP (l.filter p):=List.Pairwise.filter p h
theorem StrP.inj{l:Prs}(h:StrP l){x y:Zaa}(hx:x∈l)(d:y∈l)(e:x.fEnd=y.fEnd):x=y:=by
 induction l with
 |nil=>cases hx
 |cons z l ih=>
  have b:=List.pairwise_cons.1 h;have key:∀{w},w∈l->w.fEnd≠z.fEnd:=fun{w} f ew=>by
   have:=Zlj.1 (b.1 w f);rw[ZgT.2 ew.symm]at this;omega
  rcases List.mem_cons.1 hx with h1|h1<;>rcases List.mem_cons.1 d with h2|h2
  .rw[h1,h2]
  .exact absurd (by rw[<-e,h1]) (key h2)
  .exact absurd (by rw[e,h2]) (key h1)
  .exact ih b.2 h1 h2
theorem Zug(s:Zak)(b:s.fPeers.length<=1000)(d:s.fBook.length<=1000):ZgV s=some (cntP s.fPeers false+ZeA s.fBook 2):=by
 have e:=ZFL s.fPeers false;have hb:0<=ZeA s.fBook 2/\ZeA s.fBook 2<=1000:=by
  unfold ZeA;have:=List.countP_le_length (p:=fun x:Zab=>decide (x.fState=2)) (l:=s.fBook);omega
 unfold ZgV;rw[Zvn _ _ (by unfold maxLen;omega),Zan,ZKe _ _ (by unfold maxLen;omega),Zan,Zbb (by omega) (by omega)]
theorem ZpS{l:Prs}{e:Zag}:ZgR l e<0↔∀p∈l,p.fEnd≠e:=by
 unfold ZgR;rw[ZmH];simp
theorem ZpT{l:Prs}{e:Zag}(h:0<=ZgR l e):∃k:Nat,k<l.length/\ZgR l e=(k:Int)/\(l.getD k Zaa.d).fEnd=e/\∀j,j<k->(l.getD j Zaa.d).fEnd≠e:=by
 obtain⟨k,b,f,⟨x,g,i⟩,n⟩:=ZmG (fun x:Zaa=>decide (x.fEnd=e)) l 0 h;refine⟨k,b,by unfold ZgR;rw[f,Nat.zero_add],?_,fun j o=>?_⟩
 .have:l.getD k Zaa.d=x:=by rw[List.getD_eq_getElem?_getD,g];rfl
  rw[this];exact of_decide_eq_true i
 .have:=n j o;obtain⟨y,p,r⟩:=this;have t:l.getD j Zaa.d=y:=by rw[List.getD_eq_getElem?_getD,p];rfl
  rw[t];exact of_decide_eq_false r
def butK(l:Prs)(k:Nat):Prs:=l.take k++l.drop (k+1)
theorem Zmu{l:Prs}{k:Nat}(b:k<l.length):l.Perm (l.getD k Zaa.d :: butK l k):=by
 have e:l=l.take k++l.getD k Zaa.d :: l.drop (k+1):=by rw[<-Zdc l _ k b,List.take_append_drop]
 conv=>lhs;rw[e]
 exact List.perm_middle
theorem ZGc{α:Type}(l:List α)(d:α){i:Nat}(b:i<l.length)(x:α):(l.set i x).getD i d=x:=by simp[List.getD_eq_getElem?_getD,b]
theorem ZJO{l:Prs}{k:Nat}(b:k<l.length)(y:Zaa):(l.set k y).Perm (y :: butK l k):=by
 have h:=Zmu (l:=l.set k y) (k:=k) (by simpa using b);rw[ZGc l _ b]at h;have e:butK (l.set k y) k=butK l k:=by
  unfold butK;rw[List.take_set_of_le (Nat.le_refl k),List.drop_set_of_lt (by omega)]
 rwa [e]at h
theorem Zqk{l:Prs}(h:StrP l)(k:Nat):StrP (butK l k):=by
 have e:(butK l k).Sublist l:=by
  unfold butK
  conv=>rhs;rw[<-List.take_append_drop k l]
  refine List.Sublist.append (List.Sublist.refl _) ?_;have:l.drop (k+1)=(l.drop k).drop 1:=by rw[List.drop_drop]
  rw[this];exact List.drop_sublist 1 _
 exact List.Pairwise.sublist e h
theorem StrP.set{l:Prs}(h:StrP l){k:Nat}(p:k<l.length){y:Zaa}(b:y.fEnd=(l.getD k Zaa.d).fEnd):StrP (l.set k y):=by
 unfold StrP at h ⊢;rw[List.pairwise_iff_getElem]at h ⊢;intro i j n o hij;simp only[List.length_set]at n o;have e:=Zlj.1 (h i j n o hij);rw[ZbA l _ k p]at b;rw[Zlj];simp only[List.getElem_set];by_cases f:k=i<;>by_cases g:k=j
 .omega
 .subst f;rw[if_pos rfl,if_neg g,b];exact e
 .subst g;rw[if_neg f,if_pos rfl,b];exact e
 .rw[if_neg f,if_neg g];exact e
theorem ZBb(l:List Zab)(e:Zab):(putS l e).Perm (e :: l):=by
 unfold putS;have h:=List.takeWhile_append_dropWhile (p:=fun x:Zab=>!decide (0<cmpE x.fEnd e.fEnd)) (l:=l)
 conv=>rhs;rw[<-h]
 rw[List.append_assoc];exact List.perm_middle
theorem ZRF{x y:Zaa}(b:ltP y x=false)(d:x.fEnd≠y.fEnd):ltP x y=true:=by
 rw[Zrz]at b;rw[Zlj];have e:cmpE x.fEnd y.fEnd≠0:=fun h=>d (ZgT.1 h);have f:¬0<cmpE x.fEnd y.fEnd:=fun h=>b (Zgl.1 h);omega
theorem ZKI{x y:Zaa}(h:ltP x y=true):x.fEnd≠y.fEnd:=fun e=>by
 rw[Zlj,ZgT.2 e]at h
 exact absurd h (by decide)
theorem Zqj{l:Prs}(h:StrP l):SrtP l:=h.imp fun h=>ZGv h
theorem Zva{l:Prs}(h:StrP l){p:Zaa}(d:∀q∈l,q.fEnd≠p.fEnd):StrP (mrg l [p])/\(mrg l [p]).Perm (p :: l):=by
 have b:(mrg l [p]).Perm (p :: l):=(ZuE _ l [p] (Nat.le_refl _)).trans (List.perm_append_singleton p l);have hd:(p :: l).Pairwise fun x y=>x.fEnd≠y.fEnd:=List.pairwise_cons.2 ⟨fun q e=>(d q e).symm,h.imp fun h=>ZKI h⟩;have jg:(mrg l [p]).Pairwise fun x y=>x.fEnd≠y.fEnd:=hd.perm b.symm fun h=>h.symm;have f:SrtP (mrg l [p]):=ZKz _ l [p] (Nat.le_refl _) (Zqj h) (List.pairwise_singleton _ _);exact⟨(f.and jg).imp fun h=>ZRF h.1 h.2,b⟩
theorem no35(k:Int):Zbq k=some (Zuu k):=rfl
theorem ZPY(l:Prs)(hl:l.length<=1000000):ZiP l=some (Zlh l):=by
 have hL:l.length<=maxLen:=by unfold maxLen;omega
 have aK:∀fu (i:Nat) w,i<=l.length->l.length-i<fu->w=Zlh (l.take i)->ZeP l fu (i:Int) w=some (Zlh l):=by
  intro fu;induction fu with
  |zero=>intro i w _ h;omega
  |succ fu ih=>
   intro i w d e b;unfold ZeP;simp only[Zad];by_cases h:i<l.length
   .have hwl:w.length<=1000000:=by rw[b];unfold Zlh;simp;omega
    rw[iNb,Zaj ⟨by omega,by omega⟩,add1 h hL,Zaj ⟨by simp;omega,by simp[maxLen];omega⟩];refine ih (i+1) _ (by omega) (by omega) ?_;rw[b];unfold Zlh;rw[List.take_succ_eq_append_getElem h,List.map_append,Int.toNat_natCast,ZbA l _ i h];rfl
   .rw[iNa,b];have:i=l.length:=by omega
    rw[this,List.take_length]
 exact aK _ 0 [] (by omega) (by omega) rfl
theorem Zvx{n:Int}(b : -9223372036854775808<=n)(d:n<=9223372036854775807):okI .i64 n:=by
 simp only[okI,Lit.wf,IntKind.min,IntKind.max,IntKind.bits,IntKind.signed];simp;omega
theorem okZ:okI .i64 0:=by rfl
def ZlE(x:Zar):Zaa:=⟨x.fEnd,true,fitI x.fNow,⟨0,fitI x.fNow⟩,0,0⟩
theorem Zrt(s:Zak)(b:s.fBans.length<=1000000)(d:s.fBook.length<=1000000)(e:s.fPeers.length<=1000000):ZgI s s=some true:=by
 unfold ZgI;rw[Zyt _ b,Zan,cond_true,Zys _ d,Zan,cond_true,Zru _ e];rfl
theorem ZKS(n a b:Int):Zbg n a b=some (decide (n>=a)&&decide (n<=b)):=by
 unfold Zbg;cases decide (n>=a)<;>rfl
theorem ZQW{α:Type}{c:Bool}{x y:Option α}(d:∃b,x=some b)(e:∃b,y=some b):∃b,(bif c then x else y)=some b:=by
 cases c
 .exact e
 .exact d
theorem ZQq(c:Zaq):∃b,ZeE c=some b:=by
 unfold ZeE;simp only[ZbY,ZbX,ZKS,Zan]
 repeat' first|exact⟨_,rfl⟩|apply ZQW
theorem ZBc(x:Zac)(r:List Zac)(b:Zac):putB (x :: r) b=if 0<cmpN x.fNet b.fNet then b :: x :: r else x :: putB r b:=by
 unfold putB;by_cases h:0<cmpN x.fNet b.fNet
 .rw[if_pos h,List.takeWhile_cons,List.dropWhile_cons,if_neg (by simpa using h),if_neg (by simpa using h)];rfl
 .rw[if_neg h,List.takeWhile_cons,List.dropWhile_cons,if_pos (by simpa using h),if_pos (by simpa using h)];simp
theorem Zsx(b:Zac):∀(l:List Zac)(x:Zac),x∈putB l b↔x=b\/x∈l
 | [],x=>by simp[putB]
 |y :: r,x=>by
  rw[ZBc]
  have ih:=Zsx b r x
  split
  .simp
  .rw[List.mem_cons,ih,List.mem_cons]
   constructor<;>rintro (h|h|h)<;>simp[h]
theorem Zvs(b:Zac):∀(l:List Zac),(l.Pairwise fun x y=>cmpN x.fNet y.fNet<0)->(∀x∈l,x.fNet≠b.fNet)->(putB l b).Pairwise fun x y=>cmpN x.fNet y.fNet<0
 | [],_,_=>by simp[putB]
 |y :: r,h,d=>by
  have p:=List.pairwise_cons.1 h
  rw[ZBc]
  split
  .rename_i hlt
   have hb:cmpN b.fNet y.fNet<0:=Zpf.1 hlt
   refine List.pairwise_cons.2 ⟨fun x hx=>?_,h⟩
   rcases List.mem_cons.1 hx with e|hx
   .rw[e];exact hb
   .exact Znb hb (p.1 x hx)
  .rename_i hlt
   have hne:cmpN y.fNet b.fNet≠0:=fun e=>d y (by simp) (ZjR.1 e)
   refine List.pairwise_cons.2 ⟨fun x hx=>?_,Zvs b r p.2 fun x hx=>d x (by simp[hx])⟩
   rcases(Zsx b r x).1 hx with e|hx
   .rw[e];omega
   .exact p.1 x hx
theorem ZIw{l:List Zac}{n:Zae}(h:¬0<=ZkH l n):∀x∈l,x.fNet≠n:=by
 intro x hx;have:=(ZmH (fun x=>decide (x.fNet=n)) l 0).1 (by unfold ZkH at h;omega) x hx;simpa using this
theorem ZIc{x b:Zac}(hx:Zgm x=true)(hb:Zgm b=true):Zgm (ZyS x b)=true:=by
 unfold Zgm ZyS at *
 simp only[Bool.and_eq_true,decide_eq_true_eq]at *
 refine⟨⟨hx.1.1,?_⟩,?_⟩
 .split
  .exact hb.1.2
  .exact hx.1.2
 .split
  .exact hb.2
  .exact hx.2
theorem ZKM{x b:Zac}(hx:x.ok)(hb:b.ok):(ZyS x b).ok:=by
 refine⟨hx.1,?_,trivial⟩;unfold ZyS;simp only;split
 .exact hb.2.1
 .exact hx.2.1
theorem ZJM{l:List Zac}{i:Nat}{z:Zac}(h:Zvi l)(n:i<l.length)(o:Zgm z=true)(r:z.fNet=(l.getD i Zac.d).fNet):Zvi (l.set i z):=by
 refine⟨fun b hb=>?_,?_⟩
 .rcases List.mem_or_eq_of_mem_set hb with h1|h1
  .exact h.1 b h1
  .rw[h1];exact o
 .rw[List.pairwise_iff_getElem];intro p q f g ki;have key:∀k (j:k<(l.set i z).length),((l.set i z)[k]).fNet=(l[k]'(by simpa using j)).fNet:=fun k j=>by
   rw[List.getElem_set];split
   .rename_i e;subst e;rw[r,ZbA l _ i n]
   .rfl
  rw[key p f,key q g];exact List.pairwise_iff_getElem.1 h.2 p q (by simpa using f) (by simpa using g) ki
structure ZFU (most:Int) (i:Nat) (w:List Zac):Prop where
 right:Zvi w
 ok:∀b∈w,b.ok
 most:(w.length:Int)<=if(0:Int)>most then(0:Int)else most
 len:w.length<=i
theorem ZJH{most:Int}{i:Nat}{w:List Zac}(h:ZFU most i w){b:Zac}(hb:b.ok)(h0:(addB w b most).2=0) :
  ZFU most (i+1) (addB w b most).1/\1<=b.fUntil/\ZhQ b.fNet=true/\∃e∈(addB w b most).1,e.fNet=b.fNet/\b.fUntil<=e.fUntil:=by
 unfold addB at h0 ⊢;split at h0;rotate_left
 .simp at h0
 rename_i g;have bq:=g;unfold Zgm at bq;simp only[Bool.and_eq_true,decide_eq_true_eq]at bq;rw[if_pos g];split at h0
 .rename_i f;rw[if_pos f];obtain⟨f1,f2⟩:=ZtO w b.fNet f;have bJ:=Zcw w Zac.d (ZkH w b.fNet).toNat f1;generalize (ZkH w b.fNet).toNat=k at f1 f2 bJ ⊢;refine⟨⟨ZJM h.right f1 (ZIc (h.right.1 _ bJ) g) rfl,fun c hc=>?_,by simpa using h.most,by simp;have:=h.len;omega⟩,bq.1.2,bq.1.1,ZyS (w.getD k Zac.d) b,?_,f2,?_⟩
  .rcases List.mem_or_eq_of_mem_set hc with h1|h1
   .exact h.ok c h1
   .rw[h1];exact ZKM (h.ok _ bJ) hb
  .exact List.mem_set f1 _
  .unfold ZyS;simp only;split<;>omega
 .rename_i f;rw[if_neg f];split at h0
  .simp at h0
  .rename_i j;rw[if_neg j];have kj:=h.most;refine⟨⟨⟨fun c hc=>?_,Zvs b w h.right.2 (ZIw f)⟩,fun c hc=>?_,?_,by rw[ZyC];have:=h.len;omega⟩,bq.1.2,bq.1.1,b,(Zsx b w b).2 (.inl rfl),rfl,Int.le_refl _⟩
   .rcases(Zsx b w c).1 hc with e|hc
    .rw[e];exact g
    .exact h.right.1 c hc
   .rcases(Zsx b w c).1 hc with e|hc
    .rw[e];exact hb
    .exact h.ok c hc
   .rw[ZyC];split at kj<;>split<;>omega
theorem ZFU.sub{most:Int}{i:Nat}{w w':List Zac}(h:ZFU most i w)(d:w'.Sublist w):ZFU most (i+1) w':=
 ⟨ZHK h.right d,fun b hb=>h.ok b (d.subset hb),by have:=h.most;have:=d.length_le;omega,by have:=h.len;have:=d.length_le;omega⟩
def SrtE(l:List Zab):Prop:=l.Pairwise fun a b=>cmpE a.fEnd b.fEnd<0
theorem ZKk{l:List Zab}{e:Zab}(f:SrtE l)(g:Zer l e.fEnd<0):SrtE (putS l e):=by
 unfold SrtE at f ⊢;rw[ZqH]at g
 .have bM:=List.takeWhile_append_dropWhile (p:=fun x:Zab=>!decide (0<cmpE x.fEnd e.fEnd)) (l:=l);have i:(l.takeWhile (fun x:Zab=>!decide (0<cmpE x.fEnd e.fEnd))++l.dropWhile (fun x:Zab=>!decide (0<cmpE x.fEnd e.fEnd))).Pairwise (fun a b=>cmpE a.fEnd b.fEnd<0):=by rw[bM];exact f
  obtain⟨p1,p2,p3⟩:=List.pairwise_append.1 i;have lo:∀x∈l.takeWhile (fun x:Zab=>!decide (0<cmpE x.fEnd e.fEnd)),cmpE x.fEnd e.fEnd<0:=by
   intro x hx;have gl:¬0<cmpE x.fEnd e.fEnd:=by simpa using(Zsp _ _ hx)
   have dR:cmpE x.fEnd e.fEnd≠0:=fun h=>g x (List.takeWhile_subset _ hx) (ZgT.1 h);omega
  have j:∀x∈l.dropWhile (fun x:Zab=>!decide (0<cmpE x.fEnd e.fEnd)),cmpE e.fEnd x.fEnd<0:=by
   intro x hx;cases hd:l.dropWhile (fun x:Zab=>!decide (0<cmpE x.fEnd e.fEnd))with
   |nil=>rw[hd]at hx;cases hx
   |cons y r=>
    have n:0<cmpE y.fEnd e.fEnd:=by
     have:=List.head?_dropWhile_not (fun x:Zab=>!decide (0<cmpE x.fEnd e.fEnd)) l;rw[hd]at this;simpa using this
    rw[hd]at hx p2;have fC:=Zgl.1 n;rcases List.mem_cons.1 hx with rfl|hx
    .exact fC
    .exact ZlS fC ((List.pairwise_cons.1 p2).1 x hx)
  unfold putS;rw[List.append_assoc];refine List.pairwise_append.2 ⟨p1,List.pairwise_append.2 ⟨List.pairwise_singleton _ _,p2,fun a d b hb=>?_⟩,fun a d b hb=>?_⟩
  .rw[List.mem_singleton.1 d];exact j b hb
  .rcases List.mem_append.1 hb with hb|hb
   .rw[List.mem_singleton.1 hb];exact lo a d
   .exact p3 a d b hb
theorem ZJN{l:List Zab}{e:Zab}(h:SrtE l):SrtE (setS l e):=by
 unfold setS;split
 .rename_i o;obtain⟨k,p,hk2,⟨x,hx,mo⟩,_⟩:=ZmG _ l 0 o;have mo:x.fEnd=e.fEnd:=of_decide_eq_true mo;rw[show Zer l e.fEnd=((0+k:Nat):Int)from hk2,Nat.zero_add,Int.toNat_natCast];have n:∀j:Nat,((l.set k e)[j]?).map Zab.fEnd=(l[j]?).map Zab.fEnd:=by
   intro j;rw[List.getElem?_set];split
   .rename_i ej;subst ej;rw[hx];simp[mo]
   .rfl
  refine List.pairwise_iff_getElem.2 fun i j b d hij=>?_
  .rw[List.length_set]at b d;have f:=n i;have g:=n j;rw[List.getElem?_eq_getElem (by rw[List.length_set];exact b),List.getElem?_eq_getElem b]at f;rw[List.getElem?_eq_getElem (by rw[List.length_set];exact d),List.getElem?_eq_getElem d]at g;simp only[Option.map_some,Option.some.injEq]at f g;rw[f,g];exact List.pairwise_iff_getElem.1 h i j b d hij
 .exact h
theorem ZMT{l:List Zab}(h:SrtE l)(b:Zab)(most:Int):SrtE (addS l b most).1:=by
 unfold addS;split
 .split
  .exact List.Pairwise.nil
  .rename_i d;split
   .exact List.Pairwise.nil
   .exact ZKk h (by omega)
 .exact List.Pairwise.nil
theorem ZMi(l:List Zag)(e:Zab):(Zmz l e).fEnd=e.fEnd:=by
 unfold Zmz;split
 .split<;>rfl
 .rfl
theorem ZMf{l:List Zab}(h:SrtE l)(g:List Zag):SrtE (l.map (Zmz g)):=by
 unfold SrtE at h ⊢;rw[List.pairwise_map];simp only[ZMi];exact h
structure cN (N:Nat) (s:Zak):Prop where
 bans:∀b∈s.fBans,b.ok
 book:∀e∈s.fBook,e.ok
 peers:∀p∈s.fPeers,p.ok
 str:StrP s.fPeers
 n1:s.fBans.length<=N
 n2:s.fBook.length<=N
 n3:s.fPeers.length<=N
 srt:SrtE s.fBook
theorem cN.up{N:Nat}{s:Zak}(h:cN N s):cN (N+1) s:=⟨h.bans,h.book,h.peers,h.str,by have:=h.n1;omega,by have:=h.n2;omega,by have:=h.n3;omega,h.srt⟩
theorem ZpR(a:Int):okI .i64 (fitI a):=by
 have:=ZfA a;exact Zvx (by omega) (by omega)
theorem ZKy{x:Zar}(hx:x.ok):(ZrG x).ok:=⟨hx.2.1,trivial,ZpR _,⟨okZ,ZpR _,trivial⟩,okZ,okZ,trivial⟩
theorem ZIJ{x:Zar}(hx:x.ok):(ZlE x).ok:=⟨hx.2.1,trivial,ZpR _,⟨okZ,ZpR _,trivial⟩,okZ,okZ,trivial⟩
theorem ZuD{x:Zar}(hx:x.ok):(newE x).ok:=⟨hx.2.1,rfl,rfl,ZpR _,trivial⟩
theorem ZJI{e:Zab}(b:e.ok)(k:Int)(d:okI .i64 k):(stE e k).ok:=⟨b.1,d,b.2.2.1,b.2.2.2.1,trivial⟩
theorem ZLI{e:Zab}(b:e.ok):(ZvU e).ok:=⟨b.1,rfl,rfl,b.2.2.2.1,trivial⟩
theorem ZMh{e:Zab}(b:e.ok)(l:List Zag):(Zmz l e).ok:=by
 unfold Zmz;split
 .split
  .exact⟨b.1,rfl,b.2.2.1,b.2.2.2.1,trivial⟩
  .exact b
 .exact b
theorem ZBe{p:Zaa}(b:p.ok){n:Int}(d:okI .i64 n):(Zvt p n).ok/\(Zvt p n).fEnd=p.fEnd:=by
 unfold Zvt ZjK;simp only[Zad,Zdp]
 repeat' split
 all_goals first|exact⟨b,rfl⟩|exact⟨⟨b.1,b.2.1,b.2.2.1,b.2.2.2.1,d,b.2.2.2.2.2.1,trivial⟩,rfl⟩
theorem ZAr{p:Zaa}(b:p.ok)(n:Int):(ZuY p n).ok/\(ZuY p n).fEnd=p.fEnd:=by
 unfold ZuY Zhv;rw[ZiX,Zan];refine⟨⟨b.1,b.2.1,b.2.2.1,b.2.2.2.1,b.2.2.2.2.1,?_,trivial⟩,rfl⟩;show okI .i64 (if fitI n>p.fWork then fitI n else p.fWork);split
 .exact ZpR _
 .exact b.2.2.2.2.2.1
theorem ZPe(s:Zas)(h ah:Int):okI .i64 (decS s h ah).fAt:=by
 have b:=ZfA s.fAt;have d:=ZfA ah;have f:Zqt s h ah*(ZnC h).toNat<=(fitI ah-fitI s.fAt).toNat:=Nat.div_mul_le_self _ _;have e:(decS s h ah).fAt=fitI s.fAt+((Zqt s h ah*(ZnC h).toNat:Nat):Int):=rfl;rw[e];exact Zvx (by omega) (by omega)
theorem ZHv{p:Zaa}(b:p.ok)(c:Zaq)(x:Zar):(ZpX c x p).ok:=by
 refine⟨b.1,b.2.1,b.2.2.1,⟨ZpR _,?_,trivial⟩,b.2.2.2.2.1,b.2.2.2.2.2.1,trivial⟩;exact ZPe _ _ _
theorem ZLN{e:Zab}(f:e.ok)(c:Zaq)(ah r:Int):(ZrY c e ah r).ok/\(ZrY c e ah r).fEnd=e.fEnd:=by
 have h:=(Zwb c e ah r).1;unfold Zhy at h;obtain⟨t,b,h⟩:=ZfN h;have g:=Option.some.inj h;unfold Zjh at b;obtain⟨x1,_,b⟩:=ZfN b;obtain⟨x2,_,b⟩:=ZfN b;obtain⟨x3,_,b⟩:=ZfN b;obtain⟨x4,d,b⟩:=ZfN b;have i:=Option.some.inj b;rw[(Zqm _ _).1]at d;have j:=Option.some.inj d;rw[<-g];refine⟨⟨f.1,rfl,?_,?_,trivial⟩,rfl⟩
 .show okI .i64 (Zam (if(999:Int)<(if(0:Int)>e.fFails then(0:Int)else e.fFails)then(999:Int)else(if(0:Int)>e.fFails then(0:Int)else e.fFails)) (1:Int));rw[Zbb (by split<;>(try split)<;>omega) (by split<;>(try split)<;>omega)]
  exact Zvx (by split<;>(try split)<;>omega) (by split<;>(try split)<;>omega)
 .show okI .i64 t;rw[<-i,<-j];exact ZFS _ _
theorem ZHr{l:List Zac}(h:∀b∈l,b.ok){b:Zac}(hb:b.ok)(most:Int):∀y∈(addB l b most).1,y.ok:=by
 unfold addB;split
 .split
  .rename_i d;obtain⟨e,_⟩:=ZtO l b.fNet d;intro y hy;rcases List.mem_or_eq_of_mem_set hy with h2|h2
   .exact h y h2
   .rw[h2];exact ZKM (h _ (Zcw l _ _ e)) hb
  .split
   .intro y hy;cases hy
   .intro y hy;simp only[putB,List.mem_append,List.mem_singleton]at hy;rcases hy with (hy|hy)|hy
    .exact h y ((List.takeWhile_sublist _).mem hy)
    .rw[hy];exact hb
    .exact h y ((List.dropWhile_sublist _).mem hy)
 .intro y hy;cases hy
theorem ZMd{l:List Zac}(h:∀b∈l,b.ok)(n:Zae):∀y∈(Zuo l n).1,y.ok:=by
 unfold Zuo;split
 .intro y d;cases d
 .intro y d;rcases List.mem_append.1 d with h1|h1
  .exact h y (List.mem_of_mem_take h1)
  .exact h y (List.mem_of_mem_drop h1)
theorem ZPp{l:List Zab}(h:∀b∈l,b.ok){b:Zab}(hb:b.ok)(most:Int):∀y∈(addS l b most).1,y.ok:=by
 unfold addS;split
 .split
  .intro y d;cases d
  .split
   .intro y d;cases d
   .intro y d;rcases List.mem_cons.1 ((ZBb l b).mem_iff.1 d)with h1|h1
    .rw[h1];exact hb
    .exact h y h1
 .intro y d;cases d
def ZrM(c:Zaq)(s:Zak):Zag×Bool:=(Zjg s.fPeers c.fQuota c.fSecret).getD (endZ,false)
def ZmA(c:Zaq)(s:Zak)(x:Zar):Zak×Zal:=if Zqh s.fBans x.fEnd.fAddr x.fNow>0 then(s,⟨8,endZ,0,Zqh s.fBans x.fEnd.fAddr x.fNow,[]⟩)else if ZgR s.fPeers x.fEnd>=0 then(s,Zuu 7)else if cntP s.fPeers true>=c.fMaxIn then if(ZrM c s).2=true then(⟨s.fBans,s.fBook,mrg (butK s.fPeers (ZgR s.fPeers (ZrM c s).1).toNat) [ZlE x]⟩,⟨0,(ZrM c s).1,1,0,[]⟩)else(s,Zuu 5)else(⟨s.fBans,s.fBook,mrg s.fPeers [ZlE x]⟩,repZ)
section
variable {c:Zaq} {s:Zak} {x:Zar} {N:Nat} (hx:x.ok) (hI:cN N s) (hN:N<=100)
include hx hI hN
theorem ZFA{e:Zag}{k:Nat}(f:k<s.fPeers.length)(b:ZgR s.fPeers e=(k:Int)):ZgK s.fPeers e=some (butK s.fPeers k,0):=by
 have g:=hI.n3;have d:Zam (k:Int) 1=((k+1:Nat):Int):=add1 (n:=k+1) (by omega) (by simp only[maxLen];omega);unfold ZgK;simp only[List.nil_append];rw[ZiY _ _ (by unfold maxLen;omega),Zan,b,Zad,iNa,Zaj ⟨by omega,by omega⟩,Int.toNat_natCast,Zaj ⟨by simp;omega,by simp[maxLen];omega⟩,d,Zaj ⟨by omega,by omega⟩,Int.toNat_natCast,Zaj ⟨by simp;omega,by simp[maxLen];omega⟩];rfl
theorem Zxf{k:Nat}{y:Zaa}(d:k<s.fPeers.length)(b:ZgR s.fPeers y.fEnd=(k:Int)):ZfI s.fPeers y=some (s.fPeers.set k y):=by
 have e:=hI.n3;unfold ZfI;simp only[List.nil_append];rw[ZiY _ _ (by unfold maxLen;omega),Zan,b,Zad,iNa,Zaj ⟨by omega,by unfold maxLen;omega⟩,Zaj ⟨by omega,by omega⟩,Int.toNat_natCast]
theorem Zzk(h:(ZrM c s).2=true):∃k:Nat,k<s.fPeers.length/\ZgR s.fPeers (ZrM c s).1=(k:Int)/\(s.fPeers.getD k Zaa.d).fEnd=(ZrM c s).1/\(s.fPeers.getD k Zaa.d).fIn=true:=by
 have u:=hI.n3;obtain⟨r,g,_,i⟩:=Zue s.fPeers c.fQuota c.fSecret (by omega) fun p j=>(hI.peers p j).1.1;have e:ZrM c s=r:=by unfold ZrM;rw[g];rfl
 rw[e]at h ⊢;obtain⟨p,p1,p2,p3⟩:=i h;have n:0<=ZgR s.fPeers r.1:=by
  by_cases o:ZgR s.fPeers r.1<0
  .exact absurd p2 (ZpS.1 o p p1)
  .omega
 obtain⟨k,b,t,f,_⟩:=ZpT n;refine⟨k,b,t,f,?_⟩;rw[hI.str.inj (Zcw _ _ k b) p1 (f.trans p2.symm)];exact p3
theorem Zwv:Zjg s.fPeers c.fQuota c.fSecret=some (ZrM c s)/\Zfu s.fPeers c.fQuota c.fSecret=some (ZrM c s):=by
 have g:=hI.n3;obtain⟨r,b,d,_⟩:=Zue s.fPeers c.fQuota c.fSecret (by omega) fun p f=>(hI.peers p f).1.1;have e:ZrM c s=r:=by unfold ZrM;rw[b];rfl
 rw[e];exact⟨b,d⟩
theorem ZzA{k:Nat}(b:k<s.fPeers.length):(butK s.fPeers k).length+1=s.fPeers.length:=by
 have:=(Zmu b).length_eq;simp only[List.length_cons]at this;omega
theorem Zyc:Zhz c s x=some (ZmA c s x):=by
 have i:=hI.n1;have j:=hI.n3;have en:Zdn x.fEnd true x.fNow=some (ZlE x):=by unfold Zdn;rw[ZjE];rfl
 unfold Zhz ZmA;rw[(Zmd s.fBans x.fEnd.fAddr x.fNow (by unfold maxLen;omega) hI.bans hx.2.1.1).2,Zan,Zad];by_cases b:Zqh s.fBans x.fEnd.fAddr x.fNow>0
 .rw[if_pos b,if_pos b];rfl
 rw[if_neg b,if_neg b,ZiY _ _ (by unfold maxLen;omega),Zan,Zad];by_cases d:ZgR s.fPeers x.fEnd>=0
 .rw[if_pos d,if_pos d,no35,Zan]
 rw[if_neg d,if_neg d,en,Zan,Zvn _ _ (by unfold maxLen;omega),Zan,Zad];by_cases e:cntP s.fPeers true>=c.fMaxIn
 .rw[if_pos e,if_pos e,(Zwv hx hI hN).2,Zan];cases h:(ZrM c s).2 with
  |false=>rw[Bool.not_false,cond_true,if_neg (by decide),no35,Zan]
  |true=>
   obtain⟨k,f,g,_,_⟩:=Zzk hx hI hN (c:=c) h;have hb:=ZzA hx hI hN f;rw[Bool.not_true,cond_false,if_pos rfl,ZFA hx hI hN f g,Zan,g,Int.toNat_natCast];show ((ZdM (butK s.fPeers k) (ZlE x)).bind fun x9=>_)=_;rw[Zuv _ _ (Zqj (Zqk hI.str k)) (by omega),Zan]
 .rw[if_neg e,if_neg e,Zuv _ _ (Zqj hI.str) (by omega),Zan];rfl
theorem ZJc:cN (N+1) (ZmA c s x).1:=by
 have d:=hI.up;have r:=hI.n1;have t:=hI.n2;have g:=hI.n3;unfold ZmA;split
 .exact d
 split
 .exact d
 rename_i hnf;have hne:∀q∈s.fPeers,q.fEnd≠(ZlE x).fEnd:=ZpS.1 (show ZgR s.fPeers x.fEnd<0 by omega);have put:∀l:Prs,StrP l->l.length<=N->(∀q∈l,q.ok/\q.fEnd≠(ZlE x).fEnd)->cN (N+1) ⟨s.fBans,s.fBook,mrg l [ZlE x]⟩:=fun l i hl ho=>by
  obtain⟨p1,p2⟩:=Zva i fun q b=>(ho q b).2;refine⟨hI.bans,hI.book,fun p j=>?_,p1,by show s.fBans.length<=N+1;omega,by show s.fBook.length<=N+1;omega,?_,hI.srt⟩
  .rcases List.mem_cons.1 (p2.mem_iff.1 j)with h|h
   .rw[h];exact ZIJ hx
   .exact(ho p h).1
  .show (mrg l [ZlE x]).length<=N+1;rw[p2.length_eq,List.length_cons];omega
 split
 .split
  .rename_i n;obtain⟨k,e,o,_,_⟩:=Zzk hx hI hN (c:=c) n;have hb:=ZzA hx hI hN e;rw[o,Int.toNat_natCast];refine put _ (Zqk hI.str k) (by omega) fun q b=>?_;have f:=(Zmu e).symm.mem_iff.1 (List.mem_cons_of_mem _ b);exact⟨hI.peers q f,hne q f⟩
  .exact d
 .exact put _ hI.str g fun q b=>⟨hI.peers q b,hne q b⟩
end
def ZJf(c:Zaq)(a b:List Zac):Prop:=(∃n:Zac,n.ok/\(addB a n c.fMaxBans).2=0/\b=(addB a n c.fMaxBans).1)\/b.Sublist a
theorem ZJf.same{c:Zaq}{a:List Zac}:ZJf c a a:=.inr (List.Sublist.refl _)
inductive SS (c:Zaq) (s:Zak) (x:Zar):Zak->Prop
 |same:SS c s x s
 |acc (h:Zgq x.fEnd=true):SS c s x (ZmA c s x).1
 |bans {b:List Zac} (hb:ZJf c s.fBans b):SS c s x ⟨b,s.fBook,s.fPeers⟩
 |gone {b:List Zac} (hb:ZJf c s.fBans b) (n:Zae):SS c s x ⟨b,s.fBook.map (Zmz (Zlh (ofP s.fPeers n true))),ofP s.fPeers n false⟩
 |leave {k:Nat} (hk:k<s.fPeers.length) (he:(s.fPeers.getD k Zaa.d).fEnd=x.fEnd):SS c s x ⟨s.fBans,s.fBook.map (Zmz [x.fEnd]),butK s.fPeers k⟩
 |peer {k:Nat} (hk:k<s.fPeers.length) {y:Zaa} (hy:y=Zvt (s.fPeers.getD k Zaa.d) x.fNum\/y=ZuY (s.fPeers.getD k Zaa.d) x.fNow\/y=ZpX c x (s.fPeers.getD k Zaa.d)):SS c s x ⟨s.fBans,s.fBook,s.fPeers.set k y⟩
 |dial {e:Zab} (he:e∈s.fBook) (h1:e.fState=1) (h2:cntP s.fPeers false+ZeA s.fBook 2<c.fMaxOut):SS c s x ⟨s.fBans,setS s.fBook (stE e 2),s.fPeers⟩
 |fail {e f:Zab} (he:e∈s.fBook) (h1:e.fState=2) (hf:f=ZrY c e x.fNow x.fNum\/f=stE e 1):SS c s x ⟨s.fBans,setS s.fBook f,s.fPeers⟩
 |good {e:Zab} (he:e∈s.fBook) (h1:e.fState=2) (h2:e.fEnd=x.fEnd) (h3:ZgR s.fPeers x.fEnd<0) (h4:Zgq x.fEnd=true):SS c s x ⟨s.fBans,setS s.fBook (ZvU e),mrg s.fPeers [ZrG x]⟩
 |learn (h:(addS s.fBook (newE x) c.fMaxBook).2=0):SS c s x ⟨s.fBans,(addS s.fBook (newE x) c.fMaxBook).1,s.fPeers⟩
def Lt(c:Zaq)(s:Zak)(x:Zar)(N:Nat)(r:Option (Zak×Zal)):Prop:=∃y,r=some y/\cN (N+1) y.1/\SS c s x y.1/\y.2.fPeers.length<=N
theorem ZuO{l:List Zab}{e:Zag}(h:0<=Zer l e):(l.getD (Zer l e).toNat Zab.d).fEnd=e:=by
 obtain⟨k,i,b,⟨y,f,g⟩,_⟩:=ZmG (fun y:Zab=>decide (y.fEnd=e)) l 0 h;have ek:(Zer l e).toNat=k:=by unfold Zer;rw[b];omega
 rw[ek,List.getD_eq_getElem?_getD,f];exact of_decide_eq_true g
theorem ZMc{l:List Zac}{n:Zae}(h:(Zuo l n).2=0):((Zuo l n).1).Sublist l:=by
 unfold Zuo at h ⊢;split at h
 .simp at h
 .rename_i b;rw[if_neg b]
  conv=>rhs;rw[<-List.take_append_drop (ZkH l n).toNat l]
  exact List.Sublist.append (List.Sublist.refl _) (by rw[<-List.drop_drop];exact List.drop_sublist _ _)
theorem Zyn{l:List Zab}(h:SrtE l):∀{x y:Zab},x∈l->y∈l->x.fEnd=y.fEnd->x=y:=by
 unfold SrtE at h;induction h with
 |nil=>intro x y hx;cases hx
 |cons b _ ih=>
  intro x y hx hy e;rcases List.mem_cons.1 hx with hx|hx
  .rcases List.mem_cons.1 hy with hy|hy
   .rw[hx,hy]
   .have:=b y hy;rw[<-hx,ZgT.2 e]at this;exact absurd this (by decide)
  .rcases List.mem_cons.1 hy with hy|hy
   .have:=b x hx;rw[<-hy,ZgT.2 e.symm]at this;exact absurd this (by decide)
   .exact ih hx hy e
theorem ZKE{v:ZaC}{ah:Int}{y:Zab}(h:mayS v ah y=true):y.fState=1:=by
 unfold mayS dueS at h;simp only[Bool.and_eq_true,beq_iff_eq]at h;exact h.1.2.1
theorem ZCO{x:Zar}(h:ZkZ x=true)(hk:x.fKind=1\/x.fKind=4):Zgq x.fEnd=true:=by
 unfold ZkZ at h;rcases hk with hk|hk
 .rw[if_pos (.inl hk),Bool.and_eq_true]at h;exact h.1
 .rw[iNa,iNa,iNa,if_pos hk,Bool.and_eq_true]at h;exact h.1
theorem ZJb(c:Zaq)(s:Zak)(x:Zar):(ZmA c s x).2.fPeers=[]:=by
 unfold ZmA
 repeat' split
 all_goals rfl
theorem ZKp{s:Zak}{N:Nat}(hI:cN N s)(f:Zpj ⟨s.fBook,s.fPeers,s.fBans⟩){ah:Int}(b:(ZlB ⟨s.fBook,s.fPeers,s.fBans⟩ ah).2=true) :
  (s.fBook.getD (Zer s.fBook (ZlB ⟨s.fBook,s.fPeers,s.fBans⟩ ah).1).toNat Zab.d).fState=1:=by
 obtain⟨e,ok,g,h⟩:=ZCE f ah;have i:=Zxp h;have j:ZlB ⟨s.fBook,s.fPeers,s.fBans⟩ ah=(e,ok):=by unfold ZlB;rw[g];rfl
 rw[j]at b ⊢;rcases i with⟨_,y,y1,y2,y3,_⟩|⟨q,_⟩
 .have h0:0<=Zer s.fBook e:=Int.not_lt.1 fun q=>ZqH.1 q y y1 y2;have hlt:=ZoC s.fBook e;have n:s.fBook.getD (Zer s.fBook e).toNat Zab.d∈s.fBook:=Zcw _ _ _ (by omega);have o:s.fBook.getD (Zer s.fBook e).toNat Zab.d=y:=Zyn hI.srt n y1 ((ZuO h0).trans y2.symm);show (s.fBook.getD (Zer s.fBook e).toNat Zab.d).fState=1;rw[o];exact ZKE y3
 .rw[show ok=true from b]at q;cases q
section
variable {c:Zaq} {s:Zak} {x:Zar} {N:Nat} (hx:x.ok) (hI:cN N s) (hN:N<=100)
include hx hI hN
theorem Lt.same(r:Zal)(b:r.fPeers.length<=N:=by exact Nat.zero_le _):Lt c s x N (some (s,r)):=⟨_,rfl,hI.up,.same,b⟩
theorem ZGD{b:List Zab}(d:∀e∈b,e.ok)(f:b.length<=N+1)(g:SrtE b):cN (N+1) ⟨s.fBans,b,s.fPeers⟩:=⟨hI.bans,d,hI.peers,hI.str,hI.up.n1,f,hI.up.n3,g⟩
theorem ZGE{b:List Zac}(d:∀e∈b,e.ok)(f:b.length<=N+1):cN (N+1) ⟨b,s.fBook,s.fPeers⟩:=⟨d,hI.book,hI.peers,hI.str,f,hI.up.n2,hI.up.n3,hI.srt⟩
theorem ZEg{k:Nat}(b:k<s.fPeers.length){y:Zaa}(e:y.ok)(f:y.fEnd=(s.fPeers.getD k Zaa.d).fEnd):cN (N+1) ⟨s.fBans,s.fBook,s.fPeers.set k y⟩:=by
 refine⟨hI.bans,hI.book,fun p g=>?_,hI.str.set b f,hI.up.n1,hI.up.n2,by show (s.fPeers.set k y).length<=N+1;rw[List.length_set];exact hI.up.n3,hI.srt⟩;rcases List.mem_or_eq_of_mem_set g with h|h
 .exact hI.peers p h
 .rw[h];exact e
theorem ZGY{bans:List Zac}(hb:(∀b∈bans,b.ok)/\bans.length<=N+1)(l:List Zag){ps:Prs}(d:∀p∈ps,p∈s.fPeers)(f:StrP ps)(j:ps.length<=s.fPeers.length):cN (N+1) ⟨bans,s.fBook.map (Zmz l),ps⟩:=by
 refine⟨hb.1,fun e g=>?_,fun p h=>hI.peers p (d p h),f,hb.2,by show (s.fBook.map (Zmz l)).length<=N+1;rw[List.length_map];exact hI.up.n2,by show ps.length<=N+1;have:=hI.n3;omega,ZMf hI.srt l⟩;obtain⟨y,i,rfl⟩:=List.mem_map.1 g;exact ZMh (hI.book y i) l
theorem ZtA{bans:List Zac}(hb:(∀b∈bans,b.ok)/\bans.length<=N+1){ez:Zae}(e:ez.fAddr.ok):∃z,ZcA ⟨bans,s.fBook,s.fPeers⟩ ez=some z/\cN (N+1) z.1/\z.1=⟨bans,s.fBook.map (Zmz (Zlh (ofP s.fPeers ez true))),ofP s.fPeers ez false⟩:=by
 have n2:=hI.n2;have n3:=hI.n3;have aJ:∀p∈s.fPeers,p.fEnd.fAddr.ok:=fun p d=>(hI.peers p d).1.1;have g:=ZEx s.fPeers ez true;have f:=ZEx s.fPeers ez false;unfold ZcA;dsimp only;rw[Zuy _ _ _ e (by omega) aJ,Zan,Zuy _ _ _ e (by omega) aJ,Zan,ZPY _ (by omega),Zan,Zuw _ _ (by omega) (by simp[Zlh,maxLen];omega),Zan];exact⟨_,rfl,ZGY hx hI hN hb _ (fun p d=>(List.mem_filter.1 d).1) (hI.str.filter _) f,rfl⟩
theorem ZEq:Lt c s x N (Zcq c s x):=by
 have n2:=hI.n2;have n3:=hI.n3;unfold Zcq;rw[ZiY _ _ (by unfold maxLen;omega),Zan,Zad];by_cases h:ZgR s.fPeers x.fEnd<0
 .rw[if_pos h,no35,Zan];exact Lt.same hx hI hN _
 obtain⟨k,b,e,g,_⟩:=ZpT (show 0<=ZgR s.fPeers x.fEnd by omega);have fm:=hI.peers _ (Zcw s.fPeers Zaa.d k b);have hb:=ZzA hx hI hN b;rw[if_neg h,Zdp,Zdp];by_cases i:x.fKind=2
 .rw[if_pos i,ZFA hx hI hN b e,Zan,Zuw _ _ (by omega) (by simp[maxLen]),Zan];exact⟨_,rfl,ZGY hx hI hN ⟨hI.bans,hI.up.n1⟩ _ (fun p j=>(Zmu b).symm.mem_iff.1 (List.mem_cons_of_mem _ j)) (Zqk hI.str k) (by show (butK s.fPeers k).length<=_;omega),.leave b g,Nat.zero_le _⟩
 rw[if_neg i];by_cases e11:x.fKind=11
 .obtain⟨o1,f⟩:=ZBe fm hx.2.2.2.2.1;rw[if_pos e11,Zaj ⟨by omega,by omega⟩,e,Int.toNat_natCast,(ZyD _ _).2,Zan,Zxf hx hI hN b (by rw[f,g];exact e),Zan];exact⟨_,rfl,ZEg hx hI hN b o1 f,.peer b (.inl rfl),Nat.zero_le _⟩
 .obtain⟨o1,f⟩:=ZAr fm x.fNow;rw[if_neg e11,Zaj ⟨by omega,by omega⟩,e,Int.toNat_natCast,(Zyg _ _).2,Zan,Zxf hx hI hN b (by rw[f,g];exact e),Zan];exact⟨_,rfl,ZEg hx hI hN b o1 f,.peer b (.inr (.inl rfl)),Nat.zero_le _⟩
theorem ZoI{e:Zab}(b:e.ok):cN (N+1) ⟨s.fBans,setS s.fBook e,s.fPeers⟩:=ZGD hx hI hN (ZQk hI.book b) (by rw[Zyp];exact hI.up.n2) (ZJN hI.srt)
theorem ZAM(i:Zgq x.fEnd=true):Lt c s x N (Zek c s x):=by
 have n1:=hI.n1;have n2:=hI.n2;have n3:=hI.n3;have hlt:=ZoC s.fBook x.fEnd;unfold Zek;rw[ZqW _ _ (by unfold maxLen;omega),Zan,Zad];by_cases e:Zer s.fBook x.fEnd<0
 .rw[if_pos e,no35,Zan];exact Lt.same hx hI hN _
 have bJ:s.fBook.getD (Zer s.fBook x.fEnd).toNat Zab.d∈s.fBook:=Zcw _ _ _ (by omega);have mq:(s.fBook.getD (Zer s.fBook x.fEnd).toNat Zab.d).ok:=hI.book _ bJ;have hend:(s.fBook.getD (Zer s.fBook x.fEnd).toNat Zab.d).fEnd=x.fEnd:=ZuO (by omega);rw[if_neg e,Zaj ⟨by omega,hlt⟩];cases f:((s.fBook.getD (Zer s.fBook x.fEnd).toNat Zab.d).fState != 2)with
 |true=>rw[cond_true,no35,Zan];exact Lt.same hx hI hN _
 |false=>
  have k6:(s.fBook.getD (Zer s.fBook x.fEnd).toNat Zab.d).fState=2:=by rw[bne_eq_false_iff_eq]at f;exact f
  obtain⟨f1,_⟩:=ZLN mq c x.fNow x.fNum;rw[cond_false,(Zmd s.fBans x.fEnd.fAddr x.fNow (by unfold maxLen;omega) hI.bans hx.2.1.1).2,Zan,(Zwb c _ x.fNow x.fNum).2];cases j:x.fGood with
  |false=>
   rw[Bool.not_false,cond_true,Zan,Zoj _ _ (by omega),Zan,cond_false];exact⟨_,rfl,ZoI hx hI hN f1,.fail bJ k6 (.inl rfl),Nat.zero_le _⟩
  |true=>
   rw[Bool.not_true,cond_false,Zad];by_cases g:Zqh s.fBans x.fEnd.fAddr x.fNow>0
   .rw[if_pos g,Zan,Zoj _ _ (by omega),Zan,cond_true];exact⟨_,rfl,ZoI hx hI hN f1,.fail bJ k6 (.inl rfl),Nat.zero_le _⟩
   rw[if_neg g,ZiY _ _ (by unfold maxLen;omega),Zan,Zad];by_cases b:ZgR s.fPeers x.fEnd>=0
   .have ed:ZdJ (s.fBook.getD (Zer s.fBook x.fEnd).toNat Zab.d) 1=some (stE (s.fBook.getD (Zer s.fBook x.fEnd).toNat Zab.d) 1):=rfl;rw[if_pos b,ed,Zan,Zoj _ _ (by omega),Zan,no35,Zan];exact⟨_,rfl,ZoI hx hI hN (ZJI mq 1 rfl),.fail bJ k6 (.inr rfl),Nat.zero_le _⟩
   .have eg:ZiR (s.fBook.getD (Zer s.fBook x.fEnd).toNat Zab.d)=some (ZvU (s.fBook.getD (Zer s.fBook x.fEnd).toNat Zab.d)):=rfl;have en:Zdn x.fEnd false x.fNow=some (ZrG x):=by unfold Zdn;rw[ZjE];rfl
    have hne:∀q∈s.fPeers,q.fEnd≠(ZrG x).fEnd:=ZpS.1 (show ZgR s.fPeers x.fEnd<0 by omega);obtain⟨p1,p2⟩:=Zva hI.str hne;have hb:=ZoI hx hI hN (ZLI mq);rw[if_neg b,eg,Zan,Zoj _ _ (by omega),Zan,en,Zan,Zuv _ _ (Zqj hI.str) (by omega),Zan];refine⟨_,rfl,⟨hb.bans,hb.book,fun p b=>?_,p1,hb.n1,hb.n2,?_,hb.srt⟩,.good bJ k6 hend (by omega) i,Nat.zero_le _⟩
    .rcases List.mem_cons.1 (p2.mem_iff.1 b)with h|h
     .rw[h];exact ZKy hx
     .exact hI.peers p h
    .show (mrg s.fPeers [ZrG x]).length<=N+1;rw[p2.length_eq,List.length_cons];omega
theorem ZFP:Lt c s x N (ZeC c s x):=by
 have n1:=hI.n1;have n2:=hI.n2;have n3:=hI.n3;have cG:(⟨Zqc x.fEnd.fAddr,addT x.fNow c.fBanFor⟩ : Zac).ok:=⟨ZuM _ hx.2.1.1,ZFS _ _,trivial⟩;unfold ZeC;rw[ZiY _ _ (by unfold maxLen;omega),Zan,Zad];by_cases e:ZgR s.fPeers x.fEnd<0
 .rw[if_pos e,no35,Zan];exact Lt.same hx hI hN _
 obtain⟨k,b,f,g,_⟩:=ZpT (show 0<=ZgR s.fPeers x.fEnd by omega);have fm:=hI.peers _ (Zcw s.fPeers Zaa.d k b);have eJ:=Zyf c x (s.fPeers.getD k Zaa.d);rw[if_neg e,Zaj ⟨by omega,by omega⟩,f,Int.toNat_natCast,(ZGn x.fNum).2.1,Zan,(ZwA c x _).2,Zan,(Ztt _ _ eJ.1 eJ.2).2,Zan];cases hin:Zxn (ZpX c x (s.fPeers.getD k Zaa.d)).fScore c.fLimit with
 |false=>
  rw[Bool.not_false,cond_true,(Zyh _).2,Zxf hx hI hN (y:=ZpX c x (s.fPeers.getD k Zaa.d)) b (show ZgR s.fPeers (s.fPeers.getD k Zaa.d).fEnd=(k:Int)by rw[g];exact f),Zan,Zan];exact⟨_,rfl,ZEg hx hI hN b (ZHv fm c x) rfl,.peer b (.inr (.inr rfl)),Nat.zero_le _⟩
 |true=>
  have fy:=ZHs s.fBans ⟨Zqc x.fEnd.fAddr,addT x.fNow c.fBanFor⟩ c.fMaxBans;have gz:(Zqc x.fEnd.fAddr).fAddr.ok:=(ZuM _ hx.2.1.1).1;rw[Bool.not_true,cond_false,ZGj _ hx.2.1.1,Zan,(Zqm _ _).2,Zan,Zux _ _ _ (by omega) cG,Zan];obtain⟨z1,h,i1,b1⟩:=ZtA hx hI hN (bans:=(addB s.fBans ⟨Zqc x.fEnd.fAddr,addT x.fNow c.fBanFor⟩ c.fMaxBans).1) ⟨ZHr hI.bans cG _,by omega⟩ gz;obtain⟨z2,i,i2,b2⟩:=ZtA hx hI hN (bans:=s.fBans) ⟨hI.bans,hI.up.n1⟩ gz;rw[h,Zan];show Lt c s x N (bif((addB s.fBans ⟨Zqc x.fEnd.fAddr,addT x.fNow c.fBanFor⟩ c.fMaxBans).2==0)then some (z1.1,_)else((ZcA ⟨s.fBans,s.fBook,s.fPeers⟩ (Zqc x.fEnd.fAddr)).bind fun x12=>_));rw[i,Zan,Zdp];split
  .rename_i h0;exact⟨_,rfl,i1,(by show SS c s x z1.1;rw[b1];exact .gone (.inl ⟨_,cG,h0,rfl⟩) _),Nat.zero_le _⟩
  .exact⟨_,rfl,i2,(by show SS c s x z2.1;rw[b2];exact .gone .same _),Nat.zero_le _⟩
theorem ZIZ(f:x.fKind=6\/x.fKind=7\/x.fKind=8\/x.fKind=9):Lt c s x N (Zcz c s x):=by
 have n1:=hI.n1;unfold Zcz;rw[Zdp,Zdp,Zdp,Zad];split
 .split
  .rw[no35,Zan];exact Lt.same hx hI hN _
  .have cG:(⟨x.fNet,x.fNum⟩ : Zac).ok:=⟨hx.2.2.1,hx.2.2.2.2.1,trivial⟩;have fy:=ZHs s.fBans ⟨x.fNet,x.fNum⟩ c.fMaxBans;obtain⟨z1,b,i1,b1⟩:=ZtA hx hI hN (bans:=(addB s.fBans ⟨x.fNet,x.fNum⟩ c.fMaxBans).1) ⟨ZHr hI.bans cG _,by omega⟩ hx.2.2.1.1;rw[Zux _ _ _ (by omega) cG,Zan,b,Zan,no35,Zan];cases h0:((addB s.fBans ⟨x.fNet,x.fNum⟩ c.fMaxBans).2 != 0)with
   |true=>rw[cond_true];exact Lt.same hx hI hN _
   |false=>
    rw[cond_false];rw[bne_eq_false_iff_eq]at h0;exact⟨_,rfl,i1,(by show SS c s x z1.1;rw[b1];exact .gone (.inl ⟨_,cG,h0,rfl⟩) _),Nat.zero_le _⟩
 split
 .rename_i g;have fy:=ZMe s.fBans x.fNet;rw[ZAV _ _ (by omega),Zan,no35,Zan,Zan,Zdp];split
  .rename_i h0;exact⟨_,rfl,ZGE hx hI hN (ZMd hI.bans _) (by omega),.bans (.inr (ZMc h0)),Nat.zero_le _⟩
  .exact Lt.same hx hI hN _
 split
 .rw[(Zmd s.fBans x.fEnd.fAddr x.fNow (by unfold maxLen;omega) hI.bans hx.2.1.1).2,Zan];exact Lt.same hx hI hN _
 .have fy:=ZHA s.fBans x.fNow;rw[ZAT _ _ (by omega),Zan];exact⟨_,rfl,ZGE hx hI hN (fun e d=>hI.bans e (List.mem_filter.1 d).1) (by show (ZlC s.fBans x.fNow).length<=N+1;omega),.bans (.inr List.filter_sublist),Nat.zero_le _⟩
theorem ZED:Zpj ⟨s.fBook,s.fPeers,s.fBans⟩:=⟨by show s.fBook.length<=900;have:=hI.n2;omega,by show s.fPeers.length<=900;have:=hI.n3;omega,by show s.fBans.length<=900;have:=hI.n1;omega,hI.book,hI.peers,hI.bans⟩
theorem ZIK:Lt c s x N (ZeY c s x):=by
 have n1:=hI.n1;have n2:=hI.n2;have n3:=hI.n3;have b:=ZED hx hI hN;unfold ZeY;rw[Zug s (by omega) (by omega),Zan,Zad];split
 .rw[no35,Zan];exact Lt.same hx hI hN _
 rename_i iC;obtain⟨_,f,g⟩:=ZEp b x.fNow;have h:=(ZDN b x.fNow).2;have bY:Zfa s.fBook s.fPeers s.fBans x.fNow=_:=f;have hP:ZeZ s.fBook x.fNow=_:=h;rw[bY,Zan,hP,Zan];cases d:(ZlB ⟨s.fBook,s.fPeers,s.fBans⟩ x.fNow).2 with
 |false=>rw[Bool.not_false,cond_true];exact Lt.same hx hI hN _
 |true=>
  have h0:=g d;have h0'':0<=Zer s.fBook (ZlB ⟨s.fBook,s.fPeers,s.fBans⟩ x.fNow).1:=h0;have hlt:=ZoC s.fBook (ZlB ⟨s.fBook,s.fPeers,s.fBans⟩ x.fNow).1;have ed:∀e,ZdJ e 2=some (stE e 2):=fun e=>rfl;rw[Bool.not_true,cond_false,ZqW _ _ (by unfold maxLen;omega),Zan,Zaj ⟨h0,hlt⟩,ed,Zan,Zoj _ _ (by omega),Zan];exact⟨_,rfl,ZoI hx hI hN (ZJI (hI.book _ (Zcw _ _ _ (by omega))) 2 rfl),.dial (Zcw _ _ _ (by omega)) (ZKp hI b d) (by omega),Nat.zero_le _⟩
theorem Lt.fin{r:Option (Zak×Zal)}(h:Lt c s x N r):Lt c s x N (r.bind fun y=>some (y.1,y.2)):=by
 obtain⟨y,rfl,b,hb⟩:=h;exact⟨y,rfl,b,hb⟩
theorem ZRb:Lt c s x N (Zdy c s x):=by
 have n2:=hI.n2;unfold Zdy;rw[ZrE x hx,Zan];cases d:ZkZ x with
 |false=>rw[Bool.not_false,cond_true,no35,Zan];exact Lt.same hx hI hN _
 |true=>
  rw[Bool.not_true,cond_false,Zyc hx hI hN];simp only[Zdp];split
  .exact⟨_,rfl,ZJc hx hI hN,.acc (ZCO d (.inl (by assumption))),by rw[ZJb];exact Nat.zero_le _⟩
  split
  .exact Lt.fin hx hI hN (ZIK hx hI hN)
  split
  .exact Lt.fin hx hI hN (ZAM hx hI hN (ZCO d (.inr (by assumption))))
  split
  .exact Lt.fin hx hI hN (ZFP hx hI hN)
  have b:∀v:Bool,(v=true->x.fKind=6\/x.fKind=7\/x.fKind=8\/x.fKind=9)->Lt c s x N (ZbI x.fKind v c s x ⟨[],[],[]⟩ repZ):=fun v e=>by
   unfold ZbI;cases v with
   |true=>rw[cond_true];exact Lt.fin hx hI hN (ZIZ hx hI hN (e rfl))
   |false=>
    rw[cond_false,Zdp,Zdp];split
    .exact Lt.same hx hI hN _ hI.n3
    split
    .have en:ZfJ x.fEnd x.fNow=some (newE x):=by unfold ZfJ;rw[ZjE];rfl
     have fy:=ZPq s.fBook (newE x) c.fMaxBook;rw[en,Zan,ZKh _ _ _ (by omega) (ZuD hx),Zan,no35,Zan,Zan,Zdp];split
     .exact⟨_,rfl,ZGD hx hI hN (ZPp hI.book (ZuD hx) _) (by omega) (ZMT hI.srt _ _),.learn (by assumption),Nat.zero_le _⟩
     .exact Lt.same hx hI hN _
    .exact Lt.fin hx hI hN (ZEq hx hI hN)
  split
  .rename_i h;exact b _ fun _=>.inl h
  split
  .rename_i h;exact b _ fun _=>.inr (.inl h)
  split
  .rename_i h;exact b _ fun _=>.inr (.inr (.inl h))
  .exact b _ fun h=>.inr (.inr (.inr (beq_iff_eq.1 h)))
end
theorem ZOn:cN 0 ⟨[],[],[]⟩:=⟨fun b h=>(by cases h),fun b h=>(by cases h),fun b h=>(by cases h),List.Pairwise.nil,Nat.le_refl _,Nat.le_refl _,Nat.le_refl _,List.Pairwise.nil⟩
theorem ZtT(l:List Zaa)(h:l.length<=10000):Zaw l=some l:=by
 unfold Zaw;rw[Zaj ⟨by omega,by unfold maxLen;omega⟩]
theorem ZvM(l:List Zaa)(i:Int)(e:Zaa)(h:l.length<=10000)(h0:0<=i)(b:i.toNat<=l.length):ZaQ l i [e]=some (l.take i.toNat++[e]++l.drop i.toNat):=by
 unfold ZaQ;rw[Zaj ⟨h0,b,by simp,by simp only[List.length_cons,List.length_nil];omega,by simp only[List.length_cons,List.length_nil,maxLen];omega⟩]
theorem ZFE(l:List Zaa)(i:Nat)(h:l.length<=10000)(b:i<l.length):Zdj l (i:Int) ((i+1:Nat):Int)=some (l.take i++l.drop (i+1)):=by
 unfold Zdj;have fy:(appL l i (i+1) (l.length-(i+1))).length=l.length:=ZzF l i (i+1) (l.length-(i+1)) ⟨by omega,by omega⟩;rw[Zaj ⟨by omega,by omega,by omega,by omega⟩,show ((i:Int)==((i+1:Nat):Int))=false by rw[beq_eq_false_iff_ne];omega,cond_false];simp only[Int.toNat_natCast,Nat.zero_add];rw[Zaj ⟨by omega,by omega,by omega⟩,Zaj ⟨by omega,by omega,by omega⟩,Zaj ⟨by omega,by omega⟩,Zaj ⟨by omega,by omega,by omega⟩,Zaj (by rw[fy];omega),Zaj (by rw[Zph _ _ _ _ (by rw[fy];omega),fy];omega)];congr 1;unfold ZdI;rw[List.append_assoc,List.take_append_of_le_length (by simp[fy];omega),List.take_take,Nat.min_self];unfold appL;rw[List.take_append_of_le_length (by simp;omega),List.take_of_length_le (by simp;omega)];congr 1;rw[List.take_of_length_le (by simp)]
theorem ZwZ(l:List Zaa)(e:Zag)(h:l.length<=10000){k:Nat}(b:k<l.length)(f:ZgR l e=(k:Int)):ZjI l e=some (butK l k,0):=by
 have d:l.length<=maxLen:=by unfold maxLen;omega
 unfold ZjI;rw[ZjT l e d,Zan,Zad,f,iNa,ZtT l h,Zan,add1 b d,ZFE l k h b,Zan];rfl
def ZDd(l:List Zaa)(e:Zag):Int:=ixOf (fun x=>decide (0<cmpE x.fEnd e)) l 0
theorem ZDT(l:List Zaa)(p:Zaa)(hl:l.length<=maxLen):Zct l p=some (ZDd l p.fEnd):=by
 simp only[Zct];rw[show ((0:Int))=((0:Nat):Int)from rfl];rw[Zmx l Zaa.d (fun x=>decide (0<cmpE x.fEnd p.fEnd)) hl (fun fu i=>Zbe l p fu (l.length:Int) i) (fun i=>i) ?_ ?_ _ 0 (by omega) (by omega)]
 .rfl
 .intro fu i b;simp only[Zbe,ZpA,ZdX,Zog,Zad,Option.bind_some];rw[iNb,Zaj ⟨by omega,by omega⟩];simp
 .intro fu;simp only[Zbe,Zad];rw[iNa]
theorem ZBa{l:Prs}(e:SrtP l)(p:Zaa){i:Nat}(n:i<=l.length)(f:∀y∈l.take i,¬0<cmpE y.fEnd p.fEnd)(g:i<l.length->0<cmpE (l.getD i Zaa.d).fEnd p.fEnd):l.take i++[p]++l.drop i=mrg l [p]:=by
 have hlt:∀y∈l.take i,ltP p y=false:=fun y b=>by
  rw[Zrz];intro h;exact f y b (Zgl.2 h)
 have mi:∀y∈l.drop i,ltP p y=true:=fun y b=>by
  by_cases hl:i<l.length
  .have hx:ltP p (l.getD i Zaa.d)=true:=by rw[Zlj];exact Zgl.1 (g hl)
   rw[Zdc l Zaa.d i hl]at b;rcases List.mem_cons.1 b with q|q
   .rw[q];exact hx
   .have jt:SrtP (l.drop i):=List.Pairwise.sublist (List.drop_sublist _ _) e;rw[Zdc l Zaa.d i hl]at jt;have j:=(List.pairwise_cons.1 jt).1 y q;exact ZvD hx j
  .rw[List.drop_eq_nil_of_le (by omega)]at b;cases b
 have:=ZvB hlt mi;rw[List.take_append_drop]at this;rw[this];simp
theorem ZrF(n m:Int):Zhu n m=some (decide (0<=n)&&decide (n<=m)):=by
 unfold Zhu;rw[Zad];by_cases h:n>=0
 .rw[if_pos h,decide_eq_true (show 0<=n by omega),Bool.true_and]
 .rw[if_neg h,decide_eq_false (show ¬0<=n by omega),Bool.false_and]
theorem ZII{x:Zar}(hx:x.ok)(b:Zgq x.fEnd=true):Zfr (ZlE x)=some true:=by
 have d:=ZfA x.fNow;have e:(decide (0<=fitI x.fNow)&&decide (fitI x.fNow<=1099511627776))=true:=by
  rw[Bool.and_eq_true,decide_eq_true_eq,decide_eq_true_eq];exact d
 unfold Zfr;simp only[ZlE,Zpe _ hx.2.1,b,Zan,cond_true,ZrF,e];decide
theorem ZAx{l:Prs}(d:SrtP l)(hl:l.length<=10000){p:Zaa}(f:Zfr p=some true)(u:ZgR l p.fEnd<0):ZpB l p=some (mrg l [p],0):=by
 have e:l.length<=maxLen:=by unfold maxLen;omega
 have jF:=Zrc (fun x:Zaa=>decide (0<cmpE x.fEnd p.fEnd)) l 0;have hle:=ZvL (fun x:Zaa=>decide (0<cmpE x.fEnd p.fEnd)) l 0;unfold ZpB;rw[f,Zan,Bool.not_true,cond_false,ZjT l _ e,Zan,Zad,iNa,ZDT l p e,Zan,ZtT l hl,Zan,Zan,Zad];by_cases b:ZDd l p.fEnd<0
 .rw[if_pos b,ZvM l _ p hl (by omega) (by simp),Zan];have hU:=(ZmH (fun x:Zaa=>decide (0<cmpE x.fEnd p.fEnd)) l 0).1 b;rw[Int.toNat_natCast,ZBa d p (Nat.le_refl _) (fun y g h=>by
   have:=hU y (List.mem_of_mem_take g);rw[decide_eq_false_iff_not]at this;exact this h) (fun h=>by omega)]
 .obtain⟨k,v,A,⟨y,i,n⟩,o⟩:=ZmG (fun x:Zaa=>decide (0<cmpE x.fEnd p.fEnd)) l 0 (by unfold ZDd at b;omega);have ek:ZDd l p.fEnd=(k:Int):=by unfold ZDd;omega
  rw[if_neg b,ek,ZvM l _ p hl (by omega) (by rw[Int.toNat_natCast];omega),Zan,Int.toNat_natCast];rw[ZBa d p (by omega) (fun z r h=>?_) (fun h=>by
   rw[List.getD_eq_getElem?_getD,i];exact of_decide_eq_true n)]
  obtain⟨j,t,rfl⟩:=List.getElem_of_mem r;have hj2:j<k:=by simp only[List.length_take]at t;omega
  obtain⟨w,w1,w2⟩:=o j hj2;rw[List.getElem_take,(List.getElem?_eq_some_iff.1 w1).2]at h;rw[decide_eq_false_iff_not]at w2;exact w2 h
section
variable {c:Zaq} {s:Zak} {x:Zar} {N:Nat} (hx:x.ok) (hI:cN N s) (hN:N<=100)
include hx hI hN
theorem Zwp{l:Prs}(b:SrtP l)(hl:l.length<=1000)(d:Zgq x.fEnd=true)(e:ZgR l x.fEnd<0):Zea ⟨c,⟨s.fBans,s.fBook,l⟩,x⟩ true=some ⟨c,⟨s.fBans,s.fBook,mrg l [ZlE x]⟩,x⟩:=by
 have en:ZmZ x.fEnd true x.fNow=some (ZlE x):=by unfold ZmZ;rw[ZiX];rfl
 unfold Zea;dsimp only;rw[en,Zan,ZAx b (by omega) (ZII hx d) e,Zan];rfl
theorem ZFT(f:Zgq x.fEnd=true):ZiM ⟨c,s,x⟩=some ((ZmA c s x).2,⟨c,(ZmA c s x).1,x⟩):=by
 have o:=hI.n1;have p:=hI.n3;have eu:Zdm ⟨c,s,x⟩=some (Zqh s.fBans x.fEnd.fAddr x.fNow,⟨c,s,x⟩):=by
  unfold Zdm;dsimp only;rw[(Zmd s.fBans x.fEnd.fAddr x.fNow (by unfold maxLen;omega) hI.bans hx.2.1.1).1,Zan]
 unfold ZiM ZmA;rw[eu,Zan,Zad];dsimp only;by_cases b:Zqh s.fBans x.fEnd.fAddr x.fNow>0
 .rw[if_pos b,if_pos b];rfl
 rw[if_neg b,if_neg b,ZjT _ _ (by unfold maxLen;omega),Zan,Zad];by_cases d:ZgR s.fPeers x.fEnd>=0
 .rw[if_pos d,if_pos d];rfl
 have g:ZgR s.fPeers x.fEnd<0:=by omega
 rw[if_neg d,if_neg d,Znc _ _ (by unfold maxLen;omega),Zan,Zad];by_cases h:cntP s.fPeers true>=c.fMaxIn
 .rw[iNa,if_pos h,(Zwv hx hI hN).1,Zan];cases j:(ZrM c s).2 with
  |false=>rw[Bool.not_false,cond_true,if_neg (by decide)];rfl
  |true=>
   obtain⟨k,e,i,_,_⟩:=Zzk hx hI hN (c:=c) j;have hb:=ZzA hx hI hN e;have hn2:ZgR (butK s.fPeers k) x.fEnd<0:=ZpS.2 fun q n=>ZpS.1 g q ((Zmu e).symm.mem_iff.1 (List.mem_cons_of_mem _ n));rw[Bool.not_true,cond_false,if_pos rfl,ZwZ _ _ (by omega) e i,Zan,i,Int.toNat_natCast];dsimp only;rw[Zwp hx hI hN (Zqj (Zqk hI.str k)) (by omega) f hn2,Zan]
 .rw[iNb,if_neg h];have:=Zwp hx hI hN (c:=c) (l:=s.fPeers) (Zqj hI.str) (by omega) f g;rw[this,Zan];rfl
end
def vwO(s:Zak):ZaC:=⟨s.fBook,s.fPeers,s.fBans⟩
def ZMo(c:Zaq)(s:Zak)(ah:Int):Zak×Zal:=if cntP s.fPeers false+ZeA s.fBook 2>=c.fMaxOut then(s,Zuu 5)else if(ZlB (vwO s) ah).2=true then(⟨s.fBans,setS s.fBook (stE (entA s.fBook (ZlB (vwO s) ah).1) 2),s.fPeers⟩,⟨0,(ZlB (vwO s) ah).1,0,0,[]⟩)else(s,⟨6,endZ,0,ZDO (vwO s) ah,[]⟩)
section
variable {c:Zaq} {s:Zak} {x:Zar} {N:Nat} (hx:x.ok) (hI:cN N s) (hN:N<=100)
include hx hI hN
theorem ZMm:Zij ⟨c,s,x⟩=some ((ZMo c s x.fNow).2,⟨c,(ZMo c s x.fNow).1,x⟩):=by
 have n2:=hI.n2;have n3:=hI.n3;have b:Zpj (vwO s):=ZED hx hI hN;have i:=ZFL s.fPeers false;have j:=List.countP_le_length (p:=fun x:Zab=>decide (x.fState=2)) (l:=s.fBook);have n:0<=ZeA s.fBook 2/\ZeA s.fBook 2<=100:=by unfold ZeA;omega
 have ed:ZgG s=some (cntP s.fPeers false+ZeA s.fBook 2):=by
  unfold ZgG;rw[Znc _ _ (by unfold maxLen;omega),Zan,ZtU _ _ (by unfold maxLen;omega),Zan,Zbb (by omega) (by omega)]
 obtain⟨e,_,f⟩:=ZEp b x.fNow;have g:=(ZDN b x.fNow).1;unfold Zij ZMo;dsimp only;have bY:ZkX ⟨s.fBook,s.fPeers,s.fBans⟩ x.fNow=some (ZlB (vwO s) x.fNow):=e;have hP:ZkW ⟨s.fBook,s.fPeers,s.fBans⟩ x.fNow=some (ZDO (vwO s) x.fNow):=g;rw[ed,Zan,Zad];by_cases ho:cntP s.fPeers false+ZeA s.fBook 2>=c.fMaxOut
 .rw[if_pos ho,if_pos ho];rfl
 rw[if_neg ho,if_neg ho,bY,Zan,hP,Zan];cases h:(ZlB (vwO s) x.fNow).2 with
 |false=>rw[Bool.not_false,cond_true,if_neg (by decide)];rfl
 |true=>
  have h0:0<=Zer s.fBook (ZlB (vwO s) x.fNow).1:=f h;have hlt:=ZoC s.fBook (ZlB (vwO s) x.fNow).1;have ef:ZrV (s.fBook.getD (Zer s.fBook (ZlB (vwO s) x.fNow).1).toNat Zab.d)=some (stE (entA s.fBook (ZlB (vwO s) x.fNow).1) 2):=rfl;rw[Bool.not_true,cond_false,if_pos rfl,ZqN _ _ (by unfold maxLen;omega),Zan,Zaj ⟨h0,hlt⟩,ef,Zan,ZuU _ _ (by omega),Zan]
end
section
variable {c:Zaq} {s:Zak} {N:Nat} (hI:cN N s) (hN:N<=100) {ah:Int} (mr:okI .i64 ah) (h0:0<=ah/\ah<=1099511627776)
include hI hN mr h0
end
theorem Zzh(i j:Nat)(h:i+j<=10000000):IntKind.wrap .i64 (Int.fdiv (IntKind.wrap .u64 (Zam (i:Int) (j:Int))) (2 ^ (min (1:Int).toNat (IntKind.bits .u64))))=(((i+j) / 2:Nat):Int):=by
 have b:Zam (i:Int) (j:Int)=((i+j:Nat):Int):=by rw[Zbb (by omega) (by omega)];omega
 have d:IntKind.wrap .u64 ((i+j:Nat):Int)=((i+j:Nat):Int):=by
  simp only[IntKind.wrap,IntKind.bits,IntKind.signed];simp;omega
 have e:(2:Int) ^ (min (1:Int).toNat (IntKind.bits .u64))=2:=rfl;rw[b,d,e,Int.fdiv_eq_ediv_of_nonneg _ (by omega),Zgs (by omega) (by omega)];omega
theorem ZGu{x y z:Zaa}(b:ltP z x=true)(d:ltP z y=false):ltP y x=true:=by
 cases h:ltP y x with
 |true=>rfl
 |false=>rw[Znf d h]at b;cases b
theorem ZQB(x:Zaa):ltP x x=false:=by rw[Zrz,ZgT.2 rfl];omega
theorem Zoi{Y:Prs}(h:SrtP Y){i j:Nat}(f:i<=j)(b:j<Y.length):ltP (Y.getD j Zaa.d) (Y.getD i Zaa.d)=false:=by
 by_cases e:i=j
 .rw[e];exact ZQB _
 .rw[ZbA Y _ j b,ZbA Y _ i (by omega)];exact List.pairwise_iff_getElem.1 h i j (by omega) b (by omega)
theorem Zus{Y:Prs}{k:Nat}{y:Zaa}(h:y∈Y.take k):∃i,i<k/\i<Y.length/\y=Y.getD i Zaa.d:=by
 obtain⟨i,b,rfl⟩:=List.getElem_of_mem h;rw[List.length_take]at b;exact⟨i,by omega,by omega,by rw[ZbA Y _ i (by omega),List.getElem_take]⟩
theorem ZuR{Y:Prs}{k:Nat}{y:Zaa}(h:y∈Y.drop k):∃i,k<=i/\i<Y.length/\y=Y.getD i Zaa.d:=by
 obtain⟨i,b,rfl⟩:=List.getElem_of_mem h;rw[List.length_drop]at b;exact⟨k+i,by omega,by omega,by rw[ZbA Y _ (k+i) (by omega),List.getElem_drop]⟩
theorem ZGR{P Y Q:Prs}{i k:Nat}(f:k=P.length+i)(b:i<Y.length):(P++(Y++Q)).getD k Zaa.d=Y.getD i Zaa.d:=by
 have:=Zdc Y Zaa.d i b;have e:P++(Y++Q)=(P++Y.take i)++Y.getD i Zaa.d :: (Y.drop (i+1)++Q):=by
  rw[List.append_assoc,<-List.cons_append,<-this,<-List.append_assoc (Y.take i),List.take_append_drop]
 exact ZrA e (by simp;omega)
theorem mv1(P R:Prs)(x:Zaa)(kh:Int)(k:Int->Int->Prs->Option Prs):∀(Y2 Y1:Prs)(fu:Nat),Y2.length+1<=fu->P.length+Y1.length+Y2.length+R.length<=900000 ->
  Zbu (P.length:Int) ((P.length+Y1.length+Y2.length+1:Nat):Int) kh k fu ((P.length+Y1.length:Nat):Int) (P++(Y1++(x :: (Y2++R))))=some (P++(Y1++(Y2++(x :: R)))):=by
 intro Y2;induction Y2 with
 |nil=>
  intro Y1 fu b hb;obtain⟨fu,rfl⟩:=sC fu;unfold Zbu;simp only[List.length_nil,Nat.add_zero];rw[Zad,if_neg (by rw[Zbi (by omega) (by omega)];omega)];rfl
 |cons y Y2 ih=>
  intro Y1 fu b hb;obtain⟨fu,rfl⟩:=sC fu;simp only[List.length_cons]at b hb ⊢;have e:Zam ((P.length+Y1.length:Nat):Int) 1=((P.length+Y1.length+1:Nat):Int):=by rw[Zbb (by omega) (by omega)];omega
  have hl:(P++(Y1++(x :: (y :: Y2++R)))).length=P.length+Y1.length+Y2.length+R.length+2:=by simp;omega
  unfold Zbu;rw[Zad,if_pos (by rw[Zbi (by omega) (by omega)];omega),e,Zaj (by rw[hl];omega),Zaj (by rw[hl];omega)];simp only[Int.toNat_natCast];have f:(P++(Y1++(x :: (y :: Y2++R)))).getD (P.length+Y1.length+1) Zaa.d=y:=ZrA (L:=P++(Y1++[x])) (R:=Y2++R) (by simp) (by simp;omega);have g:(P++(Y1++(x :: (y :: Y2++R)))).getD (P.length+Y1.length) Zaa.d=x:=ZrA (L:=P++Y1) (R:=y :: (Y2++R)) (by simp) (by simp);have s1:(P++(Y1++(x :: (y :: Y2++R)))).set (P.length+Y1.length) y=P++(Y1++(y :: (y :: Y2++R))):=by
   rw[ZtZ (L:=P++Y1) (x:=x) (R:=y :: (Y2++R)) (by simp) (by simp)];simp
  have s2:(P++(Y1++(y :: (y :: Y2++R)))).set (P.length+Y1.length+1) x=P++(Y1++(y :: (x :: (Y2++R)))):=by
   rw[ZtZ (L:=P++(Y1++[y])) (x:=y) (R:=Y2++R) (by simp) (by simp;omega)];simp
  rw[f,g,s1,s2];have:=ih (Y1++[y]) fu (by omega) (by simp only[List.length_append,List.length_singleton];omega);simp only[List.length_append,List.length_singleton,List.append_assoc,List.singleton_append]at this;have x1:P.length+(Y1.length+1)+Y2.length+1=P.length+Y1.length+(Y2.length+1)+1:=by omega
  have x2:P.length+(Y1.length+1)=P.length+Y1.length+1:=by omega
  rw[x1,x2]at this;exact this
theorem bs1(P Y Q:Prs)(x:Zaa)(p:SrtP Y)(hb:P.length+Y.length+Q.length<=800000):∀(s lo b fu:Nat),b-lo<=s->lo<=b->b<=Y.length->s+1<=fu->(∀y∈Y.take lo,ltP y x=true)->(∀y∈Y.drop b,ltP y x=false) ->
  ZaE (P.length:Int) fu ((P.length+1+lo:Nat):Int) ((P.length+1+b:Nat):Int) (P++(x :: (Y++Q)))=some (P++(mrg [x] Y++Q)):=by
 intro s;have fin:∀(lo b fu:Nat),lo=b->b<=Y.length->(∀y∈Y.take lo,ltP y x=true)->(∀y∈Y.drop b,ltP y x=false) ->
   ZaE (P.length:Int) (fu+1) ((P.length+1+lo:Nat):Int) ((P.length+1+b:Nat):Int) (P++(x :: (Y++Q)))=some (P++(mrg [x] Y++Q)):=by
  intro lo b fu e t n f;subst e;unfold ZaE;rw[Zad,iNa];have ho:=ZQw n f;rw[List.take_append_drop]at ho;have:=mv1 P (Y.drop lo++Q) x ((P.length+1+lo:Nat):Int) (ZaE (P.length:Int) fu) (Y.take lo) [] 1000000 (by simp;omega) (by simp;omega);simp only[List.length_take,Nat.min_eq_left t,List.length_nil,Nat.add_zero,List.nil_append]at this;rw[<-List.append_assoc (Y.take lo),List.take_append_drop,show P.length+lo+1=P.length+1+lo by omega]at this;rw[this,ho];simp
 induction s with
 |zero=>
  intro lo b fu h0 n f u g h;obtain⟨fu,rfl⟩:=sC fu;exact fin lo b fu (by omega) f g h
 |succ s ih=>
  intro lo b fu h0 n f u g h;obtain⟨fu,rfl⟩:=sC fu;by_cases e:lo=b
  .exact fin lo b fu e f g h
  .have v:(P.length+1+lo+(P.length+1+b)) / 2=P.length+1+(lo+b) / 2:=by omega
   have r:(lo+b) / 2<Y.length:=by omega
   have hl:(P++(x :: (Y++Q))).length=P.length+1+Y.length+Q.length:=by simp;omega
   unfold ZaE;rw[Zad,iNb,Zzh _ _ (by omega),v,Zaj (by rw[hl];omega),Zaj (by rw[hl];omega)];simp only[Int.toNat_natCast];have A:(P++(x :: (Y++Q))).getD (P.length+1+(lo+b) / 2) Zaa.d=Y.getD ((lo+b) / 2) Zaa.d:=by
    have:=ZGR (P:=P++[x]) (Y:=Y) (Q:=Q) (i:=(lo+b) / 2) (k:=P.length+1+(lo+b) / 2) (by simp) r;simpa using this
   rw[A,ZLJ,ZuB,Zan,Zad];have B:Zam ((P.length+1+(lo+b) / 2:Nat):Int) 1=((P.length+1+((lo+b) / 2+1):Nat):Int):=by rw[Zbb (by omega) (by omega)];omega
   by_cases j:cmpE (Y.getD ((lo+b) / 2) Zaa.d).fEnd x.fEnd<0
   .rw[if_pos j,B];refine ih _ _ fu (by omega) (by omega) f (by omega) (fun y o=>?_) h;obtain⟨i,i1,i2,rfl⟩:=Zus o;exact ZGu (Zlj.2 j) (Zoi p (by omega) r)
   .rw[if_neg j];refine ih _ _ fu (by omega) (by omega) (by omega) (by omega) g (fun y o=>?_);obtain⟨i,i1,i2,rfl⟩:=ZuR o;exact Znf (Zoi p i1 i2) (Zrz.2 j)
theorem mv2(P Q:Prs)(y:Zaa)(e mt:Int)(k:Int->Int->Prs->Option Prs):∀(n:Nat)(T U:Prs)(fu:Nat),T.length=n->n+1<=fu->P.length+T.length+U.length+Q.length<=900000 ->
  Zbt e (P.length:Int) mt k fu ((P.length+n:Nat):Int) (P++(T++(y :: (U++Q))))=some (P++(y :: (T++(U++Q)))):=by
 intro n;induction n with
 |zero=>
  intro T U fu b f hb;obtain⟨fu,rfl⟩:=sC fu;obtain rfl:=List.eq_nil_of_length_eq_zero b;unfold Zbt;rw[Zad,iNa];rfl
 |succ n ih=>
  intro T U fu b f hb;obtain⟨fu,rfl⟩:=sC fu;obtain⟨T,s,rfl⟩:=snoc T (by omega);have g:T.length=n:=by simpa using b
  simp only[List.length_append,List.length_singleton]at hb;have h:Zay ((P.length+(n+1):Nat):Int) 1=((P.length+n:Nat):Int):=by rw[Zbi (by omega) (by omega)];omega
  have hl:(P++(T++[s]++(y :: (U++Q)))).length=P.length+(n+1)+1+U.length+Q.length:=by simp;omega
  unfold Zbt;rw[Zad,iNb,h,Zaj (by rw[hl];omega),Zaj (by rw[hl];omega)];simp only[Int.toNat_natCast];have i:(P++(T++[s]++(y :: (U++Q)))).getD (P.length+(n+1)) Zaa.d=y:=ZrA (L:=P++(T++[s])) (R:=U++Q) (by simp) (by simp;omega);have j:(P++(T++[s]++(y :: (U++Q)))).getD (P.length+n) Zaa.d=s:=ZrA (L:=P++T) (R:=y :: (U++Q)) (by simp) (by simp;omega);have s1:(P++(T++[s]++(y :: (U++Q)))).set (P.length+(n+1)) s=P++(T++(s :: (s :: (U++Q)))):=by
   rw[ZtZ (L:=P++(T++[s])) (x:=y) (R:=U++Q) (by simp) (by simp;omega)];simp
  have s2:(P++(T++(s :: (s :: (U++Q))))).set (P.length+n) y=P++(T++(y :: (s :: U++Q))):=by
   rw[ZtZ (L:=P++T) (x:=s) (R:=s :: (U++Q)) (by simp) (by simp;omega)];simp
  rw[i,j,s1,s2,ih T (s :: U) fu g (by omega) (by simp only[List.length_cons];omega)];simp
theorem bs2(P X Q:Prs)(y:Zaa)(o:SrtP X)(hb:P.length+X.length+Q.length<=800000):∀(s lo b fu:Nat),b-lo<=s->lo<=b->b<=X.length->s+1<=fu->(∀x∈X.take lo,ltP y x=false)->(∀x∈X.drop b,ltP y x=true) ->
  ZaD ((P.length+X.length:Nat):Int) fu ((P.length+lo:Nat):Int) ((P.length+b:Nat):Int) (P++(X++(y :: Q)))=some (P++(mrg X [y]++Q)):=by
 intro s;have fin:∀(lo b fu:Nat),lo=b->b<=X.length->(∀x∈X.take lo,ltP y x=false)->(∀x∈X.drop b,ltP y x=true) ->
   ZaD ((P.length+X.length:Nat):Int) (fu+1) ((P.length+lo:Nat):Int) ((P.length+b:Nat):Int) (P++(X++(y :: Q)))=some (P++(mrg X [y]++Q)):=by
  intro lo b fu e r n f;subst e;unfold ZaD;rw[Zad,iNa];have ho:=ZvB n f;rw[List.take_append_drop]at ho;have:=mv2 (P++X.take lo) Q y ((P.length+X.length:Nat):Int) ((P.length+lo:Nat):Int) (ZaD ((P.length+X.length:Nat):Int) fu) (X.length-lo) (X.drop lo) [] ((((P.length+X.length:Nat):Int)-((P.length+lo:Nat):Int)).toNat+2) (by simp) (by omega) (by simp;omega);simp only[List.length_append,List.length_take,Nat.min_eq_left r,List.nil_append,List.append_assoc]at this;rw[<-List.append_assoc (X.take lo) (X.drop lo),List.take_append_drop,show P.length+lo+(X.length-lo)=P.length+X.length by omega]at this;rw[this,ho];simp
 induction s with
 |zero=>
  intro lo b fu h0 n f t g h;obtain⟨fu,rfl⟩:=sC fu;exact fin lo b fu (by omega) f g h
 |succ s ih=>
  intro lo b fu h0 n f t g h;obtain⟨fu,rfl⟩:=sC fu;by_cases e:lo=b
  .exact fin lo b fu e f g h
  .have u:(P.length+lo+(P.length+b)) / 2=P.length+(lo+b) / 2:=by omega
   have p:(lo+b) / 2<X.length:=by omega
   have hl:(P++(X++(y :: Q))).length=P.length+X.length+1+Q.length:=by simp;omega
   unfold ZaD;rw[Zad,iNb,Zzh _ _ (by omega),u,Zaj (by rw[hl];omega),Zaj (by rw[hl];omega)];simp only[Int.toNat_natCast];have v:(P++(X++(y :: Q))).getD (P.length+(lo+b) / 2) Zaa.d=X.getD ((lo+b) / 2) Zaa.d:=ZGR rfl p;have A:(P++(X++(y :: Q))).getD (P.length+X.length) Zaa.d=y:=ZrA (L:=P++X) (R:=Q) (by simp) (by simp);rw[v,A,ZuB,Zan];have B:Zam ((P.length+(lo+b) / 2:Nat):Int) 1=((P.length+((lo+b) / 2+1):Nat):Int):=by rw[Zbb (by omega) (by omega)];omega
   by_cases j:cmpE y.fEnd (X.getD ((lo+b) / 2) Zaa.d).fEnd<0
   .rw[decide_eq_true j,Bool.not_true,cond_false];refine ih _ _ fu (by omega) (by omega) (by omega) (by omega) g (fun x hx=>?_);obtain⟨i,i1,i2,rfl⟩:=ZuR hx;exact ZvD (Zlj.2 j) (Zoi o i1 i2)
   .rw[decide_eq_false j,Bool.not_false,cond_true,B];refine ih _ _ fu (by omega) (by omega) f (by omega) (fun x hx=>?_) h;obtain⟨i,i1,i2,rfl⟩:=Zus hx;exact Znf (Zrz.2 j) (Zoi o (by omega) p)
def Mg(gr:Prs->Int->Int->Int->Option Prs)(N:Nat):Prop:=∀(P X Y Q:Prs),0<X.length->0<Y.length->SrtP X->SrtP Y->X.length+Y.length<=N->P.length+X.length+Y.length+Q.length<=700000->gr (P++(X++(Y++Q))) (P.length:Int) ((P.length+X.length:Nat):Int) ((P.length+X.length+Y.length:Nat):Int)=some (P++(mrg X Y++Q))
theorem c7_eq{gr:Prs->Int->Int->Int->Option Prs}{N:Nat}(bA:Mg gr N)(P X Y Q:Prs)(hX:SrtP X)(hY:SrtP Y)(hN:X.length+Y.length<=N)(hb:P.length+X.length+Y.length+Q.length<=700000)(b d gD mu dy v22:Int)(k:Int->Int->Int->Prs->Option Prs) :
  ZaX b d ((P.length+X.length+Y.length:Nat):Int) gr (P.length:Int) gD mu dy v22 ((P.length+X.length:Nat):Int) k (P++(X++(Y++Q)))=some (P++(mrg X Y++Q)):=by
 unfold ZaX;rw[Zad,Zad];by_cases e:X.length=0
 .rw[iNa];obtain rfl:=List.eq_nil_of_length_eq_zero e;rw[ZgC];rfl
 .rw[iNb];by_cases f:Y.length=0
  .rw[iNa];obtain rfl:=List.eq_nil_of_length_eq_zero f;rw[ZkQ];rfl
  .rw[iNb,bA P X Y Q (by omega) (by omega) hX hY hN hb];rfl
theorem c6_eq{gr:Prs->Int->Int->Int->Option Prs}{N:Nat}(bA:Mg gr N)(P X1 Y1 X2 Y2 Q:Prs)(mw:SrtP X1)(my:SrtP Y1)(dl:SrtP X2)(dm:SrtP Y2)(mz:X1.length+Y1.length<=N)(mA:X2.length+Y2.length<=N)
  (hb:P.length+X1.length+Y1.length+X2.length+Y2.length+Q.length<=700000) (b gD dy v22:Int) (k:Int->Int->Int->Prs->Option Prs) :
  ZaI (P.length:Int) b ((P.length+X1.length+Y1.length+X2.length+Y2.length:Nat):Int) gr ((P.length+X1.length+Y1.length:Nat):Int) gD ((P.length+X1.length:Nat):Int) dy v22 k ((P.length+X1.length+Y1.length+X2.length:Nat):Int) (P++(X1++(Y1++(X2++(Y2++Q))))) =
   some (P++(mrg X1 Y1++(mrg X2 Y2++Q))):=by
 have d:=ZKB _ X1 Y1 (Nat.le_refl _);have next:ZaX (P.length:Int) b ((P.length+X1.length+Y1.length+X2.length+Y2.length:Nat):Int) gr ((P.length+X1.length+Y1.length:Nat):Int) gD ((P.length+X1.length:Nat):Int) dy v22 ((P.length+X1.length+Y1.length+X2.length:Nat):Int) k (P++(mrg X1 Y1++(X2++(Y2++Q)))) =
   some (P++(mrg X1 Y1++(mrg X2 Y2++Q))):=by
  have:=c7_eq bA (P++mrg X1 Y1) X2 Y2 Q dl dm mA (by simp only[List.length_append,d];omega) (P.length:Int) b gD ((P.length+X1.length:Nat):Int) dy v22 k;simp only[List.length_append,d,List.append_assoc]at this;rw[show P.length+(X1.length+Y1.length)=P.length+X1.length+Y1.length by omega]at this;exact this
 unfold ZaI;rw[Zad,Zad];by_cases e:X1.length=0
 .rw[iNa];obtain rfl:=List.eq_nil_of_length_eq_zero e;rw[ZgC]at next ⊢
  exact next
 .rw[iNb];by_cases f:Y1.length=0
  .rw[iNa];obtain rfl:=List.eq_nil_of_length_eq_zero f;rw[ZkQ]at next ⊢
   exact next
  .rw[iNb,bA P X1 Y1 (X2++(Y2++Q)) (by omega) (by omega) mw my mz (by simp only[List.length_append];omega),Zan];exact next
theorem SrtP.take{l:Prs}(h:SrtP l)(k:Nat):SrtP (l.take k):=List.Pairwise.sublist (List.take_sublist k l) h
theorem SrtP.drop{l:Prs}(h:SrtP l)(k:Nat):SrtP (l.drop k):=List.Pairwise.sublist (List.drop_sublist k l) h
section
variable {gr:Prs->Int->Int->Int->Option Prs} {N:Nat} (bA:Mg gr N) (P X Y Q:Prs) (hX:SrtP X) (hY:SrtP Y) (dl:0 < X.length) (dm:0 < Y.length) (hN:X.length + Y.length<=N + 1) (hb:P.length + X.length + Y.length + Q.length<=700000)
 (mid s0 r0:Nat) (hmid:mid=(P.length+(P.length+X.length+Y.length)) / 2)
 (h0:(mid<P.length+X.length/\s0+(P.length+X.length+Y.length)=mid+(P.length+X.length)/\r0=mid)\/(P.length+X.length<=mid/\s0=P.length/\r0=P.length+X.length))
include bA hX hY dl dm hN hb hmid h0
def okAt(P X Y:Prs)(mid c:Nat):Bool:=ltP (Y.getD (mid-1-c) Zaa.d) (X.getD (c-P.length) Zaa.d)
theorem ZRT(st:Nat)(t:s0<=st)(u:st<=r0)(jj:∀c,s0<=c->c<st->okAt P X Y mid c=false)(dQ:∀c,st<=c->c<r0->okAt P X Y mid c=true)(dy v22:Int)(k:Int->Int->Int->Prs->Option Prs) :
  (bif(decide ((st:Int)<((P.length+X.length:Nat):Int)))then
    bif(decide (((P.length+X.length:Nat):Int)<(Zay ((mid+(P.length+X.length):Nat):Int) (st:Int))))then
     (Zcn (P++(X++(Y++Q))) (st:Int) ((P.length+X.length:Nat):Int) (Zay ((mid+(P.length+X.length):Nat):Int) (st:Int))).bind fun x2=>
     ZaI (P.length:Int) ((P.length+X.length:Nat):Int) ((P.length+X.length+Y.length:Nat):Int) gr (mid:Int) ((mid+(P.length+X.length):Nat):Int) (st:Int) dy v22 k (Zay ((mid+(P.length+X.length):Nat):Int) (st:Int)) x2
    else
     ZaI (P.length:Int) ((P.length+X.length:Nat):Int) ((P.length+X.length+Y.length:Nat):Int) gr (mid:Int) ((mid+(P.length+X.length):Nat):Int) (st:Int) dy v22 k (Zay ((mid+(P.length+X.length):Nat):Int) (st:Int)) (P++(X++(Y++Q)))
   else
    ZaI (P.length:Int) ((P.length+X.length:Nat):Int) ((P.length+X.length+Y.length:Nat):Int) gr (mid:Int) ((mid+(P.length+X.length):Nat):Int) (st:Int) dy v22 k (Zay ((mid+(P.length+X.length):Nat):Int) (st:Int)) (P++(X++(Y++Q))))=some (P++(mrg X Y++Q)):=by
 have v:P.length<=st:=by omega
 have ma:st<=mid:=by omega
 have cn:st-P.length<=X.length:=by omega
 have hk2:mid-st<=Y.length:=by omega
 obtain⟨b,g⟩ : ∃b,st=P.length+b:=⟨st-P.length,by omega⟩;obtain⟨d,A⟩ : ∃d,mid=st+d:=⟨mid-st,by omega⟩;have ee:Zay ((mid+(P.length+X.length):Nat):Int) (st:Int)=((P.length+X.length+d:Nat):Int):=by rw[Zbi (by omega) (by omega)];omega
 have n:∀y∈Y.take d,∀x∈X.drop b,ltP y x=true:=by
  intro y e x hx;obtain⟨i,i1,i2,rfl⟩:=Zus e;obtain⟨j,j1,j2,rfl⟩:=ZuR hx;have h:=dQ st (Nat.le_refl _) (by omega);unfold okAt at h;rw[show mid-1-st=d-1 by omega,show st-P.length=b by omega]at h;exact ZvD (ZGu h (Zoi hY (by omega) (by omega))) (Zoi hX j1 j2)
 have o:∀x∈X.take b,∀y∈Y.drop d,ltP y x=false:=by
  intro x hx y e;obtain⟨i,i1,i2,rfl⟩:=Zus hx;obtain⟨j,j1,j2,rfl⟩:=ZuR e;have h:=jj (st-1) (by omega) (by omega);unfold okAt at h;rw[show mid-1-(st-1)=d by omega,show st-1-P.length=b-1 by omega]at h;exact Znf (Znf (Zoi hY j1 j2) h) (Zoi hX (by omega) (by omega))
 have p:mrg X Y=mrg (X.take b) (Y.take d)++mrg (X.drop b) (Y.drop d):=by
  have:=Zqr _ (X.take b) (X.drop b) (Y.take d) (Y.drop d) (Nat.le_refl _) n o;rwa [List.take_append_drop,List.take_append_drop]at this
 have l1:(X.take b).length=b:=by simp;omega
 have l2:(Y.take d).length=d:=by simp;omega
 have l3:(X.drop b).length=X.length-b:=by simp
 have l4:(Y.drop d).length=Y.length-d:=by simp
 have last:=c6_eq bA P (X.take b) (Y.take d) (X.drop b) (Y.drop d) Q (hX.take _) (hY.take _) (hX.drop _) (hY.drop _) (by omega) (by omega) (by omega) ((P.length+X.length:Nat):Int) ((mid+(P.length+X.length):Nat):Int) dy v22 k;rw[l1,l2,l3,l4,show P.length+b+d+(X.length-b)+(Y.length-d)=P.length+X.length+Y.length by omega,show P.length+b+d+(X.length-b)=P.length+X.length+d by omega,show P.length+b+d=mid by omega,<-g]at last;have f:P++(X++(Y++Q))=P++X.take b++(X.drop b++(Y.take d++(Y.drop d++Q))):=by
  rw[<-List.append_assoc (Y.take d),List.take_append_drop,List.append_assoc,<-List.append_assoc (X.take b),List.take_append_drop]
 have r:some (P++(mrg (X.take b) (Y.take d)++(mrg (X.drop b) (Y.drop d)++Q)))=some (P++(mrg X Y++Q)):=by rw[p,List.append_assoc]
 rw[r]at last;rw[ee,Zad,Zad];by_cases B:b<X.length
 .rw[iNb];by_cases C:0<d
  .rw[iNb,f,ZRA (P++X.take b) (X.drop b) (Y.take d) (Y.drop d++Q) (by omega) (by omega) (by simp only[List.length_append];omega) _ _ _ (by simp only[List.length_append];omega) (by simp only[List.length_append];omega) (by simp only[List.length_append];omega),Zan];simp only[List.append_assoc]at last ⊢;exact last
  .obtain rfl:d=0:=by omega
   rw[iNa,f];simp only[List.append_assoc,List.take_zero,List.nil_append]at last ⊢;exact last
 .rw[iNa,f,show b=X.length by omega];rw[show b=X.length by omega]at last;simp only[List.append_assoc,List.drop_length,List.nil_append]at last ⊢;exact last
end
section
variable {gr:Prs->Int->Int->Int->Option Prs} {N:Nat} (bA:Mg gr N) (P X Y Q:Prs) (hX:SrtP X) (hY:SrtP Y) (dl:0 < X.length) (dm:0 < Y.length) (hN:X.length + Y.length<=N + 1) (hb:P.length + X.length + Y.length + Q.length<=700000)
 (mid s0 r0:Nat) (hmid:mid=(P.length+(P.length+X.length+Y.length)) / 2)
 (h0:(mid<P.length+X.length/\s0+(P.length+X.length+Y.length)=mid+(P.length+X.length)/\r0=mid)\/(P.length+X.length<=mid/\s0=P.length/\r0=P.length+X.length))
include bA hX hY dl dm hN hb hmid h0
omit bA hN hb in
theorem ZBm{c c':Nat}(b:s0<=c')(d:c'<=c)(e:c<r0)(h:okAt P X Y mid c=false):okAt P X Y mid c'=false:=by
 unfold okAt at *
 exact Znf (Znf (Zoi hY (by omega) (by omega)) h) (Zoi hX (by omega) (by omega))
theorem ZMG:∀(s lo b fu:Nat),b-lo<=s->s0<=lo->lo<=b->b<=r0->s+1<=fu->(∀c,s0<=c->c<lo->okAt P X Y mid c=false)->(∀c,b<=c->c<r0->okAt P X Y mid c=true) ->
  Zaz (P.length:Int) ((P.length+X.length:Nat):Int) ((P.length+X.length+Y.length:Nat):Int) gr (mid:Int) ((mid+(P.length+X.length):Nat):Int) fu (lo:Int) (b:Int) ((mid+(P.length+X.length)-1:Nat):Int) (P++(X++(Y++Q)))=some (P++(mrg X Y++Q)):=by
 intro s;have fin:∀(lo fu:Nat),s0<=lo->lo<=r0->(∀c,s0<=c->c<lo->okAt P X Y mid c=false)->(∀c,lo<=c->c<r0->okAt P X Y mid c=true) ->
   Zaz (P.length:Int) ((P.length+X.length:Nat):Int) ((P.length+X.length+Y.length:Nat):Int) gr (mid:Int) ((mid+(P.length+X.length):Nat):Int) (fu+1) (lo:Int) (lo:Int) ((mid+(P.length+X.length)-1:Nat):Int) (P++(X++(Y++Q)))=some (P++(mrg X Y++Q)):=by
  intro lo fu f g r t;unfold Zaz;rw[Zad,iNa];exact ZRT bA P X Y Q hX hY dl dm hN hb mid s0 r0 hmid h0 lo f g r t _ _ _
 induction s with
 |zero=>
  intro lo b fu u h v j y f g;obtain⟨fu,rfl⟩:=sC fu;obtain rfl:lo=b:=by omega
  exact fin lo fu h j f g
 |succ s ih=>
  intro lo b fu u h v j y f g;obtain⟨fu,rfl⟩:=sC fu;by_cases e:lo=b
  .subst e;exact fin lo fu h j f g
  .have t1:(lo+b) / 2<r0:=by omega
   have t2:s0<=(lo+b) / 2:=by omega
   have ep:Zay ((mid+(P.length+X.length)-1:Nat):Int) (((lo+b) / 2:Nat):Int)=((P.length+X.length+(mid-1-(lo+b) / 2):Nat):Int):=by rw[Zbi (by omega) (by omega)];omega
   have hl:(P++(X++(Y++Q))).length=P.length+X.length+Y.length+Q.length:=by simp;omega
   have mB:Zam (((lo+b) / 2:Nat):Int) 1=(((lo+b) / 2+1:Nat):Int):=by rw[Zbb (by omega) (by omega)];omega
   unfold Zaz;rw[Zad,iNb,Zzh _ _ (by omega),ep,Zaj (by rw[hl];omega),Zaj (by rw[hl];omega)];simp only[Int.toNat_natCast];have A:(P++(X++(Y++Q))).getD (P.length+X.length+(mid-1-(lo+b) / 2)) Zaa.d=Y.getD (mid-1-(lo+b) / 2) Zaa.d:=by
    have:=ZGR (P:=P++X) (Y:=Y) (Q:=Q) (i:=mid-1-(lo+b) / 2) (k:=P.length+X.length+(mid-1-(lo+b) / 2)) (by simp) (by omega);simpa using this
   have B:(P++(X++(Y++Q))).getD ((lo+b) / 2) Zaa.d=X.getD ((lo+b) / 2-P.length) Zaa.d:=ZGR (by omega) (by omega);rw[A,B,ZuB,Zan,mB];by_cases n:cmpE (Y.getD (mid-1-(lo+b) / 2) Zaa.d).fEnd (X.getD ((lo+b) / 2-P.length) Zaa.d).fEnd<0
   .have ok:okAt P X Y mid ((lo+b) / 2)=true:=Zlj.2 n;rw[decide_eq_true n,Bool.not_true,cond_false];refine ih lo _ fu (by omega) h (by omega) (by omega) (by omega) f (fun c o p=>?_);cases q:okAt P X Y mid c with
    |true=>rfl
    |false=>
     have:=ZBm P X Y hX hY dl dm mid s0 r0 hmid h0 t2 o p q;rw[ok]at this;cases this
   .have ok:okAt P X Y mid ((lo+b) / 2)=false:=Zrz.2 n;rw[decide_eq_false n,Bool.not_false,cond_true];exact ih _ b fu (by omega) (by omega) (by omega) j (by omega) (fun c o p=>ZBm P X Y hX hY dl dm mid s0 r0 hmid h0 o (by omega) t1 ok) g
end
theorem ZRo{gr:Prs->Int->Int->Int->Option Prs}{N:Nat}(bA:Mg gr N):Mg (Zcx gr) (N+1):=by
 intro P X Y Q dl dm hX hY hN hb;unfold Zcx;have g:Zay ((P.length+X.length:Nat):Int) (P.length:Int)=(X.length:Int):=by rw[Zbi (by omega) (by omega)];omega
 have h:Zay ((P.length+X.length+Y.length:Nat):Int) ((P.length+X.length:Nat):Int)=(Y.length:Int):=by rw[Zbi (by omega) (by omega)];omega
 rw[g,h,Zdp,Zdp];by_cases e:X.length=1
 .rw[iNb];obtain⟨x,rfl⟩ : ∃x,X=[x]:=by
   cases X with
   |nil=>cases e
   |cons x X=>exact⟨x,by rw[List.eq_nil_of_length_eq_zero (show X.length=0 by simpa using e)]⟩
  have:=bs1 P Y Q x hY (by omega) Y.length 0 Y.length ((((P.length+[x].length+Y.length:Nat):Int)-((P.length+[x].length:Nat):Int)).toNat+2) (by omega) (by omega) (Nat.le_refl _) (by simp only[List.length_singleton];omega) (by simp) (by simp);exact this
 .rw[iNa];by_cases f:Y.length=1
  .rw[iNb];obtain⟨y,rfl⟩ : ∃y,Y=[y]:=by
    cases Y with
    |nil=>cases f
    |cons y Y=>exact⟨y,by rw[List.eq_nil_of_length_eq_zero (show Y.length=0 by simpa using f)]⟩
   have:=bs2 P X Q y hX (by omega) X.length 0 X.length ((((P.length+X.length:Nat):Int)-(P.length:Int)).toNat+2) (by omega) (by omega) (Nat.le_refl _) (by omega) (by simp) (by simp);exact this
  .rw[iNa];rw[Zzh _ _ (by omega)];obtain⟨mid,hmid⟩ : ∃mid,mid=(P.length+(P.length+X.length+Y.length)) / 2:=⟨_,rfl⟩;rw[<-hmid];have en:Zam (mid:Int) ((P.length+X.length:Nat):Int)=((mid+(P.length+X.length):Nat):Int):=by rw[Zbb (by omega) (by omega)];omega
   have ep:Zay ((mid+(P.length+X.length):Nat):Int) 1=((mid+(P.length+X.length)-1:Nat):Int):=by rw[Zbi (by omega) (by omega)];omega
   rw[en,Zad];by_cases i:mid<P.length+X.length
   .have es:Zay ((mid+(P.length+X.length):Nat):Int) ((P.length+X.length+Y.length:Nat):Int)=((mid+(P.length+X.length)-(P.length+X.length+Y.length):Nat):Int):=by rw[Zbi (by omega) (by omega)];omega
    rw[iNb,es];unfold ZbW;rw[ep];exact ZMG bA P X Y Q hX hY dl dm hN hb mid (mid+(P.length+X.length)-(P.length+X.length+Y.length)) mid hmid (.inl ⟨i,by omega,rfl⟩) _ _ _ _ (Nat.le_refl _) (Nat.le_refl _) (by omega) (Nat.le_refl _) (by omega) (fun c b d=>by omega) (fun c b d=>by omega)
   .rw[iNa];unfold ZbW;rw[ep];exact ZMG bA P X Y Q hX hY dl dm hN hb mid P.length (P.length+X.length) hmid (.inr ⟨by omega,rfl,rfl⟩) _ _ _ _ (Nat.le_refl _) (Nat.le_refl _) (by omega) (Nat.le_refl _) (by omega) (fun c b d=>by omega) (fun c b d=>by omega)
theorem ZMV:∀fu,Mg (Zbj fu) fu
 | 0=>fun P X Y Q b d _ _ e=>by omega
 |fu+1=>fun P X Y Q b d e f g h=>by
  unfold Zbj
  exact ZRo (ZMV fu) P X Y Q b d e f g h
inductive Blk (B:Nat):Prs->Prs->Prop
 |last (L:Prs) (h:L.length<=B):Blk B L (ZfC L)
 |more (L D:Prs) (h:B<=L.length) (r:Blk B (L.drop B) D):Blk B L (ZfC (L.take B)++D)
theorem Blk.len{B:Nat}{L D:Prs}(h:Blk B L D):D.length=L.length:=by
 induction h with
 |last L h=>exact Zll L
 |more L D h r ih=>rw[List.length_append,Zll,ih];simp;omega
theorem Blk.one{B:Nat}(d:0<B){L D:Prs}(h:Blk B L D)(hl:L.length<=B):D=ZfC L:=by
 cases h with
 |last _ h=>rfl
 |more _ D h r=>
  have:L.length=B:=by omega
  have hd:L.drop B=[]:=List.drop_eq_nil_of_le (by omega);have b:=r.len;rw[hd]at b;rw[List.eq_nil_of_length_eq_zero b,List.take_of_length_le (by omega),List.append_nil]
theorem Blk.split{B:Nat}{L D:Prs}(h:Blk B L D)(hl:B<=L.length):∃D1,D=ZfC (L.take B)++D1/\Blk B (L.drop B) D1:=by
 cases h with
 |last _ h=>
  have e:L.length=B:=by omega
  refine⟨[],by rw[List.take_of_length_le (by omega),List.append_nil],?_⟩;rw[List.drop_eq_nil_of_le (by omega)];exact Blk.last [] (by simp)
 |more _ D h r=>exact⟨D,rfl,r⟩
theorem st_c2(B:Nat)(i:0<B)(kl:B<=800)(o:Int->Int->Int->Prs->Option Prs)(j:Int->Prs->Option Prs):∀(s:Nat)(L P D:Prs)(fu:Nat),L.length<2*B*(s+1)->s+1<=fu->P.length+L.length<=900->Blk B L D ->
  ∃D',Blk (2*B) L D'/\Zbd ((P.length+L.length:Nat):Int) (B:Int) o j fu (P.length:Int) ((P.length+2*B:Nat):Int) (P++D)=j ((2*B:Nat):Int) (P++D'):=by
 intro s;induction s with
 |zero=>
  intro L P D fu n p hb h;obtain⟨fu,rfl⟩:=sC fu;have d:Zam (P.length:Int) (B:Int)=((P.length+B:Nat):Int):=by rw[Zbb (by omega) (by omega)];omega
  have r:ZiA (B:Int) 2=((2*B:Nat):Int):=by rw[Zpt (by omega) (by omega)];omega
  unfold Zbd;rw[Zad,iNa,d,r,Zad];refine⟨ZfC L,Blk.last L (by omega),?_⟩;by_cases A:B<L.length
  .obtain⟨D1,rfl,f⟩:=h.split (by omega);have e:=f.one i (by simp;omega);subst e;have l1:(ZfC (L.take B)).length=B:=by rw[Zll];simp;omega
   have l2:(ZfC (L.drop B)).length=L.length-B:=by rw[Zll];simp
   have b:=ZMV 1000 P (ZfC (L.take B)) (ZfC (L.drop B)) [] (by omega) (by omega) (ZoN _) (ZoN _) (by omega) (by simp;omega);rw[l1,l2,show P.length+B+(L.length-B)=P.length+L.length by omega,<-Zuc,List.take_append_drop,List.append_nil,List.append_nil]at b;rw[iNb,b,Zan]
  .rw[iNa,h.one i (by omega)]
 |succ s ih=>
  intro L P D fu n p hb h;rw[Nat.mul_succ]at n;by_cases t:2*B<=L.length
  .obtain⟨fu,rfl⟩:=sC fu;have d:Zam (P.length:Int) (B:Int)=((P.length+B:Nat):Int):=by rw[Zbb (by omega) (by omega)];omega
   have u:ZiA (2:Int) (B:Int)=((2*B:Nat):Int):=by rw[Zpt (by omega) (by omega)];omega
   have v:Zam ((P.length+2*B:Nat):Int) ((2*B:Nat):Int)=((P.length+2*B+2*B:Nat):Int):=by rw[Zbb (by omega) (by omega)];omega
   unfold Zbd;rw[Zad,d,u,v];obtain⟨D1,rfl,f⟩:=h.split (by omega);obtain⟨D2,rfl,g⟩:=f.split (by simp;omega);have l1:(ZfC (L.take B)).length=B:=by rw[Zll];simp;omega
   have l2:(ZfC ((L.drop B).take B)).length=B:=by rw[Zll];simp;omega
   have lD:=g.len;simp only[List.length_drop]at lD;have b:=ZMV 1000 P (ZfC (L.take B)) (ZfC ((L.drop B).take B)) D2 (by omega) (by omega) (ZoN _) (ZoN _) (by omega) (by omega);rw[l1,l2,show P.length+B+B=P.length+2*B by omega,<-Zuc]at b;have et:L.take B++(L.drop B).take B=L.take (2*B):=by rw[show 2*B=B+B by omega,List.take_add]
   have ed:(L.drop B).drop B=L.drop (2*B):=by rw[List.drop_drop];congr 1;omega
   rw[et]at b;rw[ed]at g;rw[iNb,b,Zan];have lt:(ZfC (L.take (2*B))).length=2*B:=by rw[Zll];simp;omega
   obtain⟨D',d1,d2⟩:=ih (L.drop (2*B)) (P++ZfC (L.take (2*B))) D2 fu (by rw[List.length_drop];omega) (by omega) (by simp only[List.length_append,lt,List.length_drop];omega) g;refine⟨ZfC (L.take (2*B))++D',Blk.more L D' t d1,?_⟩;simp only[List.length_append,lt,List.length_drop,List.append_assoc]at d2;rw[show P.length+2*B+(L.length-2*B)=P.length+L.length by omega]at d2;exact d2
  .obtain⟨fu,rfl⟩:=sC fu;have y:L.length<2*B*(s+1):=by
    have:2*B<=2*B*(s+1):=Nat.le_mul_of_pos_right _ (by omega);omega
   exact ih L P D (fu+1) y (by omega) hb h
theorem st_c1(v7 v8:Int)(b:Int->Int->Int->Prs->Option Prs)(L:Prs)(hL:L.length<=800):∀(s B:Nat)(D:Prs)(fu:Nat),L.length-B<=s->0<B->B<=1600->s+1<=fu->Blk B L D ->
  ZaT (L.length:Int) v7 v8 b fu (B:Int) D=some (ZfC L):=by
 intro s;induction s with
 |zero=>
  intro B D fu e d kl f h;obtain⟨fu,rfl⟩:=sC fu;unfold ZaT;rw[Zad,iNa,h.one d (by omega)]
 |succ s ih=>
  intro B D fu e d kl f h;obtain⟨fu,rfl⟩:=sC fu;unfold ZaT;rw[Zad];by_cases n:B<L.length
  .have g:ZiA (2:Int) (B:Int)=((2*B:Nat):Int):=by rw[Zpt (by omega) (by omega)];omega
   rw[iNb,g];have i:L.length / (2*B)+1<=(((L.length:Nat):Int)-((2*B:Nat):Int)).toNat+2:=by
    by_cases j:L.length<2*B
    .rw[Nat.div_eq_of_lt j];omega
    .rw[Nat.div_eq_sub_div (by omega) (by omega)];have:=Nat.div_le_self (L.length-2*B) (2*B);omega
   obtain⟨D',d1,d2⟩:=st_c2 B d (by omega) b (ZaT (L.length:Int) v7 v8 b fu) (L.length / (2*B)) L [] D _ (Nat.lt_mul_div_succ _ (by omega)) i (by simp;omega) h;simp only[List.length_nil,Nat.zero_add,List.nil_append]at d2;have mC:Zbd (L.length:Int) (B:Int) b (ZaT (L.length:Int) v7 v8 b fu) ((((L.length:Nat):Int)-((2*B:Nat):Int)).toNat+2) 0 ((2*B:Nat):Int) D=_:=d2;rw[mC];exact ih (2*B) D' fu (by omega) (by omega) (by omega) (by omega) d1
  .rw[iNa,h.one d (by omega)]
theorem st_c0(A:Prs)(f:A.length<=800):∀(s:Nat)(L P:Prs)(fu:Nat),L.length<20*(s+1)->s+1<=fu->P.length+L.length=A.length->(∀D,Blk 20 L D->Blk 20 A (P++D)) ->
  ZaM (A.length:Int) fu 20 (P.length:Int) ((P.length+20:Nat):Int) (P++L)=some (ZfC A):=by
 intro s;have fin:∀(L P:Prs)(fu:Nat),L.length<20->P.length+L.length=A.length->(∀D,Blk 20 L D->Blk 20 A (P++D)) ->
   ZaM (A.length:Int) (fu+1) 20 (P.length:Int) ((P.length+20:Nat):Int) (P++L)=some (ZfC A):=by
  intro L P fu e hl b;unfold ZaM;have d:=ZPz P L [] (by simp;omega) (P.length:Int) (A.length:Int) rfl (by omega);simp only[List.append_nil]at d;rw[Zad,iNa,d,Zan];exact st_c1 _ _ _ A f (A.length-20) 20 _ _ (Nat.le_refl _) (by omega) (by omega) (by omega) (b _ (Blk.last L (by omega)))
 induction s with
 |zero=>
  intro L P fu e g hl b;obtain⟨fu,rfl⟩:=sC fu;exact fin L P fu (by omega) hl b
 |succ s ih=>
  intro L P fu e g hl b;obtain⟨fu,rfl⟩:=sC fu;by_cases h:L.length<20
  .exact fin L P fu h hl b
  .unfold ZaM;have lt:(L.take 20).length=20:=by simp;omega
   have d:=ZPz P (L.take 20) (L.drop 20) (by simp;omega) (P.length:Int) ((P.length+20:Nat):Int) rfl (by rw[lt]);rw[List.take_append_drop]at d;have i:Zam ((P.length+20:Nat):Int) 20=((P.length+20+20:Nat):Int):=by rw[Zbb (by omega) (by omega)];omega
   rw[Zad,iNb,d,Zan,i];have li:(ZfC (L.take 20)).length=20:=by rw[Zll,lt]
   have:=ih (L.drop 20) (P++ZfC (L.take 20)) fu (by rw[List.length_drop];omega) (by omega) (by simp only[List.length_append,li,List.length_drop];omega) (fun D j=>by
    have:=b _ (Blk.more L D (by omega) j);rwa [<-List.append_assoc]at this)
   simp only[List.length_append,li,List.append_assoc]at this;exact this
theorem ZEc(A:Prs)(b:A.length<=800):Zcb A=some (ZfC A):=by
 unfold Zcb ZdZ;have d:A.length / 20+1<=(((A.length:Nat):Int)-(20:Int)).toNat+2:=by omega
 have:=st_c0 A b (A.length / 20) A [] ((((A.length:Nat):Int)-(20:Int)).toNat+2) (by omega) d (by simp) (fun D h=>h);simp only[List.length_nil,Nat.zero_add,List.nil_append]at this;have eA:ZaM (A.length:Int) ((((A.length:Nat):Int)-(20:Int)).toNat+2) 20 0 20 A=some (ZfC A):=this;rw[eA];rfl
theorem ZAw(A:Prs)(b:A.length<=800):Zkt A=some (ZfC A):=by
 unfold Zkt;have ec:Zaw A=some A:=by
  unfold Zaw;rw[Zaj ⟨by omega,by unfold maxLen;omega⟩]
 rw[ec,Zan,ZEc A b];rfl
end Go.Proofs.YtlpdogaifdeomaaGreat
