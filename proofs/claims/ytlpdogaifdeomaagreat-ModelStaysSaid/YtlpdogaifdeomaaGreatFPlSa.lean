import Derived.Test.YtlpdogaifdeomaaGreatFPlXb
import Derived.Test.YtlpdogaifdeomaaGreatFPlY
namespace Go.Proofs.YtlpdogaifdeomaaGreat
set_option linter.unusedVariables false
set_option linter.unusedSimpArgs false
theorem ZQt(p:Zaa)(s:Int):ZfL s (grp p.fEnd.fAddr)=some (keyZ s p):=by
 obtain⟨m,b,d,_⟩:=ZKD s (grp p.fEnd.fAddr);unfold keyZ;rw[b,d];rfl
theorem ZPo(a b:Int)(p q:Zaa):ZcY a b p q=some (decide (a<b\/(a=b/\cmpE p.fEnd q.fEnd<0))):=by
 unfold ZcY;rw[Zsw,Zan];by_cases h:a=b
 .subst h;have e:(a != a)=false:=by simp
  rw[e,cond_false];congr 1;rw[decide_eq_decide];constructor
  .intro h;exact .inr ⟨rfl,h⟩
  .rintro (h|⟨_,h⟩)
   .omega
   .exact h
 .have e:(a != b)=true:=by rw[bne_iff_ne];exact h
  rw[e,cond_true];congr 1;rw[decide_eq_decide];constructor
  .intro h;exact .inl h
  .rintro (d|⟨d,_⟩)
   .exact d
   .exact absurd d h
theorem ZKg(p q:Zaa)(b s:Int)(j:p.fEnd.fAddr.ok)(n:q.fEnd.fAddr.ok)(hb:1<=b/\b<=4):ZhZ p q b s=some (decide (ZqF b s p q<0)):=by
 have hd:decide (ZqF b s p q<0)=decide (kv b s p<kv b s q\/(kv b s p=kv b s q/\cmpE p.fEnd q.fEnd<0)):=by rw[decide_eq_decide];exact ZuL
 rw[hd];unfold ZhZ;simp only[ZGi _ j,ZGi _ n,Zan,ZQt,ZPo,Zdp];by_cases i:b=1
 .subst i;simp only[if_true,kv];by_cases h:keyZ s p=keyZ s q
  .have e:(keyZ s p != keyZ s q)=false:=by rw[h];simp
   rw[e,cond_false];congr 1;rw[decide_eq_decide];constructor
   .rintro (d|⟨_,d⟩)
    .omega
    .exact .inr ⟨by omega,d⟩
   .rintro (d|⟨_,d⟩)
    .omega
    .exact .inr ⟨by trivial,d⟩
  .have e:(keyZ s p != keyZ s q)=true:=by rw[bne_iff_ne];exact h
   rw[e,cond_true];congr 1;rw[decide_eq_decide];constructor
   .intro d;left;omega
   .rintro (d|⟨d,_⟩)<;>omega
 .by_cases d:b=2
  .subst d;simp[kv]
  .by_cases o:b=3
   .subst o;simp only[kv,if_neg i,if_neg d,if_true];congr 1;rw[decide_eq_decide];constructor
    .rintro (f|⟨f,g⟩)
     .left;omega
     .right;exact⟨by omega,g⟩
    .rintro (f|⟨f,g⟩)
     .left;omega
     .right;exact⟨by omega,g⟩
   .obtain rfl:b=4:=by omega
    simp[kv]
def unJ(w:List Bool)(i:Nat):Ins:=(upto i).filter fun j=>!(w.getD j.toNat false)
def Zti(K:Cx):Ins->Int | []=>-1|b :: r=>bstJ K b r
theorem ZMK{K:Cx}(C:Ins)(y:Int):Zti K (C++[y])=if C=[]then y else if ltJ K y (Zti K C)=true then y else Zti K C:=by
 cases C with
 |nil=>simp[Zti,bstJ]
 |cons b r=>
  rw[if_neg (by simp)];exact ZzC y r b
theorem ZwC{K:Cx}{C:Ins}(h:C≠[]):Zti K C∈C:=by
 cases C with
 |nil=>exact absurd rfl h
 |cons b r=>exact ZzB r b
theorem ZFX(w:List Bool)(i:Nat):unJ w (i+1)=unJ w i++if w.getD i false=true then[]else[(i:Int)]:=by
 unfold unJ;rw[Zsn,List.filter_append];congr 1;cases h:w.getD i false with
 |false=>simp only[List.filter_cons,Int.toNat_natCast,h,Bool.not_false,if_true,List.filter_nil,Bool.false_eq_true,if_false]
 |true=>simp only[List.filter_cons,Int.toNat_natCast,h,Bool.not_true,Bool.false_eq_true,if_false,List.filter_nil,if_true]
theorem ZDP{w:List Bool}{i:Nat}{x:Int}(h:x∈unJ w i):0<=x/\x<(i:Int)/\w.getD x.toNat false=false:=by
 obtain⟨b,d⟩:=List.mem_filter.1 h;have:=ZkK.1 b;exact⟨this.1,this.2,by simpa using d⟩
theorem ZJB(w:List Bool)(i:Nat):(unJ w i).Nodup:=(ZoG i).sublist List.filter_sublist
theorem ZQe(w:List Bool)(n:Nat)(m:Int)(h0:0<=m)(b:m<(w.length:Int)):unJ (w.set m.toNat true) n=(unJ w n).filter fun x=>x != m:=by
 unfold unJ;rw[List.filter_filter];refine List.filter_congr fun x hx=>?_;obtain⟨x1,x2⟩:=ZkK.1 hx;simp only[List.getD_eq_getElem?_getD,List.getElem?_set];by_cases h:m=x
 .subst h;rw[if_pos rfl,iNb];simp
 .rw[iNa];have:(x != m)=true:=by rw[bne_iff_ne];omega
  rw[this,Bool.true_and]
theorem ZFM(l:List Zaa)(b:Int)(X:Ins)(p:Int->Bool):Zhg l b (X.filter p)=(Zhg l b X).filter p:=by
 unfold Zhg;rw[List.filter_filter,List.filter_filter];exact List.filter_congr fun y _=>Bool.and_comm _ _
section
variable {l:List Zaa} (hl:l.length<=800) (ho:okPs l) {s:Int} {q:Zau}
include hl ho
theorem ZNL(b:Int)(hb:1<=b/\b<=4)(v9:Int)(p:Int->List Bool->Zau->Option (List Bool))(g:Int->List Bool->Option (List Bool))(w:List Bool)(j:w.length=l.length):∀(k i fu:Nat),l.length-i=k->i<=l.length->k+1<=fu ->
  ZbH l s b q v9 p g fu (Zti ⟨l,b,s⟩ (Zhg l b (unJ w i))) (i:Int) w=if Zhg l b (unJ w l.length)=[]then g (Zam v9 1) w else g (Zam v9 1) (w.set (Zti ⟨l,b,s⟩ (Zhg l b (unJ w l.length))).toNat true):=by
 intro k;induction k with
 |zero=>
  intro i fu r t u;obtain⟨fu,rfl⟩:=sC fu;obtain rfl:i=l.length:=by omega
  unfold ZbH;rw[Zad,iNa,Zad];by_cases f:Zhg l b (unJ w l.length)=[]
  .rw[if_pos f,f];rw[if_neg (by simp[Zti])]
  .have h:=ZwC (K:=⟨l,b,s⟩) f;obtain⟨m1,m2,_⟩:=ZDP (List.mem_filter.1 h).1;rw[if_neg f,iNb,Zaj (by rw[j];omega)]
 |succ k ih=>
  intro i fu r t u;obtain⟨fu,rfl⟩:=sC fu;have v:Zam (i:Int) 1=((i+1:Nat):Int):=add1 (n:=i+1) (by omega) (by simp only[maxLen];omega);have bz:=ih (i+1) fu (by omega) (by omega) (by omega);rw[ZFX,ZHh]at bz;unfold ZbH;rw[Zad,iNb,Zaj (by rw[j];omega),v];simp only[Int.toNat_natCast];cases hwi:w.getD i false with
  |true=>
   rw[hwi,if_pos rfl]at bz;have:Zhg l b []=[]:=rfl;rw[this,List.append_nil]at bz;rw[Bool.not_true,cond_false];exact bz
  |false=>
   rw[hwi,if_neg (by decide)]at bz;rw[Bool.not_false,cond_true,Zaj (by omega),ZHM,Zan];cases o:cntB b (l.getD i Zaa.d)with
   |false=>
    have:Zhg l b [(i:Int)]=[]:=by simp only[Zhg,gP,Int.toNat_natCast,List.filter_cons,o,Bool.false_eq_true,if_false,List.filter_nil]
    rw[this,List.append_nil]at bz;rw[cond_false];exact bz
   |true=>
    have:Zhg l b [(i:Int)]=[(i:Int)]:=by simp only[Zhg,gP,Int.toNat_natCast,List.filter_cons,o,if_true,List.filter_nil]
    rw[this,ZMK]at bz;rw[cond_true,Zad];by_cases f:Zhg l b (unJ w i)=[]
    .rw[if_pos f]at bz;rw[f,if_pos (by simp[Zti])];exact bz
    .have h:=ZwC (K:=⟨l,b,s⟩) f;obtain⟨m1,m2,_⟩:=ZDP (List.mem_filter.1 h).1;rw[if_neg f]at bz;rw[iNa,Zaj (by omega),ZKg _ _ _ _ (by rw[ZbA l _ i (by omega)];exact ho _ (List.getElem_mem _)) (by rw[ZbA l _ _ (by omega)];exact ho _ (List.getElem_mem _)) hb,Zan];have e:decide (ZqF b s (l.getD i Zaa.d) (l.getD (Zti ⟨l,b,s⟩ (Zhg l b (unJ w i))).toNat Zaa.d)<0)=ltJ ⟨l,b,s⟩ (i:Int) (Zti ⟨l,b,s⟩ (Zhg l b (unJ w i))):=rfl;rw[e];cases hlt:ltJ ⟨l,b,s⟩ (i:Int) (Zti ⟨l,b,s⟩ (Zhg l b (unJ w i)))with
     |true=>rw[hlt,if_pos rfl]at bz;rw[cond_true];exact bz
     |false=>rw[hlt,if_neg (by decide)]at bz;rw[cond_false];exact bz
theorem ZNM(b n:Int)(hb:1<=b/\b<=4)(v:Zdf q b=some n)(d:Int->List Bool->Zau->Option (List Bool)):∀(r v9 fu:Nat)(w:List Bool),(if n<(l.length:Int)then n.toNat else l.length)-v9=r->v9<=l.length->r+1<=fu->w.length=l.length ->
  ∃w',w'.length=l.length/\unJ w' l.length=(unJ w l.length).filter (fun i=>!decide (i∈selN ⟨l,b,s⟩ r (Zhg l b (unJ w l.length))))/\Zcg l s b q d fu (v9:Int) w=d (Zam b 1) w' q:=by
 intro r;induction r with
 |zero=>
  intro v9 fu w g B C e;obtain⟨fu,rfl⟩:=sC fu;refine⟨w,e,by simp only[selN];exact(List.filter_eq_self.2 fun x _=>by simp).symm,?_⟩;unfold Zcg;rw[v,Zan,Zad,Zad];by_cases A:(v9:Int)<n
  .rw[if_pos A];by_cases j:(v9:Int)<(l.length:Int)
   .exfalso;split at g<;>omega
   .rw[if_neg j]
  .rw[if_neg A]
 |succ r ih=>
  intro v9 fu w g B C e;obtain⟨fu,rfl⟩:=sC fu;have j:v9<l.length/\(v9:Int)<n:=by split at g<;>omega
  have D:Zam (v9:Int) 1=((v9+1:Nat):Int):=add1 (n:=v9+1) (by omega) (by simp only[maxLen];omega);unfold Zcg;have hc2:=ZNL hl ho (s:=s) (q:=q) b hb (v9:Int) d (Zcg l s b q d fu) w e l.length 0 ((((l.length:Nat):Int)-(0:Int)).toNat+2) (by omega) (by omega) (by omega);have mh:ZbH l s b q (v9:Int) d (Zcg l s b q d fu) ((((l.length:Nat):Int)-(0:Int)).toNat+2) (-1) 0 w=_:=hc2;rw[v,Zan,Zad,if_pos j.2,Zad,iNb,mh,D];by_cases f:Zhg l b (unJ w l.length)=[]
  .rw[if_pos f];obtain⟨w',o,p,t⟩:=ih (v9+1) fu w (by omega) (by omega) (by omega) e;refine⟨w',o,?_,t⟩;rw[p,f];cases r<;>rfl
  .have E:=ZwC (K:=⟨l,b,s⟩) f;obtain⟨m1,m2,_⟩:=ZDP (List.mem_filter.1 E).1;rw[if_neg f];obtain⟨w',o,p,t⟩:=ih (v9+1) fu (w.set (Zti ⟨l,b,s⟩ (Zhg l b (unJ w l.length))).toNat true) (by omega) (by omega) (by omega) (by simpa using e);refine⟨w',o,?_,t⟩;rw[p,ZQe w _ _ m1 (by rw[e];exact m2)];cases hCC:Zhg l b (unJ w l.length)with
   |nil=>exact absurd hCC f
   |cons x X=>
    have bG:Zti ⟨l,b,s⟩ (x :: X)=bstJ ⟨l,b,s⟩ x X:=rfl;rw[ZFM,hCC,bG,List.filter_filter,selN];refine List.filter_congr fun y _=>?_;by_cases u:y=bstJ ⟨l,b,s⟩ x X
    .rw[u];simp
    .have:(y != bstJ ⟨l,b,s⟩ x X)=true:=by rw[bne_iff_ne];exact u
     rw[this,Bool.and_true];congr 1;rw[decide_eq_decide,List.mem_cons];constructor
     .exact .inr
     .rintro (h|h)
      .exact absurd h u
      .exact h
theorem ZqU(b n:Int)(hb:1<=b/\b<=4)(e:Zdf q b=some n)(d:Int->List Bool->Zau->Option (List Bool))(w:List Bool)(f:w.length=l.length) :
  ∃w',w'.length=l.length/\unJ w' l.length=ZoH l s b n (unJ w l.length)/\Zcg l s b q d ((((l.length:Nat):Int)-(0:Int)).toNat+2) 0 w=d (Zam b 1) w' q:=by
 obtain⟨w',g,i,o⟩:=ZNM hl ho (s:=s) b n hb e d _ 0 ((((l.length:Nat):Int)-(0:Int)).toNat+2) w rfl (by omega) (by split<;>omega) f;refine⟨w',g,?_,o⟩;have jS:(Zhg l b (unJ w l.length)).Nodup:=(ZJB w _).sublist List.filter_sublist;have hlen:(ZbQ ⟨l,b,s⟩ (Zhg l b (unJ w l.length))).length<=l.length:=by
  rw[Zhh];have p:=ZuT l b (unJ w l.length);have r:(unJ w l.length).length<=l.length:=by
   have:=List.length_filter_le (fun j:Int=>!(w.getD j.toNat false)) (upto l.length);rw[ZnT]at this;exact this
  omega
 rw[i,ZGd _ _ jS];unfold ZoH;have:(ZbQ ⟨l,b,s⟩ (Zhg l b (unJ w l.length))).take ((if n<(l.length:Int)then n.toNat else l.length)-0)=(ZbQ ⟨l,b,s⟩ (Zhg l b (unJ w l.length))).take n.toNat:=by
  by_cases h:n<(l.length:Int)
  .rw[if_pos h];rfl
  .rw[if_neg h,List.take_of_length_le (by omega),List.take_of_length_le (by omega)]
 rw[this]
theorem ZKb:∃w,Zgg l q s=some w/\w.length=l.length/\unJ w l.length=ZyQ l q s:=by
 have b:Zdf q 1=some q.fGroup:=rfl;have d:Zdf q 2=some q.fPing:=rfl;have e:Zdf q 3=some q.fWork:=rfl;have g:Zdf q 4=some q.fTime:=rfl;have w0:(List.replicate ((l.length:Nat):Int).toNat false).length=l.length:=by simp
 have u0:unJ (List.replicate ((l.length:Nat):Int).toNat false) l.length=upto l.length:=by
  unfold unJ;refine List.filter_eq_self.2 fun x hx=>?_;obtain⟨x1,x2⟩:=ZkK.1 hx;have:x.toNat<l.length:=by omega
  simp[List.getD_eq_getElem?_getD,this]
 obtain⟨w1,h,b1,i⟩:=ZqU hl ho (s:=s) 1 _ (by omega) b (ZaS l s 4) _ w0;obtain⟨w2,j,b2,n⟩:=ZqU hl ho (s:=s) 2 _ (by omega) d (ZaS l s 3) w1 h;obtain⟨w3,o,b3,p⟩:=ZqU hl ho (s:=s) 3 _ (by omega) e (ZaS l s 2) w2 j;obtain⟨w4,r,b4,t⟩:=ZqU hl ho (s:=s) 4 _ (by omega) g (ZaS l s 1) w3 o;refine⟨w4,?_,r,by rw[b4,b3,b2,b1,u0];rfl⟩;have d1:ZaS l s 5 1 (List.replicate ((l.length:Nat):Int).toNat false) q=ZaS l s 4 2 w1 q:=i;have d2:ZaS l s 4 2 w1 q=ZaS l s 3 3 w2 q:=n;have d3:ZaS l s 3 3 w2 q=ZaS l s 2 4 w3 q:=p;have d4:ZaS l s 2 4 w3 q=ZaS l s 1 5 w4 q:=t;unfold Zgg;rw[Zaj (by omega)];have f:(((4:Int)-(1:Int)).toNat+2)=5:=rfl;rw[f,d1,d2,d3,d4];rfl
end
def ZkI(l:List Zaa):List Zaa:=l.filter fun p=>p.fIn
def ZrB(l:List Zaa)(q:Zau)(s:Int):List Zaa:=(ZyQ (ZkI l) q s).map (gP (ZkI l))
theorem ZCN(l:List Zaa)(i:Nat)(h:i<l.length):ZkI (l.take (i+1))=ZkI (l.take i)++if l[i].fIn=true then[l[i]]else[]:=by
 unfold ZkI;rw[List.take_succ_eq_append_getElem h,List.filter_append];congr 1;cases h:l[i].fIn<;>simp[h]
theorem Zww(l:List Zaa):(ZkI l).length<=l.length:=List.length_filter_le ..
theorem ZIz(l:List Zaa)(hl:l.length<=100000):Zmn l=some (ZkI l):=by
 have aK:∀(k i fu:Nat),l.length-i=k->i<=l.length->k+1<=fu->ZgH fu l (l.length:Int) (i:Int) (ZkI (l.take i))=some (ZkI l):=by
  intro k;induction k with
  |zero=>
   intro i fu b e f;obtain⟨fu,rfl⟩:=sC fu;unfold ZgH;rw[Zad,iNa,List.take_of_length_le (by omega)]
  |succ k ih=>
   intro i fu b e f;obtain⟨fu,rfl⟩:=sC fu;unfold ZgH;have bC:i<l.length:=by omega
   have g:Zam (i:Int) 1=((i+1:Nat):Int):=add1 (n:=i+1) (by omega) (by simp only[maxLen];omega);have h:=Zww (l.take i);simp only[List.length_take]at h;have bz:=ih (i+1) fu (by omega) (by omega) (by omega);rw[ZCN l i bC]at bz;have j:l.getD ((i:Int)).toNat Zaa.d=l[i]:=ZbA l _ i bC;rw[Zad,iNb,Zaj (by omega),j,g];cases hin:l[i].fIn with
   |true=>
    rw[hin,if_pos rfl]at bz;rw[cond_true,Zaj (by simp only[List.length_append,List.length_singleton,maxLen];omega)];exact bz
   |false=>
    rw[hin,if_neg (by decide),List.append_nil]at bz;rw[cond_false];exact bz
 unfold Zmn;exact aK l.length 0 _ (by omega) (by omega) (by omega)
theorem ZOa(l:List Zaa)(hl:l.length<=100000):ZgL l=some (ZkI l):=by
 have aK:∀(k i fu:Nat),l.length-i=k->i<=l.length->k+1<=fu->Zdg l fu (i:Int) (ZkI (l.take i))=some (ZkI l):=by
  intro k;induction k with
  |zero=>
   intro i fu b e f;obtain⟨fu,rfl⟩:=sC fu;unfold Zdg;rw[Zad,iNa,List.take_of_length_le (by omega)]
  |succ k ih=>
   intro i fu b e f;obtain⟨fu,rfl⟩:=sC fu;unfold Zdg;have bC:i<l.length:=by omega
   have g:Zam (i:Int) 1=((i+1:Nat):Int):=add1 (n:=i+1) (by omega) (by simp only[maxLen];omega);have h:=Zww (l.take i);simp only[List.length_take]at h;have bz:=ih (i+1) fu (by omega) (by omega) (by omega);rw[ZCN l i bC]at bz;have j:l.getD ((i:Int)).toNat Zaa.d=l[i]:=ZbA l _ i bC;rw[Zad,iNb,Zaj (by omega),j,g];cases hin:l[i].fIn with
   |true=>
    rw[hin,if_pos rfl]at bz;rw[cond_true,Zaj (by simp only[List.length_append,List.length_singleton,maxLen];omega)];exact bz
   |false=>
    rw[hin,if_neg (by decide),List.append_nil]at bz;rw[cond_false];exact bz
 unfold ZgL;exact aK l.length 0 _ (by omega) (by omega) (by omega)
theorem ZKK(l:List Zaa)(q:Zau)(s:Int):inL l (ZyQ l q s):=Zoh (Zoh (Zoh (Zoh fun i b=>ZkK.1 b)))
theorem ZGB(l:List Zaa)(q:Zau)(s:Int):(ZyQ l q s).length<=l.length:=by
 have b:=Zpo l s 1 q.fGroup (upto l.length);have d:=Zpo l s 2 q.fPing (ZoH l s 1 q.fGroup (upto l.length));have e:=Zpo l s 3 q.fWork (ZoH l s 2 q.fPing (ZoH l s 1 q.fGroup (upto l.length)));have f:=Zpo l s 4 q.fTime (ZoH l s 3 q.fWork (ZoH l s 2 q.fPing (ZoH l s 1 q.fGroup (upto l.length))));rw[ZnT]at b;unfold ZyQ;omega
theorem ZBl{l:List Zaa}(h:okPs l):okPs (ZkI l):=fun p b=>h p (List.mem_filter.1 b).1
theorem ZFd(l:List Zaa)(q:Zau)(s:Int)(hl:l.length<=800)(ho:okPs l):Zhx l q s=some (ZrB l q s):=by
 have o:=Zww l;have b:=ZKK (ZkI l) q s;have hle:=ZGB (ZkI l) q s;unfold Zhx ZrB;rw[ZIz l (by omega),Zan,ZEe _ q s (by omega) (ZBl ho),Zan];obtain⟨A,d⟩ : ∃A,A=ZyQ (ZkI l) q s:=⟨_,rfl⟩;rw[<-d]at b hle ⊢;have aK:∀(k i fu:Nat),A.length-i=k->i<=A.length->k+1<=fu->Zeh fu (ZkI l) A (A.length:Int) (i:Int) ((A.take i).map (gP (ZkI l)))=some (A.map (gP (ZkI l))):=by
  intro k;induction k with
  |zero=>
   intro i fu e b f;obtain⟨fu,rfl⟩:=sC fu;unfold Zeh;rw[Zad,iNa,List.take_of_length_le (by omega)]
  |succ k ih=>
   intro i fu e c4 f;obtain⟨fu,rfl⟩:=sC fu;unfold Zeh;have bC:i<A.length:=by omega
   have g:Zam (i:Int) 1=((i+1:Nat):Int):=add1 (n:=i+1) (by omega) (by simp only[maxLen];omega);have h:=b _ (List.getElem_mem bC);have j:A.getD ((i:Int)).toNat 0=A[i]:=ZbA A 0 i bC;have hlt:((A.take i).map (gP (ZkI l))).length=i:=by simp;omega
   rw[Zad,iNb,Zaj (by omega),j,Zaj h,Zaj (by simp only[List.length_append,hlt,List.length_singleton,maxLen];omega),g];have:=ih (i+1) fu (by omega) (by omega) (by omega);rw[List.take_succ_eq_append_getElem bC,List.map_append,List.map_singleton]at this;exact this
 exact aK A.length 0 _ (by omega) (by omega) (by omega)
theorem ZKf(l:List Zaa)(q:Zau)(s:Int)(hl:l.length<=800)(ho:okPs l):ZdU l q s=some (ZrB l q s):=by
 have r:=Zww l;unfold ZdU ZrB;obtain⟨w,d,e,f⟩:=ZKb (l:=ZkI l) (q:=q) (s:=s) (by omega) (ZBl ho);rw[ZOa l (by omega),Zan,d,Zan,<-f];have aK:∀(k i fu:Nat),(ZkI l).length-i=k->i<=(ZkI l).length->k+1<=fu->Zcf fu (ZkI l) w (i:Int) ((unJ w i).map (gP (ZkI l)))=some ((unJ w (ZkI l).length).map (gP (ZkI l))):=by
  intro k;induction k with
  |zero=>
   intro i fu g h o;obtain⟨fu,rfl⟩:=sC fu;obtain rfl:i=(ZkI l).length:=by omega
   unfold Zcf;rw[Zad,iNa]
  |succ k ih=>
   intro i fu g h o;obtain⟨fu,rfl⟩:=sC fu;unfold Zcf;have p:Zam (i:Int) 1=((i+1:Nat):Int):=add1 (n:=i+1) (by omega) (by simp only[maxLen];omega);have t:(unJ w i).length<=i:=by
    have:=List.length_filter_le (fun j:Int=>!(w.getD j.toNat false)) (upto i);rw[ZnT]at this;exact this
   have bz:=ih (i+1) fu (by omega) (by omega) (by omega);rw[ZFX,List.map_append]at bz;rw[Zad,iNb,Zaj (by rw[e];omega),p];simp only[Int.toNat_natCast];cases b:w.getD i false with
   |true=>
    rw[b,if_pos rfl,List.map_nil,List.append_nil]at bz;rw[Bool.not_true,cond_false];exact bz
   |false=>
    rw[b,if_neg (by decide)]at bz;rw[Bool.not_false,cond_true,Zaj (by omega),Zaj (by simp only[List.length_append,List.length_map,List.length_singleton,maxLen];omega)];exact bz
 exact aK (ZkI l).length 0 _ (by omega) (by omega) (by omega)
def grpP(p:Zaa):Zae:=grp p.fEnd.fAddr
def ZgS(l:List Zaa)(g:Zae):Nat:=(l.filter fun p=>decide (grpP p=g)).length
theorem ZBo{κ ν:Type}[DecidableEq κ](k g:κ)(v z:ν):∀l:List (κ×ν),mget (mput l k v) g z=if k=g then v else mget l g z
 | []=>by
  simp only[mput,mget]
 |p :: r=>by
  simp only[mput]
  by_cases h:p.1=k
  .rw[if_pos h]
   simp only[mget]
   by_cases b:k=g
   .simp[b]
   .rw[if_neg b,if_neg b,if_neg (by rw[h];exact b)]
  .rw[if_neg h]
   simp only[mget]
   rw[ZBo k g v z r]
   by_cases b:p.1=g
   .rw[if_pos b,if_pos b,if_neg (by rintro rfl;exact h b)]
   .rw[if_neg b,if_neg b]
theorem ZxS(l:List Zaa)(i:Nat)(h:i<l.length)(g:Zae):ZgS (l.take (i+1)) g=ZgS (l.take i) g+if grpP l[i]=g then 1 else 0:=by
 unfold ZgS;rw[List.take_succ_eq_append_getElem h,List.filter_append,List.length_append];congr 1;by_cases h:grpP l[i]=g<;>simp[h]
theorem ZHd(l:List Zaa)(g:Zae):ZgS l g<=l.length:=List.length_filter_le ..
theorem ZyJ{l:List Zaa}(h:okPs l){i:Nat}(b:i<l.length):(l.getD i Zaa.d).fEnd.fAddr.ok:=by rw[ZbA l _ i b];exact h _ (List.getElem_mem b)
theorem ZFI(l:List Zaa)(hl:l.length<=800)(ho:okPs l):∃m,ZmR l=some m/\∀g,mget m g 0=(ZgS l g:Int):=by
 have aK:∀(k i fu:Nat)(m:List (Zae×Int)),l.length-i=k->i<=l.length->k+1<=fu->(∀g,mget m g 0=(ZgS (l.take i) g:Int))->∃m',Zhn fu l (l.length:Int) (i:Int) m=some m'/\∀g,mget m' g 0=(ZgS l g:Int):=by
  intro k;induction k with
  |zero=>
   intro i fu m e f j b;obtain⟨fu,rfl⟩:=sC fu;unfold Zhn;rw[List.take_of_length_le (by omega)]at b;exact⟨m,by rw[Zad,iNa],b⟩
  |succ k ih=>
   intro i fu m e f j b;obtain⟨fu,rfl⟩:=sC fu;unfold Zhn;have bC:i<l.length:=by omega
   have o:Zam (i:Int) 1=((i+1:Nat):Int):=add1 (n:=i+1) (by omega) (by simp only[maxLen];omega);have p:l.getD ((i:Int)).toNat Zaa.d=l[i]:=ZbA l _ i bC;have r:=ZHd (l.take i) (grpP l[i]);simp only[List.length_take]at r;rw[Zad,iNb,Zaj (by omega),p,Zpy _ (ho _ (List.getElem_mem bC)),Zan,o];refine ih (i+1) fu _ (by omega) (by omega) (by omega) fun g=>?_;rw[ZBo,ZxS l i bC,b g];have bA:grp l[i].fEnd.fAddr=grpP l[i]:=rfl;rw[bA,b (grpP l[i])];by_cases h:grpP l[i]=g
   .subst h;rw[if_pos rfl,if_pos rfl,Zbb (by omega) (by omega)];omega
   .rw[if_neg h,if_neg h];omega
 unfold ZmR;exact aK l.length 0 _ [] (by omega) (by omega) (by omega) (fun g=>by simp[mget,ZgS])
def gtX(l:List Zaa)(i j:Nat):Int:=orI (cmpI (ZgS l (grpP (l.getD i Zaa.d)):Int) (ZgS l (grpP (l.getD j Zaa.d)):Int)) (orI (cmpI (l.getD i Zaa.d).fSince (l.getD j Zaa.d).fSince) (cmpE (l.getD i Zaa.d).fEnd (l.getD j Zaa.d).fEnd))
theorem ZvT{l:List Zaa}{i j:Nat}:0<gtX l i j↔ZgS l (grpP (l.getD j Zaa.d))<ZgS l (grpP (l.getD i Zaa.d))\/(ZgS l (grpP (l.getD i Zaa.d))=ZgS l (grpP (l.getD j Zaa.d)) /\
  ((l.getD j Zaa.d).fSince<(l.getD i Zaa.d).fSince\/((l.getD i Zaa.d).fSince=(l.getD j Zaa.d).fSince/\0<cmpE (l.getD i Zaa.d).fEnd (l.getD j Zaa.d).fEnd))):=by
 unfold gtX;rw[Zxr,Zxr,ZtS,ZjS,ZtS,ZjS];omega
theorem ZLy{l:List Zaa}{i b k:Nat}(e:0<gtX l i b)(f:¬0<gtX l k b):0<gtX l i k:=by
 rw[ZvT]at *
 obtain⟨I,hI⟩ : ∃x,x=l.getD i Zaa.d:=⟨_,rfl⟩;obtain⟨B,g⟩ : ∃x,x=l.getD b Zaa.d:=⟨_,rfl⟩;obtain⟨K,j⟩ : ∃x,x=l.getD k Zaa.d:=⟨_,rfl⟩;rw[<-hI,<-g]at e;rw[<-j,<-g]at f;rw[<-hI,<-j];by_cases n:ZgS l (grpP K)<ZgS l (grpP I)
 .exact .inl n
 .have o:ZgS l (grpP I)=ZgS l (grpP K)/\ZgS l (grpP B)=ZgS l (grpP K):=by
   rcases e with e|⟨e,_⟩
   .exact absurd (Or.inl (by omega)) f
   .by_cases p:ZgS l (grpP B)<ZgS l (grpP K)
    .exact absurd (Or.inl p) f
    .omega
  refine .inr ⟨o.1,?_⟩;have h1':B.fSince<I.fSince\/(I.fSince=B.fSince/\0<cmpE I.fEnd B.fEnd):=by
   rcases e with e|⟨_,e⟩
   .omega
   .exact e
  have fM:¬(B.fSince<K.fSince\/(K.fSince=B.fSince/\0<cmpE K.fEnd B.fEnd)):=fun h=>f (.inr ⟨by omega,h⟩);by_cases s1:K.fSince<I.fSince
  .exact .inl s1
  .have s2:I.fSince=K.fSince/\I.fSince=B.fSince:=by
    rcases h1' with h|⟨h,_⟩
    .exact absurd (Or.inl (by omega)) fM
    .by_cases s3:B.fSince<K.fSince
     .exact absurd (Or.inl s3) fM
     .omega
   refine .inr ⟨s2.1,?_⟩;have r:0<cmpE I.fEnd B.fEnd:=by
    rcases h1' with h|⟨_,h⟩
    .omega
    .exact h
   have u:¬0<cmpE K.fEnd B.fEnd:=fun h=>fM (.inr ⟨by omega,h⟩);have c2':=Zgl.1 r;rw[Zgl];by_cases t:cmpE K.fEnd B.fEnd=0
   .rw[ZgT.1 t];exact c2'
   .exact ZlS (show cmpE K.fEnd B.fEnd<0 by omega) c2'
theorem ZOW{l:List Zaa}{i k:Nat}(b:0<gtX l i k):¬0<gtX l k i:=by
 intro d;rw[ZvT]at b d;rcases b with h|⟨f,h|⟨g,h⟩⟩<;>rcases d with e|⟨j,e|⟨n,e⟩⟩<;>first|omega|skip
 have:=Zgl.1 h;omega
theorem ZFH(p q:Zaa):ZmQ p q=some (orI (cmpI p.fSince q.fSince) (cmpE p.fEnd q.fEnd)):=by
 unfold ZmQ;simp only[Zsg,Zog,or2,Zan]
structure TopX (l:List Zaa) (n b:Nat):Prop where
 lt:b<n
 top:∀k,k<n->¬0<gtX l k b
 fst:∀k,k<b->0<gtX l b k
theorem ZxT(l:List Zaa)(hl:l.length<=800)(ho:okPs l):∃b:Int,Zmp l=some b/\((l=[]/\b = -1)\/∃n:Nat,b=(n:Int)/\TopX l l.length n):=by
 obtain⟨m,o,j⟩:=ZFI l hl ho;have aK:∀(k i fu:Nat)(b:Int),l.length-i=k->i<=l.length->k+1<=fu->((i=0/\b = -1)\/∃n:Nat,b=(n:Int)/\TopX l i n)->∃z:Int,Zfy l fu b l (l.length:Int) (i:Int) m=some z/\((l.length=0/\z = -1)\/∃n:Nat,z=(n:Int)/\TopX l l.length n):=by
  intro k;induction k with
  |zero=>
   intro i fu b f p r hb;obtain⟨fu,rfl⟩:=sC fu;obtain rfl:i=l.length:=by omega
   unfold Zfy;exact⟨b,by rw[Zad,iNa],hb⟩
  |succ k ih=>
   intro i fu b f p r hb;obtain⟨fu,rfl⟩:=sC fu;have bC:i<l.length:=by omega
   have t:Zam (i:Int) 1=((i+1:Nat):Int):=add1 (n:=i+1) (by omega) (by simp only[maxLen];omega);unfold Zfy;rw[Zad,iNb,Zaj (by omega),Zad,t];rcases hb with⟨h0,rfl⟩|⟨n,rfl,g⟩
   .subst h0;rw[iNb];refine ih 1 fu _ (by omega) (by omega) (by omega) (.inr ⟨0,rfl,by omega,fun k f=>?_,fun k f=>by omega⟩);obtain rfl:k=0:=by omega
    rw[ZvT];rintro (h|⟨_,h|⟨_,h⟩⟩)
    .omega
    .omega
    .rw[ZgT.2 rfl]at h;omega
   .have u:=g.lt;rw[iNa,Zpy _ (ZyJ ho (by omega)),Zan,Zaj (by omega),Zpy _ (ZyJ ho (by omega)),Zan,Zsg,Zan,ZFH,Zan,or2,Zan];have e:orI (cmpI (mget m (grp (l.getD ((i:Int)).toNat Zaa.d).fEnd.fAddr) 0) (mget m (grp (l.getD ((n:Int)).toNat Zaa.d).fEnd.fAddr) 0)) (orI (cmpI (l.getD ((i:Int)).toNat Zaa.d).fSince (l.getD ((n:Int)).toNat Zaa.d).fSince) (cmpE (l.getD ((i:Int)).toNat Zaa.d).fEnd (l.getD ((n:Int)).toNat Zaa.d).fEnd))=gtX l i n:=by
     rw[j,j];rfl
    rw[e,Zad];by_cases h:gtX l i n>0
    .rw[if_pos h];refine ih (i+1) fu _ (by omega) (by omega) (by omega) (.inr ⟨i,rfl,by omega,fun k f=>?_,fun k f=>ZLy h (g.top k f)⟩);by_cases hki:k=i
     .subst hki;rw[ZvT];rintro (h|⟨_,h|⟨_,h⟩⟩)
      .omega
      .omega
      .rw[ZgT.2 rfl]at h;omega
     .exact ZOW (ZLy h (g.top k (by omega)))
    .rw[if_neg h];refine ih (i+1) fu _ (by omega) (by omega) (by omega) (.inr ⟨n,rfl,by omega,fun k f=>?_,g.fst⟩);by_cases hki:k=i
     .subst hki;exact h
     .exact g.top k (by omega)
 unfold Zmp;obtain⟨b',h1',fM⟩:=aK l.length 0 ((((l.length:Nat):Int)-(0:Int)).toNat+2) (-1) (by omega) (by omega) (by omega) (.inl ⟨rfl,rfl⟩);refine⟨b',by rw[o,Zan];exact h1',?_⟩;rcases fM with⟨h,rfl⟩|h
 .exact .inl ⟨List.eq_nil_of_length_eq_zero h,rfl⟩
 .exact .inr h
theorem ZAU(l:List Zaa)(hl:l.length<=800)(ho:okPs l)(i:Nat)(v:i<l.length):Zgf l (i:Int)=some (ZgS l (grpP (l.getD i Zaa.d)):Int):=by
 have aK:∀(k j fu:Nat),l.length-j=k->j<=l.length->k+1<=fu->ZcX l (i:Int) fu (ZgS (l.take j) (grpP (l.getD i Zaa.d)):Int) (j:Int)=some (ZgS l (grpP (l.getD i Zaa.d)):Int):=by
  intro k;induction k with
  |zero=>
   intro j fu b e f;obtain⟨fu,rfl⟩:=sC fu;unfold ZcX;rw[Zad,iNa,List.take_of_length_le (by omega)]
  |succ k ih=>
   intro j fu b e f;obtain⟨fu,rfl⟩:=sC fu;have hj2:j<l.length:=by omega
   have g:Zam (j:Int) 1=((j+1:Nat):Int):=add1 (n:=j+1) (by omega) (by simp only[maxLen];omega);have o:=ZHd (l.take j) (grpP (l.getD i Zaa.d));simp only[List.length_take]at o;have p:l.getD ((j:Int)).toNat Zaa.d=l[j]:=ZbA l _ j hj2;have bz:=ih (j+1) fu (by omega) (by omega) (by omega);rw[ZxS l j hj2]at bz;unfold ZcX;rw[Zad,iNb,Zaj (by omega),p,ZGi _ (ho _ (List.getElem_mem hj2)),Zan,Zaj (by omega),ZGi _ (ZyJ ho (by omega)),Zan,Zad,g];have r:grp l[j].fEnd.fAddr=grpP l[j]:=rfl;have t:grp (l.getD ((i:Int)).toNat Zaa.d).fEnd.fAddr=grpP (l.getD i Zaa.d):=rfl;rw[r,t];by_cases h:grpP l[j]=grpP (l.getD i Zaa.d)
   .rw[if_pos h]at bz ⊢;have u:Zam (ZgS (l.take j) (grpP (l.getD i Zaa.d)):Int) 1=((ZgS (l.take j) (grpP (l.getD i Zaa.d))+1:Nat):Int):=by rw[Zbb (by omega) (by omega)];omega
    rw[u];exact bz
   .rw[if_neg h]at bz ⊢;exact bz
 unfold Zgf;rw[Zad,iNa,Zad,iNa];exact aK l.length 0 _ (by omega) (by omega) (by omega)
theorem ZEk(p q:Zaa):ZgW p q=some (decide (p.fSince>q.fSince\/(p.fSince=q.fSince/\0<cmpE p.fEnd q.fEnd))):=by
 unfold ZgW;rw[Zsw,Zan];by_cases h:p.fSince=q.fSince
 .have e:(p.fSince != q.fSince)=false:=by rw[h];simp
  rw[e,cond_false];congr 1;rw[decide_eq_decide];omega
 .have e:(p.fSince != q.fSince)=true:=by rw[bne_iff_ne];exact h
  rw[e,cond_true];congr 1;rw[decide_eq_decide];omega
theorem Zvl(l:List Zaa)(hl:l.length<=800)(ho:okPs l)(i:Nat)(p:i<l.length)(e:Int->Option Int):∀(k j fu:Nat),l.length-j=k->j<=l.length->k+1<=fu->∀v:Bool,(v=true↔∀x,x<j->¬0<gtX l x i) ->
  ((∀x,x<l.length->¬0<gtX l x i)->Zbr l (i:Int) e fu v (j:Int)=some (i:Int))/\((∃x,x<l.length/\0<gtX l x i)->Zbr l (i:Int) e fu v (j:Int)=e (Zam (i:Int) 1)):=by
 intro k;induction k with
 |zero=>
  intro j fu r t u v f;obtain⟨fu,rfl⟩:=sC fu;obtain rfl:j=l.length:=by omega
  unfold Zbr;rw[Zad,iNa];refine⟨fun h=>by rw[f.2 h];rfl,fun⟨x,y,A⟩=>?_⟩;cases v with
  |false=>rfl
  |true=>exact absurd A (f.1 rfl x y)
 |succ k ih=>
  intro j fu r t u v f;obtain⟨fu,rfl⟩:=sC fu;have B:Zam (j:Int) 1=((j+1:Nat):Int):=add1 (n:=j+1) (by omega) (by simp only[maxLen];omega);have hb:∀b:Bool,(b=true↔∀x,x<j+1->¬0<gtX l x i)->Zbr l (i:Int) e (fu+1) v (j:Int)=Zbr l (i:Int) e fu b ((j+1:Nat):Int):=by
   intro b hb
   conv=>lhs;unfold Zbr
   rw[Zad,iNb,ZAU l hl ho j (by omega),Zan,ZAU l hl ho i p,Zan,B];cases v with
   |false=>
    rw[cond_false];have:b=false:=by
     cases b with
     |false=>rfl
     |true=>
      have:=f.2 fun x hx=>hb.1 rfl x (by omega);cases this
    rw[this]
   |true=>
    have dA:=f.1 rfl;rw[cond_true,Zad,Zad];have hgt:=ZvT (l:=l) (i:=j) (j:=i);by_cases g:(ZgS l (grpP (l.getD j Zaa.d)):Int)<=(ZgS l (grpP (l.getD i Zaa.d)):Int)
    .rw[if_pos g];by_cases o:(ZgS l (grpP (l.getD j Zaa.d)):Int)<(ZgS l (grpP (l.getD i Zaa.d)):Int)
     .rw[if_pos o];have:b=true:=hb.2 fun x hx=>by
       by_cases hxj:x=j
       .subst hxj;rw[hgt];omega
       .exact dA x (by omega)
      rw[this]
     .rw[if_neg o,Zaj (by omega),Zaj (by omega),ZEk,Zan];simp only[Int.toNat_natCast];congr 1;rw[Bool.eq_iff_iff,hb,Bool.not_eq_true',decide_eq_false_iff_not];constructor
      .intro h x hx;by_cases hxj:x=j
       .subst hxj;rw[hgt];omega
       .exact dA x (by omega)
      .intro h;have:=h j (by omega);rw[hgt]at this;omega
    .rw[if_neg g];have:b=false:=by
      cases b with
      |false=>rfl
      |true=>
       have:=hb.1 rfl j (by omega);rw[hgt]at this;omega
     rw[this]
  by_cases hd:∀x,x<j+1->¬0<gtX l x i
  .rw[hb true (by simp only[true_iff];exact hd)];exact ih (j+1) fu (by omega) (by omega) (by omega) true (by simp only[true_iff];exact hd)
  .rw[hb false (by simp only[Bool.false_eq_true,false_iff];exact hd)];exact ih (j+1) fu (by omega) (by omega) (by omega) false (by simp only[Bool.false_eq_true,false_iff];exact hd)
theorem ZNX(l:List Zaa)(hl:l.length<=800)(ho:okPs l):ZiS l=Zmp l:=by
 obtain⟨b,hb,e⟩:=ZxT l hl ho;rw[hb];rcases e with⟨rfl,rfl⟩|⟨n,rfl,d⟩
 .rfl
 .have f:=d.lt;have aK:∀(k i fu:Nat),n-i=k->i<=n->k+1<=fu->ZcF l fu (i:Int)=some (n:Int):=by
   intro k;induction k with
   |zero=>
    intro i fu g h j;obtain⟨fu,rfl⟩:=sC fu;obtain rfl:i=n:=by omega
    unfold ZcF;rw[Zad,iNb];exact(Zvl l hl ho i (by omega) _ l.length 0 ((((l.length:Nat):Int)-(0:Int)).toNat+2) (by omega) (by omega) (by omega) true (by simp)).1 d.top
   |succ k ih=>
    intro i fu g h j;obtain⟨fu,rfl⟩:=sC fu;have o:Zam (i:Int) 1=((i+1:Nat):Int):=add1 (n:=i+1) (by omega) (by simp only[maxLen];omega);unfold ZcF;rw[Zad,iNb];have:=(Zvl l hl ho i (by omega) (ZcF l fu) l.length 0 ((((l.length:Nat):Int)-(0:Int)).toNat+2) (by omega) (by omega) (by omega) true (by simp)).2 ⟨n,f,d.fst i (by omega)⟩;have eA:Zbr l (i:Int) (ZcF l fu) ((((l.length:Nat):Int)-(0:Int)).toNat+2) true 0=_:=this;rw[eA,o];exact ih (i+1) fu (by omega) (by omega) (by omega)
  unfold ZiS;exact aK n 0 _ (by omega) (by omega) (by omega)
theorem ZMF(l:List Zaa)(q:Zau)(s:Int):(ZrB l q s).length<=l.length:=by
 have b:=ZGB (ZkI l) q s;have d:=Zww l;unfold ZrB;rw[List.length_map];omega
theorem ZME(l:List Zaa)(q:Zau)(s:Int):∀p∈ZrB l q s,p∈l/\p.fIn=true:=fun p b=>by
 obtain⟨i,d,rfl⟩:=List.mem_map.1 b
 have:=ZKK (ZkI l) q s i d
 unfold gP
 rw[ZbA _ _ i.toNat (by omega)]
 have e:=List.mem_filter.1 (List.getElem_mem (l:=ZkI l) (n:=i.toNat) (by omega))
 exact e
theorem Zue(l:List Zaa)(q:Zau)(s:Int)(hl:l.length<=800)(ho:okPs l) :
  ∃r:Zag×Bool,Zjg l q s=some r/\Zfu l q s=some r/\(r.2=true->∃p∈l,p.fEnd=r.1/\p.fIn=true):=by
 have i:=ZMF l q s;have d:=ZME l q s;have hoc:okPs (ZrB l q s):=fun p f=>ho p (d p f).1;obtain⟨b,hb,gg⟩:=ZxT (ZrB l q s) (by omega) hoc;have bG:=ZNX (ZrB l q s) (by omega) hoc;unfold Zjg Zfu;rw[ZFd l q s hl ho,ZKf l q s hl ho,Zan,Zan,bG,hb,Zan,Zad];rcases gg with⟨j,rfl⟩|⟨n,rfl,g⟩
 .rw[iNb];exact⟨_,rfl,rfl,fun h=>by cases h⟩
 .have e:=g.lt;rw[iNa,Zaj (by omega)];refine⟨_,rfl,rfl,fun _=>⟨_,(d _ ?_).1,rfl,(d _ ?_).2⟩⟩
  all_goals
   simp only[Int.toNat_natCast];rw[ZbA _ _ n e];exact List.getElem_mem e
set_option linter.unusedSectionVars false
def fd(l:List Zaa):Prop:=l.Pairwise fun p q=>p.fEnd≠q.fEnd
theorem fd.perm{a b:List Zaa}(h:fd a)(d:a.Perm b):fd b:=(List.Perm.pairwise_iff (R:=fun p q:Zaa=>p.fEnd≠q.fEnd) (fun e=>Ne.symm e) d).1 h
theorem fd.filter{l:List Zaa}(h:fd l)(p:Zaa->Bool):fd (l.filter p):=List.Pairwise.filter p h
section
variable {l:List Zaa} (hd:fd l)
include hd
end
def ZnC(h:Int):Int:=if h<1 then 1 else if h>1073741824 then 1073741824 else h
def Zqt(s:Zas)(h ah:Int):Nat:=(fitI ah-fitI s.fAt).toNat / (ZnC h).toNat
def decS(s:Zas)(h ah:Int):Zas:=⟨(((fitI s.fPoints).toNat / 2 ^ Zqt s h ah:Nat):Int),fitI s.fAt+((Zqt s h ah*(ZnC h).toNat:Nat):Int)⟩
theorem ZGa(h:Int):1<=ZnC h/\ZnC h<=1073741824:=by
 unfold ZnC
 repeat' split
 all_goals omega
theorem ZQR(x:Int)(h:x<=1099511627776):fitI x=((x.toNat:Nat):Int):=by
 unfold fitI;split
 .omega
 .rw[iNa];omega
theorem ZIN(h:Nat)(h0:1<=h)(o:h<=1073741824)(t:Int)(r:0<=t/\t<=1099511627776)(b6:Zas):∀(m fu p a:Nat),p<2 ^ m->m+1<=fu->a<=2199023255552->p<=1099511627776 ->
  ZdB (h:Int) b6 fu t ⟨(p:Int),(a:Int)⟩=some ⟨((p / 2 ^ ((t-(a:Int)).toNat / h):Nat):Int),(a:Int)+(((t-(a:Int)).toNat / h*h:Nat):Int)⟩:=by
 intro m;have sub:∀a:Nat,a<=2199023255552->Zay t (a:Int)=t-(a:Int):=fun a b=>by
  exact Zbi (by omega) (by omega)
 have last:∀(a:Nat),a<=2199023255552->t-(a:Int)>=(h:Int)->Zay t (Int.tmod (t-(a:Int)) (h:Int))=(a:Int)+(((t-(a:Int)).toNat / h*h:Nat):Int):=fun a b hd=>by
  obtain⟨d,jg⟩ : ∃d:Nat,t-(a:Int)=(d:Int):=⟨(t-(a:Int)).toNat,by omega⟩;have hd4:t=(d:Int)+(a:Int):=by omega
  rw[jg,Int.toNat_natCast,<-Int.ofNat_tmod];have u:d % h<=d:=Nat.mod_le _ _;have hdm:=Nat.div_add_mod d h;rw[Nat.mul_comm]at hdm;have e:Zay t ((d % h:Nat):Int)=t-((d % h:Nat):Int):=by
   exact Zbi (by omega) (by omega)
  rw[e];generalize d / h*h=q at *
  omega
 induction m with
 |zero=>
  intro fu p a f g b bp;obtain⟨fu,rfl⟩:=sC fu;have hQ:p=0:=by simpa using f
  subst hQ;unfold ZdB;simp only[Zad,sub a b];rw[iNa,Nat.zero_div];by_cases hd:t-(a:Int)>=(h:Int)
  .rw[if_pos hd,Zaj (by omega),last a b hd]
  .have h0:(t-(a:Int)).toNat / h=0:=Nat.div_eq_of_lt (by omega);rw[if_neg hd,h0];simp
 |succ m ih=>
  intro fu p a f g b bp;obtain⟨fu,rfl⟩:=sC fu;unfold ZdB;simp only[Zad,sub a b];by_cases hQ:(p:Int)>0
  .rw[if_pos hQ];by_cases hd:t-(a:Int)>=(h:Int)
   .rw[if_pos hd];have i:IntKind.wrap .i64 (Int.tdiv (p:Int) 2)=((p / 2:Nat):Int):=by
     have:Int.tdiv (p:Int) 2=((p / 2:Nat):Int):=(Int.ofNat_tdiv p 2).symm;rw[this];exact Zgs (by omega) (by omega)
    have j:Zam (a:Int) (h:Int)=((a+h:Nat):Int):=by rw[Zbb (by omega) (by omega)];omega
    rw[i,j,ih fu (p / 2) (a+h) (by rw[Nat.pow_succ]at f;omega) (by omega) (by omega) (by omega)];obtain⟨d,jg⟩ : ∃d:Nat,t-(a:Int)=((d+h:Nat):Int):=⟨(t-(a:Int)).toNat-h,by omega⟩;have hd3:t-((a+h:Nat):Int)=(d:Int):=by omega
    have n:(d+h) / h=d / h+1:=Nat.add_div_right d (by omega);rw[jg,hd3,Int.toNat_natCast,Int.toNat_natCast,n,Nat.pow_succ,Nat.mul_comm (2 ^ (d / h)) 2,<-Nat.div_div_eq_div_mul,Nat.add_mul,Nat.one_mul];congr 2;generalize d / h*h=q;omega
   .have h0:(t-(a:Int)).toNat / h=0:=Nat.div_eq_of_lt (by omega);rw[if_neg hd,if_neg hd,h0];simp
  .have hQ:p=0:=by omega
   subst hQ;rw[if_neg hQ,Nat.zero_div];by_cases hd:t-(a:Int)>=(h:Int)
   .rw[if_pos hd,Zaj (by omega),last a b hd]
   .rw[if_neg hd,Nat.div_eq_of_lt (by omega)];simp
theorem ZKc(s:Zas)(h ah:Int):Zia s h ah=some (decS s h ah):=by
 have j:=ZGa h;have n:=ZfA s.fAt;have o:=ZfA s.fPoints;have f:=ZfA ah;obtain⟨k,g⟩ : ∃k:Nat,ZnC h=k:=⟨(ZnC h).toNat,by omega⟩;obtain⟨a,i⟩ : ∃k:Nat,fitI s.fAt=k:=⟨(fitI s.fAt).toNat,by omega⟩;obtain⟨p,bY⟩ : ∃k:Nat,fitI s.fPoints=k:=⟨(fitI s.fPoints).toNat,by omega⟩;have aK:∀b:Zas,Zev ah s b (ZnC h)=some (decS s h ah):=fun b=>by
  unfold Zev decS Zqt;simp only[ZjE,Option.bind_some,g,i,bY,Int.toNat_natCast];rw[ZIN k (by omega) (by omega) (fitI ah) f b 41 1000000 p a (by omega) (by omega) (by omega) (by omega)]
 unfold Zia Zgp;simp only[Zad];by_cases d:h<1
 .rw[if_pos d,iNa];have:=aK ⟨0,0⟩;rwa [show ZnC h=1 by unfold ZnC;rw[if_pos d]]at this
 .rw[if_neg d];by_cases e:h>1073741824
  .rw[if_pos e];have:=aK ⟨0,0⟩;rwa [show ZnC h=1073741824 by unfold ZnC;rw[if_neg d,if_pos e]]at this
  .rw[if_neg e];have:=aK ⟨0,0⟩;rwa [show ZnC h=h by unfold ZnC;rw[if_neg d,if_neg e]]at this
theorem ZIt(s:Zas)(h ah:Int):ZnZ s h ah=some (decS s h ah):=by
 have C:=ZGa h;have g:=ZfA s.fAt;have D:=ZfA s.fPoints;have E:=ZfA ah;unfold ZnZ ZtJ ZvW;have r:(if(1073741824:Int)<(if(1:Int)>h then(1:Int)else h)then(1073741824:Int)else(if(1:Int)>h then(1:Int)else h))=ZnC h:=by
  unfold ZnC
  repeat' split
  all_goals omega
 have t:(if(1099511627776:Int)<(if(0:Int)>s.fPoints then(0:Int)else s.fPoints)then(1099511627776:Int)else(if(0:Int)>s.fPoints then(0:Int)else s.fPoints))=fitI s.fPoints:=by
  unfold fitI
  repeat' split
  all_goals omega
 have u:∀n,0<=n->n<=1099511627776->fitI n=n:=fun n i b=>by unfold fitI;rw[iNa,iNa]
 have v:Zay (fitI ah) (fitI s.fAt)=fitI ah-fitI s.fAt:=Zbi (by omega) (by omega);simp only[ZiX,Option.bind_some,r,t,u (fitI s.fAt) g.1 g.2,v];obtain⟨k,e⟩ : ∃k:Nat,ZnC h=k:=⟨(ZnC h).toNat,by omega⟩;obtain⟨a,j⟩ : ∃k:Nat,fitI s.fAt=k:=⟨(fitI s.fAt).toNat,by omega⟩;obtain⟨p,bY⟩ : ∃k:Nat,fitI s.fPoints=k:=⟨(fitI s.fPoints).toNat,by omega⟩;obtain⟨d,hd⟩ : ∃d:Nat,(fitI ah-fitI s.fAt).toNat=d:=⟨_,rfl⟩;have jg:fitI (fitI ah-fitI s.fAt)=(d:Int):=by rw[ZQR _ (by omega),hd]
 have hdk:d / k<=d:=Nat.div_le_self _ _;have y:IntKind.wrap .i64 (Int.tdiv (d:Int) (k:Int))=((d / k:Nat):Int):=by
  rw[<-Int.ofNat_tdiv];exact Zgs (Int.natCast_nonneg _) (by omega)
 have hnn:(0:Int)<=((d / k:Nat):Int):=Int.natCast_nonneg _;rw[jg,e,y,Zaj (by omega),Zaj (by split<;>omega),bY,j];have hl:Zqt s h ah=d / k:=by unfold Zqt;rw[hd,e,Int.toNat_natCast]
 unfold decS;rw[hl,bY,j,e,Int.toNat_natCast,Int.toNat_natCast];have hdm:d / k*k<=d:=Nat.div_mul_le_self d k;have A:ZiA ((d / k:Nat):Int) (k:Int)=((d / k*k:Nat):Int):=by
  unfold ZiA;rw[<-Int.natCast_mul];exact Zgs (by omega) (by omega)
 have B:Zam (a:Int) ((d / k*k:Nat):Int)=(a:Int)+((d / k*k:Nat):Int):=Zbb (by omega) (by omega);rw[A,B];congr 2
 -- the points
 have o:∀c:Nat,c<=41->Int.fdiv (p:Int) (2 ^ (min ((c:Nat):Int).toNat (IntKind.bits .i64)))=((p / 2 ^ c:Nat):Int):=fun c f=>by
  have:min ((c:Nat):Int).toNat (IntKind.bits .i64)=c:=by
   rw[Int.toNat_natCast];show min c 64=c;omega
  rw[this];have b:((2:Int) ^ c)=((2 ^ c:Nat):Int):=by simp
  rw[b,Int.fdiv_eq_tdiv_of_nonneg (by omega) (Int.natCast_nonneg _)];exact(Int.ofNat_tdiv p (2 ^ c)).symm
 by_cases f:(41:Int)<((d / k:Nat):Int)
 .rw[if_pos f];have:=o 41 (by omega);rw[show (((41:Nat):Int))=(41:Int)from rfl]at this;rw[this];have i:p / 2 ^ 41=0:=Nat.div_eq_of_lt (by omega);have b:p / 2 ^ (d / k)=0:=Nat.div_eq_of_lt (Nat.lt_of_lt_of_le (show p<2 ^ 41 by omega) (Nat.pow_le_pow_right (by omega) (by omega)));rw[i,b]
 .rw[if_neg f,o (d / k) (by omega)]
theorem ZRd(s:Zas)(h ah:Int):0<=(decS s h ah).fPoints/\(decS s h ah).fPoints<=1099511627776:=by
 have b:=ZfA s.fPoints;unfold decS;have:=Nat.div_le_self (fitI s.fPoints).toNat (2 ^ Zqt s h ah);constructor
 .exact Int.natCast_nonneg _
 .show (((fitI s.fPoints).toNat / 2 ^ Zqt s h ah:Nat):Int)<=_;omega
def ZMS(s:Zas)(points h ah:Int):Zas:=⟨fitI ((decS s h ah).fPoints+points * 65536),(decS s h ah).fAt⟩
theorem ZJP(s:Zas)(points h ah:Int)(h0:0<=points)(f:points<=100):ZlK s points h ah=some (ZMS s points h ah)/\Zjy s points h ah=some (ZMS s points h ah):=by
 have hd:=ZRd s h ah;have b:∀n,0<=n->n<=1099511627776->fitI n=n:=fun n f i=>by unfold fitI;rw[iNa,iNa]
 have em:ZiA points 65536=points * 65536:=by unfold ZiA;exact Zgs (by omega) (by omega)
 have ea:Zam (decS s h ah).fPoints (points * 65536)=(decS s h ah).fPoints+points * 65536:=Zbb (by omega) (by omega);constructor
 .unfold ZlK ZvX Zmk ZMS;simp only[ZIt,ZiX,Option.bind_some,Zad,b points h0 (by omega),b 65536 (by omega) (by omega),b _ hd.1 hd.2];have j:(ZlK s points h ah=ZlK s points h ah):=rfl;by_cases d:points>0
  .rw[if_pos d,Zaj (by omega)];have g:¬((65536:Int)>IntKind.wrap .i64 (Int.tdiv 1099511627776 points)):=by
    obtain⟨n,rfl⟩ : ∃n:Nat,points=n:=⟨points.toNat,by omega⟩;have e:Int.tdiv (1099511627776:Int) (n:Int)=((1099511627776 / n:Nat):Int):=(Int.ofNat_tdiv 1099511627776 n).symm;have hle:1099511627776 / n<=1099511627776:=Nat.div_le_self _ _;have mi:1099511627776 / 100<=1099511627776 / n:=Nat.div_le_div_left (by omega) (by omega);rw[e,Zgs (by omega) (by omega)];omega
   rw[if_neg g];simp only[Option.bind_some,em,b (points * 65536) (by omega) (by omega),ea]
  .rw[if_neg d];simp only[Option.bind_some,em,b (points * 65536) (by omega) (by omega),ea]
 .unfold Zjy ZMS;simp only[ZKc,ZjE,Option.bind_some,Zad,b points h0 (by omega)];rw[iNa,em,ea]
theorem ZEh(s:Zas):∃r,Zke s=some r/\ZcH s=some r:=by
 unfold Zke ZcH;simp only[Zad];by_cases h:s.fPoints<0
 .rw[iNb,if_pos h];exact⟨_,rfl,rfl⟩
 .rw[iNa,if_neg h];exact⟨_,rfl,rfl⟩
def ZJA(s:Zas):Int:=(Zke s).getD 0
theorem Zyh(s:Zas):Zke s=some (ZJA s)/\ZcH s=some (ZJA s):=by
 obtain⟨r,b,d⟩:=ZEh s;unfold ZJA;rw[b,d];exact⟨rfl,rfl⟩
def Zxn(s:Zas)(bf:Int):Bool:=decide (s.fPoints>=(if bf<1 then 1 else if bf>16777216 then 16777216 else bf) * 65536)
theorem Ztt(s:Zas)(bf:Int)(h0:0<=s.fPoints)(f:s.fPoints<=1099511627776):Zlp s bf=some (Zxn s bf)/\ZgX s bf=some (Zxn s bf):=by
 obtain⟨p,g⟩ : ∃k:Nat,s.fPoints=k:=⟨s.fPoints.toNat,by omega⟩;have i:ZcH s=some ((p / 65536:Nat):Int):=by
  unfold ZcH;simp only[Zad];have e:Int.tdiv (p:Int) 65536=((p / 65536:Nat):Int):=(Int.ofNat_tdiv p 65536).symm;rw[iNa,g,e,Zgs (by omega) (by omega)]
 have key:∀L:Int,1<=L->L<=16777216->decide (((p / 65536:Nat):Int)>=L)=decide (s.fPoints>=L * 65536):=fun L f j=>by
  rw[g];apply decide_eq_decide.2;omega
 have kf:(if(16777216:Int)<(if(1:Int)>bf then(1:Int)else bf)then(16777216:Int)else(if(1:Int)>bf then(1:Int)else bf))=(if bf<1 then 1 else if bf>16777216 then 16777216 else bf):=by
  repeat' split
  all_goals omega
 have h:1<=(if bf<1 then(1:Int)else if bf>16777216 then 16777216 else bf)/\(if bf<1 then(1:Int)else if bf>16777216 then 16777216 else bf)<=16777216:=by
  repeat' split
  all_goals omega
 have em:∀L:Int,1<=L->L<=16777216->ZiA L 65536=L * 65536:=fun L f j=>by unfold ZiA;exact Zgs (by omega) (by omega)
 constructor
 .unfold Zlp Zxn;rw[kf,em _ h.1 h.2]
 .unfold ZgX Zfj Zxn;simp only[Zad,i,Option.bind_some];by_cases b:bf<1
  .rw[if_pos b,if_pos b,iNa,key 1 (by omega) (by omega)]
  .rw[if_neg b,if_neg b];by_cases d:bf>16777216
   .rw[if_pos d,if_pos d,key 16777216 (by omega) (by omega)]
   .rw[if_neg d,if_neg d,key bf (by omega) (by omega)]
def penI(k:Int):Int:=(Zii k).getD 0
theorem ZGn(k:Int):Zii k=some (penI k)/\ZeR k=some (penI k)/\0<=penI k/\penI k<=100:=by
 obtain⟨q,b,d,e,f⟩:=ZHQ k;unfold penI;rw[b,d];exact⟨rfl,rfl,e,f⟩
def ZpX(c:Zaq)(x:Zar)(p:Zaa):Zaa:=⟨p.fEnd,p.fIn,p.fSince,ZMS p.fScore (penI x.fNum) c.fHalf x.fNow,p.fPing,p.fWork⟩
theorem ZwA(c:Zaq)(x:Zar)(p:Zaa):ZmO p (penI x.fNum) c.fHalf x.fNow=some (ZpX c x p)/\ZhC p (penI x.fNum) c.fHalf x.fNow=some (ZpX c x p):=by
 obtain⟨_,_,b,d⟩:=ZGn x.fNum;obtain⟨e,f⟩:=ZJP p.fScore (penI x.fNum) c.fHalf x.fNow b d;unfold ZmO ZhC;rw[e,f];exact⟨rfl,rfl⟩
theorem Zyf(c:Zaq)(x:Zar)(p:Zaa):0<=(ZpX c x p).fScore.fPoints/\(ZpX c x p).fScore.fPoints<=1099511627776:=ZfA _
def ofP(l:List Zaa)(n:Zae)(b:Bool):List Zaa:=l.filter fun p=>hasS n p.fEnd.fAddr==b
theorem ZMB(p:Zae)(a:Zaf)(b:p.fAddr.ok)(e:a.ok):ZlP p a=some (hasS p a):=by
 unfold hasS;cases d:ZhQ p with
 |true=>
  have fe:=(Zvh b).1 d;rw[ZPR p a fe e,Bool.true_and]
 |false=>
  unfold ZlP;simp only[ZlT p b,d,Option.bind_some,cond_false,Bool.false_and]
theorem ZDR(l:List Zaa)(n:Zae)(j:n.fAddr.ok)(hl:l.length<=1000000)(aJ:∀p∈l,p.fEnd.fAddr.ok):Zpz l n=some (ofP l n true,ofP l n false):=by
 have hL:l.length<=maxLen:=by unfold maxLen;omega
 have aK:∀fu (i:Nat) w u,i<=l.length->l.length-i<fu->w=ofP (l.take i) n true->u=ofP (l.take i) n false->Zhj fu l (l.length:Int) (i:Int) w u n=some (ofP l n true,ofP l n false):=by
  intro fu;induction fu with
  |zero=>intro i w u _ h;omega
  |succ fu ih=>
   intro i w u r t e f;unfold Zhj;simp only[Zad];by_cases h:i<l.length
   .have o:=Zcw l Zaa.d i h;rw[iNb,Zaj ⟨by omega,by omega⟩,add1 h hL];simp only[Int.toNat_natCast,ZMB n _ j (aJ _ o),Option.bind_some];have b9:∀b,ofP (l.take (i+1)) n b=ofP (l.take i) n b++[l.getD i Zaa.d].filter (fun p=>hasS n p.fEnd.fAddr==b):=fun b=>by
     unfold ofP;rw[List.take_succ_eq_append_getElem h,List.filter_append,ZbA l _ i h]
    have hlen:∀b,(ofP (l.take i) n b).length<=1000000:=fun b=>by
     have:=List.length_filter_le (fun p:Zaa=>hasS n p.fEnd.fAddr==b) (l.take i);simp only[List.length_take]at this;unfold ofP;omega
    have hlw:=hlen true;have hlu:=hlen false;cases g:hasS n (l.getD i Zaa.d).fEnd.fAddr with
    |true=>
     simp only[cond_true];rw[Zaj ⟨by rw[e];simp;omega,by rw[e];simp[maxLen];omega⟩];refine ih (i+1) _ _ (by omega) (by omega) ?_ ?_
     .rw[b9 true,List.filter_cons_of_pos (by rw[g];rfl),e];rfl
     .rw[b9 false,List.filter_cons_of_neg (by rw[g];decide),f];simp
    |false=>
     simp only[cond_false];rw[Zaj ⟨by rw[f];simp;omega,by rw[f];simp[maxLen];omega⟩];refine ih (i+1) _ _ (by omega) (by omega) ?_ ?_
     .rw[b9 true,List.filter_cons_of_neg (by rw[g];decide),e];simp
     .rw[b9 false,List.filter_cons_of_pos (by rw[g];rfl),f];rfl
   .rw[iNa,e,f];have:i=l.length:=by omega
    rw[this,List.take_length]
 exact aK _ 0 [] [] (by omega) (by omega) rfl rfl
theorem Zuy(l:List Zaa)(n:Zae)(b:Bool)(g:n.fAddr.ok)(hl:l.length<=1000000)(aJ:∀p∈l,p.fEnd.fAddr.ok):Zik l n b=some (ofP l n b):=by
 have hL:l.length<=maxLen:=by unfold maxLen;omega
 have aK:∀fu (i:Nat) w,i<=l.length->l.length-i<fu->w=ofP (l.take i) n b->ZeD l b fu (i:Int) w n=some (ofP l n b):=by
  intro fu;induction fu with
  |zero=>intro i w _ h;omega
  |succ fu ih=>
   intro i w o r e;unfold ZeD;simp only[Zad];by_cases h:i<l.length
   .have j:=Zcw l Zaa.d i h;rw[iNb,Zaj ⟨by omega,by omega⟩,add1 h hL];simp only[Int.toNat_natCast,ZGl n _ g (aJ _ j),Option.bind_some];have b9:ofP (l.take (i+1)) n b=w++[l.getD i Zaa.d].filter (fun p=>hasS n p.fEnd.fAddr==b):=by
     rw[e];unfold ofP;rw[List.take_succ_eq_append_getElem h,List.filter_append,ZbA l _ i h]
    have hwl:w.length<=1000000:=by
     rw[e];have:=List.length_filter_le (fun p:Zaa=>hasS n p.fEnd.fAddr==b) (l.take i);simp only[List.length_take]at this;unfold ofP;omega
    cases f:hasS n (l.getD i Zaa.d).fEnd.fAddr==b with
    |true=>
     rw[List.filter_cons_of_pos (by rw[f])]at b9;simp only[cond_true];rw[Zaj ⟨by simp;omega,by simp[maxLen];omega⟩];exact ih (i+1) _ (by omega) (by omega) b9.symm
    |false=>
     rw[List.filter_cons_of_neg (by rw[f];decide)]at b9;simp only[cond_false];refine ih (i+1) _ (by omega) (by omega) ?_;rw[b9];simp
   .rw[iNa,e];have:i=l.length:=by omega
    rw[this,List.take_length]
 exact aK _ 0 [] (by omega) (by omega) rfl
theorem ZEx(l:List Zaa)(n:Zae)(b:Bool):(ofP l n b).length<=l.length:=List.length_filter_le _ _
def cntP(l:List Zaa)(b:Bool):Int:=((l.countP fun p=>p.fIn==b:Nat):Int)
theorem Znc(l:List Zaa)(b:Bool)(hl:l.length<=maxLen):ZiD l b=some (cntP l b):=by
 simp only[ZiD];have:=Zra l Zaa.d (fun p=>p.fIn==b) hl (fun fu n i=>ZfP b fu n l (l.length:Int) i) (fun fu i n e=>by
   simp only[ZfP,Zad];rw[iNb,Zaj ⟨by omega,by omega⟩];simp only[Int.toNat_natCast];cases((l.getD i Zaa.d).fIn==b)<;>rfl) (fun fu n=>by
   simp only[ZfP,Zad];rw[iNa]) ((((l.length:Nat):Int)-(0:Int)).toNat+2) 0 0 (by omega) (by omega) (by omega)
 simp only[Int.natCast_zero,List.drop_zero]at this;rw[this];unfold cntP;congr 2;omega
theorem Zvn(l:List Zaa)(b:Bool)(hl:l.length<=maxLen):Zge l b=some (cntP l b):=by
 simp only[Zge];have:=Zra l Zaa.d (fun p=>p.fIn==b) hl (fun fu n i=>ZcV l b fu n i) (fun fu i n e=>by
   simp only[ZcV,Zad];rw[iNb,Zaj ⟨by omega,by omega⟩];simp only[Int.toNat_natCast];cases((l.getD i Zaa.d).fIn==b)<;>rfl) (fun fu n=>by
   simp only[ZcV,Zad];rw[iNa]) ((((l.length:Nat):Int)-(0:Int)).toNat+2) 0 0 (by omega) (by omega) (by omega)
 simp only[Int.natCast_zero,List.drop_zero]at this;rw[this];unfold cntP;congr 2;omega
theorem ZFL(l:List Zaa)(b:Bool):0<=cntP l b/\cntP l b<=(l.length:Int):=by
 unfold cntP;have:=List.countP_le_length (p:=fun p:Zaa=>p.fIn==b) (l:=l);omega
def Zlh(l:List Zaa):List Zag:=l.map (·.fEnd)
def addT(a b:Int):Int:=fitI (fitI a+fitI b)
theorem Zqm(a b:Int):Zmk a b=some (addT a b)/\Zey a b=some (addT a b):=by
 have d:=ZfA a;have f:=ZfA b;have e:Zam (fitI a) (fitI b)=fitI a+fitI b:=Zbb (by omega) (by omega);constructor
 .unfold Zmk addT;simp only[ZiX,Option.bind_some,e]
 .unfold Zey addT;simp only[ZjE,Option.bind_some,e]
theorem ZHG{n:Nat}(h:n<=1000000):n<=maxLen:=by simp only[maxLen];omega
theorem ZAn{a:Int}(h : -1000000000000000000<=a)(h':a<=1000000000000000000):IntKind.i64.wrap a=a:=by
 simp only[IntKind.wrap,IntKind.bits,IntKind.signed];simp;omega
abbrev Itm:=Zah
def cmpH(a b:Itm):Int:=orI (cmpI a.fKey b.fKey) (cmpE a.fEnd b.fEnd)
theorem ZIs(a b:Itm):ZnX a b=some (cmpH a b):=by
 simp only[ZnX,Zsg,Zog,or2,Option.bind_some,cmpH]
theorem ZxI(a b:Itm):ZnY a b=some (decide (cmpH a b<0)):=by
 simp only[ZnY,ZIs,Option.bind_some]
theorem ZMy{a b:Itm}:cmpH a b<0↔a.fKey<b.fKey\/(a.fKey=b.fKey/\cmpE a.fEnd b.fEnd<0):=by simp only[cmpH,Zxq,ZtR,ZjS]
theorem Zwr{a b:Itm}:0<cmpH a b↔cmpH b a<0:=by
 simp only[cmpH,Zxq,Zxr,ZtR,ZtS,ZjS,Zgl];constructor<;>rintro (h|⟨d,e⟩)<;>first|exact .inl h|exact .inr ⟨d.symm,e⟩
theorem Zwq{a b:Itm}:cmpH a b=0↔a=b:=by
 simp only[cmpH,ZuC,ZjS,ZgT];obtain⟨x,p⟩:=a;obtain⟨y,q⟩:=b;simp
theorem ZxV{a b c:Itm}(d:cmpH a b<0)(e:cmpH b c<0):cmpH a c<0:=by
 rw[ZMy]at *
 rcases d with d|⟨d,f⟩<;>rcases e with e|⟨e,g⟩
 .exact .inl (by omega)
 .exact .inl (by omega)
 .exact .inl (by omega)
 .exact .inr ⟨by omega,ZlS f g⟩
def leH(a b:Itm):Prop:=¬cmpH b a<0
theorem Zrb(a:Itm):leH a a:=by unfold leH;rw[Zwq.2 rfl];omega
theorem ZvK{a b:Itm}(h:cmpH a b<0):leH a b:=by
 unfold leH;intro d;have:=Zwr.2 d;omega
theorem ZvJ{a b c:Itm}(e:leH a b)(d:leH b c):leH a c:=by
 unfold leH at *
 intro h;have f:cmpH a b<=0:=by
  by_cases q:0<cmpH a b
  .exact absurd (Zwr.1 q) e
  .omega
 by_cases q:cmpH a b=0
 .have:=Zwq.1 q;subst this;exact d h
 .exact d (ZxV h (by omega))
theorem ZsE{a b:Itm}(h:¬cmpH a b<0):leH b a:=h
abbrev ixH(h:List Itm)(i:Nat):Itm:=h.getD i Zah.d
def HF(lo:Nat)(h:List Itm):Prop:=∀k,0<k->k<h.length->lo<=(k-1) / 2->leH (ixH h ((k-1) / 2)) (ixH h k)
structure HB (lo i:Nat) (h:List Itm):Prop where
 ge:lo<=i
 up:∀k,0<k->k<h.length->lo<=(k-1) / 2->(k-1) / 2≠i->leH (ixH h ((k-1) / 2)) (ixH h k)
 over:∀k,0<k->k<h.length->(k-1) / 2=i->0<i->lo<=(i-1) / 2->leH (ixH h ((i-1) / 2)) (ixH h k)
def ZzE(h:List Itm)(i b:Nat):Nat:=if 2*i+2<h.length/\cmpH (ixH h (2*i+2)) (ixH h b)<0 then 2*i+2 else b
def Znz(h:List Itm)(i:Nat):Nat:=ZzE h i (if 2*i+1<h.length/\cmpH (ixH h (2*i+1)) (ixH h i)<0 then 2*i+1 else i)
theorem ZCX(h:List Itm)(i:Nat)(e:¬2*i+1<h.length):Znz h i=i:=by
 unfold Znz ZzE;rw[if_neg (fun x:2*i+1<h.length/\_=>e x.1),if_neg (fun x=>by have:=x.1;omega)]
theorem ZwB(h:List Itm)(i:Nat)(o:i<h.length):(Znz h i=i\/(Znz h i=2*i+1\/Znz h i=2*i+2)/\Znz h i<h.length/\cmpH (ixH h (Znz h i)) (ixH h i)<0)/\Znz h i<h.length /\
  ∀k,k<h.length->0<k->(k-1) / 2=i->leH (ixH h (Znz h i)) (ixH h k):=by
 have n:∀k,0<k->(k-1) / 2=i->k=2*i+1\/k=2*i+2:=by intro k d f;omega
 unfold Znz ZzE;by_cases g:2*i+1<h.length/\cmpH (ixH h (2*i+1)) (ixH h i)<0
 .rw[if_pos g];by_cases b:2*i+2<h.length/\cmpH (ixH h (2*i+2)) (ixH h (2*i+1))<0
  .rw[if_pos b];refine⟨.inr ⟨.inr rfl,b.1,ZxV b.2 g.2⟩,b.1,fun k d f j=>?_⟩;rcases n k f j with e|e
   .subst e;exact ZvK b.2
   .subst e;exact Zrb _
  .rw[if_neg b];refine⟨.inr ⟨.inl rfl,g.1,g.2⟩,g.1,fun k d f j=>?_⟩;rcases n k f j with e|e
   .subst e;exact Zrb _
   .subst e;exact ZsE fun q=>b ⟨d,q⟩
 .rw[if_neg g];by_cases b:2*i+2<h.length/\cmpH (ixH h (2*i+2)) (ixH h i)<0
  .rw[if_pos b];refine⟨.inr ⟨.inr rfl,b.1,b.2⟩,b.1,fun k d f j=>?_⟩;rcases n k f j with e|e
   .subst e;exact ZvJ (ZvK b.2) (ZsE fun q=>g ⟨d,q⟩)
   .subst e;exact Zrb _
  .rw[if_neg b];refine⟨.inl rfl,o,fun k d f j=>?_⟩;rcases n k f j with e|e
   .subst e;exact ZsE fun q=>g ⟨d,q⟩
   .subst e;exact ZsE fun q=>b ⟨d,q⟩
def Zuh(h:List Itm)(i b:Nat):List Itm:=(h.set i (ixH h b)).set b (ixH h i)
theorem Zqi(h:List Itm)(i b:Nat):(Zuh h i b).length=h.length:=by simp[Zuh]
theorem Zsq(h:List Itm)(i b k:Nat)(f:i<h.length)(hb:b<h.length):ixH (Zuh h i b) k=if k=b then ixH h i else if k=i then ixH h b else ixH h k:=by
 simp only[ixH,Zuh,List.getD_eq_getElem?_getD,List.getElem?_set,List.length_set];by_cases d:k=b
 .subst d;simp[hb]
 .rw[if_neg (Ne.symm d),if_neg d];by_cases e:k=i
  .subst e;simp[f]
  .rw[if_neg (Ne.symm e),if_neg e]
theorem ZHC(h:List Itm)(i b:Nat)(d:i<h.length)(hb:b<h.length):(Zuh h i b).Perm h:=by
 rw[List.perm_iff_count];intro a;unfold Zuh;have e:ixH h i=h[i]:=ZbA h _ i d;have f:ixH h b=h[b]:=ZbA h _ b hb;rw[e,f];by_cases hib:i=b
 .subst hib;simp
 .rw[List.count_set (by simpa using hb),List.count_set d,List.getElem_set_ne hib];have m1:(if(h[i]==a)=true then 1 else 0)<=h.count a:=by
   split
   .rename_i q;have:h[i]=a:=by simpa using q
    exact List.one_le_count_iff.2 (this ▸ List.getElem_mem d)
   .omega
  have m2:(if(h[b]==a)=true then 1 else 0)<=h.count a:=by
   split
   .rename_i q;have:h[b]=a:=by simpa using q
    exact List.one_le_count_iff.2 (this ▸ List.getElem_mem hb)
   .omega
  by_cases g:(h[i]==a)=true<;>by_cases j:(h[b]==a)=true<;>simp only[g,j]at m1 m2 ⊢<;>omega
theorem HB.step{lo i:Nat}{h:List Itm}(H:HB lo i h)(f:i<h.length)(hne:Znz h i≠i):HB lo (Znz h i) (Zuh h i (Znz h i)):=by
 obtain⟨c,hb,p⟩:=ZwB h i f;generalize hbe:Znz h i=b at *
 rcases c with c|⟨c,_,hlt⟩
 .exact absurd c hne
 have kg:(b-1) / 2=i:=by omega
 have hib:i<b:=by omega
 refine⟨by have:=H.ge;omega,fun k g d j o=>?_,fun k g d j o r=>?_⟩
 .rw[Zqi]at d;rw[Zsq h i b _ f hb,Zsq h i b _ f hb,if_neg o];by_cases n:(k-1) / 2=i
  .rw[if_pos n];by_cases e:k=b
   .rw[if_pos e];exact ZvK hlt
   .rw[if_neg e,iNa];exact p k d g n
  .rw[if_neg n,if_neg (by omega:k≠b)];by_cases e:k=i
   .rw[if_pos e];subst e;exact H.over b (by omega) hb kg g j
   .rw[if_neg e];exact H.up k g d j n
 .rw[Zqi]at d;rw[Zsq h i b _ f hb,Zsq h i b _ f hb,iNa,if_pos kg,iNa,iNa];have:=H.up k g d (by have:=H.ge;omega) (by omega);rw[j]at this;exact this
theorem HB.done{lo i:Nat}{h:List Itm}(H:HB lo i h)(g:i<h.length)(j:Znz h i=i):HF lo h:=by
 obtain⟨c,hb,b⟩:=ZwB h i g;intro k d f n;by_cases e:(k-1) / 2=i
 .rw[e];rw[j]at b;exact b k f d e
 .exact H.up k d f n e
theorem mul2{i:Nat}(h:i<=1000000):ZiA (2:Int) (i:Int)=((2*i:Nat):Int):=by
 simp only[ZiA];rw[show (2:Int)*(i:Int)=((2*i:Nat):Int)by omega];exact ZAn (by omega) (by omega)
theorem add2{i k:Nat}(h:i<=3000000)(b:k<=2):Zam (i:Int) (k:Int)=((i+k:Nat):Int):=by rw[Zbb (by omega) (by omega)];omega
theorem ZRa(i:Nat)(h:List Itm)(f:i<h.length)(hl:h.length<=1000000)(kk:Int->List Itm->Option (List Itm))(fu:Nat)(j:3<=fu) :
  ZdT (i:Int) kk fu (i:Int) ((2*i+1:Nat):Int) h=if Znz h i=i then some h else kk ((Znz h i:Nat):Int) (Zuh h i (Znz h i)):=by
 obtain⟨fu,rfl⟩ : ∃n,fu=n+3:=⟨fu-3,by omega⟩;have gQ:Zam (ZiA (2:Int) (i:Int)) (2:Int)=((2*i+2:Nat):Int):=by rw[mul2 (by omega)];exact add2 (k:=2) (by omega) (by omega)
 have ends:∀b:Nat,b<h.length->(bif((b:Int)==(i:Int))then some h else need (0<=(b:Int)/\(b:Int)<((h.length:Nat):Int))<|need (0<=(i:Int)/\(i:Int)<((h.length:Nat):Int))<|kk (b:Int) ((h.set (i:Int).toNat (h.getD (b:Int).toNat Zah.d)).set (b:Int).toNat (h.getD (i:Int).toNat Zah.d))) =
   if b=i then some h else kk ((b:Nat):Int) (Zuh h i b):=by
  intro b hb;by_cases e:b=i
  .subst e;simp
  .rw[show ((b:Int)==(i:Int))=false by rw[beq_eq_false_iff_ne];omega,cond_false,Zaj ⟨by omega,by omega⟩,Zaj ⟨by omega,by omega⟩,if_neg e];rfl
 -- the cH one below,or none
 have cH:∀(b fu:Nat),b<h.length->ZdT (i:Int) kk (fu+2) (b:Int) ((2*i+2:Nat):Int) h=if ZzE h i b=i then some h else kk ((ZzE h i b:Nat):Int) (Zuh h i (ZzE h i b)):=by
  intro b fu hb;have iD:∀c:Nat,c<h.length->ZdT (i:Int) kk (fu+1) (c:Int) ((2*i+3:Nat):Int) h=if c=i then some h else kk ((c:Nat):Int) (Zuh h i c):=by
   intro c g;simp only[ZdT,Zad,gQ];rw[iNa];exact ends c g
  unfold ZdT;simp only[Zad,gQ];rw[iNb];by_cases e:2*i+2<h.length
  .rw[iNb,Zaj ⟨by omega,by omega⟩,Zaj ⟨by omega,by omega⟩,ZxI];simp only[Option.bind_some,Int.toNat_natCast,Zad];rw[show Zam ((2*i+2:Nat):Int) (1:Int)=((2*i+3:Nat):Int)from add2 (i:=2*i+2) (k:=1) (by omega) (by omega)];by_cases q:cmpH (ixH h (2*i+2)) (ixH h b)<0
   .rw[if_pos q,show ZzE h i b=2*i+2 from if_pos ⟨e,q⟩];exact iD _ e
   .rw[if_neg q,show ZzE h i b=b from if_neg (fun x=>q x.2)];exact iD _ hb
  .rw[iNa,show ZzE h i b=b from if_neg (fun x=>e x.1)];exact ends b hb
 unfold ZdT;simp only[Zad,gQ];rw[iNb];by_cases e:2*i+1<h.length
 .rw[iNb,Zaj ⟨by omega,by omega⟩,Zaj ⟨by omega,by omega⟩,ZxI];simp only[Option.bind_some,Int.toNat_natCast,Zad];rw[show Zam ((2*i+1:Nat):Int) (1:Int)=((2*i+2:Nat):Int)from add2 (i:=2*i+1) (k:=1) (by omega) (by omega)];by_cases q:cmpH (ixH h (2*i+1)) (ixH h i)<0
  .rw[if_pos q,cH _ fu e];unfold Znz;rw[if_pos (show 2*i+1<h.length/\cmpH (ixH h (2*i+1)) (ixH h i)<0 from⟨e,q⟩)]
  .rw[if_neg q,cH _ fu f];unfold Znz;rw[if_neg (show ¬(2*i+1<h.length/\cmpH (ixH h (2*i+1)) (ixH h i)<0)from fun x=>q x.2)]
 .rw[iNa,ends i f,ZCX h i e]
theorem ZMg:∀fu (lo i:Nat) (h:List Itm),i<h.length->h.length<=1000000->HB lo i h->h.length-i<fu->∃h',ZhK fu (i:Int) h=some h'/\h'.Perm h/\HF lo h':=by
 intro fu;induction fu with
 |zero=>intro _ _ _ _ _ _ h;omega
 |succ fu ih=>
  intro lo i h b hl H r;simp only[ZhK];have d:Zam (ZiA (2:Int) (i:Int)) (1:Int)=((2*i+1:Nat):Int):=by rw[mul2 (by omega)];exact add2 (k:=1) (by omega) (by omega)
  obtain⟨c,hb,_⟩:=ZwB h i b;rw[d];by_cases f:2*i+1<h.length
  .rw[ZRa i h b hl _ _ (by omega)];by_cases e:Znz h i=i
   .rw[if_pos e];exact⟨h,rfl,List.Perm.refl _,H.done b e⟩
   .rw[if_neg e];obtain⟨h',g,j,o⟩:=ih lo (Znz h i) (Zuh h i (Znz h i)) (by rw[Zqi];exact hb) (by rw[Zqi];exact hl) (H.step b e) (by rw[Zqi];omega);exact⟨h',g,j.trans (ZHC h i _ b hb),o⟩
  .-- no kids: the fuel is small
   have e:=ZCX h i f;refine⟨h,?_,List.Perm.refl _,H.done b e⟩;have gQ:Zam (ZiA (2:Int) (i:Int)) (2:Int)=((2*i+2:Nat):Int):=by rw[mul2 (by omega)];exact add2 (k:=2) (by omega) (by omega)
   obtain⟨n,p⟩ : ∃n,((((h.length:Nat):Int)-((2*i+1:Nat):Int)).toNat+2)=n+1:=⟨_,rfl⟩;rw[p];simp only[ZdT,Zad,gQ];rw[iNb,iNa];simp
theorem ZCe(lo i:Nat)(h:List Itm)(b:i<h.length)(hl:h.length<=900000)(H:HB lo i h):∃h',ZlM h (i:Int)=some h'/\h'.Perm h/\HF lo h':=
 ZMg 1000000 lo i h b (by omega) H (by omega)
theorem ZPc:ZlM [] 0=some []:=by
 have:∀fu,ZhK (fu+1) 0 []=some []:=fun fu=>by
  rw[ZhK];rw[show ((((([]:List Itm).length:Nat):Int)-(Zam (ZiA (2:Int) (0:Int)) (1:Int))).toNat+2)=1+1 from rfl];rfl
 exact this 999999
theorem ZCK(l:List Itm)(h:l.length<=1000000):ZaP l=some l:=by
 unfold ZaP;rw[Zaj ⟨by omega,ZHG h⟩]
theorem ZKG:∀fu (i:Nat) (h:List Itm),i<=h.length / 2->h.length<=900000->HF i h->i<fu->∃h',ZkB fu ((i:Int)-1) h=some h'/\h'.Perm h/\HF 0 h':=by
 intro fu;induction fu with
 |zero=>intro _ _ _ _ _ h;omega
 |succ fu ih=>
  intro i h n hl H o;simp only[ZkB,Zad];by_cases e:i=0
  .subst e;rw[iNa];exact⟨h,rfl,List.Perm.refl _,H⟩
  .rw[iNb];obtain⟨j,rfl⟩ : ∃j,i=j+1:=⟨i-1,by omega⟩;rw[show ((j+1:Nat):Int)-1=(j:Int)by omega];have HBj:HB j j h:=⟨Nat.le_refl _,fun k b d f g=>H k b d (by omega),fun k b d f g p=>by omega⟩;obtain⟨h',d1,d2,d3⟩:=ZCe j j h (by omega) hl HBj;rw[d1];simp only[Option.bind_some];rw[show Zay (j:Int) (1:Int)=(j:Int)-1 from Zbi (by omega) (by omega)];obtain⟨h'',m1,m2,m3⟩:=ih j h' (by rw[d2.length_eq];omega) (by rw[d2.length_eq];exact hl) d3 (by omega);exact⟨h'',m1,m2.trans d2,m3⟩
theorem tdiv2(n:Nat)(h:n<=1000000):IntKind.wrap .i64 (Int.tdiv (n:Int) (2:Int))=((n / 2:Nat):Int):=by
 rw[show Int.tdiv (n:Int) (2:Int)=((n / 2:Nat):Int)by rw[Int.tdiv_eq_ediv_of_nonneg (by omega)];omega];exact ZAn (by omega) (by omega)
theorem ZCd(l:List Itm)(hl:l.length<=900000):∃h,ZkT l=some h/\h.Perm l/\HF 0 h:=by
 simp only[ZkT,ZCK l (by omega),Option.bind_some];rw[tdiv2 _ (by omega),show Zay ((l.length / 2:Nat):Int) (1:Int)=((l.length / 2:Nat):Int)-1 from Zbi (by omega) (by omega)];exact ZKG _ (l.length / 2) l (Nat.le_refl _) hl (fun k b d e=>by omega) (by omega)
theorem ZOP{h:List Itm}(H:HF 0 h):∀n k,k<=n->k<h.length->leH (ixH h 0) (ixH h k):=by
 intro n;induction n with
 |zero=>intro k d b;rw[show k=0 by omega];exact Zrb _
 |succ n ih=>
  intro k d b;by_cases e:k=0
  .rw[e];exact Zrb _
  .exact ZvJ (ih ((k-1) / 2) (by omega) (by omega)) (H k (by omega) b (Nat.zero_le _))
theorem Zud:Zna []=some (⟨0,⟨⟨false,0,0⟩,0⟩⟩,[],false):=rfl
theorem ZGJ(h:List Itm)(hl:h.length<=900000)(H:HF 0 h)(hne:h≠[]):∃x r,Zna h=some (x,r,true)/\h.Perm (x :: r)/\HF 0 r/\∀y∈h,leH x y:=by
 have jh:0<h.length:=List.length_pos_iff.2 hne;have es:Zay ((h.length:Nat):Int) (1:Int)=((h.length-1:Nat):Int):=by rw[Zbi (by omega) (by omega)];omega
 -- the rest ahead of sinking
 have hx:∀(l:List Itm),(hlp:0<l.length)->l.Perm (ixH l 0 :: (l.set 0 (ixH l (l.length-1))).take (l.length-1)):=by
  intro l hlp;cases l with
  |nil=>simp at hlp
  |cons a t=>
   simp only[ixH,List.getD_cons_zero,List.length_cons,Nat.add_sub_cancel,List.set_cons_zero];rcases t.eq_nil_or_concat with e|⟨t',z,e⟩
   .subst e;simp
   .subst e;simp only[List.concat_eq_append,List.length_append,List.length_singleton];rw[show ((a :: (t'++[z])).getD (t'.length+1) Zah.d)=z by simp[List.getD_eq_getElem?_getD]];rw[show List.take (t'.length+1) (z :: (t'++[z]))=z :: t' by simp];refine List.Perm.cons a ?_;exact List.perm_append_comm
 have hin:∀y∈h,leH (ixH h 0) y:=by
  intro y n;obtain⟨k,f,b⟩:=List.getElem_of_mem n;have:=ZOP H k k (Nat.le_refl _) f;rw[show ixH h k=y by rw[<-b];exact ZbA h _ k f]at this;exact this
 let r0:=(h.set 0 (ixH h (h.length-1))).take (h.length-1)
 have jv:r0.length=h.length-1:=by simp[r0]
 have hd:∃r,ZlM r0 (0:Int)=some r/\r.Perm r0/\HF 0 r:=by
  by_cases e:h.length=1
  .have:r0=[]:=List.eq_nil_of_length_eq_zero (by omega);rw[this];exact⟨[],ZPc,List.Perm.refl _,fun k _ b=>by simp at b⟩
  .refine ZCe 0 0 r0 (by omega) (by omega) ⟨Nat.le_refl _,fun k f b g o=>?_,fun k f b g o=>by omega⟩;have i:∀j,0<j->j<r0.length->ixH r0 j=ixH h j:=by
    intro j j1 j2;rw[jv]at j2;simp only[ixH,r0,List.getD_eq_getElem?_getD,List.getElem?_take,if_pos j2,List.getElem?_set,if_neg (show ¬0=j by omega)]
   rw[i k f b,i _ (by omega) (by omega)];exact H k f (by rw[jv]at b;omega) g
 obtain⟨r,d1,d2,d3⟩:=hd;refine⟨ixH h 0,r,?_,(hx h jh).trans (List.Perm.cons _ d2.symm),d3,hin⟩;simp only[Zna];rw[show (((h.length:Nat):Int)==(0:Int))=false by rw[beq_eq_false_iff_ne];omega,cond_false,ZCK h (by omega)];simp only[Option.bind_some,es,Int.toNat_natCast];rw[Zaj ⟨by omega,by omega⟩,Zaj ⟨by omega,by omega⟩,Zaj ⟨by omega,by omega,by omega⟩,Zaj (by simp)];rw[show (h.set ((0:Int).toNat) (h.getD (h.length-1) Zah.d)).take (h.length-1)=r0 from rfl,d1];simp only[Option.bind_some];rw[Zaj ⟨by omega,by omega⟩];rfl
def outP(p:Zaa):Bool:=!p.fIn
def outE(e:Zab):Bool:=e.fState==2
def gsP(l:List Zaa):List Zae:=(l.filter outP).map fun p=>grp p.fEnd.fAddr
def gsE(l:List Zab):List Zae:=(l.filter outE).map fun e=>grp e.fEnd.fAddr
theorem ZJL(n:Nat)(h:n<999999):n * 32<=140737488355328/\n<=maxLen:=⟨by omega,by unfold maxLen;omega⟩
theorem ZLA(l:List Zab):(gsE l).length<=l.length:=by simp only[gsE,List.length_map];exact List.length_filter_le _ _
theorem ZLz(l:List Zaa):(gsP l).length<=l.length:=by simp only[gsP,List.length_map];exact List.length_filter_le _ _
theorem ZGN(l:List Zab)(i:Nat)(h:i<l.length):gsE (l.drop i)=(if outE (l.getD i Zab.d)then[grp (l.getD i Zab.d).fEnd.fAddr]else[])++gsE (l.drop (i+1)):=by
 rw[Zdc l Zab.d i h];unfold gsE;generalize l.getD i Zab.d=e;cases b:outE e<;>simp[b]
theorem ZGM(l:List Zaa)(i:Nat)(h:i<l.length):gsP (l.drop i)=(if outP (l.getD i Zaa.d)then[grp (l.getD i Zaa.d).fEnd.fAddr]else[])++gsP (l.drop (i+1)):=by
 rw[Zdc l Zaa.d i h];unfold gsP;generalize l.getD i Zaa.d=e;cases b:outP e<;>simp[b]
theorem ZNG(es:List Zab)(gB:es.length<=1000)(aJ:∀e∈es,e.ok)(v10:List Zaa)(kh v12:Int)(k:List Zaa->Int->Int->List Zae->Option (List Zae)) :
  ∀fu (i:Nat) (w:List Zae),i<=es.length->es.length-i<fu->w.length<=1000+i ->
   Zgu es v10 kh v12 k fu es (es.length:Int) (i:Int) w=(Zhp (w++gsE (es.drop i))).bind ZbN:=by
 have b:es.length<=maxLen:=by unfold maxLen;omega
 intro fu;induction fu with
 |zero=>intro _ _ _ h;omega
 |succ fu ih=>
  intro i w g j n;simp only[Zgu,Zad];by_cases h:i<es.length
  .rw[iNb,Zaj ⟨by omega,by omega⟩,ZGN es i h];simp only[Int.toNat_natCast];have dx:=aJ _ (Zcw es Zab.d i h);cases f:outE (es.getD i Zab.d)
   .have cK:((es.getD i Zab.d).fState==(2:Int))=false:=f;rw[cK,cond_false,add1 h b,ih (i+1) w (by omega) (by omega) (by omega)];simp
   .have cK:((es.getD i Zab.d).fState==(2:Int))=true:=f;rw[cK,cond_true,Zpy _ dx.1.1];simp only[Option.bind_some];rw[Zaj (ZJL _ (by simp;omega)),add1 h b,ih (i+1) _ (by omega) (by omega) (by simp;omega)];simp
  .have e:i=es.length:=by omega
   rw[iNa,e,List.drop_length];simp[gsE]
theorem ZJE(ps:List Zaa)(es:List Zab)(cj:ps.length<=1000)(gB:es.length<=1000)(dN:∀p∈ps,p.ok)(aJ:∀e∈es,e.ok) :
  ∀fu (i:Nat) (w:List Zae),i<=ps.length->ps.length-i<fu->w.length<=i ->
   Zef es fu ps (ps.length:Int) (i:Int) w=(Zhp (w++gsP (ps.drop i)++gsE es)).bind ZbN:=by
 have b:ps.length<=maxLen:=by unfold maxLen;omega
 intro fu;induction fu with
 |zero=>intro _ _ _ h;omega
 |succ fu ih=>
  intro i w g j n;simp only[Zef,Zad];by_cases h:i<ps.length
  .rw[iNb,Zaj ⟨by omega,by omega⟩,ZGM ps i h];simp only[Int.toNat_natCast];have dx:=dN _ (Zcw ps Zaa.d i h);cases f:outP (ps.getD i Zaa.d)
   .have cK:(!(ps.getD i Zaa.d).fIn)=false:=f;rw[cK,cond_false,add1 h b,ih (i+1) w (by omega) (by omega) (by omega)];simp
   .have cK:(!(ps.getD i Zaa.d).fIn)=true:=f;rw[cK,cond_true,Zpy _ dx.1.1];simp only[Option.bind_some];rw[Zaj (ZJL _ (by simp;omega)),add1 h b,ih (i+1) _ (by omega) (by omega) (by simp;omega)];simp
  .have e:i=ps.length:=by omega
   rw[iNa,e,List.drop_length];have:=ZNG es gB aJ ps (ps.length:Int) (ps.length:Int) (Zef es fu) ((((es.length:Nat):Int)-(0:Int)).toNat+2) 0 w (by omega) (by omega) (by omega);simp only[Int.natCast_zero,List.drop_zero]at this;rw[this];simp[gsP]
theorem ZAF(ps:List Zaa)(es:List Zab)(cj:ps.length<=1000)(gB:es.length<=1000)(dN:∀p∈ps,p.ok)(aJ:∀e∈es,e.ok) :
  ∃L,Zku ps es=some L/\Srt L/\∀x,x∈L↔x∈gsP ps++gsE es:=by
 have h:=ZJE ps es cj gB dN aJ ((((ps.length:Nat):Int)-(0:Int)).toNat+2) 0 [] (by omega) (by omega) (by simp);simp only[Int.natCast_zero,List.drop_zero,List.nil_append]at h;unfold Zku;rw[h];refine ZNJ _ ?_;have:=ZLA es;have:=ZLz ps;simp only[List.length_append];omega
theorem ZCI(l:List Zae)(e:Zae)(hl:l.length<=maxLen):Zdk l e=some (l.contains e):=by
 simp only[Zdk,Zfp];have:=Zmx l Zae.d (fun x=>decide (e=x)) hl (fun fu i=>Zcc l fu (l.length:Int) i e) (fun i=>i) (fun fu i n=>by
   simp only[Zcc,Zad];rw[iNb,Zaj ⟨by omega,by omega⟩];simp) (fun fu=>by
   simp only[Zcc,Zad];rw[iNa]) ((((l.length:Nat):Int)-(0:Int)).toNat+2) 0 (by omega) (by omega)
 simp only[Int.natCast_zero,List.drop_zero]at this;rw[this];simp only[Option.bind_some,Option.some.injEq];rw[Bool.eq_iff_iff,decide_eq_true_eq,List.contains_iff_mem];have f:=ZmH (fun x=>decide (e=x)) l 0;constructor
 .intro h;obtain⟨k,b,_,⟨x,g,j⟩,_⟩:=ZmG _ l 0 h;rw[of_decide_eq_true j];exact List.mem_of_getElem? g
 .intro h;apply Int.not_lt.1;intro b;have:=f.1 b e h;simp at this
theorem ZBn{α:Type}[DecidableEq α]:∀(L l:List α),L.Nodup->(∀x∈L,x∈l)->L.length<=l.length
 | [],_,_,_=>by simp
 |a :: r,l,f,b=>by
  have eD:=List.nodup_cons.1 f
  have d:=b a (by simp)
  have:=ZBn r (l.erase a) eD.2 fun x hx=>(List.mem_erase_of_ne (show x≠a from fun e=>eD.1 (e ▸ hx))).2 (b x (by simp[hx]))
  have:=List.length_erase_of_mem d
  have:=List.length_pos_of_mem d
  simp only[List.length_cons]
  omega
theorem ZQg{L:List Zae}(b:Srt L){l:List Zae}(h:∀x,x∈L↔x∈l):L.length<=l.length:=
 ZBn L l b.nodup fun x hx=>(h x).1 hx
theorem Zvb(ps:List Zaa)(es:List Zab)(a:Zaf)(cj:ps.length<=1000)(gB:es.length<=1000)(dN:∀p∈ps,p.ok)(aJ:∀e∈es,e.ok)(b:a.ok) :
  ZmM ps es a=some (ZcN a && !decide (grp a∈gsP ps++gsE es)):=by
 obtain⟨L,f,g,d⟩:=ZAF ps es cj gB dN aJ;have hl:L.length<=2000:=by
  have:=ZQg g d;have:=ZLA es;have:=ZLz ps;simp only[List.length_append]at *
  omega
 simp only[ZmM,Zlg a b,f,Zpy a b,Option.bind_some,ZCI L _ (by unfold maxLen;omega)];cases ZcN a
 .rfl
 .simp only[cond_true,Bool.true_and,Option.some.injEq];congr 1;rw[Bool.eq_iff_iff,decide_eq_true_eq,List.contains_iff_mem,d]
def bitA(a:Zaf)(j:Nat):Int:=if a.fV6 then a.fHi / 2 ^ (63-j) % 2 else a.fLo / 2 ^ (31-j) % 2
theorem ZQd(n k:Nat)(h:k<64)(b:n<2 ^ 64):IntKind.i64.wrap (IntKind.u64.wrap (((BitVec.ofInt (IntKind.bits .u64) (Int.fdiv (n:Int) (2 ^ (min (IntKind.u64.wrap (k:Int)).toNat (IntKind.bits .u64))))) &&& (BitVec.ofInt (IntKind.bits .u64) (1:Int))).toNat:Int))=(n:Int) / 2 ^ k % 2:=by
 have d:(IntKind.u64.wrap (k:Int)).toNat=k:=by rw[ZhT (by omega) (by omega)];rfl
 rw[d,show min k (IntKind.bits .u64)=k from Nat.min_eq_left (by simp[IntKind.bits];omega)];have e:Int.fdiv (n:Int) (2 ^ k)=((n / 2 ^ k:Nat):Int):=by
  rw[Int.fdiv_eq_ediv_of_nonneg _ (by have:(0:Int)<2 ^ k:=Int.pow_pos (by omega);omega)];simp
 have f:n / 2 ^ k<2 ^ 64:=Nat.lt_of_le_of_lt (Nat.div_le_self _ _) b;rw[e,show (1:Int)=((1:Nat):Int)from rfl,ZzH _ 1 f (by omega),Nat.and_one_is_mod];have i:n / 2 ^ k % 2<2:=Nat.mod_lt _ (by omega);have g:IntKind.i64.wrap ((n / 2 ^ k % 2:Nat):Int)=((n / 2 ^ k % 2:Nat):Int):=by
  simp only[IntKind.wrap,IntKind.bits,IntKind.signed];simp;omega
 rw[g];simp
theorem ZQc(a:Zaf)(h:a.ok)(j:Nat)(b:j<if a.fV6 then 32 else 16):Zbz a (j:Int)=some (bitA a j):=by
 obtain⟨v,o,lo⟩:=a;obtain⟨_,d,f,_⟩:=h;have d:=Zkn d;have f:=Zkn f;simp only at d f;obtain⟨n,g⟩:=Zks d.1;obtain⟨m,i⟩:=Zks f.1;subst g i;cases v with
 |false=>
  have b:j<16:=by simpa using b
  have e:Zay (31:Int) (j:Int)=((31-j:Nat):Int):=by rw[Zbi (by omega) (by omega)];omega
  simp only[Zbz,ZbV,ZcQ,Zad,Option.bind_some,cond_false,Bool.not_false,cond_true,e];rw[iNa,iNa,Zaj (by rw[ZhT (by omega) (by omega)];omega),ZQd m (31-j) (by omega) (by omega)];simp[bitA]
 |true=>
  have b:j<32:=by simpa using b
  have et:Int.tmod (j:Int) 64=(j:Int):=by rw[Int.tmod_eq_emod_of_nonneg (by omega)];omega
  have e:Zay (63:Int) (j:Int)=((63-j:Nat):Int):=by rw[Zbi (by omega) (by omega)];omega
  simp only[Zbz,ZbV,ZcQ,Zad,Option.bind_some,cond_false,Bool.not_true,cond_true,et,e];rw[iNa,iNa,iNb,Zaj (by rw[ZhT (by omega) (by omega)];omega),ZQd n (63-j) (by omega) (by omega)];simp[bitA]
theorem ZCb(n m t b:Nat)(hb:b<=t)(d:n<2 ^ t)(f:m<2 ^ t):(∀j,j<b->n / 2 ^ (t-1-j) % 2=m / 2 ^ (t-1-j) % 2)↔n / 2 ^ (t-b)=m / 2 ^ (t-b):=by
 constructor
 .intro h;apply Nat.eq_of_testBit_eq;intro i;rw[Nat.testBit_div_two_pow,Nat.testBit_div_two_pow];by_cases g:i<b
  .have:=h (b-1-i) (by omega);rw[show t-1-(b-1-i)=i+(t-b)by omega]at this;rw[Nat.testBit_eq_decide_div_mod_eq,Nat.testBit_eq_decide_div_mod_eq,this]
  .rw[Nat.testBit_lt_two_pow (Nat.lt_of_lt_of_le d (Nat.pow_le_pow_right (by omega) (by omega))),Nat.testBit_lt_two_pow (Nat.lt_of_lt_of_le f (Nat.pow_le_pow_right (by omega) (by omega)))]
 .intro h j o;have e:2 ^ (t-1-j)=2 ^ (t-b) * 2 ^ (b-1-j):=by rw[<-Nat.pow_add];congr 1;omega
  rw[e,<-Nat.div_div_eq_div_mul,<-Nat.div_div_eq_div_mul,h]
theorem ZJQ(a b:Zaf)(u:a.ok)(hb:b.ok)(v:a.fV6=b.fV6):∀fu (i:Nat),i<=32->32-i<fu ->
  ∃r,Zco fu (i:Int) a b=some r/\(r=true↔∀j,i<=j->j<(if a.fV6 then 32 else 16)->bitA a j=bitA b j):=by
 intro fu;induction fu with
 |zero=>intro _ _ h;omega
 |succ fu ih=>
  intro i C D;simp only[Zco,Zad];by_cases h:i<32
  .rw[iNb];have jz:Zam (i:Int) 1=((i+1:Nat):Int):=add1 (n:=32) h (by unfold maxLen;omega);rw[jz];obtain⟨r,t,p⟩:=ih (i+1) (by omega) (by omega);by_cases d:i<(if a.fV6 then 32 else 16)
   .have y:=ZQc a u i d;have A:=ZQc b hb i (by rw[<-v];exact d);have step:∃r,((Zbz a (i:Int)).bind fun x3=>(Zbz b (i:Int)).bind fun x4=>bif(x3 != x4)then some false else Zco fu ((i+1:Nat):Int) a b)=some r/\(r=true↔∀j,i<=j->j<(if a.fV6 then 32 else 16)->bitA a j=bitA b j):=by
     rw[y,A];simp only[Option.bind_some];by_cases g:bitA a i=bitA b i
     .rw[show (bitA a i != bitA b i)=false by simp[g],cond_false];refine⟨r,t,p.trans ⟨fun q j o e=>?_,fun q j o e=>q j (by omega) e⟩⟩;by_cases B:j=i
      .subst B;exact g
      .exact q j (by omega) e
     .rw[show (bitA a i != bitA b i)=true by simp[g],cond_true];exact⟨false,rfl,by simp;exact⟨i,Nat.le_refl _,d,g⟩⟩
    cases f:a.fV6
    .rw[f]at d;have d:i<16:=by simpa using d
     simp only[cond_false];rw[iNb];rw[f]at step;exact step
    .simp only[cond_true];rw[f]at step;exact step
   .cases f:a.fV6
    .rw[f]at d p;have d:16<=i:=by simpa using d
     simp only[cond_false];rw[iNa];refine⟨r,t,p.trans ⟨fun q j o e=>?_,fun q j o e=>q j (by omega) e⟩⟩;have:j<16:=by simpa using e
     omega
    .rw[f]at d;exact absurd h (by simpa using d)
  .rw[iNa];refine⟨true,rfl,by simp;intro j o e;split at e<;>omega⟩
theorem ZGe(a b:Zaf)(i:a.ok)(hb:b.ok)(d:ZcN b=true):ZgN a b=some (decide (grp a=grp b)):=by
 have t:=ZJQ a b i hb;simp only[ZgN,Zkq a i,Zkq b hb,d,Option.bind_some,Bool.not_true,cond_false];cases hra:ZcN a with
 |false=>
  simp only[Bool.not_false,cond_true,Option.some.injEq];rw[eq_comm,decide_eq_false_iff_not];unfold grp;rw[hra,d];intro e;have:=congrArg Zae.fBits e;simp only[Bool.false_eq_true,if_false,if_true]at this;split at this<;>simp at this
 |true=>
  simp only[Bool.not_true,cond_false];by_cases f:a.fV6=b.fV6
  .rw[show (!(a.fV6==b.fV6))=false by simp[f],cond_false];obtain⟨r,g,o⟩:=t f (((32:Int)-(0:Int)).toNat+2) 0 (by omega) (by omega);have g:Zco (((32:Int)-(0:Int)).toNat+2) 0 a b=some r:=g;rw[g,Option.some.injEq,Bool.eq_iff_iff,o,decide_eq_true_eq];obtain⟨v,A,lo⟩:=a;obtain⟨v',c4,k5⟩:=b;simp only at f;subst f;have jz:=Zkn i.2.1;have ha2:=Zkn i.2.2.1;have bV:=Zkn hb.2.1;have bG:=Zkn hb.2.2.1;simp only at jz ha2 bV bG;obtain⟨n,u⟩:=Zks jz.1;obtain⟨m,y⟩:=Zks ha2.1;obtain⟨n',eD⟩:=Zks bV.1;obtain⟨m',fK⟩:=Zks bG.1;subst u y eD fK;cases v with
   |false=>
    have B:(n:Int)=0/\(m:Int)<4294967296:=by simpa[ZcN]using hra
    have C:(n':Int)=0/\(m':Int)<4294967296:=by simpa[ZcN]using d
    have hb:=ZCb m m' 32 16 (by omega) (by omega) (by omega);simp only[grp,hra,d,if_true,Bool.false_eq_true,if_false,Zae.mk.injEq,Zaf.mk.injEq,true_and,and_true];have e:(∀j,0<=j->j<16->bitA ⟨false,n,m⟩ j=bitA ⟨false,n',m'⟩ j)↔∀j,j<16->m / 2 ^ (32-1-j) % 2=m' / 2 ^ (32-1-j) % 2:=by
     constructor
     .intro q j h;have:=q j (by omega) h;simp only[bitA,Bool.false_eq_true,if_false]at this;rw[show 32-1-j=31-j by omega]
      exact_mod_cast this
     .intro q j _ h;have:=q j h;rw[show 32-1-j=31-j by omega]at this;simp only[bitA,Bool.false_eq_true,if_false]
      exact_mod_cast this
    rw[e,hb];rw[show (2:Nat) ^ (32-16)=65536 from rfl];constructor<;>intro q<;>omega
   |true=>
    have hb:=ZCb n n' 64 32 (by omega) (by omega) (by omega);simp only[grp,hra,d,if_true,Bool.false_eq_true,if_false,Zae.mk.injEq,Zaf.mk.injEq,true_and,and_true];have e:(∀j,0<=j->j<32->bitA ⟨true,n,m⟩ j=bitA ⟨true,n',m'⟩ j)↔∀j,j<32->n / 2 ^ (64-1-j) % 2=n' / 2 ^ (64-1-j) % 2:=by
     constructor
     .intro q j h;have:=q j (by omega) h;simp only[bitA,if_true]at this;rw[show 64-1-j=63-j by omega]
      exact_mod_cast this
     .intro q j _ h;have:=q j h;rw[show 64-1-j=63-j by omega]at this;simp only[bitA,if_true]
      exact_mod_cast this
    rw[e,hb];rw[show (2:Nat) ^ (64-32)=4294967296 from rfl];constructor<;>intro q<;>omega
  .rw[show (!(a.fV6==b.fV6))=true by simp[f],cond_true,Option.some.injEq,eq_comm,decide_eq_false_iff_not];unfold grp;rw[hra,d];intro e;have p:=congrArg (fun x:Zae=>x.fAddr.fV6) e;simp only[if_true]at p;apply f;cases g:a.fV6<;>cases o:b.fV6<;>simp[g,o]at p ⊢
theorem ZNO(ps:List Zaa)(es:List Zab)(gB:es.length<=1000)(aJ:∀e∈es,e.ok)(a:Zaf)(j:a.ok)(n:ZcN a=true)(v7:Int)(k:Int->Zaf->Option Bool):∀fu (i:Nat),i<=es.length->es.length-i<fu ->
  ZdP ps es v7 a k fu (i:Int)=some (!decide (grp a∈gsE (es.drop i))):=by
 have o:es.length<=maxLen:=by unfold maxLen;omega
 intro fu;induction fu with
 |zero=>intro _ _ h;omega
 |succ fu ih=>
  intro i p r;simp only[ZdP,Zad];by_cases h:i<es.length
  .rw[iNb,Zaj ⟨by omega,by omega⟩,ZGN es i h];simp only[Int.toNat_natCast];have dx:=aJ _ (Zcw es Zab.d i h);rw[add1 h o,ih (i+1) (by omega) (by omega)];cases f:outE (es.getD i Zab.d)
   .have cK:((es.getD i Zab.d).fState==(2:Int))=false:=f;rw[cK,cond_false];simp
   .have cK:((es.getD i Zab.d).fState==(2:Int))=true:=f;rw[cK,cond_true,ZGe _ _ dx.1.1 j n];simp only[Option.bind_some,Zad,if_true,List.mem_append,List.mem_singleton];generalize grp (es.getD i Zab.d).fEnd.fAddr=g;by_cases b:g=grp a
    .rw[if_pos b];simp[b]
    .rw[if_neg b];simp[Ne.symm b]
  .have e:i=es.length:=by omega
   rw[iNa,e,List.drop_length];simp[gsE]
theorem ZJV(ps:List Zaa)(es:List Zab)(cj:ps.length<=1000)(gB:es.length<=1000)(dN:∀p∈ps,p.ok)(aJ:∀e∈es,e.ok)(a:Zaf)(f:a.ok)(j:ZcN a=true):∀fu (i:Nat),i<=ps.length->ps.length-i<fu ->
  ZcD ps es fu (i:Int) a=some (!decide (grp a∈gsP (ps.drop i)++gsE es)):=by
 have o:ps.length<=maxLen:=by unfold maxLen;omega
 intro fu;induction fu with
 |zero=>intro _ _ h;omega
 |succ fu ih=>
  intro i r t;simp only[ZcD,Zad];by_cases h:i<ps.length
  .rw[iNb,Zaj ⟨by omega,by omega⟩,ZGM ps i h];simp only[Int.toNat_natCast];have dx:=dN _ (Zcw ps Zaa.d i h);rw[add1 h o,ih (i+1) (by omega) (by omega)];cases n:outP (ps.getD i Zaa.d)
   .have cK:(!(ps.getD i Zaa.d).fIn)=false:=n;rw[cK,cond_false];simp
   .have cK:(!(ps.getD i Zaa.d).fIn)=true:=n;rw[cK,cond_true,ZGe _ _ dx.1.1 f j];simp only[Option.bind_some,Zad,if_true,List.mem_append,List.mem_singleton];generalize grp (ps.getD i Zaa.d).fEnd.fAddr=g;by_cases b:g=grp a
    .rw[if_pos b];simp[b]
    .rw[if_neg b];simp[Ne.symm b]
  .have e:i=ps.length:=by omega
   rw[iNa,e,List.drop_length];have:=ZNO ps es gB aJ a f j (ps.length:Int) (ZcD ps es fu) ((((es.length:Nat):Int)-(0:Int)).toNat+2) 0 (by omega) (by omega);simp only[Int.natCast_zero,List.drop_zero]at this;rw[this];simp[gsP]
theorem ZNY(ps:List Zaa)(es:List Zab)(a:Zaf)(cj:ps.length<=1000)(gB:es.length<=1000)(dN:∀p∈ps,p.ok)(aJ:∀e∈es,e.ok)(b:a.ok) :
  ZiQ ps es a=some (ZcN a && !decide (grp a∈gsP ps++gsE es)):=by
 simp only[ZiQ,Zkq a b,Option.bind_some];cases d:ZcN a
 .rfl
 .have:=ZJV ps es cj gB dN aJ a b d ((((ps.length:Nat):Int)-(0:Int)).toNat+2) 0 (by omega) (by omega);simp only[Int.natCast_zero,List.drop_zero]at this;simp only[Bool.not_true,cond_false,Bool.true_and];exact this
def conn(l:List Zaa)(e:Zag):Bool:=l.any fun p=>decide (p.fEnd=e)
theorem ZMs(l:List Zaa)(e:Zag)(hl:l.length<=maxLen):∀fu (i:Nat),i<=l.length->l.length-i<fu->Zeo fu l (l.length:Int) (i:Int) e=some (conn (l.drop i) e):=by
 intro fu;induction fu with
 |zero=>intro _ _ h;omega
 |succ fu ih=>
  intro i b f;simp only[Zeo,Zad];by_cases h:i<l.length
  .rw[iNb,Zaj ⟨by omega,by omega⟩,Zdc l Zaa.d i h];simp only[Int.toNat_natCast];rw[add1 h hl,ih (i+1) (by omega) (by omega)];rw[show ∀(x:Zaa) r,conn (x :: r) e=(decide (x.fEnd=e)||conn r e)from fun _ _=>rfl];by_cases q:(l.getD i Zaa.d).fEnd=e
   .rw[if_pos q,decide_eq_true q];rfl
   .rw[if_neg q,decide_eq_false q];rfl
  .rw[iNa,List.drop_eq_nil_of_le (by omega)];rfl
theorem ZCF(v:ZaC)(e:Zag)(hl:v.fPeers.length<=maxLen):ZhG v e=some (conn v.fPeers e):=by
 have:=ZMs v.fPeers e hl ((((v.fPeers.length:Nat):Int)-(0:Int)).toNat+2) 0 (by omega) (by omega);simpa[ZhG]using this
structure Zpj (v:ZaC):Prop where
 book:v.fBook.length<=900
 peers:v.fPeers.length<=900
 bans:v.fBans.length<=900
 bookOk:∀e∈v.fBook,e.ok
 peersOk:∀p∈v.fPeers,p.ok
 bansOk:∀b∈v.fBans,b.ok
def ZOY(v:ZaC)(a:Zaf):Bool:=ZcN a && !decide (grp a∈gsP v.fPeers++gsE v.fBook)
def Zui(v:ZaC)(e:Zag)(ah:Int):Bool:=(ZfU v e ah).getD false
theorem ZMn{v:ZaC}(h:Zpj v)(e:Zag)(b:e.ok)(ah:Int):ZfU v e ah=some (Zui v e ah) /\
  (Zui v e ah=true->conn v.fPeers e=false/\ZwH v.fBans e.fAddr ah 0/\ZOY v e.fAddr=true):=by
 obtain⟨r,u1,u2⟩:=Zyi v.fBans e.fAddr ah (by have:=h.bans;unfold maxLen;omega) h.bansOk b.1;have d:=Zvb v.fPeers v.fBook e.fAddr (by have:=h.peers;omega) (by have:=h.book;omega) h.peersOk h.bookOk b.1;have aK:ZfU v e ah=some (!conn v.fPeers e&&(r==0)&&ZOY v e.fAddr):=by
  simp only[ZfU,ZCF v e (by have:=h.peers;unfold maxLen;omega),u1,d,Option.bind_some];cases conn v.fPeers e
  .simp only[Bool.not_false,cond_true,Bool.true_and];cases(r==(0:Int))
   .rfl
   .simp only[cond_true,Bool.true_and];rfl
  .rfl
 refine⟨by unfold Zui;rw[aK];rfl,fun ho=>?_⟩;unfold Zui at ho;rw[aK]at ho;simp only[Option.getD_some,Bool.and_eq_true,Bool.not_eq_true',beq_iff_eq]at ho;refine⟨ho.1.1,?_,ho.2⟩;rw[<-ho.1.2];exact u2
def dueS(e:Zab)(ah:Int):Bool:=(e.fState==1)&&decide (e.fNext<=ah)
theorem ZMb(e:Zab)(ah:Int):ZpG e ah=some (dueS e ah):=by
 simp only[ZpG,dueS];cases(e.fState==(1:Int))<;>rfl
theorem ZQu(e:Zab)(ah:Int):Zjw e ah=some (dueS e ah):=by
 simp only[Zjw,dueS];cases(e.fState==(1:Int))<;>rfl
def ZGt(ah:Int)(e:Zab):Bool:=ZhP e&&dueS e ah
def Zja(e:Zab):Itm:=⟨e.fNext,e.fEnd⟩
def ZmB(l:List Zab)(ah:Int):List Itm:=(l.filter (ZGt ah)).map Zja
theorem ZId(l:List Zab)(ah:Int)(hl:l.length<=900)(aJ:∀e∈l,e.ok):∀fu (i:Nat) (w:List Itm),i<=l.length->l.length-i<fu->w.length<=i ->
  ZcK ah fu l (l.length:Int) (i:Int) w=(ZkT (w++ZmB (l.drop i) ah)).bind fun x=>some x:=by
 have b:l.length<=maxLen:=by unfold maxLen;omega
 intro fu;induction fu with
 |zero=>intro _ _ _ h;omega
 |succ fu ih=>
  intro i w g j n;simp only[ZcK,Zad];by_cases h:i<l.length
  .rw[iNb,Zaj ⟨by omega,by omega⟩,Zdc l Zab.d i h];simp only[Int.toNat_natCast];have dx:=aJ _ (Zcw l Zab.d i h);rw[add1 h b,ih (i+1) w (by omega) (by omega) (by omega),ZpU _ dx];simp only[Option.bind_some,ZpJ,ZMb];rw[Zaj ⟨by simp;omega,by unfold maxLen;simp;omega⟩,ih (i+1) _ (by omega) (by omega) (by simp;omega)];generalize l.getD i Zab.d=e;have f:ZmB (e :: l.drop (i+1)) ah=(if ZGt ah e then[Zja e]else[])++ZmB (l.drop (i+1)) ah:=by
    unfold ZmB;cases q:ZGt ah e<;>simp[q]
   rw[f];unfold ZGt;cases ZhP e
   .simp
   .cases dueS e ah
    .simp
    .simp[Zja]
  .rw[iNa,List.drop_eq_nil_of_le (by omega)];simp[ZmB]
theorem ZIL{v:ZaC}(h:Zpj v)(ah:Int):∃L,Zfx v ah=some L/\L.Perm (ZmB v.fBook ah)/\HF 0 L:=by
 have:=ZId v.fBook ah h.book h.bookOk ((((v.fBook.length:Nat):Int)-(0:Int)).toNat+2) 0 [] (by omega) (by omega) (by simp);simp only[Int.natCast_zero,List.drop_zero,List.nil_append]at this;unfold Zfx;rw[this];obtain⟨L,b,d,e⟩:=ZCd (ZmB v.fBook ah) (by
  have:(ZmB v.fBook ah).length<=v.fBook.length:=by simp only[ZmB,List.length_map];exact List.length_filter_le _ _
  have:=h.book;omega)
 exact⟨L,by rw[b];rfl,d,e⟩
def zE:Zag:=⟨⟨false,0,0⟩,0⟩
def Zyd(v:ZaC)(ah:Int)(L:List Itm)(e:Zag)(ok:Bool):Prop:=(ok=true/\∃x∈L,x.fEnd=e/\Zui v e ah=true/\∀y∈L,Zui v y.fEnd ah=true->leH x y)\/(ok=false/\e=zE/\∀y∈L,Zui v y.fEnd ah=false)
theorem Zyd.perm{v:ZaC}{ah:Int}{L L':List Itm}{e:Zag}{ok:Bool}(h:Zyd v ah L e ok)(b:∀x,x∈L'↔x∈L):Zyd v ah L' e ok:=by
 rcases h with⟨d,x,f,g,j,n⟩|⟨d,f,g⟩
 .exact .inl ⟨d,x,(b x).2 f,g,j,fun y i=>n y ((b y).1 i)⟩
 .exact .inr ⟨d,f,fun y i=>g y ((b y).1 i)⟩
theorem ZKo{v:ZaC}(h:Zpj v)(ah:Int)(z:Zag):∀fu (L:List Itm),L.length<fu->L.length<=900->HF 0 L->(∀x∈L,x.fEnd.ok)->∃e ok,ZkE ah fu L v z=some (e,ok)/\Zyd v ah L e ok:=by
 intro fu;induction fu with
 |zero=>intro _ h;omega
 |succ fu ih=>
  intro L B hl H aJ;simp only[ZkE];by_cases n:L=[]
  .subst n;rw[Zud];exact⟨zE,false,rfl,.inr ⟨rfl,rfl,by simp⟩⟩
  .obtain⟨x,r,p1,p2,p3,p4⟩:=ZGJ L (by omega) H n;rw[p1];simp only[Option.bind_some,Bool.not_true,cond_false];have hx:x∈L:=p2.mem_iff.2 (by simp);have hlr:L.length=r.length+1:=by simpa using p2.length_eq
   rw[(ZMn h x.fEnd (aJ x hx) ah).1];simp only[Option.bind_some];cases ho:Zui v x.fEnd ah with
   |true=>
    simp only[cond_true];exact⟨x.fEnd,true,rfl,.inl ⟨rfl,x,hx,rfl,ho,fun y b _=>p4 y b⟩⟩
   |false=>
    simp only[cond_false];obtain⟨e,ok,o,p⟩:=ih r (by omega) (by omega) p3 fun y b=>aJ y (p2.mem_iff.2 (by simp[b]));refine⟨e,ok,o,?_⟩;have d:∀y,y∈L↔y=x\/y∈r:=fun y=>by rw[p2.mem_iff];simp
    rcases p with⟨f,y,g,i,u,A⟩|⟨f,g,i⟩
    .refine .inl ⟨f,y,(d y).2 (.inr g),i,u,fun t j mj=>?_⟩;rcases(d t).1 j with e1|e1
     .subst e1;rw[ho]at mj;cases mj
     .exact A t e1 mj
    .refine .inr ⟨f,g,fun t j=>?_⟩;rcases(d t).1 j with e1|e1
     .subst e1;exact ho
     .exact i t e1
theorem ZCE{v:ZaC}(h:Zpj v)(ah:Int):∃e ok,ZkX v ah=some (e,ok)/\Zyd v ah (ZmB v.fBook ah) e ok:=by
 obtain⟨L,l1,l2,l3⟩:=ZIL h ah;have hlen:(ZmB v.fBook ah).length<=v.fBook.length:=by simp only[ZmB,List.length_map];exact List.length_filter_le _ _
 have hb:=h.book;obtain⟨e,ok,b,d⟩:=ZKo h ah zE 1000000 L (by rw[l2.length_eq];omega) (by rw[l2.length_eq];omega) l3 fun x hx=>by
  have:=l2.mem_iff.1 hx;simp only[ZmB,List.mem_map,List.mem_filter]at this;obtain⟨a,⟨f,_⟩,rfl⟩:=this;exact(h.bookOk a f).1
 refine⟨e,ok,?_,d.perm fun x=>l2.mem_iff.symm⟩;simp only[ZkX,l1,Option.bind_some];rw[show (Zag.mk (Zaf.mk false (0:Int) (0:Int)) (0:Int))=zE from rfl];exact b
def mayS(v:ZaC)(ah:Int)(x:Zab):Bool:=ZhP x&&dueS x ah&&Zui v x.fEnd ah
def dblN:Nat->Int->Int|0,x=>x|k+1,x=>dblN k (fitI (2*x))
theorem ZCH:∀k,dblN k 0=0
 | 0=>rfl
 |k+1=>by show dblN k (fitI (2 * 0))=0;exact ZCH k
theorem ZHb:∀k,dblN k 1099511627776=1099511627776
 | 0=>rfl
 |k+1=>by show dblN k (fitI (2 * 1099511627776))=_;exact ZHb k
theorem ZQS{x:Int}(h0:0<=x)(b:x<=1099511627776):fitI x=x:=by
 unfold fitI;rw[iNa,iNa]
theorem Zyq:∀(j:Nat)(x:Int)(n fu:Nat),n<=1000000->0<=x->x<=1099511627776->(x=0\/1099511627776<=x * 2 ^ j)->(1099511627776-x).toNat+1<=fu->Zje fu x (n:Int)=some (dblN (min n j) x):=by
 intro j;induction j with
 |zero=>
  intro x n fu _ h0 d h2 e;obtain⟨fu,rfl⟩ : ∃y,fu=y+1:=⟨fu-1,by omega⟩;unfold Zje;simp only[Zad];rw[Nat.min_zero];have fM:x=0\/1099511627776<=x:=by simpa using h2
  split
  .split
   .rw[iNa];rfl
   .rfl
  .rfl
 |succ j ih=>
  intro x n fu g h0 d h2 e;obtain⟨fu,rfl⟩ : ∃y,fu=y+1:=⟨fu-1,by omega⟩;unfold Zje;simp only[Zad];cases n with
  |zero=>rw[iNa,Nat.zero_min];rfl
  |succ n=>
   rw[iNb];have dL:min (n+1) (j+1)=min n j+1:=by omega
   rw[dL];by_cases hx:x>0
   .rw[if_pos hx];by_cases b:x<1099511627776
    .rw[if_pos b,Zpt (by omega) (by omega),ZiX,Zan,ZRu (by omega)];have hle:=ZfA (2*x);have mi:x+1<=fitI (2*x):=by
      unfold fitI;repeat' split
      all_goals omega
     have fM:fitI (2*x)=0\/1099511627776<=fitI (2*x) * 2 ^ j:=by
      right;have kV:(1:Int)<=2 ^ j:=Int.pow_pos (by omega);rcases h2 with h2|h2
      .omega
      .have f:x * 2 ^ (j+1)=2*x * 2 ^ j:=by
        rw[Int.pow_succ,<-Int.mul_assoc,Int.mul_right_comm,Int.mul_comm x 2]
       rw[f]at h2;unfold fitI;rw[iNa];split
       .have:=Int.mul_le_mul_of_nonneg_left kV (show (0:Int)<=1099511627776 by omega);omega
       .exact h2
     exact ih (fitI (2*x)) n fu (by omega) hle.1 hle.2 fM (by omega)
    .have:x=1099511627776:=by omega
     rw[if_neg b,this,ZHb]
   .have:x=0:=by omega
    rw[if_neg hx,this,ZCH]
theorem ZyB(n:Nat):∀(k i:Nat)(x:Int)(fu:Nat),min n 41-i=k->i<=41->0<=x->x<=1099511627776->k+1<=fu->ZdF (n:Int) fu x (i:Int)=some (dblN k x):=by
 intro k;induction k with
 |zero=>
  intro i x fu d e h0 b f;obtain⟨fu,rfl⟩ : ∃y,fu=y+1:=⟨fu-1,by omega⟩;unfold ZdF;simp only[Zad];split
  .rw[iNa];rfl
  .rfl
 |succ k ih=>
  intro i x fu d e h0 b f;obtain⟨fu,rfl⟩ : ∃y,fu=y+1:=⟨fu-1,by omega⟩;unfold ZdF;simp only[Zad];have g:Zam (i:Int) 1=((i+1:Nat):Int):=add1 (n:=i+1) (by omega) (by simp only[maxLen];omega);have h:addT x x=fitI (2*x):=by
   unfold addT;rw[ZQS h0 b];congr 1;omega
  have hle:=ZfA (2*x);rw[iNb,iNb,(Zqm _ _).2,Zan,g,h];exact ih (i+1) _ fu (by omega) (by omega) hle.1 hle.2 (by omega)
theorem ZFY(a:Int)(n:Nat)(b:n<=1000000):ZpC a (n:Int)=some (dblN (min n 41) (fitI a))/\Zid a (n:Int)=some (dblN (min n 41) (fitI a)):=by
 have h:=ZfA a;constructor
 .unfold ZpC;rw[ZiX,Zan];exact Zyq 41 _ n _ b h.1 h.2 (by omega) (by omega)
 .unfold Zid;rw[ZjE,Zan];exact ZyB n _ 0 _ _ rfl (by omega) h.1 h.2 (by omega)
theorem ZPd(c:Zaq)(n:Nat)(d:n<=1000000):∃t,Zly c (n:Int)=some t/\ZhY c (n:Int)=some t:=by
 unfold Zly ZhY;simp only[Zad];cases n with
 |zero=>exact⟨0,rfl,rfl⟩
 |succ n=>
  rw[iNa,iNa,ZRu (by omega),ZiX,ZjE,(ZFY _ n (by omega)).1,(ZFY _ n (by omega)).2];simp only[Zan];generalize dblN (min n 41) (fitI c.fBase)=a;generalize fitI c.fCap=b;refine⟨if a<b then a else b,rfl,?_⟩;split<;>split<;>first|rfl|omega | (congr 1;omega)
theorem ZKN(c:Zaq)(r:Int):∃t,ZkN c r=some t/\ZhA c r=some t:=by
 unfold ZkN ZhA;simp only[Zad];by_cases h:c.fJitter<1
 .rw[if_pos h];exact⟨_,rfl,rfl⟩
 .rw[if_neg h,Zaj (by omega)];split<;>exact⟨_,rfl,rfl⟩
theorem ZQy(c:Zaq)(n:Nat)(b:n<=1000000)(ah r:Int):∃t,Zjh c (n:Int) ah r=some t/\Zfc c (n:Int) ah r=some t:=by
 obtain⟨t,d,e⟩:=ZPd c n b;obtain⟨u,f,g⟩:=ZKN c r;unfold Zjh Zfc;rw[d,e,f,g];simp only[Zan,(Zqm _ _).1,(Zqm _ _).2];exact⟨_,rfl,rfl⟩
def ZrY(c:Zaq)(e:Zab)(ah r:Int):Zab:=(Zhy c e ah r).getD e
theorem Zwb(c:Zaq)(e:Zab)(ah r:Int):Zhy c e ah r=some (ZrY c e ah r)/\Zec c e ah r=some (ZrY c e ah r):=by
 have aK:∀n:Nat,n<=1000->Zam (if(999:Int)<(if(0:Int)>e.fFails then(0:Int)else e.fFails)then(999:Int)else(if(0:Int)>e.fFails then(0:Int)else e.fFails)) (1:Int)=(n:Int) ->
   Zec c e ah r=((Zfc c (n:Int) ah r).bind fun x=>some (Zab.mk e.fEnd 1 (n:Int) x))->Zhy c e ah r=some (ZrY c e ah r)/\Zec c e ah r=some (ZrY c e ah r):=by
  intro n f b h;obtain⟨t,i,j⟩:=ZQy c n (by omega) ah r;have g:Zhy c e ah r=some ⟨e.fEnd,1,(n:Int),t⟩:=by
   unfold Zhy;rw[b,i];rfl
  have o:ZrY c e ah r=⟨e.fEnd,1,(n:Int),t⟩:=by unfold ZrY;rw[g];rfl
  rw[o,g,h,j];exact⟨rfl,rfl⟩
 unfold Zec ZeQ at aK ⊢;simp only[Zad]at aK ⊢;by_cases h0:e.fFails>0
 .by_cases b:e.fFails<1000
  .obtain⟨n,f⟩ : ∃n:Nat,e.fFails=(n:Int):=⟨e.fFails.toNat,by omega⟩;have d:Zam e.fFails 1=((n+1:Nat):Int):=by rw[f];exact add1 (n:=n+1) (by omega) (by simp only[maxLen];omega)
   refine aK (n+1) (by omega) ?_ ?_
   .rw[if_neg (show ¬(0:Int)>e.fFails by omega),iNa,d]
   .rw[if_pos h0,if_pos b,if_neg (show ¬e.fFails>=1000 by omega),d]
  .refine aK 1000 (by omega) ?_ ?_
   .rw[if_neg (show ¬(0:Int)>e.fFails by omega),iNb];exact Zbb (by omega) (by omega)
   .rw[if_pos h0,if_neg b,if_pos (show e.fFails>=1000 by omega)];rfl
 .refine aK 1 (by omega) ?_ ?_
  .have d:(if(0:Int)>e.fFails then(0:Int)else e.fFails)=0:=by split<;>omega
   rw[d,iNa];exact Zbb (by omega) (by omega)
  .rw[if_neg h0,if_neg (show ¬e.fFails>=1000 by omega)];rfl
theorem ZQC(l:List Zaa)(e:Zag):ZgR l e<0↔conn l e=false:=by
 unfold ZgR conn;rw[ZmH,List.any_eq_false];simp
theorem ZQs{v:ZaC}(h:Zpj v)(e:Zab)(d:e.ok)(ah:Int):Zjt v.fBook v.fPeers v.fBans e ah=some (mayS v ah e):=by
 obtain⟨r,u1,u2⟩:=Zyi v.fBans e.fEnd.fAddr ah (by have:=h.bans;unfold maxLen;omega) h.bansOk d.1.1;obtain⟨s,u3,u4⟩:=Zvm v.fBans e.fEnd.fAddr ah (by have:=h.bans;unfold maxLen;omega) h.bansOk d.1.1;have ml:r=s:=Zxy u2 u4 fun b=>Iff.rfl;subst ml;have i:=Zvb v.fPeers v.fBook e.fEnd.fAddr (by have:=h.peers;omega) (by have:=h.book;omega) h.peersOk h.bookOk d.1.1;have mg:=ZNY v.fPeers v.fBook e.fEnd.fAddr (by have:=h.peers;omega) (by have:=h.book;omega) h.peersOk h.bookOk d.1.1;have g:v.fPeers.length<=maxLen:=by have:=h.peers;unfold maxLen;omega
 have aK:Zui v e.fEnd ah=(!conn v.fPeers e.fEnd&&(r==0)&&ZOY v e.fEnd.fAddr):=by
  unfold Zui;simp only[ZfU,ZCF v e.fEnd g,u1,i,Option.bind_some];cases conn v.fPeers e.fEnd
  .simp only[Bool.not_false,cond_true,Bool.true_and];cases(r==(0:Int))
   .rfl
   .simp only[cond_true,Bool.true_and];rfl
  .rfl
 unfold Zjt mayS;rw[Zok e d,Zan,ZQu,Zan,u3,Zan,ZiY _ _ g,Zan,mg,Zan,aK,Zad];have hU:=ZQC v.fPeers e.fEnd;unfold ZOY;cases ZhP e
 .rfl
 .cases dueS e ah
  .rfl
  .simp only[cond_true,Bool.true_and];cases(r==(0:Int))
   .simp
   .simp only[cond_true,Bool.and_true];by_cases f:ZgR v.fPeers e.fEnd<0
    .rw[if_pos f,hU.1 f];rfl
    .rw[if_neg f];cases j:conn v.fPeers e.fEnd
     .exact absurd (hU.2 j) f
     .rfl
def ZqP(v:ZaC)(ah:Int)(e:Zag)(ok:Bool):Prop:=(ok=true/\∃x∈v.fBook,x.fEnd=e/\mayS v ah x=true/\∀y∈v.fBook,mayS v ah y=true->leH (Zja x) (Zja y))\/(ok=false/\e=zE/\∀y∈v.fBook,mayS v ah y=false)
theorem Zxp{v:ZaC}{ah:Int}{e:Zag}{ok:Bool}(h:Zyd v ah (ZmB v.fBook ah) e ok):ZqP v ah e ok:=by
 have d:∀y∈v.fBook,mayS v ah y=true->Zja y∈ZmB v.fBook ah/\Zui v (Zja y).fEnd ah=true:=fun y b dj=>by
  unfold mayS at dj;rw[Bool.and_eq_true]at dj;exact⟨List.mem_map.2 ⟨y,List.mem_filter.2 ⟨b,dj.1⟩,rfl⟩,dj.2⟩
 rcases h with⟨g,x,i,f,n,o⟩|⟨g,i,f⟩
 .have hx:=i;simp only[ZmB,List.mem_map,List.mem_filter]at hx;obtain⟨a,⟨p,r⟩,rfl⟩:=hx;refine .inl ⟨g,a,p,f,?_,fun y b dj=>o _ (d y b dj).1 (d y b dj).2⟩;unfold mayS;rw[show (ZhP a&&dueS a ah)=true from r,show a.fEnd=e from f,n];rfl
 .refine .inr ⟨g,i,fun y b=>?_⟩;cases j:mayS v ah y with
  |false=>rfl
  |true=>exact absurd (d y b j).2 (by rw[f _ (d y b j).1];simp)
theorem ZqP.one{v:ZaC}{ah:Int}{e e':Zag}{ok j6:Bool}(h:ZqP v ah e ok)(h':ZqP v ah e' j6):(e,ok)=(e',j6):=by
 rcases h with⟨j,x,g,n,o,r⟩|⟨j,g,n⟩
 .rcases h' with⟨d,y,b,f,i,p⟩|⟨d,b,f⟩
  .have l1:=r y b i;have l2:=p x g o;have t:cmpH (Zja x) (Zja y)=0:=by
    unfold leH at l1 l2;rcases Int.lt_trichotomy (cmpH (Zja x) (Zja y)) 0 with q|q|q
    .exact absurd q l2
    .exact q
    .exact absurd (Zwr.1 q) l1
   have:=Zwq.1 t;simp only[Zja,Zah.mk.injEq]at this;rw[j,d,<-n,<-f,this.2]
  .rw[f x g]at o;cases o
 .rcases h' with⟨d,y,b,f,i,p⟩|⟨d,b,f⟩
  .rw[n y b]at i;cases i
  .rw[j,g,d,b]
theorem ZsF{x y:Zab}:leH (Zja x) (Zja y)↔x.fNext<y.fNext\/(x.fNext=y.fNext/\cmpE x.fEnd y.fEnd<=0):=by
 unfold leH;rw[ZMy];simp only[Zja];have e:=@Zgl y.fEnd x.fEnd;have b:=@Zgl x.fEnd y.fEnd;omega
theorem ZHI{v:ZaC}(h:Zpj v)(ah:Int)(z:Zag):∀(fu i:Nat)(b:Int),i<=v.fBook.length->v.fBook.length-i<fu->b<(i:Int)->-1<=b ->
  (b<0->∀y∈v.fBook.take i,mayS v ah y=false)->(0<=b->mayS v ah (v.fBook.getD b.toNat Zab.d)=true/\∀y∈v.fBook.take i,mayS v ah y=true->leH (Zja (v.fBook.getD b.toNat Zab.d)) (Zja y)) ->
  ∃e ok,ZbC v.fBook v.fPeers v.fBans ah fu b (i:Int) z=some (e,ok)/\ZqP v ah e ok:=by
 have p:v.fBook.length<=maxLen:=by have:=h.book;unfold maxLen;omega
 intro fu;induction fu with
 |zero=>intro _ _ _ h;omega
 |succ fu ih=>
  intro i b r t hb bV g f;unfold ZbC;simp only[Zad];by_cases hlt:i<v.fBook.length
  .rw[iNb,Zaj ⟨by omega,by omega⟩];simp only[Int.toNat_natCast];have bJ:=Zcw v.fBook Zab.d i hlt;have dW:v.fBook.take (i+1)=v.fBook.take i++[v.fBook.getD i Zab.d]:=by rw[List.take_succ_eq_append_getElem hlt,ZbA v.fBook _ i hlt]
   have iE:∀y,y∈v.fBook.take (i+1)->y∈v.fBook.take i\/y=v.fBook.getD i Zab.d:=fun y f=>by
    rw[dW]at f;rcases List.mem_append.1 f with q|q
    .exact .inl q
    .exact .inr (List.mem_singleton.1 q)
   rw[ZQs h _ (h.bookOk _ bJ),Zan,add1 hlt p];have keep:mayS v ah (v.fBook.getD i Zab.d)=false\/(0<=b/\leH (Zja (v.fBook.getD b.toNat Zab.d)) (Zja (v.fBook.getD i Zab.d)))->∃e ok,ZbC v.fBook v.fPeers v.fBans ah fu b ((i+1:Nat):Int) z=some (e,ok)/\ZqP v ah e ok:=fun hk=>by
    refine ih (i+1) b (by omega) (by omega) (by omega) bV (fun bD y eC=>?_) (fun bD=>⟨(f bD).1,fun y eC dj=>?_⟩)
    .rcases iE y eC with q|q
     .exact g bD y q
     .rw[q];rcases hk with hk|hk
      .exact hk
      .omega
    .rcases iE y eC with q|q
     .exact(f bD).2 y q dj
     .rcases hk with hk|hk
      .rw[q,hk]at dj;cases dj
      .rw[q];exact hk.2
   have move:mayS v ah (v.fBook.getD i Zab.d)=true->(0<=b->leH (Zja (v.fBook.getD i Zab.d)) (Zja (v.fBook.getD b.toNat Zab.d)))->∃e ok,ZbC v.fBook v.fPeers v.fBans ah fu (i:Int) ((i+1:Nat):Int) z=some (e,ok)/\ZqP v ah e ok:=fun hk hle=>by
    refine ih (i+1) (i:Int) (by omega) (by omega) (by omega) (by omega) (fun bD=>by omega) (fun _=>⟨by rw[Int.toNat_natCast];exact hk,fun y eC dj=>?_⟩);rw[Int.toNat_natCast];rcases iE y eC with q|q
    .by_cases bD:b<0
     .rw[g bD y q]at dj;cases dj
     .exact ZvJ (hle (by omega)) ((f (by omega)).2 y q dj)
    .rw[q];exact Zrb _
   cases hk:mayS v ah (v.fBook.getD i Zab.d)with
   |false=>rw[Bool.not_false,cond_true];exact keep (.inl hk)
   |true=>
    rw[Bool.not_true,cond_false];by_cases bD:b<0
    .rw[if_pos bD];exact move hk (fun q=>by omega)
    .rw[if_neg bD,Zaj ⟨by omega,by omega⟩];by_cases n:(v.fBook.getD i Zab.d).fNext<(v.fBook.getD b.toNat Zab.d).fNext
     .rw[if_pos n];exact move hk fun _=>ZsF.2 (.inl n)
     .rw[if_neg n,Zdp,Zsw,Zan];by_cases j:(v.fBook.getD i Zab.d).fNext=(v.fBook.getD b.toNat Zab.d).fNext
      .rw[if_pos j];by_cases o:cmpE (v.fBook.getD i Zab.d).fEnd (v.fBook.getD b.toNat Zab.d).fEnd<0
       .rw[if_pos o];exact move hk fun _=>ZsF.2 (.inr ⟨j,by omega⟩)
       .rw[if_neg o];refine keep (.inr ⟨by omega,ZsF.2 (.inr ⟨j.symm,?_⟩)⟩);have:=@Zgl (v.fBook.getD b.toNat Zab.d).fEnd (v.fBook.getD i Zab.d).fEnd;omega
      .rw[if_neg j];exact keep (.inr ⟨by omega,ZsF.2 (.inl (by omega))⟩)
  .rw[iNa];have et:v.fBook.take i=v.fBook:=List.take_of_length_le (by omega);rw[et]at g f;by_cases bD:b<0
   .rw[if_pos bD];exact⟨_,_,rfl,.inr ⟨rfl,rfl,g bD⟩⟩
   .rw[if_neg bD,Zaj ⟨by omega,by omega⟩];exact⟨_,_,rfl,.inl ⟨rfl,_,Zcw v.fBook Zab.d b.toNat (by omega),rfl,(f (by omega)).1,(f (by omega)).2⟩⟩
def ZlB(v:ZaC)(ah:Int):Zag×Bool:=(ZkX v ah).getD (zE,false)
theorem ZEp{v:ZaC}(h:Zpj v)(ah:Int):ZkX v ah=some (ZlB v ah)/\Zfa v.fBook v.fPeers v.fBans ah=some (ZlB v ah)/\((ZlB v ah).2=true->0<=Zer v.fBook (ZlB v ah).1):=by
 obtain⟨e,ok,d,g⟩:=ZCE h ah;have f:=Zxp g;obtain⟨e',j6,i,j⟩:=ZHI h ah ⟨⟨false,0,0⟩,0⟩ ((((v.fBook.length:Nat):Int)-(0:Int)).toNat+2) 0 (-1) (by omega) (by omega) (by omega) (by omega) (fun _=>by simp) (fun q=>by omega);have n:=ZqP.one f j;have b:ZlB v ah=(e,ok):=by unfold ZlB;rw[d];rfl
 refine⟨by rw[b,d],?_,fun aJ=>?_⟩
 .unfold Zfa;rw[b,n];exact i
 .rw[b]at aJ ⊢;rcases f with⟨_,x,x1,x2,_⟩|⟨q,_⟩
  .have hx:¬Zer v.fBook e<0:=fun q=>ZqH.1 q x x1 x2;exact Int.not_lt.1 hx
  .rw[show ok=true from aJ]at q;cases q
def Zpv(ah:Int)(e:Zab):Bool:=ZhP e&&((e.fState==1)&&decide (e.fNext>ah))
def ZyR(l:List Zab)(ah:Int):List Itm:=(l.filter (Zpv ah)).map Zja
theorem ZND(e:Zab)(ah:Int):ZmP e ah=some ((e.fState==1)&&decide (e.fNext>ah)):=by
 simp only[ZmP];cases(e.fState==(1:Int))<;>rfl
theorem ZKL(l:List Zab)(ah:Int)(hl:l.length<=900)(aJ:∀e∈l,e.ok):∀fu (i:Nat) (w:List Itm),i<=l.length->l.length-i<fu->w.length<=i ->
  ZcJ ah fu l (l.length:Int) (i:Int) w=(ZkT (w++ZyR (l.drop i) ah)).bind fun x=>some x:=by
 have b:l.length<=maxLen:=by unfold maxLen;omega
 intro fu;induction fu with
 |zero=>intro _ _ _ h;omega
 |succ fu ih=>
  intro i w g j n;simp only[ZcJ,Zad];by_cases h:i<l.length
  .rw[iNb,Zaj ⟨by omega,by omega⟩,Zdc l Zab.d i h];simp only[Int.toNat_natCast];have dx:=aJ _ (Zcw l Zab.d i h);rw[add1 h b,ih (i+1) w (by omega) (by omega) (by omega),ZpU _ dx];simp only[Option.bind_some,ZND];rw[Zaj ⟨by simp;omega,by unfold maxLen;simp;omega⟩,ih (i+1) _ (by omega) (by omega) (by simp;omega)];generalize l.getD i Zab.d=e;have f:ZyR (e :: l.drop (i+1)) ah=(if Zpv ah e then[Zja e]else[])++ZyR (l.drop (i+1)) ah:=by
    unfold ZyR;cases q:Zpv ah e<;>simp[q]
   rw[f];unfold Zpv;cases ZhP e
   .simp
   .cases((e.fState==(1:Int))&&decide (e.fNext>ah))
    .simp
    .simp[Zja]
  .rw[iNa,List.drop_eq_nil_of_le (by omega)];simp[ZyR]
def Zsj(S:Zab->Prop)(r:Int):Prop:=((∀y,¬S y)/\r=0)\/∃x,S x/\r=x.fNext/\∀y,S y->r<=y.fNext
theorem Zsj.one{S:Zab->Prop}{r s:Int}(h:Zsj S r)(g:Zsj S s):r=s:=by
 rcases h with⟨d,i⟩|⟨x,d,i,j⟩
 .rcases g with⟨b,e⟩|⟨y,b,e,f⟩
  .omega
  .exact absurd b (d y)
 .rcases g with⟨b,e⟩|⟨y,b,e,f⟩
  .exact absurd d (b x)
  .have:=j y b;have:=f x d;omega
theorem ZMk{v:ZaC}(h:Zpj v)(ah:Int):∃r,ZkW v ah=some r/\Zsj (fun y=>y∈v.fBook/\Zpv ah y=true) r:=by
 have hlen:(ZyR v.fBook ah).length<=v.fBook.length:=by simp only[ZyR,List.length_map];exact List.length_filter_le _ _
 have hb:=h.book;have hl:=ZKL v.fBook ah h.book h.bookOk ((((v.fBook.length:Nat):Int)-(0:Int)).toNat+2) 0 [] (by omega) (by omega) (by simp);simp only[Int.natCast_zero,List.drop_zero,List.nil_append]at hl;obtain⟨L,f,d,g⟩:=ZCd (ZyR v.fBook ah) (by omega);have hin:∀y,y∈v.fBook/\Zpv ah y=true->Zja y∈L:=fun y b=>d.mem_iff.2 (List.mem_map.2 ⟨y,List.mem_filter.2 b,rfl⟩);unfold ZkW ZhF;rw[hl,f,Zan,Zan];by_cases e:L=[]
 .subst e;rw[Zud,Zan];exact⟨0,rfl,.inl ⟨fun y b=>by have:=hin y b;simp at this,rfl⟩⟩
 .obtain⟨x,r,p1,p2,p3,p4⟩:=ZGJ L (by rw[d.length_eq];omega) g e;rw[p1,Zan];have hx:x∈L:=p2.mem_iff.2 (by simp);have dR:=d.mem_iff.1 hx;simp only[ZyR,List.mem_map,List.mem_filter]at dR;obtain⟨a,i,rfl⟩:=dR;refine⟨_,rfl,.inr ⟨a,i,rfl,fun y b=>?_⟩⟩;have:=ZsF.1 (p4 _ (hin y b));show a.fNext<=y.fNext;omega
theorem ZHH{l:List Zab}(hl:l.length<=900)(aJ:∀e∈l,e.ok)(ah:Int):∀(fu i:Nat)(r:Int)(any:Bool),i<=l.length->l.length-i<fu ->
  (any=false->r=0/\∀y∈l.take i,Zpv ah y=false)->(any=true->∃x,(x∈l/\Zpv ah x=true)/\r=x.fNext/\∀y∈l.take i,Zpv ah y=true->r<=y.fNext) ->
  ∃r',ZbB l ah fu r any (i:Int)=some r'/\Zsj (fun y=>y∈l/\Zpv ah y=true) r':=by
 have t:l.length<=maxLen:=by unfold maxLen;omega
 intro fu;induction fu with
 |zero=>intro _ _ _ _ h;omega
 |succ fu ih=>
  intro i r any u v j f;unfold ZbB;simp only[Zad,Zdp];by_cases hlt:i<l.length
  .rw[iNb,Zaj ⟨by omega,by omega⟩];simp only[Int.toNat_natCast];have bJ:=Zcw l Zab.d i hlt;have dW:l.take (i+1)=l.take i++[l.getD i Zab.d]:=by rw[List.take_succ_eq_append_getElem hlt,ZbA l _ i hlt]
   have iE:∀y,y∈l.take (i+1)->y∈l.take i\/y=l.getD i Zab.d:=fun y f=>by
    rw[dW]at f;rcases List.mem_append.1 f with q|q
    .exact .inl q
    .exact .inr (List.mem_singleton.1 q)
   rw[Zok _ (aJ _ bJ),Zan,add1 hlt t];generalize l.getD i Zab.d=e at bJ dW iE ⊢;have keep:Zpv ah e=false\/(any=true/\r<=e.fNext)->∃r',ZbB l ah fu r any ((i+1:Nat):Int)=some r'/\Zsj (fun y=>y∈l/\Zpv ah y=true) r':=fun hk=>by
    refine ih (i+1) r any (by omega) (by omega) (fun b=>⟨(j b).1,fun y eC=>?_⟩) (fun b=>?_)
    .rcases iE y eC with q|q
     .exact(j b).2 y q
     .rw[q];rcases hk with hk|hk
      .exact hk
      .rw[b]at hk;exact absurd hk.1 (by decide)
    .obtain⟨x,x1,x2,x3⟩:=f b;refine⟨x,x1,x2,fun y eC dj=>?_⟩;rcases iE y eC with q|q
     .exact x3 y q dj
     .rcases hk with hk|hk
      .rw[q,hk]at dj;cases dj
      .rw[q];exact hk.2
   have move:Zpv ah e=true->(any=true->e.fNext<=r)->∃r',ZbB l ah fu e.fNext true ((i+1:Nat):Int)=some r'/\Zsj (fun y=>y∈l/\Zpv ah y=true) r':=fun hk hle=>by
    refine ih (i+1) _ true (by omega) (by omega) (fun b=>by cases b) (fun _=>⟨e,⟨bJ,hk⟩,rfl,fun y eC dj=>?_⟩);rcases iE y eC with q|q
    .cases b:any with
     |false=>rw[(j b).2 y q]at dj;cases dj
     |true=>
      obtain⟨x,x1,x2,x3⟩:=f b;have:=x3 y q dj;have:=hle b;omega
    .rw[q];exact Int.le_refl _
   cases o:ZhP e with
   |false=>rw[cond_false];exact keep (.inl (by simp[Zpv,o]))
   |true=>
    rw[cond_true];by_cases g:e.fState=1
    .rw[if_pos g];by_cases n:e.fNext>ah
     .rw[if_pos n];have hk:Zpv ah e=true:=by unfold Zpv;rw[o,g,decide_eq_true n];rfl
      cases b:any with
      |false=>rw[Bool.not_false,cond_true];exact move hk fun q=>by rw[b]at q;cases q
      |true=>
       rw[Bool.not_true,cond_false];by_cases p:e.fNext<r
       .rw[if_pos p];exact move hk fun _=>by omega
       .rw[if_neg p];have hk2:=keep (.inr ⟨b,by omega⟩);rw[b]at hk2;exact hk2
     .rw[if_neg n];exact keep (.inl (by unfold Zpv;rw[decide_eq_false n];simp))
    .rw[if_neg g];exact keep (.inl (by simp[Zpv,g]))
  .rw[iNa];have et:l.take i=l:=List.take_of_length_le (by omega);rw[et]at j f;refine⟨r,rfl,?_⟩;cases b:any with
   |false=>exact .inl ⟨fun y eC=>(by have g:=eC.2;rw[(j b).2 y eC.1]at g;cases g),(j b).1⟩
   |true=>
    obtain⟨x,x1,x2,x3⟩:=f b;exact .inr ⟨x,x1,x2,fun y eC=>x3 y eC.1 eC.2⟩
def ZDO(v:ZaC)(ah:Int):Int:=(ZkW v ah).getD 0
theorem ZDN{v:ZaC}(h:Zpj v)(ah:Int):ZkW v ah=some (ZDO v ah)/\ZeZ v.fBook ah=some (ZDO v ah):=by
 obtain⟨r,b,e⟩:=ZMk h ah;obtain⟨s,f,g⟩:=ZHH h.book h.bookOk ah ((((v.fBook.length:Nat):Int)-(0:Int)).toNat+2) 0 0 false (by omega) (by omega) (fun _=>⟨rfl,by simp⟩) (fun q=>by cases q);have d:ZDO v ah=r:=by unfold ZDO;rw[b];rfl
 refine⟨by rw[d,b],?_⟩;unfold ZeZ;rw[d,e.one g];exact f
theorem ZQj{α:Type}(L R:List α)(x y:α):(L++x :: R).set L.length y=L++y :: R:=by
 induction L with
 |nil=>rfl
 |cons z L ih=>simp[ih]
theorem ZLJ{α:Type}(L R:List α)(x d:α):(L++x :: R).getD L.length d=x:=by
 induction L with
 |nil=>rfl
 |cons z L ih=>simp
theorem ZtZ{α:Type}{l L R:List α}{x y:α}{k:Nat}(h:l=L++x :: R)(b:k=L.length):l.set k y=L++y :: R:=by rw[h,b,ZQj]
theorem ZrA{α:Type}{l L R:List α}{x d:α}{k:Nat}(h:l=L++x :: R)(b:k=L.length):l.getD k d=x:=by rw[h,b,ZLJ]
abbrev Prs:=List Zaa
theorem ZJF(P B Q:Prs):∀(k:Nat)(A1 A2 C1 C2:Prs)(fu:Nat),A2.length=k->C2.length=k->A1.length=C1.length->k+1<=fu->P.length+B.length+Q.length+2*(A1.length+k)<=1000000 ->
  Zbn (P.length:Int) ((P.length+(A1.length+k)+B.length:Nat):Int) ((A1.length+k:Nat):Int) fu (A1.length:Int) (P++(C1++(A2++(B++(A1++(C2++Q))))))=some (P++(C1++(C2++(B++(A1++(A2++Q)))))):=by
 intro k;induction k with
 |zero=>
  intro A1 A2 C1 C2 fu b e f g hb;obtain⟨fu,rfl⟩:=sC fu;obtain rfl:=List.eq_nil_of_length_eq_zero b;obtain rfl:=List.eq_nil_of_length_eq_zero e;unfold Zbn;rw[Zad,iNa]
 |succ k ih=>
  intro A1 A2 C1 C2 fu b e f g hb;obtain⟨fu,rfl⟩:=sC fu;cases A2 with
  |nil=>cases b
  |cons a A2=>
   cases C2 with
   |nil=>cases e
   |cons c C2=>
    simp only[List.length_cons,Nat.add_right_cancel_iff]at b e;unfold Zbn;have h:Zam (P.length:Int) (A1.length:Int)=((P.length+A1.length:Nat):Int):=by rw[Zbb (by omega) (by omega)];omega
    have i:Zam ((P.length+(A1.length+(k+1))+B.length:Nat):Int) (A1.length:Int)=((P.length+(A1.length+(k+1))+B.length+A1.length:Nat):Int):=by rw[Zbb (by omega) (by omega)];omega
    have j:Zam (A1.length:Int) 1=((A1.length+1:Nat):Int):=by rw[Zbb (by omega) (by omega)];omega
    have hl:(P++(C1++(a :: A2++(B++(A1++(c :: C2++Q)))))).length=P.length+B.length+Q.length+2*(A1.length+(k+1)):=by simp;omega
    rw[Zad,iNb,h,i,j,Zaj (by rw[hl];omega),Zaj (by rw[hl];omega)];simp only[Int.toNat_natCast];have n:(P++(C1++(a :: A2++(B++(A1++(c :: C2++Q)))))).getD (P.length+(A1.length+(k+1))+B.length+A1.length) Zaa.d=c:=
     ZrA (L:=P++(C1++(a :: A2++(B++A1)))) (R:=C2++Q) (by simp) (by simp;omega)
    have o:(P++(C1++(a :: A2++(B++(A1++(c :: C2++Q)))))).getD (P.length+A1.length) Zaa.d=a:=
     ZrA (L:=P++C1) (R:=A2++(B++(A1++(c :: C2++Q)))) (by simp) (by simp;omega)
    have s1:(P++(C1++(a :: A2++(B++(A1++(c :: C2++Q)))))).set (P.length+A1.length) c=P++(C1++(c :: A2++(B++(A1++(c :: C2++Q))))):=by
     rw[ZtZ (L:=P++C1) (x:=a) (R:=A2++(B++(A1++(c :: C2++Q)))) (by simp) (by simp;omega)];simp
    have s2:(P++(C1++(c :: A2++(B++(A1++(c :: C2++Q)))))).set (P.length+(A1.length+(k+1))+B.length+A1.length) a=P++(C1++(c :: A2++(B++(A1++(a :: C2++Q))))):=by
     rw[ZtZ (L:=P++(C1++(c :: A2++(B++A1)))) (x:=c) (R:=C2++Q) (by simp) (by simp;omega)];simp
    rw[n,o,s1,s2];have:=ih (A1++[a]) A2 (C1++[c]) C2 fu b e (by simp;omega) (by omega) (by simp;omega);simp only[List.length_append,List.length_singleton,List.append_assoc,List.singleton_append,List.cons_append]at this ⊢;have x1:A1.length+1+k=A1.length+(k+1):=by omega
    rw[x1]at this;exact this
theorem ZDV(P A B C Q:Prs)(h:A.length=C.length)(hb:P.length+B.length+Q.length+2*A.length<=1000000)(a b n:Int)(d:a=(P.length:Int))(gC:b=((P.length+A.length+B.length:Nat):Int))(e:n=(A.length:Int)) :
  ZbD (P++(A++(B++(C++Q)))) a b n=some (P++(C++(B++(A++Q)))):=by
 subst d gC e;unfold ZbD;have:=ZJF P B Q A.length [] A [] C (((A.length:Int)-0).toNat+2) rfl h.symm rfl (by omega) (by simpa using hb);simpa using this
theorem ZNN(m:Nat):∀(s:Nat)(P X Y Q:Prs)(fu:Nat),X.length+Y.length<=s->0<X.length->0<Y.length->m=P.length+X.length->P.length+X.length+Y.length+Q.length<=1000000->s+1<=fu ->
  ZbE (m:Int) fu (X.length:Int) (Y.length:Int) (P++(X++(Y++Q)))=some (P++(Y++(X++Q))):=by
 intro s;induction s with
 |zero=>intro P X Y Q fu i b;omega
 |succ s ih=>
  intro P X Y Q fu i b p j hb r;obtain⟨fu,rfl⟩:=sC fu;unfold ZbE;have f:Zay (m:Int) (X.length:Int)=(P.length:Int):=by rw[Zbi (by omega) (by omega)];omega
  by_cases g:X.length=Y.length
  .have d:((X.length:Int) != (Y.length:Int))=false:=by rw[g];simp
   rw[d,cond_false,f];have:=ZDV P X [] Y Q g (by simp;omega) (P.length:Int) (m:Int) (X.length:Int) rfl (by simp[j]) rfl;simp only[List.nil_append]at this;rw[this];rfl
  .have d:((X.length:Int) != (Y.length:Int))=true:=by rw[bne_iff_ne];omega
   rw[d,cond_true,Zad,f];by_cases t:Y.length<X.length
   .obtain⟨X1,X2,rfl,hx⟩ : ∃X1 X2,X=X1++X2/\X1.length=Y.length:=⟨X.take Y.length,X.drop Y.length,(List.take_append_drop ..).symm,by simp;omega⟩;simp only[List.length_append]at *
    have e:Zay ((X1.length+X2.length:Nat):Int) (Y.length:Int)=(X2.length:Int):=by rw[Zbi (by omega) (by omega)];omega
    rw[iNb,e];have:=ZDV P X1 X2 Y Q hx (by omega) (P.length:Int) (m:Int) (Y.length:Int) rfl (by omega) (by omega);simp only[List.append_assoc]at this ⊢;rw[this,Zan];have b:=ih (P++Y) X2 X1 Q fu (by omega) (by omega) (by omega) (by simp;omega) (by simp;omega) (by omega);simp only[List.append_assoc,hx]at b;exact b
   .obtain⟨Y1,Y2,rfl,h⟩ : ∃Y1 Y2,Y=Y1++Y2/\Y2.length=X.length:=⟨Y.take (Y.length-X.length),Y.drop (Y.length-X.length),(List.take_append_drop ..).symm,by simp;omega⟩;simp only[List.length_append]at *
    have e:Zay ((Y1.length+Y2.length:Nat):Int) (X.length:Int)=(Y1.length:Int):=by rw[Zbi (by omega) (by omega)];omega
    have n:Zam (m:Int) ((Y1.length+Y2.length:Nat):Int)=((m+Y1.length+Y2.length:Nat):Int):=by rw[Zbb (by omega) (by omega)];omega
    have o:Zay ((m+Y1.length+Y2.length:Nat):Int) (X.length:Int)=((P.length+X.length+Y1.length:Nat):Int):=by rw[Zbi (by omega) (by omega)];omega
    rw[iNa,e,n,o];have:=ZDV P X Y1 Y2 Q h.symm (by omega) (P.length:Int) ((P.length+X.length+Y1.length:Nat):Int) (X.length:Int) rfl rfl rfl;simp only[List.append_assoc]at this ⊢;rw[this,Zan];have b:=ih P Y2 Y1 (X++Q) fu (by omega) (by omega) (by omega) (by omega) (by simp;omega) (by omega);simp only[List.append_assoc,h]at b;exact b
theorem ZRA(P X Y Q:Prs)(d:0<X.length)(e:0<Y.length)(hb:P.length+X.length+Y.length+Q.length<=900000)(a m b:Int)(f:a=(P.length:Int))(g:m=((P.length+X.length:Nat):Int))(gC:b=((P.length+X.length+Y.length:Nat):Int)) :
  Zcn (P++(X++(Y++Q))) a m b=some (P++(Y++(X++Q))):=by
 subst f g gC;unfold Zcn;have h:Zay ((P.length+X.length:Nat):Int) (P.length:Int)=(X.length:Int):=by rw[Zbi (by omega) (by omega)];omega
 have i:Zay ((P.length+X.length+Y.length:Nat):Int) ((P.length+X.length:Nat):Int)=(Y.length:Int):=by rw[Zbi (by omega) (by omega)];omega
 rw[h,i];exact ZNN _ (X.length+Y.length) P X Y Q 1000000 (Nat.le_refl _) d e rfl (by omega) (by omega)
end Go.Proofs.YtlpdogaifdeomaaGreat
