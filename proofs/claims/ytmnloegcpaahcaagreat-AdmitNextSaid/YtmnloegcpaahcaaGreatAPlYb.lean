import Derived.Test.YtmnloegcpaahcaaGreatAPlXb
import Derived.Test.YtmnloegcpaahcaaGreatAPlG
namespace Go.Proofs.YtmnloegcpaahcaaGreat
set_option linter.unusedSectionVars false
set_option linter.unusedVariables false
set_option linter.unusedSimpArgs false
theorem ZGY(p:Zaa)(s:Int):ZdX s (grp p.fEnd.fAddr)=some (keyZ s p):=by
 obtain⟨m,h1,h2,_⟩:=ZzM s (grp p.fEnd.fAddr);unfold keyZ;rw[h1,h2];rfl
theorem ZGl(a b:Int)(p q:Zaa):ZcG a b p q=some (decide (a<b\/(a=b/\cmpE p.fEnd q.fEnd<0))):=by
 unfold ZcG;rw[ZAY,ZaL];by_cases h:a=b
 .subst h;have e:(a != a)=false:=by simp
  rw[e,cond_false];congr 1;rw[decide_eq_decide];constructor
  .intro h;exact .inr ⟨rfl,h⟩
  .rintro (h|⟨_,h⟩)
   .omega
   .exact h
 .have e:(a != b)=true:=by rw[bne_iff_ne];exact h
  rw[e,cond_true];congr 1;rw[decide_eq_decide];constructor
  .intro h;exact .inl h
  .rintro (h1|⟨h1,_⟩)
   .exact h1
   .exact absurd h1 h
theorem ZDC(p q:Zaa)(b s:Int)(hp:p.fEnd.fAddr.ok)(hq:q.fEnd.fAddr.ok)(hb:1<=b/\b<=4):ZfK p q b s=some (decide (Zpu b s p q<0)):=by
 have hd:decide (Zpu b s p q<0)=decide (kv b s p<kv b s q\/(kv b s p=kv b s q/\cmpE p.fEnd q.fEnd<0)):=by rw[decide_eq_decide];exact Zta
 rw[hd];unfold ZfK;simp only[ZAX _ hp,ZAX _ hq,ZaL,ZGY,ZGl,ZjF];by_cases h1:b=1
 .subst h1;simp only[if_true,kv];by_cases h:keyZ s p=keyZ s q
  .have e:(keyZ s p != keyZ s q)=false:=by rw[h];simp
   rw[e,cond_false];congr 1;rw[decide_eq_decide];constructor
   .rintro (h2|⟨_,h2⟩)
    .omega
    .exact .inr ⟨by omega,h2⟩
   .rintro (h2|⟨_,h2⟩)
    .omega
    .exact .inr ⟨by trivial,h2⟩
  .have e:(keyZ s p != keyZ s q)=true:=by rw[bne_iff_ne];exact h
   rw[e,cond_true];congr 1;rw[decide_eq_decide];constructor
   .intro h2;left;omega
   .rintro (h2|⟨h2,_⟩)<;>omega
 .by_cases h2:b=2
  .subst h2;simp[kv]
  .by_cases h3:b=3
   .subst h3;simp only[kv,if_neg h1,if_neg h2,if_true];congr 1;rw[decide_eq_decide];constructor
    .rintro (h4|⟨h4,h5⟩)
     .left;omega
     .right;exact⟨by omega,h5⟩
    .rintro (h4|⟨h4,h5⟩)
     .left;omega
     .right;exact⟨by omega,h5⟩
   .obtain rfl:b=4:=by omega
    simp[kv]
def unJ(w:List Bool)(i:Nat):Ins:=(upto i).filter fun j=>!(w.getD j.toNat false)
def ZrK(K:Cx):Ins->Int | []=>-1|b :: r=>bstJ K b r
theorem ZEV{K:Cx}(C:Ins)(y:Int):ZrK K (C++[y])=if C=[]then y else if ltJ K y (ZrK K C)=true then y else ZrK K C:=by
 cases C with
 |nil=>simp[ZrK,bstJ]
 |cons b r=>
  rw[if_neg (by simp)];exact Zxj y r b
theorem ZuI{K:Cx}{C:Ins}(h:C≠[]):ZrK K C∈C:=by
 cases C with
 |nil=>exact absurd rfl h
 |cons b r=>exact Zxi r b
theorem ZAN(w:List Bool)(i:Nat):unJ w (i+1)=unJ w i++if w.getD i false=true then[]else[(i:Int)]:=by
 unfold unJ;rw[ZqO,List.filter_append];congr 1;cases h:w.getD i false with
 |false=>simp only[List.filter_cons,Int.toNat_natCast,h,Bool.not_false,if_true,List.filter_nil,Bool.false_eq_true,if_false]
 |true=>simp only[List.filter_cons,Int.toNat_natCast,h,Bool.not_true,Bool.false_eq_true,if_false,List.filter_nil,if_true]
theorem Zzn{w:List Bool}{i:Nat}{x:Int}(h:x∈unJ w i):0<=x/\x<(i:Int)/\w.getD x.toNat false=false:=by
 obtain⟨h1,h2⟩:=List.mem_filter.1 h;have:=Zjt.1 h1;exact⟨this.1,this.2,by simpa using h2⟩
theorem ZDe(w:List Bool)(i:Nat):(unJ w i).Nodup:=(Znn i).sublist List.filter_sublist
theorem ZGN(w:List Bool)(n:Nat)(m:Int)(h0:0<=m)(hm:m<(w.length:Int)):unJ (w.set m.toNat true) n=(unJ w n).filter fun x=>x != m:=by
 unfold unJ;rw[List.filter_filter];refine List.filter_congr fun x hx=>?_;obtain⟨x1,x2⟩:=Zjt.1 hx;simp only[List.getD_eq_getElem?_getD,List.getElem?_set];by_cases h:m=x
 .subst h;rw[if_pos rfl,if_pos (by omega)];simp
 .rw[if_neg (by omega)];have:(x != m)=true:=by rw[bne_iff_ne];omega
  rw[this,Bool.true_and]
theorem ZAB(l:List Zaa)(b:Int)(X:Ins)(p:Int->Bool):Zgv l b (X.filter p)=(Zgv l b X).filter p:=by
 unfold Zgv;rw[List.filter_filter,List.filter_filter];exact List.filter_congr fun y _=>Bool.and_comm _ _
section
variable {l:List Zaa} (hl:l.length<=800) (ho:okPs l) {s:Int} {q:Zay}
include hl ho
theorem ZFo(b:Int)(hb:1<=b/\b<=4)(v9:Int)(k0:Int->List Bool->Zay->Option (List Bool))(k1:Int->List Bool->Option (List Bool))(w:List Bool)(hw:w.length=l.length):∀(k i fu:Nat),l.length-i=k->i<=l.length->k+1<=fu ->
  Zbz l s b q v9 k0 k1 fu (ZrK ⟨l,b,s⟩ (Zgv l b (unJ w i))) (i:Int) w=if Zgv l b (unJ w l.length)=[]then k1 (Zar v9 1) w else k1 (Zar v9 1) (w.set (ZrK ⟨l,b,s⟩ (Zgv l b (unJ w l.length))).toNat true):=by
 intro k;induction k with
 |zero=>
  intro i fu hk hi hf;obtain⟨fu,rfl⟩ : ∃x,fu=x+1:=⟨fu-1,by omega⟩;obtain rfl:i=l.length:=by omega
  unfold Zbz;rw[Zai,if_neg (by omega),Zai];by_cases hC:Zgv l b (unJ w l.length)=[]
  .rw[if_pos hC,hC];rw[if_neg (by simp[ZrK])]
  .have hm:=ZuI (K:=⟨l,b,s⟩) hC;obtain⟨m1,m2,_⟩:=Zzn (List.mem_filter.1 hm).1;rw[if_neg hC,if_pos (by omega),Zax (by rw[hw];omega)]
 |succ k ih=>
  intro i fu hk hi hf;obtain⟨fu,rfl⟩ : ∃x,fu=x+1:=⟨fu-1,by omega⟩;have e1:Zar (i:Int) 1=((i+1:Nat):Int):=add1 (n:=i+1) (by omega) (by simp only[maxLen];omega);have bi:=ih (i+1) fu (by omega) (by omega) (by omega);rw[ZAN,ZBI]at bi;unfold Zbz;rw[Zai,if_pos (by omega),Zax (by rw[hw];omega),e1];simp only[Int.toNat_natCast];cases hwi:w.getD i false with
  |true=>
   rw[hwi,if_pos rfl]at bi;have:Zgv l b []=[]:=rfl;rw[this,List.append_nil]at bi;rw[Bool.not_true,cond_false];exact bi
  |false=>
   rw[hwi,if_neg (by decide)]at bi;rw[Bool.not_false,cond_true,Zax (by omega),ZCf,ZaL];cases hc:cntB b (l.getD i Zaa.d)with
   |false=>
    have:Zgv l b [(i:Int)]=[]:=by simp only[Zgv,gP,Int.toNat_natCast,List.filter_cons,hc,Bool.false_eq_true,if_false,List.filter_nil]
    rw[this,List.append_nil]at bi;rw[cond_false];exact bi
   |true=>
    have:Zgv l b [(i:Int)]=[(i:Int)]:=by simp only[Zgv,gP,Int.toNat_natCast,List.filter_cons,hc,if_true,List.filter_nil]
    rw[this,ZEV]at bi;rw[cond_true,Zai];by_cases hC:Zgv l b (unJ w i)=[]
    .rw[if_pos hC]at bi;rw[hC,if_pos (by simp[ZrK])];exact bi
    .have hm:=ZuI (K:=⟨l,b,s⟩) hC;obtain⟨m1,m2,_⟩:=Zzn (List.mem_filter.1 hm).1;rw[if_neg hC]at bi;rw[if_neg (by omega),Zax (by omega),ZDC _ _ _ _ (by rw[ZdM l _ i (by omega)];exact ho _ (List.getElem_mem _)) (by rw[ZdM l _ _ (by omega)];exact ho _ (List.getElem_mem _)) hb,ZaL];have e:decide (Zpu b s (l.getD i Zaa.d) (l.getD (ZrK ⟨l,b,s⟩ (Zgv l b (unJ w i))).toNat Zaa.d)<0)=ltJ ⟨l,b,s⟩ (i:Int) (ZrK ⟨l,b,s⟩ (Zgv l b (unJ w i))):=rfl;rw[e];cases hlt:ltJ ⟨l,b,s⟩ (i:Int) (ZrK ⟨l,b,s⟩ (Zgv l b (unJ w i)))with
     |true=>rw[hlt,if_pos rfl]at bi;rw[cond_true];exact bi
     |false=>rw[hlt,if_neg (by decide)]at bi;rw[cond_false];exact bi
theorem ZFp(b n:Int)(hb:1<=b/\b<=4)(hn:ZcO q b=some n)(k0:Int->List Bool->Zay->Option (List Bool)):∀(r v9 fu:Nat)(w:List Bool),(if n<(l.length:Int)then n.toNat else l.length)-v9=r->v9<=l.length->r+1<=fu->w.length=l.length ->
  ∃w',w'.length=l.length/\unJ w' l.length=(unJ w l.length).filter (fun i=>!decide (i∈selN ⟨l,b,s⟩ r (Zgv l b (unJ w l.length))))/\ZbH l s b q k0 fu (v9:Int) w=k0 (Zar b 1) w' q:=by
 intro r;induction r with
 |zero=>
  intro v9 fu w hr hv hf hw;obtain⟨fu,rfl⟩ : ∃x,fu=x+1:=⟨fu-1,by omega⟩;refine⟨w,hw,by simp only[selN];exact(List.filter_eq_self.2 fun x _=>by simp).symm,?_⟩;unfold ZbH;rw[hn,ZaL,Zai,Zai];by_cases h1:(v9:Int)<n
  .rw[if_pos h1];by_cases h2:(v9:Int)<(l.length:Int)
   .exfalso;split at hr<;>omega
   .rw[if_neg h2]
  .rw[if_neg h1]
 |succ r ih=>
  intro v9 fu w hr hv hf hw;obtain⟨fu,rfl⟩ : ∃x,fu=x+1:=⟨fu-1,by omega⟩;have h2:v9<l.length/\(v9:Int)<n:=by split at hr<;>omega
  have e1:Zar (v9:Int) 1=((v9+1:Nat):Int):=add1 (n:=v9+1) (by omega) (by simp only[maxLen];omega);unfold ZbH;have hc2:=ZFo hl ho (s:=s) (q:=q) b hb (v9:Int) k0 (ZbH l s b q k0 fu) w hw l.length 0 ((((l.length:Nat):Int)-(0:Int)).toNat+2) (by omega) (by omega) (by omega);have lg:Zbz l s b q (v9:Int) k0 (ZbH l s b q k0 fu) ((((l.length:Nat):Int)-(0:Int)).toNat+2) (-1) 0 w=_:=hc2;rw[hn,ZaL,Zai,if_pos h2.2,Zai,if_pos (by omega),lg,e1];by_cases hC:Zgv l b (unJ w l.length)=[]
  .rw[if_pos hC];obtain⟨w',a1,a2,a3⟩:=ih (v9+1) fu w (by omega) (by omega) (by omega) hw;refine⟨w',a1,?_,a3⟩;rw[a2,hC];cases r<;>rfl
  .have hm:=ZuI (K:=⟨l,b,s⟩) hC;obtain⟨m1,m2,_⟩:=Zzn (List.mem_filter.1 hm).1;rw[if_neg hC];obtain⟨w',a1,a2,a3⟩:=ih (v9+1) fu (w.set (ZrK ⟨l,b,s⟩ (Zgv l b (unJ w l.length))).toNat true) (by omega) (by omega) (by omega) (by simpa using hw);refine⟨w',a1,?_,a3⟩;rw[a2,ZGN w _ _ m1 (by rw[hw];exact m2)];cases hCC:Zgv l b (unJ w l.length)with
   |nil=>exact absurd hCC hC
   |cons x X=>
    have bo:ZrK ⟨l,b,s⟩ (x :: X)=bstJ ⟨l,b,s⟩ x X:=rfl;rw[ZAB,hCC,bo,List.filter_filter,selN];refine List.filter_congr fun y _=>?_;by_cases hy:y=bstJ ⟨l,b,s⟩ x X
    .rw[hy];simp
    .have:(y != bstJ ⟨l,b,s⟩ x X)=true:=by rw[bne_iff_ne];exact hy
     rw[this,Bool.and_true];congr 1;rw[decide_eq_decide,List.mem_cons];constructor
     .exact .inr
     .rintro (h|h)
      .exact absurd h hy
      .exact h
theorem ZpI(b n:Int)(hb:1<=b/\b<=4)(hn:ZcO q b=some n)(k0:Int->List Bool->Zay->Option (List Bool))(w:List Bool)(hw:w.length=l.length) :
  ∃w',w'.length=l.length/\unJ w' l.length=Zno l s b n (unJ w l.length)/\ZbH l s b q k0 ((((l.length:Nat):Int)-(0:Int)).toNat+2) 0 w=k0 (Zar b 1) w' q:=by
 obtain⟨w',a1,a2,a3⟩:=ZFp hl ho (s:=s) b n hb hn k0 _ 0 ((((l.length:Nat):Int)-(0:Int)).toNat+2) w rfl (by omega) (by split<;>omega) hw;refine⟨w',a1,?_,a3⟩;have gf:(Zgv l b (unJ w l.length)).Nodup:=(ZDe w _).sublist List.filter_sublist;have hlen:(ZbW ⟨l,b,s⟩ (Zgv l b (unJ w l.length))).length<=l.length:=by
  rw[Zgw];have h1:=Ztf l b (unJ w l.length);have h2:(unJ w l.length).length<=l.length:=by
   have:=List.length_filter_le (fun j:Int=>!(w.getD j.toNat false)) (upto l.length);rw[ZmH]at this;exact this
  omega
 rw[a2,ZAR _ _ gf];unfold Zno;have:(ZbW ⟨l,b,s⟩ (Zgv l b (unJ w l.length))).take ((if n<(l.length:Int)then n.toNat else l.length)-0)=(ZbW ⟨l,b,s⟩ (Zgv l b (unJ w l.length))).take n.toNat:=by
  by_cases h:n<(l.length:Int)
  .rw[if_pos h];rfl
  .rw[if_neg h,List.take_of_length_le (by omega),List.take_of_length_le (by omega)]
 rw[this]
theorem ZDz:∃w,ZeP l q s=some w/\w.length=l.length/\unJ w l.length=ZwM l q s:=by
 have q1:ZcO q 1=some q.fGroup:=rfl;have q2:ZcO q 2=some q.fPing:=rfl;have q3:ZcO q 3=some q.fWork:=rfl;have q4:ZcO q 4=some q.fTime:=rfl;have w0:(List.replicate ((l.length:Nat):Int).toNat false).length=l.length:=by simp
 have u0:unJ (List.replicate ((l.length:Nat):Int).toNat false) l.length=upto l.length:=by
  unfold unJ;refine List.filter_eq_self.2 fun x hx=>?_;obtain⟨x1,x2⟩:=Zjt.1 hx;have:x.toNat<l.length:=by omega
  simp[List.getD_eq_getElem?_getD,this]
 obtain⟨w1,a1,b1,c1⟩:=ZpI hl ho (s:=s) 1 _ (by omega) q1 (ZaP l s 4) _ w0;obtain⟨w2,a2,b2,c2⟩:=ZpI hl ho (s:=s) 2 _ (by omega) q2 (ZaP l s 3) w1 a1;obtain⟨w3,a3,b3,c3⟩:=ZpI hl ho (s:=s) 3 _ (by omega) q3 (ZaP l s 2) w2 a2;obtain⟨w4,a4,b4,c4⟩:=ZpI hl ho (s:=s) 4 _ (by omega) q4 (ZaP l s 1) w3 a3;refine⟨w4,?_,a4,by rw[b4,b3,b2,b1,u0];rfl⟩;have d1:ZaP l s 5 1 (List.replicate ((l.length:Nat):Int).toNat false) q=ZaP l s 4 2 w1 q:=c1;have d2:ZaP l s 4 2 w1 q=ZaP l s 3 3 w2 q:=c2;have d3:ZaP l s 3 3 w2 q=ZaP l s 2 4 w3 q:=c3;have d4:ZaP l s 2 4 w3 q=ZaP l s 1 5 w4 q:=c4;unfold ZeP;rw[Zax (by omega)];have f:(((4:Int)-(1:Int)).toNat+2)=5:=rfl;rw[f,d1,d2,d3,d4];rfl
end
def Zjs(l:List Zaa):List Zaa:=l.filter fun p=>p.fIn
def Zqr(l:List Zaa)(q:Zay)(s:Int):List Zaa:=(ZwM (Zjs l) q s).map (gP (Zjs l))
theorem ZyS(l:List Zaa)(i:Nat)(h:i<l.length):Zjs (l.take (i+1))=Zjs (l.take i)++if l[i].fIn=true then[l[i]]else[]:=by
 unfold Zjs;rw[List.take_succ_eq_append_getElem h,List.filter_append];congr 1;cases h:l[i].fIn<;>simp[h]
theorem ZuD(l:List Zaa):(Zjs l).length<=l.length:=List.length_filter_le ..
theorem ZCB(l:List Zaa)(hl:l.length<=100000):ZjN l=some (Zjs l):=by
 have az:∀(k i fu:Nat),l.length-i=k->i<=l.length->k+1<=fu->ZeB fu l (l.length:Int) (i:Int) (Zjs (l.take i))=some (Zjs l):=by
  intro k;induction k with
  |zero=>
   intro i fu hk hi hf;obtain⟨fu,rfl⟩ : ∃x,fu=x+1:=⟨fu-1,by omega⟩;unfold ZeB;rw[Zai,if_neg (by omega),List.take_of_length_le (by omega)]
  |succ k ih=>
   intro i fu hk hi hf;obtain⟨fu,rfl⟩ : ∃x,fu=x+1:=⟨fu-1,by omega⟩;unfold ZeB;have bm:i<l.length:=by omega
   have e1:Zar (i:Int) 1=((i+1:Nat):Int):=add1 (n:=i+1) (by omega) (by simp only[maxLen];omega);have hc:=ZuD (l.take i);simp only[List.length_take]at hc;have bi:=ih (i+1) fu (by omega) (by omega) (by omega);rw[ZyS l i bm]at bi;have hg:l.getD ((i:Int)).toNat Zaa.d=l[i]:=ZdM l _ i bm;rw[Zai,if_pos (by omega),Zax (by omega),hg,e1];cases hin:l[i].fIn with
   |true=>
    rw[hin,if_pos rfl]at bi;rw[cond_true,Zax (by simp only[List.length_append,List.length_singleton,maxLen];omega)];exact bi
   |false=>
    rw[hin,if_neg (by decide),List.append_nil]at bi;rw[cond_false];exact bi
 unfold ZjN;exact az l.length 0 _ (by omega) (by omega) (by omega)
theorem ZFE(l:List Zaa)(hl:l.length<=100000):Zfk l=some (Zjs l):=by
 have az:∀(k i fu:Nat),l.length-i=k->i<=l.length->k+1<=fu->Zcr l fu (i:Int) (Zjs (l.take i))=some (Zjs l):=by
  intro k;induction k with
  |zero=>
   intro i fu hk hi hf;obtain⟨fu,rfl⟩ : ∃x,fu=x+1:=⟨fu-1,by omega⟩;unfold Zcr;rw[Zai,if_neg (by omega),List.take_of_length_le (by omega)]
  |succ k ih=>
   intro i fu hk hi hf;obtain⟨fu,rfl⟩ : ∃x,fu=x+1:=⟨fu-1,by omega⟩;unfold Zcr;have bm:i<l.length:=by omega
   have e1:Zar (i:Int) 1=((i+1:Nat):Int):=add1 (n:=i+1) (by omega) (by simp only[maxLen];omega);have hc:=ZuD (l.take i);simp only[List.length_take]at hc;have bi:=ih (i+1) fu (by omega) (by omega) (by omega);rw[ZyS l i bm]at bi;have hg:l.getD ((i:Int)).toNat Zaa.d=l[i]:=ZdM l _ i bm;rw[Zai,if_pos (by omega),Zax (by omega),hg,e1];cases hin:l[i].fIn with
   |true=>
    rw[hin,if_pos rfl]at bi;rw[cond_true,Zax (by simp only[List.length_append,List.length_singleton,maxLen];omega)];exact bi
   |false=>
    rw[hin,if_neg (by decide),List.append_nil]at bi;rw[cond_false];exact bi
 unfold Zfk;exact az l.length 0 _ (by omega) (by omega) (by omega)
theorem ZDT(l:List Zaa)(q:Zay)(s:Int):inL l (ZwM l q s):=ZmT (ZmT (ZmT (ZmT fun i hi=>Zjt.1 hi)))
theorem ZBp(l:List Zaa)(q:Zay)(s:Int):(ZwM l q s).length<=l.length:=by
 have h1:=Zoa l s 1 q.fGroup (upto l.length);have h2:=Zoa l s 2 q.fPing (Zno l s 1 q.fGroup (upto l.length));have h3:=Zoa l s 3 q.fWork (Zno l s 2 q.fPing (Zno l s 1 q.fGroup (upto l.length)));have h4:=Zoa l s 4 q.fTime (Zno l s 3 q.fWork (Zno l s 2 q.fPing (Zno l s 1 q.fGroup (upto l.length))));rw[ZmH]at h1;unfold ZwM;omega
theorem Zye{l:List Zaa}(h:okPs l):okPs (Zjs l):=fun p hp=>h p (List.mem_filter.1 hp).1
theorem ZzV(l:List Zaa)(q:Zay)(s:Int)(hl:l.length<=800)(ho:okPs l):Zfz l q s=some (Zqr l q s):=by
 have hc:=ZuD l;have hi:=ZDT (Zjs l) q s;have hle:=ZBp (Zjs l) q s;unfold Zfz Zqr;rw[ZCB l (by omega),ZaL,Zzw _ q s (by omega) (Zye ho),ZaL];obtain⟨A,hA⟩ : ∃A,A=ZwM (Zjs l) q s:=⟨_,rfl⟩;rw[<-hA]at hi hle ⊢;have az:∀(k i fu:Nat),A.length-i=k->i<=A.length->k+1<=fu->ZcU fu (Zjs l) A (A.length:Int) (i:Int) ((A.take i).map (gP (Zjs l)))=some (A.map (gP (Zjs l))):=by
  intro k;induction k with
  |zero=>
   intro i fu hk hi hf;obtain⟨fu,rfl⟩ : ∃x,fu=x+1:=⟨fu-1,by omega⟩;unfold ZcU;rw[Zai,if_neg (by omega),List.take_of_length_le (by omega)]
  |succ k ih=>
   intro i fu hk cr hf;obtain⟨fu,rfl⟩ : ∃x,fu=x+1:=⟨fu-1,by omega⟩;unfold ZcU;have bm:i<A.length:=by omega
   have e1:Zar (i:Int) 1=((i+1:Nat):Int):=add1 (n:=i+1) (by omega) (by simp only[maxLen];omega);have hm:=hi _ (List.getElem_mem bm);have hg:A.getD ((i:Int)).toNat 0=A[i]:=ZdM A 0 i bm;have hlt:((A.take i).map (gP (Zjs l))).length=i:=by simp;omega
   rw[Zai,if_pos (by omega),Zax (by omega),hg,Zax hm,Zax (by simp only[List.length_append,hlt,List.length_singleton,maxLen];omega),e1];have:=ih (i+1) fu (by omega) (by omega) (by omega);rw[List.take_succ_eq_append_getElem bm,List.map_append,List.map_singleton]at this;exact this
 exact az A.length 0 _ (by omega) (by omega) (by omega)
theorem ZDB(l:List Zaa)(q:Zay)(s:Int)(hl:l.length<=800)(ho:okPs l):Zdi l q s=some (Zqr l q s):=by
 have hc:=ZuD l;unfold Zdi Zqr;obtain⟨w,h1,h2,h3⟩:=ZDz (l:=Zjs l) (q:=q) (s:=s) (by omega) (Zye ho);rw[ZFE l (by omega),ZaL,h1,ZaL,<-h3];have az:∀(k i fu:Nat),(Zjs l).length-i=k->i<=(Zjs l).length->k+1<=fu->ZbM fu (Zjs l) w (i:Int) ((unJ w i).map (gP (Zjs l)))=some ((unJ w (Zjs l).length).map (gP (Zjs l))):=by
  intro k;induction k with
  |zero=>
   intro i fu hk hi hf;obtain⟨fu,rfl⟩ : ∃x,fu=x+1:=⟨fu-1,by omega⟩;obtain rfl:i=(Zjs l).length:=by omega
   unfold ZbM;rw[Zai,if_neg (by omega)]
  |succ k ih=>
   intro i fu hk hi hf;obtain⟨fu,rfl⟩ : ∃x,fu=x+1:=⟨fu-1,by omega⟩;unfold ZbM;have e1:Zar (i:Int) 1=((i+1:Nat):Int):=add1 (n:=i+1) (by omega) (by simp only[maxLen];omega);have hu:(unJ w i).length<=i:=by
    have:=List.length_filter_le (fun j:Int=>!(w.getD j.toNat false)) (upto i);rw[ZmH]at this;exact this
   have bi:=ih (i+1) fu (by omega) (by omega) (by omega);rw[ZAN,List.map_append]at bi;rw[Zai,if_pos (by omega),Zax (by rw[h2];omega),e1];simp only[Int.toNat_natCast];cases hw:w.getD i false with
   |true=>
    rw[hw,if_pos rfl,List.map_nil,List.append_nil]at bi;rw[Bool.not_true,cond_false];exact bi
   |false=>
    rw[hw,if_neg (by decide)]at bi;rw[Bool.not_false,cond_true,Zax (by omega),Zax (by simp only[List.length_append,List.length_map,List.length_singleton,maxLen];omega)];exact bi
 exact az (Zjs l).length 0 _ (by omega) (by omega) (by omega)
def grpP(p:Zaa):Zap:=grp p.fEnd.fAddr
def Zgo(l:List Zaa)(g:Zap):Nat:=(l.filter fun p=>decide (grpP p=g)).length
theorem Zyg{κ ν:Type}[DecidableEq κ](k g:κ)(v z:ν):∀l:List (κ×ν),mget (mput l k v) g z=if k=g then v else mget l g z
 | []=>by
  simp only[mput,mget]
 |p :: r=>by
  simp only[mput]
  by_cases h:p.1=k
  .rw[if_pos h]
   simp only[mget]
   by_cases h2:k=g
   .simp[h2]
   .rw[if_neg h2,if_neg h2,if_neg (by rw[h];exact h2)]
  .rw[if_neg h]
   simp only[mget]
   rw[Zyg k g v z r]
   by_cases h2:p.1=g
   .rw[if_pos h2,if_pos h2,if_neg (by rintro rfl;exact h h2)]
   .rw[if_neg h2,if_neg h2]
theorem ZvY(l:List Zaa)(i:Nat)(h:i<l.length)(g:Zap):Zgo (l.take (i+1)) g=Zgo (l.take i) g+if grpP l[i]=g then 1 else 0:=by
 unfold Zgo;rw[List.take_succ_eq_append_getElem h,List.filter_append,List.length_append];congr 1;by_cases h:grpP l[i]=g<;>simp[h]
theorem ZBG(l:List Zaa)(g:Zap):Zgo l g<=l.length:=List.length_filter_le ..
theorem ZwC{l:List Zaa}(h:okPs l){i:Nat}(hi:i<l.length):(l.getD i Zaa.d).fEnd.fAddr.ok:=by rw[ZdM l _ i hi];exact h _ (List.getElem_mem hi)
theorem ZAy(l:List Zaa)(hl:l.length<=800)(ho:okPs l):∃m,Zkr l=some m/\∀g,mget m g 0=(Zgo l g:Int):=by
 have az:∀(k i fu:Nat)(m:List (Zap×Int)),l.length-i=k->i<=l.length->k+1<=fu->(∀g,mget m g 0=(Zgo (l.take i) g:Int))->∃m',ZeV fu l (l.length:Int) (i:Int) m=some m'/\∀g,mget m' g 0=(Zgo l g:Int):=by
  intro k;induction k with
  |zero=>
   intro i fu m hk hi hf hm;obtain⟨fu,rfl⟩ : ∃x,fu=x+1:=⟨fu-1,by omega⟩;unfold ZeV;rw[List.take_of_length_le (by omega)]at hm;exact⟨m,by rw[Zai,if_neg (by omega)],hm⟩
  |succ k ih=>
   intro i fu m hk hi hf hm;obtain⟨fu,rfl⟩ : ∃x,fu=x+1:=⟨fu-1,by omega⟩;unfold ZeV;have bm:i<l.length:=by omega
   have e1:Zar (i:Int) 1=((i+1:Nat):Int):=add1 (n:=i+1) (by omega) (by simp only[maxLen];omega);have hg:l.getD ((i:Int)).toNat Zaa.d=l[i]:=ZdM l _ i bm;have hc:=ZBG (l.take i) (grpP l[i]);simp only[List.length_take]at hc;rw[Zai,if_pos (by omega),Zax (by omega),hg,ZsZ _ (ho _ (List.getElem_mem bm)),ZaL,e1];refine ih (i+1) fu _ (by omega) (by omega) (by omega) fun g=>?_;rw[Zyg,ZvY l i bm,hm g];have bG:grp l[i].fEnd.fAddr=grpP l[i]:=rfl;rw[bG,hm (grpP l[i])];by_cases h:grpP l[i]=g
   .subst h;rw[if_pos rfl,if_pos rfl,Zdg (by omega) (by omega)];omega
   .rw[if_neg h,if_neg h];omega
 unfold Zkr;exact az l.length 0 _ [] (by omega) (by omega) (by omega) (fun g=>by simp[mget,Zgo])
def gtX(l:List Zaa)(i j:Nat):Int:=orI (cmpI (Zgo l (grpP (l.getD i Zaa.d)):Int) (Zgo l (grpP (l.getD j Zaa.d)):Int)) (orI (cmpI (l.getD i Zaa.d).fSince (l.getD j Zaa.d).fSince) (cmpE (l.getD i Zaa.d).fEnd (l.getD j Zaa.d).fEnd))
theorem ZtX{l:List Zaa}{i j:Nat}:0<gtX l i j↔Zgo l (grpP (l.getD j Zaa.d))<Zgo l (grpP (l.getD i Zaa.d))\/(Zgo l (grpP (l.getD i Zaa.d))=Zgo l (grpP (l.getD j Zaa.d)) /\
  ((l.getD j Zaa.d).fSince<(l.getD i Zaa.d).fSince\/((l.getD i Zaa.d).fSince=(l.getD j Zaa.d).fSince/\0<cmpE (l.getD i Zaa.d).fEnd (l.getD j Zaa.d).fEnd))):=by
 unfold gtX;rw[ZBe,ZBe,Zxh,Zms,Zxh,Zms];omega
theorem ZEc{l:List Zaa}{i b k:Nat}(h1:0<gtX l i b)(h2:¬0<gtX l k b):0<gtX l i k:=by
 rw[ZtX]at *
 obtain⟨I,hI⟩ : ∃x,x=l.getD i Zaa.d:=⟨_,rfl⟩;obtain⟨B,hB⟩ : ∃x,x=l.getD b Zaa.d:=⟨_,rfl⟩;obtain⟨K,hK⟩ : ∃x,x=l.getD k Zaa.d:=⟨_,rfl⟩;rw[<-hI,<-hB]at h1;rw[<-hK,<-hB]at h2;rw[<-hI,<-hK];by_cases c1:Zgo l (grpP K)<Zgo l (grpP I)
 .exact .inl c1
 .have e2:Zgo l (grpP I)=Zgo l (grpP K)/\Zgo l (grpP B)=Zgo l (grpP K):=by
   rcases h1 with h1|⟨h1,_⟩
   .exact absurd (Or.inl (by omega)) h2
   .by_cases h3:Zgo l (grpP B)<Zgo l (grpP K)
    .exact absurd (Or.inl h3) h2
    .omega
  refine .inr ⟨e2.1,?_⟩;have h1':B.fSince<I.fSince\/(I.fSince=B.fSince/\0<cmpE I.fEnd B.fEnd):=by
   rcases h1 with h1|⟨_,h1⟩
   .omega
   .exact h1
  have gG:¬(B.fSince<K.fSince\/(K.fSince=B.fSince/\0<cmpE K.fEnd B.fEnd)):=fun h=>h2 (.inr ⟨by omega,h⟩);by_cases s1:K.fSince<I.fSince
  .exact .inl s1
  .have s2:I.fSince=K.fSince/\I.fSince=B.fSince:=by
    rcases h1' with h|⟨h,_⟩
    .exact absurd (Or.inl (by omega)) gG
    .by_cases s3:B.fSince<K.fSince
     .exact absurd (Or.inl s3) gG
     .omega
   refine .inr ⟨s2.1,?_⟩;have c2:0<cmpE I.fEnd B.fEnd:=by
    rcases h1' with h|⟨_,h⟩
    .omega
    .exact h
   have c3:¬0<cmpE K.fEnd B.fEnd:=fun h=>gG (.inr ⟨by omega,h⟩);have c2':=ZrJ.1 c2;rw[ZrJ];by_cases hz:cmpE K.fEnd B.fEnd=0
   .rw[ZpA.1 hz];exact c2'
   .exact Zso (show cmpE K.fEnd B.fEnd<0 by omega) c2'
theorem ZFY{l:List Zaa}{i k:Nat}(h1:0<gtX l i k):¬0<gtX l k i:=by
 intro h2;rw[ZtX]at h1 h2;rcases h1 with h|⟨g1,h|⟨g2,h⟩⟩<;>rcases h2 with h8|⟨g3,h8|⟨g4,h8⟩⟩<;>first|omega|skip
 have:=ZrJ.1 h;omega
theorem ZAx(p q:Zaa):Zkq p q=some (orI (cmpI p.fSince q.fSince) (cmpE p.fEnd q.fEnd)):=by
 unfold Zkq;simp only[ZuA,ZBB,or2,ZaL]
structure TopX (l:List Zaa) (n b:Nat):Prop where
 lt:b<n
 top:∀k,k<n->¬0<gtX l k b
 fst:∀k,k<b->0<gtX l b k
theorem ZvZ(l:List Zaa)(hl:l.length<=800)(ho:okPs l):∃b:Int,ZjP l=some b/\((l=[]/\b = -1)\/∃n:Nat,b=(n:Int)/\TopX l l.length n):=by
 obtain⟨m,hm,hg⟩:=ZAy l hl ho;have az:∀(k i fu:Nat)(b:Int),l.length-i=k->i<=l.length->k+1<=fu->((i=0/\b = -1)\/∃n:Nat,b=(n:Int)/\TopX l i n)->∃z:Int,Zef l fu b l (l.length:Int) (i:Int) m=some z/\((l.length=0/\z = -1)\/∃n:Nat,z=(n:Int)/\TopX l l.length n):=by
  intro k;induction k with
  |zero=>
   intro i fu b hk hi hf hb;obtain⟨fu,rfl⟩ : ∃x,fu=x+1:=⟨fu-1,by omega⟩;obtain rfl:i=l.length:=by omega
   unfold Zef;exact⟨b,by rw[Zai,if_neg (by omega)],hb⟩
  |succ k ih=>
   intro i fu b hk hi hf hb;obtain⟨fu,rfl⟩ : ∃x,fu=x+1:=⟨fu-1,by omega⟩;have bm:i<l.length:=by omega
   have e1:Zar (i:Int) 1=((i+1:Nat):Int):=add1 (n:=i+1) (by omega) (by simp only[maxLen];omega);unfold Zef;rw[Zai,if_pos (by omega),Zax (by omega),Zai,e1];rcases hb with⟨h0,rfl⟩|⟨n,rfl,ht⟩
   .subst h0;rw[if_pos (by omega)];refine ih 1 fu _ (by omega) (by omega) (by omega) (.inr ⟨0,rfl,by omega,fun k hk=>?_,fun k hk=>by omega⟩);obtain rfl:k=0:=by omega
    rw[ZtX];rintro (h|⟨_,h|⟨_,h⟩⟩)
    .omega
    .omega
    .rw[ZpA.2 rfl]at h;omega
   .have hn:=ht.lt;rw[if_neg (by omega),ZsZ _ (ZwC ho (by omega)),ZaL,Zax (by omega),ZsZ _ (ZwC ho (by omega)),ZaL,ZuA,ZaL,ZAx,ZaL,or2,ZaL];have e:orI (cmpI (mget m (grp (l.getD ((i:Int)).toNat Zaa.d).fEnd.fAddr) 0) (mget m (grp (l.getD ((n:Int)).toNat Zaa.d).fEnd.fAddr) 0)) (orI (cmpI (l.getD ((i:Int)).toNat Zaa.d).fSince (l.getD ((n:Int)).toNat Zaa.d).fSince) (cmpE (l.getD ((i:Int)).toNat Zaa.d).fEnd (l.getD ((n:Int)).toNat Zaa.d).fEnd))=gtX l i n:=by
     rw[hg,hg];rfl
    rw[e,Zai];by_cases h:gtX l i n>0
    .rw[if_pos h];refine ih (i+1) fu _ (by omega) (by omega) (by omega) (.inr ⟨i,rfl,by omega,fun k hk=>?_,fun k hk=>ZEc h (ht.top k hk)⟩);by_cases hki:k=i
     .subst hki;rw[ZtX];rintro (h|⟨_,h|⟨_,h⟩⟩)
      .omega
      .omega
      .rw[ZpA.2 rfl]at h;omega
     .exact ZFY (ZEc h (ht.top k (by omega)))
    .rw[if_neg h];refine ih (i+1) fu _ (by omega) (by omega) (by omega) (.inr ⟨n,rfl,by omega,fun k hk=>?_,ht.fst⟩);by_cases hki:k=i
     .subst hki;exact h
     .exact ht.top k (by omega)
 unfold ZjP;obtain⟨b',h1',gG⟩:=az l.length 0 ((((l.length:Nat):Int)-(0:Int)).toNat+2) (-1) (by omega) (by omega) (by omega) (.inl ⟨rfl,rfl⟩);refine⟨b',by rw[hm,ZaL];exact h1',?_⟩;rcases gG with⟨h,rfl⟩|h
 .exact .inl ⟨List.eq_nil_of_length_eq_zero h,rfl⟩
 .exact .inr h
theorem ZxO(l:List Zaa)(hl:l.length<=800)(ho:okPs l)(i:Nat)(hi:i<l.length):ZeO l (i:Int)=some (Zgo l (grpP (l.getD i Zaa.d)):Int):=by
 have az:∀(k j fu:Nat),l.length-j=k->j<=l.length->k+1<=fu->Zck l (i:Int) fu (Zgo (l.take j) (grpP (l.getD i Zaa.d)):Int) (j:Int)=some (Zgo l (grpP (l.getD i Zaa.d)):Int):=by
  intro k;induction k with
  |zero=>
   intro j fu hk hj hf;obtain⟨fu,rfl⟩ : ∃x,fu=x+1:=⟨fu-1,by omega⟩;unfold Zck;rw[Zai,if_neg (by omega),List.take_of_length_le (by omega)]
  |succ k ih=>
   intro j fu hk hj hf;obtain⟨fu,rfl⟩ : ∃x,fu=x+1:=⟨fu-1,by omega⟩;have hj2:j<l.length:=by omega
   have e1:Zar (j:Int) 1=((j+1:Nat):Int):=add1 (n:=j+1) (by omega) (by simp only[maxLen];omega);have hc:=ZBG (l.take j) (grpP (l.getD i Zaa.d));simp only[List.length_take]at hc;have hg:l.getD ((j:Int)).toNat Zaa.d=l[j]:=ZdM l _ j hj2;have bi:=ih (j+1) fu (by omega) (by omega) (by omega);rw[ZvY l j hj2]at bi;unfold Zck;rw[Zai,if_pos (by omega),Zax (by omega),hg,ZAX _ (ho _ (List.getElem_mem hj2)),ZaL,Zax (by omega),ZAX _ (ZwC ho (by omega)),ZaL,Zai,e1];have a1:grp l[j].fEnd.fAddr=grpP l[j]:=rfl;have a2:grp (l.getD ((i:Int)).toNat Zaa.d).fEnd.fAddr=grpP (l.getD i Zaa.d):=rfl;rw[a1,a2];by_cases h:grpP l[j]=grpP (l.getD i Zaa.d)
   .rw[if_pos h]at bi ⊢;have e2:Zar (Zgo (l.take j) (grpP (l.getD i Zaa.d)):Int) 1=((Zgo (l.take j) (grpP (l.getD i Zaa.d))+1:Nat):Int):=by rw[Zdg (by omega) (by omega)];omega
    rw[e2];exact bi
   .rw[if_neg h]at bi ⊢;exact bi
 unfold ZeO;rw[Zai,if_neg (by omega),Zai,if_neg (by omega)];exact az l.length 0 _ (by omega) (by omega) (by omega)
theorem Zzy(p q:Zaa):Zfd p q=some (decide (p.fSince>q.fSince\/(p.fSince=q.fSince/\0<cmpE p.fEnd q.fEnd))):=by
 unfold Zfd;rw[ZAY,ZaL];by_cases h:p.fSince=q.fSince
 .have e:(p.fSince != q.fSince)=false:=by rw[h];simp
  rw[e,cond_false];congr 1;rw[decide_eq_decide];omega
 .have e:(p.fSince != q.fSince)=true:=by rw[bne_iff_ne];exact h
  rw[e,cond_true];congr 1;rw[decide_eq_decide];omega
theorem Ztx(l:List Zaa)(hl:l.length<=800)(ho:okPs l)(i:Nat)(hi:i<l.length)(k0:Int->Option Int):∀(k j fu:Nat),l.length-j=k->j<=l.length->k+1<=fu->∀v:Bool,(v=true↔∀x,x<j->¬0<gtX l x i) ->
  ((∀x,x<l.length->¬0<gtX l x i)->Zbj l (i:Int) k0 fu v (j:Int)=some (i:Int))/\((∃x,x<l.length/\0<gtX l x i)->Zbj l (i:Int) k0 fu v (j:Int)=k0 (Zar (i:Int) 1)):=by
 intro k;induction k with
 |zero=>
  intro j fu hk hj hf v hv;obtain⟨fu,rfl⟩ : ∃x,fu=x+1:=⟨fu-1,by omega⟩;obtain rfl:j=l.length:=by omega
  unfold Zbj;rw[Zai,if_neg (by omega)];refine⟨fun h=>by rw[hv.2 h];rfl,fun⟨x,h1,h2⟩=>?_⟩;cases v with
  |false=>rfl
  |true=>exact absurd h2 (hv.1 rfl x h1)
 |succ k ih=>
  intro j fu hk hj hf v hv;obtain⟨fu,rfl⟩ : ∃x,fu=x+1:=⟨fu-1,by omega⟩;have e1:Zar (j:Int) 1=((j+1:Nat):Int):=add1 (n:=j+1) (by omega) (by simp only[maxLen];omega);have hb:∀b:Bool,(b=true↔∀x,x<j+1->¬0<gtX l x i)->Zbj l (i:Int) k0 (fu+1) v (j:Int)=Zbj l (i:Int) k0 fu b ((j+1:Nat):Int):=by
   intro b hb
   conv=>lhs;unfold Zbj
   rw[Zai,if_pos (by omega),ZxO l hl ho j (by omega),ZaL,ZxO l hl ho i hi,ZaL,e1];cases v with
   |false=>
    rw[cond_false];have:b=false:=by
     cases b with
     |false=>rfl
     |true=>
      have:=hv.2 fun x hx=>hb.1 rfl x (by omega);cases this
    rw[this]
   |true=>
    have cw:=hv.1 rfl;rw[cond_true,Zai,Zai];have hgt:=ZtX (l:=l) (i:=j) (j:=i);by_cases c1:(Zgo l (grpP (l.getD j Zaa.d)):Int)<=(Zgo l (grpP (l.getD i Zaa.d)):Int)
    .rw[if_pos c1];by_cases c2:(Zgo l (grpP (l.getD j Zaa.d)):Int)<(Zgo l (grpP (l.getD i Zaa.d)):Int)
     .rw[if_pos c2];have:b=true:=hb.2 fun x hx=>by
       by_cases hxj:x=j
       .subst hxj;rw[hgt];omega
       .exact cw x (by omega)
      rw[this]
     .rw[if_neg c2,Zax (by omega),Zax (by omega),Zzy,ZaL];simp only[Int.toNat_natCast];congr 1;rw[Bool.eq_iff_iff,hb,Bool.not_eq_true',decide_eq_false_iff_not];constructor
      .intro h x hx;by_cases hxj:x=j
       .subst hxj;rw[hgt];omega
       .exact cw x (by omega)
      .intro h;have:=h j (by omega);rw[hgt]at this;omega
    .rw[if_neg c1];have:b=false:=by
      cases b with
      |false=>rfl
      |true=>
       have:=hb.1 rfl j (by omega);rw[hgt]at this;omega
     rw[this]
  by_cases hd:∀x,x<j+1->¬0<gtX l x i
  .rw[hb true (by simp only[true_iff];exact hd)];exact ih (j+1) fu (by omega) (by omega) (by omega) true (by simp only[true_iff];exact hd)
  .rw[hb false (by simp only[Bool.false_eq_true,false_iff];exact hd)];exact ih (j+1) fu (by omega) (by omega) (by omega) false (by simp only[Bool.false_eq_true,false_iff];exact hd)
theorem ZFB(l:List Zaa)(hl:l.length<=800)(ho:okPs l):Zgh l=ZjP l:=by
 obtain⟨b,hb,hc⟩:=ZvZ l hl ho;rw[hb];rcases hc with⟨rfl,rfl⟩|⟨n,rfl,ht⟩
 .rfl
 .have hn:=ht.lt;have az:∀(k i fu:Nat),n-i=k->i<=n->k+1<=fu->ZbV l fu (i:Int)=some (n:Int):=by
   intro k;induction k with
   |zero=>
    intro i fu hk hi hf;obtain⟨fu,rfl⟩ : ∃x,fu=x+1:=⟨fu-1,by omega⟩;obtain rfl:i=n:=by omega
    unfold ZbV;rw[Zai,if_pos (by omega)];exact(Ztx l hl ho i (by omega) _ l.length 0 ((((l.length:Nat):Int)-(0:Int)).toNat+2) (by omega) (by omega) (by omega) true (by simp)).1 ht.top
   |succ k ih=>
    intro i fu hk hi hf;obtain⟨fu,rfl⟩ : ∃x,fu=x+1:=⟨fu-1,by omega⟩;have e1:Zar (i:Int) 1=((i+1:Nat):Int):=add1 (n:=i+1) (by omega) (by simp only[maxLen];omega);unfold ZbV;rw[Zai,if_pos (by omega)];have:=(Ztx l hl ho i (by omega) (ZbV l fu) l.length 0 ((((l.length:Nat):Int)-(0:Int)).toNat+2) (by omega) (by omega) (by omega) true (by simp)).2 ⟨n,hn,ht.fst i (by omega)⟩;have fk:Zbj l (i:Int) (ZbV l fu) ((((l.length:Nat):Int)-(0:Int)).toNat+2) true 0=_:=this;rw[fk,e1];exact ih (i+1) fu (by omega) (by omega) (by omega)
  unfold Zgh;exact az n 0 _ (by omega) (by omega) (by omega)
theorem ZER(l:List Zaa)(q:Zay)(s:Int):(Zqr l q s).length<=l.length:=by
 have h1:=ZBp (Zjs l) q s;have h2:=ZuD l;unfold Zqr;rw[List.length_map];omega
theorem ZEQ(l:List Zaa)(q:Zay)(s:Int):∀p∈Zqr l q s,p∈l/\p.fIn=true:=fun p hp=>by
 obtain⟨i,hi,rfl⟩:=List.mem_map.1 hp
 have:=ZDT (Zjs l) q s i hi
 unfold gP
 rw[ZdM _ _ i.toNat (by omega)]
 have hm:=List.mem_filter.1 (List.getElem_mem (l:=Zjs l) (n:=i.toNat) (by omega))
 exact hm
theorem Zyy(l:List Zaa)(q:Zay)(s:Int)(hl:l.length<=800)(ho:okPs l) :
  ∃r:Zah×Bool,ZgS l q s=some r/\Zeq l q s=some r/\(r.2=true->∃p∈l,p.fEnd=r.1/\p.fIn=true):=by
 have hc:=ZER l q s;have hm:=ZEQ l q s;have hoc:okPs (Zqr l q s):=fun p hp=>ho p (hm p hp).1;obtain⟨b,hb,eS⟩:=ZvZ (Zqr l q s) (by omega) hoc;have bo:=ZFB (Zqr l q s) (by omega) hoc;unfold ZgS Zeq;rw[ZzV l q s hl ho,ZDB l q s hl ho,ZaL,ZaL,bo,hb,ZaL,Zai];rcases eS with⟨h1,rfl⟩|⟨n,rfl,ht⟩
 .rw[if_pos (by omega)];exact⟨_,rfl,rfl,fun h=>by cases h⟩
 .have hn:=ht.lt;rw[if_neg (by omega),Zax (by omega)];refine⟨_,rfl,rfl,fun _=>⟨_,(hm _ ?_).1,rfl,(hm _ ?_).2⟩⟩
  all_goals
   simp only[Int.toNat_natCast];rw[ZdM _ _ n hn];exact List.getElem_mem hn
inductive Pr (α:Type) where
 |ret (x:α)
 |ask (o:Zas) (k:Zac->Pr α)
 |no
def Pr.bind{α β:Type}:Pr α->(α->Pr β)->Pr β | .ret x,f=>f x | .ask o k,f=>.ask o fun v=>(k v).bind f | .no,_=>.no
theorem Pr.bind_ret{α β:Type}(x:α)(f:α->Pr β):(Pr.ret x).bind f=f x:=rfl
theorem Pr.bind_ask{α β:Type}(o:Zas)(k:Zac->Pr α)(f:α->Pr β):(Pr.ask o k).bind f=.ask o fun v=>(k v).bind f:=rfl
theorem Pr.bind_assoc{α β γ:Type}(p:Pr α)(f:α->Pr β)(g:β->Pr γ):(p.bind f).bind g=p.bind fun x=>(f x).bind g:=by
 induction p with
 |ret x=>rfl
 |ask o k ih=>simp only[Pr.bind_ask,ih]
 |no=>rfl
def runT{α:Type}:Pr α->List Zac->Option (Tout α) | .ret x,l=>some (.ret x ⟨l⟩) | .ask o _,[]=>some (.pan (opN o)) | .ask _ k,v :: l=>runT (k v) l | .no,_=>none
theorem ZFq{α:Type}(p:Pr α):∀(l:List Zac)(s:ByteArray),runT p l≠some (.bad s):=by
 induction p with
 |ret x=>intro l s h;simp[runT]at h
 |ask o k ih=>
  intro l s;cases l with
  |nil=>simp[runT]
  |cons v l=>exact ih v l s
 |no=>intro l s h;simp[runT]at h
theorem ZDp{α:Type}(p:Pr α):∀(l:List Zac)(x:α)(g:Zaq),runT p l=some (.ret x g)->∃a,a<=l.length/\g=⟨l.drop a⟩:=by
 induction p with
 |ret y=>intro l x g h;simp[runT]at h;exact⟨0,Nat.zero_le _,by rw[<-h.2];rfl⟩
 |ask o k ih=>
  intro l x g h;cases l with
  |nil=>simp[runT]at h
  |cons v l=>
   obtain⟨a,h1,h2⟩:=ih v l x g h;exact⟨a+1,by simp only[List.length_cons];omega,h2⟩
 |no=>intro l x g h;simp[runT]at h
theorem Zda{α β:Type}{p:Pr α}{f:α->Pr β}{l:List Zac}{F:Tout α->Option (Tout β)}(h1:∀x a,a<=l.length->runT p l=some (.ret x ⟨l.drop a⟩)->F (.ret x ⟨l.drop a⟩)=runT (f x) (l.drop a))(h2:∀o,F (.pan o)=some (.pan o)) :
  (runT p l).bind F=runT (p.bind f) l:=by
 induction p generalizing l with
 |ret x=>
  have:=h1 x 0 (Nat.zero_le _) rfl;simpa[runT,Pr.bind]using this
 |ask o k ih=>
  cases l with
  |nil=>simp only[runT,Pr.bind,Option.bind_some,h2]
  |cons v l=>
   simp only[runT,Pr.bind];refine ih v fun x a ha h=>?_;exact h1 x (a+1) (by simp only[List.length_cons];omega) h
 |no=>rfl
theorem ZDo{α:Type}{p:Pr α}{l:List Zac}{F:Tout α->Option (Tout α)}(h1:∀x g,F (.ret x g)=some (.ret x g))(h2:∀o,F (.pan o)=some (.pan o)):(runT p l).bind F=runT p l:=by
 cases h:runT p l with
 |none=>rfl
 |some t=>
  cases t with
  |ret x g=>exact h1 x g
  |pan o=>exact h2 o
  |bad s=>exact absurd h (ZFq p l s)
abbrev Wlk{α β:Type}(ah:List Zac)(a:Nat)(P:α->β->Prop)(W:β->Prop)(p:Pr α)(r:Option (Zab×β)):Prop:=Lka ah a P W (runT p (ah.drop a)) r
theorem Wlk.seq{α β γ δ:Type}{ah:List Zac}{a:Nat}{P:α->β->Prop}{W:β->Prop}{p:Pr α}{r:Option (Zab×β)}(h:Wlk ah a P W p r){f:α->Pr γ}{P':γ->δ->Prop}{W':δ->Prop}{K:Zab->β->Option (Zab×δ)}
  (h1:∀x b a',a<=a'->a'<=ah.length->P x b->Wlk ah a' P' W' (f x) (K (wk ah a') b)) (h2:∀q b,W b->∃d,K (wt ah q) b=some (wt ah q,d)/\W' d) :
  Wlk ah a P' W' (p.bind f) (r.bind fun x=>K x.1 x.2):=by
 unfold Wlk;rw[<-Zda (p:=p) (f:=f) (l:=ah.drop a) (F:=fun t=>match t with | .ret x g=>runT (f x) g.fgot | .pan o=>some (.pan o) | .bad s=>some (.bad s)) (fun x a _ _=>rfl) (fun o=>rfl)]
 rcases h with⟨v,b,a',e1,e2,e3,e4,e5⟩|⟨q,b,e1,e2,e3,e4⟩
 .rw[e1,e2];exact(h1 v b a' e3 e4 e5).weak e3
 .rw[e1,e2];obtain⟨d,e5,e6⟩:=h2 q b e4;simp only[Option.bind_some,e5];exact .inr ⟨q,d,rfl,rfl,e3,e6⟩
def ZpW(l:Zan):Pr Zac:=.ask ⟨5,0,l,0,0,valZ,false⟩ .ret
def ZxA(l:Zan)(v:Zac)(ao:Bool):Pr Unit:=.ask ⟨6,0,l,0,0,v,ao⟩ fun _=>.ret ()
def keyP(k el:Int)(ao:Bool):Pr Unit:=.ask ⟨k,el,locZ,0,0,valZ,ao⟩ fun _=>.ret ()
def ZHH(k old ap:Int)(ao:Bool):Pr Bool:=.ask ⟨7,0,⟨k,0,0⟩,old,ap,valZ,ao⟩ fun v=>.ret (v.fN==1)
theorem ZpC{α:Type}(f:Zac->α)(o:Zas)(l:List Zac):((Zcj ⟨l⟩ o).bind fun x=>match x with | .ret v g=>some (Tout.ret (f v) g) | .pan q=>some (.pan q) | .bad s=>some (.bad s))=runT (.ask o fun v=>.ret (f v)) l:=by
 cases l with
 |nil=>rw[ZEX];rfl
 |cons v r=>rw[ZBN];rfl
theorem Ztg(l:List Zac)(c:Zan):Zeg ⟨l⟩ c false=runT (ZpW c) l:=ZpC id _ l
theorem Zzf(l:List Zac)(c:Zan)(v:Zac)(ao:Bool):ZdD ⟨l⟩ c v ao=runT (ZxA c v ao) l:=ZpC (fun _=>()) _ l
theorem ZGo(l:List Zac)(k old ap:Int)(ao:Bool):Zgx ⟨l⟩ ⟨k,0,0⟩ old ap ao=runT (ZHH k old ap ao) l:=ZpC (fun v=>v.fN==1) _ l
theorem ZBR(l:List Zac)(k:Int)(ao:Bool):ZfC ⟨l⟩ k ao=runT (keyP 1 k ao) l:=ZpC (fun _=>()) _ l
theorem ZFb(l:List Zac)(k:Int)(ao:Bool):ZiC ⟨l⟩ k ao=runT (keyP 2 k ao) l:=ZpC (fun _=>()) _ l
theorem Zth(l:List Zac)(k:Int)(ao:Bool):ZcP ⟨l⟩ k ao=runT (keyP 3 k ao) l:=ZpC (fun _=>()) _ l
theorem Zxs(l:List Zac)(k:Int)(ao:Bool):Zgy ⟨l⟩ k ao=runT (keyP 4 k ao) l:=ZpC (fun _=>()) _ l
theorem ZGq(l:List Zac)(ao:Bool):Zjx ⟨l⟩ ao=runT (keyP 8 0 ao) l:=ZpC (fun _=>()) _ l
theorem ZwL{c:Zan}{l:List Zac}{x:Zac}{g:Zaq}(h:runT (ZpW c) l=some (.ret x g)):∃r,l=x :: r/\g=⟨r⟩:=by
 cases l with
 |nil=>simp[runT,ZpW]at h
 |cons v r=>
  simp only[runT,ZpW,Option.some.injEq,Tout.ret.injEq]at h;exact⟨r,by rw[h.1],h.2.symm⟩
def ZqX(part:Int):Nat->Nat->List Zaa->Pr (List Zaa)|0,_,w=>.ret w|k+1,i,w=>(ZpW ⟨6,part,i⟩).bind fun v=>ZqX part k (i+1) (w++[v.fPeer])
def ZuV(part:Int):Pr (List Zaa):=(ZpW ⟨5,part,0⟩).bind fun v=>ZqX part v.fN.toNat 0 []
theorem ZDF(part n:Int):∀(k:Nat)(w:List Zaa)(l:List Zac)(fu:Nat),(n-(w.length:Int)).toNat=k->w.length+l.length<=900000->k+1<=fu->Zeu part fu n (w.length:Int) w ⟨l⟩=runT (ZqX part k w.length w) l:=by
 intro k;induction k with
 |zero=>
  intro w l fu hk hl hf;obtain⟨fu,rfl⟩ : ∃x,fu=x+1:=⟨fu-1,by omega⟩;unfold Zeu;simp only[Zai];rw[if_neg (by omega)];rfl
 |succ k ih=>
  intro w l fu hk hl hf;obtain⟨fu,rfl⟩ : ∃x,fu=x+1:=⟨fu-1,by omega⟩;unfold Zeu;simp only[Zai];have e:Zif part (w.length:Int)=some ⟨6,part,(w.length:Int)⟩:=rfl;rw[if_pos (by omega),e,ZaL,Ztg];refine Zda (fun x a ha h=>?_) (fun o=>rfl);obtain⟨r,rfl,h2⟩:=ZwL h;simp only[Zaq.mk.injEq]at h2;rw[h2];simp only[List.length_cons]at hl;dsimp only;rw[Zax (by simp only[List.length_append,List.length_singleton,maxLen];omega)];have e1:Zar (w.length:Int) 1=(((w++[x.fPeer]).length:Nat):Int):=by
   rw[add1 (n:=w.length+1) (by omega) (by simp only[maxLen];omega)];simp
  have e2:w.length+1=(w++[x.fPeer]).length:=by simp
  rw[e1,e2];exact ih (w++[x.fPeer]) r fu (by simp only[List.length_append,List.length_singleton];omega) (by simp only[List.length_append,List.length_singleton];omega) (by omega)
theorem Zxq(part:Int)(l:List Zac)(hl:l.length<=900000):Zii ⟨l⟩ part=runT (ZuV part) l:=by
 unfold Zii;have e:Zig part=some ⟨5,part,0⟩:=rfl;rw[e,ZaL,Ztg];refine Zda (fun x a ha h=>?_) (fun o=>rfl);obtain⟨r,rfl,h2⟩:=ZwL h;simp only[Zaq.mk.injEq]at h2;rw[h2];simp only[List.length_cons]at hl;dsimp only;have:=ZDF part (if(0:Int)>x.fN then 0 else x.fN) x.fN.toNat [] r ((((if(0:Int)>x.fN then 0 else x.fN))-(0:Int)).toNat+2) (by simp only[List.length_nil];split<;>omega) (by simp only[List.length_nil];omega) (by split<;>omega);exact this
theorem Ztz(part:Int):∀(k i:Nat)(w:List Zaa)(l:List Zac)(x:List Zaa)(g:Zaq),runT (ZqX part k i w) l=some (.ret x g)->x.length+g.fgot.length=w.length+l.length
 | 0,i,w,l,x,g,h=>by simp[ZqX,runT]at h;rw[<-h.1,<-h.2]
 |k+1,i,w,[],x,g,h=>by simp[ZqX,runT,ZpW,Pr.bind]at h
 |k+1,i,w,v :: l,x,g,h=>by
  have:=Ztz part k (i+1) (w++[v.fPeer]) l x g h
  simp only[List.length_append,List.length_cons,List.length_nil]at this ⊢
  omega
theorem ZFG{part:Int}{l:List Zac}{x:List Zaa}{g:Zaq}(h:runT (ZuV part) l=some (.ret x g)):x.length<=l.length:=by
 cases l with
 |nil=>simp[ZuV,runT,ZpW,Pr.bind]at h
 |cons v l=>
  have:=Ztz part _ _ _ l x g h;simp only[List.length_cons,List.length_nil]at this ⊢;omega
theorem ZxQ(part:Int)(Q:Zaa->Prop):∀(k i:Nat)(w:List Zaa)(l:List Zac)(x:List Zaa)(g:Zaq),runT (ZqX part k i w) l=some (.ret x g)->(∀p∈w,Q p)->(∀v∈l,Q v.fPeer)->∀p∈x,Q p
 | 0,i,w,l,x,g,h,hw,hl=>by simp[ZqX,runT]at h;rw[<-h.1];exact hw
 |k+1,i,w,[],x,g,h,hw,hl=>by simp[ZqX,runT,ZpW,Pr.bind]at h
 |k+1,i,w,v :: l,x,g,h,hw,hl=>by
  refine ZxQ part Q k (i+1) (w++[v.fPeer]) l x g h (fun p hp=>?_) (fun v' hv=>hl v' (List.mem_cons_of_mem _ hv))
  rcases List.mem_append.1 hp with hp|hp
  .exact hw p hp
  .rw[List.mem_singleton.1 hp];exact hl v (by simp)
theorem Zws{part:Int}{Q:Zaa->Prop}{l:List Zac}{x:List Zaa}{g:Zaq}(h:runT (ZuV part) l=some (.ret x g))(hl:∀v∈l,Q v.fPeer):∀p∈x,Q p:=by
 cases l with
 |nil=>simp[ZuV,runT,ZpW,Pr.bind]at h
 |cons v l=>exact ZxQ part Q _ _ _ l x g h (by simp) fun v' hv=>hl v' (List.mem_cons_of_mem _ hv)
def wrB(was ap:List Zaa)(i:Nat):Bool:=decide (was.length<=i) || !decide (was.getD i Zaa.d=ap.getD i Zaa.d)
def wrL(was ap:List Zaa):List Int:=((List.range ap.length).filter (wrB was ap)).map fun(i:Nat)=>(i:Int)
theorem ZAH(was ap:List Zaa)(hn:ap.length<=1000000):ZhQ was ap=some (wrL was ap):=by
 have az:∀(k i f:Nat),ap.length-i=k->i<=ap.length->k+1<=f->Zcm was f ap (ap.length:Int) i (((List.range i).filter (wrB was ap)).map fun(i:Nat)=>(i:Int))=some (wrL was ap):=by
  intro k;induction k with
  |zero=>
   intro i f hk hi hf;obtain⟨f,rfl⟩ : ∃x,f=x+1:=⟨f-1,by omega⟩;unfold Zcm;simp only[Zai];rw[if_neg (by omega)];have:i=ap.length:=by omega
   rw[this];rfl
  |succ k ih=>
   intro i f hk hi hf;obtain⟨f,rfl⟩ : ∃x,f=x+1:=⟨f-1,by omega⟩;unfold Zcm;simp only[Zai];have e1:Zar (i:Int) 1=((i+1:Nat):Int):=add1 (n:=i+1) (by omega) (by simp only[maxLen];omega);have hl:((List.range i).filter (wrB was ap)).length<=i:=by
    have:=List.length_filter_le (wrB was ap) (List.range i);rw[List.length_range]at this;exact this
   have hlen:((((List.range i).filter (wrB was ap)).map fun(i:Nat)=>(i:Int))++[(i:Int)]).length * 8<=140737488355328/\((((List.range i).filter (wrB was ap)).map fun(i:Nat)=>(i:Int))++[(i:Int)]).length<=maxLen:=by
    simp only[List.length_append,List.length_singleton,List.length_map,maxLen];omega
   have fh:wrB was ap i=true->(((List.range i).filter (wrB was ap)).map fun(i:Nat)=>(i:Int))++[(i:Int)]=((List.range (i+1)).filter (wrB was ap)).map fun(i:Nat)=>(i:Int):=fun h=>by
    rw[List.range_succ,List.filter_append,List.map_append,List.filter_cons_of_pos (by rw[h])];rfl
   have dl:wrB was ap i=false->(((List.range i).filter (wrB was ap)).map fun(i:Nat)=>(i:Int))=((List.range (i+1)).filter (wrB was ap)).map fun(i:Nat)=>(i:Int):=fun h=>by
    rw[List.range_succ,List.filter_append,List.map_append,List.filter_cons_of_neg (by rw[h];decide)];simp
   have bi:=ih (i+1) f (by omega) (by omega) (by omega);rw[if_pos (by omega),Zax (by omega)];by_cases h:(i:Int)>=(was.length:Int)
   .have hb:wrB was ap i=true:=by unfold wrB;rw[decide_eq_true (show was.length<=i by omega)];rfl
    rw[if_pos h,Zax hlen,e1,fh hb];exact bi
   .rw[if_neg h,Zax (show 0<=(i:Int)/\(i:Int)<(was.length:Int)by omega)];have h0:decide (was.length<=i)=false:=decide_eq_false (by omega);by_cases h2:was.getD ((i:Int)).toNat Zaa.d=ap.getD ((i:Int)).toNat Zaa.d
    .have hb:wrB was ap i=false:=by
      unfold wrB;rw[h0,Bool.false_or];simp only[Int.toNat_natCast]at h2;rw[decide_eq_true h2];rfl
     simp only[h2,decide_true,Bool.not_true,cond_false,e1];rw[dl hb];exact bi
    .have hb:wrB was ap i=true:=by
      unfold wrB;rw[h0,Bool.false_or];simp only[Int.toNat_natCast]at h2;rw[decide_eq_false h2];rfl
     simp only[h2,decide_false,Bool.not_false,cond_true];rw[Zax hlen,e1,fh hb];exact bi
 exact az ap.length 0 _ (by omega) (by omega) (by omega)
theorem ZGL{was ap:List Zaa}{x:Int}(h:x∈wrL was ap):0<=x/\x<(ap.length:Int):=by
 unfold wrL at h;obtain⟨i,h1,rfl⟩:=List.mem_map.1 h;have:=List.mem_range.1 (List.mem_filter.1 h1).1;omega
theorem ZGM(was ap:List Zaa):(wrL was ap).length<=ap.length:=by
 unfold wrL;rw[List.length_map];have:=List.length_filter_le (wrB was ap) (List.range ap.length);rw[List.length_range]at this;exact this
def Ztk(part:Int)(ap:List Zaa):List Int->Pr Unit | []=>.ret ()|i :: r=>(ZxA ⟨6,part,i⟩ ⟨0,ap.getD i.toNat Zaa.d,[],[]⟩ false).bind fun _=>Ztk part ap r
def Zvs(part:Int)(was ap:List Zaa):Pr Unit:=(Ztk part ap (wrL was ap)).bind fun _=>if was.length=ap.length then .ret ()else ZxA ⟨5,part,0⟩ ⟨(ap.length:Int),ZtE,[],[]⟩ false
theorem ZpD(part:Int)(was ap:List Zaa)(l:List Zac)(hn:ap.length<=1000000):ZfS ⟨l⟩ part was ap=runT (Zvs part was ap) l:=by
 unfold ZfS;rw[ZAH was ap hn,ZaL];have hlen:=ZGM was ap;have az:∀(k i f:Nat)(l:List Zac),(wrL was ap).length-i=k->i<=(wrL was ap).length->k+1<=f->Zdu part was ap f (wrL was ap) ((wrL was ap).length:Int) i ⟨l⟩=runT ((Ztk part ap ((wrL was ap).drop i)).bind fun _=>if was.length=ap.length then .ret ()else ZxA ⟨5,part,0⟩ ⟨(ap.length:Int),ZtE,[],[]⟩ false) l:=by
  intro k;induction k with
  |zero=>
   intro i f l hk hi hf;obtain⟨f,rfl⟩ : ∃x,f=x+1:=⟨f-1,by omega⟩;unfold Zdu;simp only[Zai];rw[if_neg (by omega),List.drop_of_length_le (by omega)];have e:Zig part=some ⟨5,part,0⟩:=rfl;simp only[e,Option.bind_some,Ztk,Pr.bind_ret];by_cases hc:was.length=ap.length
   .have e2:(((was.length:Nat):Int) != ((ap.length:Nat):Int))=false:=by simp[hc]
    rw[if_pos hc,e2,cond_false];rfl
   .have e2:(((was.length:Nat):Int) != ((ap.length:Nat):Int))=true:=by
     rw[bne_iff_ne];omega
    rw[if_neg hc,e2,cond_true,Zzf];exact ZDo (p:=ZxA ⟨5,part,0⟩ ⟨(ap.length:Int),ZtE,[],[]⟩ false) (fun _ _=>rfl) (fun _=>rfl)
  |succ k ih=>
   intro i f l hk hi hf;obtain⟨f,rfl⟩ : ∃x,f=x+1:=⟨f-1,by omega⟩;unfold Zdu;simp only[Zai];have e1:Zar (i:Int) 1=((i+1:Nat):Int):=add1 (n:=i+1) (by omega) (by simp only[maxLen];omega);have hm:=ZGL (Zjv (wrL was ap) (0:Int) i (by omega));have hm':0<=(wrL was ap).getD ((i:Int)).toNat (0:Int)/\(wrL was ap).getD ((i:Int)).toNat (0:Int)<(ap.length:Int):=by simpa using hm
   have e:∀x,Zif part x=some ⟨6,part,x⟩:=fun _=>rfl;rw[if_pos (by omega),Zax (by omega)];simp only[e,Option.bind_some];rw[Zax hm',Zjr (wrL was ap) (0:Int) i (by omega)];simp only[Ztk,Pr.bind_assoc,Int.toNat_natCast,Zzf];refine Zda (fun x a ha h=>?_) (fun o=>rfl);dsimp only;rw[e1];exact ih (i+1) f _ (by omega) (by omega) (by omega)
 have:=az (wrL was ap).length 0 ((((wrL was ap).length:Int)-(0:Int)).toNat+2) l (by omega) (by omega) (by omega);rw[List.drop_zero]at this;exact this
def ZpK(bh:Int)(ao:Bool):Nat->Pr Bool|0=>.no|n+1=>(ZpW ⟨1,0,0⟩).bind fun v=>if v.fN>=bh then .ret false else(ZHH 1 v.fN (Zar v.fN 1) ao).bind fun b=>bif b then .ret true else ZpK bh ao n
theorem Zvp(bh:Int)(ao:Bool):∀(f:Nat)(l:List Zac),ZdE bh ao f ⟨l⟩ ⟨1,0,0⟩=runT (ZpK bh ao f) l:=by
 intro f;induction f with
 |zero=>intro l;rfl
 |succ f ih=>
  intro l;unfold ZdE;rw[Ztg];refine Zda (fun x a ha h=>?_) (fun o=>rfl);dsimp only;rw[Zai];by_cases hc:x.fN>=bh
  .rw[if_pos hc,if_pos hc];rfl
  .rw[if_neg hc,if_neg hc,ZGo];refine Zda (fun b a ha h=>?_) (fun o=>rfl);dsimp only;cases b with
   |true=>rfl
   |false=>exact ih _
theorem ZqN(bh:Int)(ao:Bool)(l:List Zac):ZfT ⟨l⟩ bh ao=runT (ZpK bh ao 1000000) l:=by
 unfold ZfT;exact Zvp bh ao 1000000 l
def ZDS:Nat->Nat->Pr Unit|_,0=>.ret ()|i,k+1=>(keyP 1 (2+(i:Int)) false).bind fun _=>ZDS (i+1) k
def ZwK(p:Int):Pr Unit:=ZDS 0 (Zdn p)
theorem ZHF{i:Nat}(h:i<=1000):Zar 2 (i:Int)=2+(i:Int):=Zdg (by omega) (by omega)
theorem ZuP(p:Int)(l:List Zac):ZgP ⟨l⟩ p=runT (ZwK p) l:=by
 have h8:=(Zlb p).2;unfold ZgP;rw[ZlP,ZaL];have az:∀(k i f:Nat)(l:List Zac),Zdn p-i=k->i<=Zdn p->k+1<=f->ZcQ f (Zdn p:Int) i ⟨l⟩=runT (ZDS i k) l:=by
  intro k;induction k with
  |zero=>
   intro i f l hk hi hf;obtain⟨f,rfl⟩ : ∃x,f=x+1:=⟨f-1,by omega⟩;unfold ZcQ;simp only[Zai];rw[if_neg (by omega)];rfl
  |succ k ih=>
   intro i f l hk hi hf;obtain⟨f,rfl⟩ : ∃x,f=x+1:=⟨f-1,by omega⟩;unfold ZcQ;simp only[Zai];have e1:Zar (i:Int) 1=((i+1:Nat):Int):=add1 (n:=i+1) (by omega) (by simp only[maxLen];omega);rw[if_pos (by omega),ZHF (by omega),ZBR];refine Zda (fun x a ha h=>?_) (fun o=>rfl);dsimp only;rw[e1];exact ih (i+1) f _ (by omega) (by omega) (by omega)
 exact az (Zdn p) 0 _ l (by omega) (by omega) (by omega)
def ZBw(ao:Bool)(m:Nat):Nat->Pr Unit|0=>.ret ()|n+1=>(keyP 3 (2+(n:Int)) (ao&&decide (n+1=m))).bind fun _=>ZBw ao m n
def Ztb(p:Int)(ao:Bool):Pr Unit:=ZBw ao (Zdn p) (Zdn p)
theorem ZuQ(p:Int)(ao:Bool)(l:List Zac):ZgQ ⟨l⟩ p ao=runT (Ztb p ao) l:=by
 have h8:=Zlb p;unfold ZgQ;rw[ZlP,ZaL];obtain⟨c,hc⟩ : ∃c:Nat,Zdn p=c+1:=⟨Zdn p-1,by omega⟩;have az:∀(n f:Nat)(l:List Zac),n<=Zdn p->n+1<=f->Zce p ao f ((n:Int)-1) ⟨l⟩=runT (ZBw ao (Zdn p) n) l:=by
  intro n;induction n with
  |zero=>
   intro f l hn hf;obtain⟨f,rfl⟩ : ∃x,f=x+1:=⟨f-1,by omega⟩;unfold Zce;simp only[Zai];rw[if_neg (by omega)];rfl
  |succ n ih=>
   intro f l hn hf;obtain⟨f,rfl⟩ : ∃x,f=x+1:=⟨f-1,by omega⟩;unfold Zce;simp only[Zai];have e0:(((n+1:Nat):Int)-1)=(n:Int):=by omega
   have e1:ZaQ (n:Int) 1=((n:Int)-1):=by
    cases n with
    |zero=>exact sub0
    |succ n=>rw[Zzp (by omega)];omega
   rw[e0,if_pos (by omega),ZHF (by omega),ZlP];simp only[ZaL,e1];have hm:∀m:Bool,m=(ao&&decide (n+1=Zdn p))->((ZcP ⟨l⟩ (2+(n:Int)) m).bind fun x3=>match x3 with
      | .ret x3v x3g=>Zce p ao f ((n:Int)-1) x3g
      | .pan x3o=>some (Tout.pan x3o)
      | .bad x3s=>some (Tout.bad x3s))=runT (ZBw ao (Zdn p) (n+1)) l:=by
    rintro m rfl;rw[Zth];refine Zda (fun x a ha h=>?_) (fun o=>rfl);exact ih f _ (by omega) (by omega)
   cases ao with
   |true=>
    simp only[cond_true];refine hm _ ?_;rw[hc,Zzp (by omega)];by_cases h:n=c
    .subst h;simp
    .have h2:((n:Int)==(c:Int))=false:=beq_false_of_ne (by omega);simp[h,h2]
   |false=>
    simp only[cond_false];exact hm _ rfl
 have e:ZaQ (Zdn p:Int) 1=(Zdn p:Int)-1:=by rw[hc,Zzp (by omega)];omega
 rw[e];exact az (Zdn p) _ l (Nat.le_refl _) (by omega)
theorem Wlk.ret{α β:Type}{ah:List Zac}{a:Nat}(ha:a<=ah.length){P:α->β->Prop}{W:β->Prop}{x:α}{b:β}(h:P x b):Wlk ah a P W (.ret x) (some (wk ah a,b)):=
 .inl ⟨x,b,a,rfl,rfl,Nat.le_refl _,ha,h⟩
theorem Wlk.mono{α β:Type}{ah:List Zac}{a:Nat}{P P':α->β->Prop}{W W':β->Prop}{p:Pr α}{r:Option (Zab×β)}(h:Wlk ah a P W p r)(h1:∀x b,P x b->P' x b)(h2:∀b,W b->W' b):Wlk ah a P' W' p r:=by
 rcases h with⟨v,b,a',e1,e2,e3,e4,e5⟩|⟨q,b,e1,e2,e3,e4⟩
 .exact .inl ⟨v,b,a',e1,e2,e3,e4,h1 _ _ e5⟩
 .exact .inr ⟨q,b,e1,e2,e3,h2 _ e4⟩
theorem Wlk.seqP{α β γ δ:Type}{ah:List Zac}{a:Nat}{P:α->β->Prop}{W:β->Prop}{p:Pr α}{r:Option (Zab×β)}(h:Wlk ah a P W p r){f:α->Pr γ}{P':γ->δ->Prop}{W':δ->Prop}{K:Zab×β->Option (Zab×δ)}
  (h1:∀x b a',a<=a'->a'<=ah.length->P x b->Wlk ah a' P' W' (f x) (K (wk ah a',b))) (h2:∀q b,W b->∃d,K (wt ah q,b)=some (wt ah q,d)/\W' d):Wlk ah a P' W' (p.bind f) (r.bind K):=by
 have:=Wlk.seq h (f:=f) (K:=fun w b=>K (w,b)) h1 h2;cases r with
 |none=>exact this
 |some x=>exact this
theorem Wlk.seqU{α γ δ:Type}{ah:List Zac}{a:Nat}{P:α->Unit->Prop}{W:Unit->Prop}{p:Pr α}{r:Option Zab}(h:Wlk ah a P W p (r.map fun w=>(w,()))){f:α->Pr γ}{P':γ->δ->Prop}{W':δ->Prop}{K:Zab->Option (Zab×δ)}
  (h1:∀x a',a<=a'->a'<=ah.length->P x ()->Wlk ah a' P' W' (f x) (K (wk ah a'))) (h2:∀q,∃d,K (wt ah q)=some (wt ah q,d)/\W' d):Wlk ah a P' W' (p.bind f) (r.bind K):=by
 have:=Wlk.seq h (f:=f) (K:=fun w _=>K w) (fun x b=>h1 x) (fun q b _=>h2 q);cases r with
 |none=>exact this
 |some x=>exact this
theorem Wlk.seqPU{α β γ:Type}{ah:List Zac}{a:Nat}{P:α->β->Prop}{W:β->Prop}{p:Pr α}{r:Option (Zab×β)}(h:Wlk ah a P W p r){f:α->Pr γ}{P':γ->Unit->Prop}{W':Unit->Prop}{K:Zab×β->Option Zab}
  (h1:∀x b a',a<=a'->a'<=ah.length->P x b->Wlk ah a' P' W' (f x) ((K (wk ah a',b)).map fun w=>(w,()))) (h2:∀q b,W b->K (wt ah q,b)=some (wt ah q)) (hW:W' ()):Wlk ah a P' W' (p.bind f) ((r.bind K).map fun w=>(w,())):=by
 have:=Wlk.seqP h (f:=f) (K:=fun w=>(K w).map fun w=>(w,())) h1 (fun q b hb=>⟨(),by rw[h2 q b hb];rfl,hW⟩);cases r with
 |none=>exact this
 |some x=>exact this
section
variable {ah:List Zac} (hL:ah.length<=900000) {a:Nat} (ha:a<=ah.length)
include hL ha
theorem ZIj(o:Zas)(ho:okV o.fVal):Wlk ah a (fun x b=>x=b/\x∈ah) (fun b=>b=valZ) (.ask o .ret) (ZcD (wk ah a) o):=by
 unfold Wlk;rw[ZlS _ _ _ (by omega) ha];by_cases h:a<ah.length
 .rw[if_pos h,Zjr ah Zac.d a h];exact .inl ⟨_,_,a+1,rfl,rfl,by omega,h,rfl,Zjv ah Zac.d a h⟩
 .rw[if_neg h,List.drop_eq_nil_of_le (by omega)];exact .inr ⟨_,_,rfl,rfl,ZvF ho,rfl⟩
theorem ZIi(c:Zan):Wlk ah a (fun x b=>x=b/\x∈ah) (fun b=>b=valZ) (ZpW c) (ZbP (wk ah a) c):=by
 unfold ZbP;have:=ZIj hL ha ⟨5,0,c,0,0,valZ,false⟩ ZwB;have e:∀r:Option (Zab×Zac),(r.bind fun x=>some (x.1,x.2))=r:=fun r=>by cases r<;>rfl
 exact(e _).symm ▸ this
theorem ZCV(k el:Int)(ao:Bool):Wlk ah a anyP anyW (keyP k el ao) ((ZaB (wk ah a) k el ao).map fun w=>(w,())):=by
 unfold ZaB;exact Wlk.seqPU (p:=.ask ⟨k,el,locZ,0,0,valZ,ao⟩ .ret) (ZIj hL ha ⟨k,el,locZ,0,0,valZ,ao⟩ ZwB) (f:=fun _=>.ret ()) (fun x b a' h1 h2 h3=>Wlk.ret h2 trivial) (fun q b _=>rfl) trivial
theorem ZGJ(n:Int):Wlk ah a (fun x b=>x=b/\x.length<=ah.length/\∀Q:Zaa->Prop,(∀v∈ah,Q v.fPeer)->∀p∈x,Q p) (fun b=>b.length<=ah.length+1) (ZuV n) (Zcq (wk ah a) n):=by
 have h:=ZHy hL ha n;rw[Zxq n (ah.drop a) (by simp;omega)]at h;rcases h with⟨v,b,a',e1,e2,e3,e4,e5⟩|⟨q,b,e1,e2,e3,e4⟩
 .exact .inl ⟨v,b,a',e1,e2,e3,e4,e5.1,e5.2,fun Q hQ=>Zws e1 fun v hv=>hQ v (List.mem_of_mem_drop hv)⟩
 .exact .inr ⟨q,b,e1,e2,e3,e4⟩
theorem Zxp(n:Int)(was ap:List Zaa)(hn:ap.length<=1000000):Wlk ah a anyP anyW (Zvs n was ap) ((ZaY (wk ah a) n was ap).map fun w=>(w,())):=by
 have h:=ZGn (by omega) ha n was ap hn;rw[ZpD n was ap (ah.drop a) hn]at h;exact h
theorem Zzh(bh:Int)(ao:Bool):Wlk ah a eqP anyW (ZpK bh ao 1000000) (Zbw (wk ah a) bh ao):=by
 have h:=ZCR hL ha bh ao;rw[ZqN bh ao (ah.drop a)]at h;exact h
theorem ZFe(p:Int):Wlk ah a anyP anyW (ZwK p) ((ZcL (wk ah a) p).map fun w=>(w,())):=by
 have h:=ZCU (by omega) ha p;rw[ZuP p (ah.drop a)]at h;exact h
theorem ZFf(p:Int)(ao:Bool):Wlk ah a anyP anyW (Ztb p ao) ((Zbx (wk ah a) p ao).map fun w=>(w,())):=by
 have h:=ZCW (by omega) ha p ao;rw[ZuQ p ao (ah.drop a)]at h;exact h
end
structure Gl (l:List Zac):Prop where
 len:l.length<=800
 val:∀v∈l,v.ok/\v.fBans.length<=800/\v.fBook.length<=800
theorem Gl.drop{l:List Zac}(h:Gl l)(a:Nat):Gl (l.drop a):=⟨by have:=h.len;simp;omega,fun v hv=>h.val v (List.mem_of_mem_drop hv)⟩
theorem ZHd{c:Zan}{l:List Zac}{x:Zac}{g:Zaq}(h:runT (ZpW c) l=some (.ret x g))(hl:Gl l):x.ok/\x.fBans.length<=800/\x.fBook.length<=800:=by
 obtain⟨r,rfl,_⟩:=ZwL h;exact hl.val x (by simp)
theorem ZGS{α β:Type}{p:Pr α}{f:α->Pr β}:∀{l:List Zac}{y:β}{g:Zaq},runT (p.bind f) l=some (.ret y g)->∃x g1,runT p l=some (.ret x g1)/\runT (f x) g1.fgot=some (.ret y g):=by
 induction p with
 |ret x=>intro l y g h;exact⟨x,⟨l⟩,rfl,h⟩
 |ask o k ih=>
  intro l y g h;cases l with
  |nil=>simp[Pr.bind,runT]at h
  |cons v l=>exact ih v h
 |no=>intro l y g h;simp[Pr.bind,runT]at h
theorem ZxR{part:Int}{l:List Zac}{x:List Zaa}{g:Zaq}(h:runT (ZuV part) l=some (.ret x g)):x.length+g.fgot.length<=l.length:=by
 cases l with
 |nil=>simp[ZuV,runT,ZpW,Pr.bind]at h
 |cons v l=>
  have:=Ztz part _ _ _ l x g h;simp only[List.length_cons,List.length_nil]at this ⊢;omega
theorem Wlk.run{α β:Type}{ah:List Zac}{a:Nat}{P:α->β->Prop}{W:β->Prop}{p:Pr α}{r:Option (Zab×β)}(h:Wlk ah a P W p r):Wlk ah a (fun x b=>P x b/\∃g,runT p (ah.drop a)=some (.ret x g)) W p r:=by
 rcases h with⟨v,b,a',e1,e2,e3,e4,e5⟩|⟨q,b,e1,e2,e3,e4⟩
 .exact .inl ⟨v,b,a',e1,e2,e3,e4,e5,_,e1⟩
 .exact .inr ⟨q,b,e1,e2,e3,e4⟩
theorem ZHk(ls:List (List Zaa))(h1:ls.length<=1000)(h2:ls.flatten.length<=900000):ZhC ls=some ls.flatten:=by
 have az:∀(k i fu:Nat),ls.length-i=k->i<=ls.length->k+1<=fu->ZcK ls fu (i:Int) (ls.take i).flatten=some ls.flatten:=by
  intro k;induction k with
  |zero=>
   intro i fu hk hi hf;obtain⟨fu,rfl⟩ : ∃x,fu=x+1:=⟨fu-1,by omega⟩;unfold ZcK;rw[Zai,if_neg (by omega),List.take_of_length_le (by omega)]
  |succ k ih=>
   intro i fu hk hi hf;obtain⟨fu,rfl⟩ : ∃x,fu=x+1:=⟨fu-1,by omega⟩;unfold ZcK;have e1:Zar (i:Int) 1=((i+1:Nat):Int):=add1 (n:=i+1) (by omega) (by simp only[maxLen];omega);have e2:(ls.take i).flatten++ls.getD i []=(ls.take (i+1)).flatten:=by
    rw[List.take_succ_eq_append_getElem (show i<ls.length by omega),List.flatten_append,ZdM ls _ i (by omega)];simp
   have e3:ls.flatten=(ls.take (i+1)).flatten++(ls.drop (i+1)).flatten:=by rw[<-List.flatten_append,List.take_append_drop]
   have hle:(ls.take (i+1)).flatten.length<=ls.flatten.length:=by
    rw[e3,List.length_append];omega
   rw[Zai,if_pos (by omega),Zax ⟨by omega,by omega⟩];simp only[Int.toNat_natCast,e2];rw[Zax ⟨by omega,by unfold maxLen;omega⟩,e1];exact ih (i+1) fu (by omega) (by omega) (by omega)
 exact az ls.length 0 _ (by omega) (by omega) (by omega)
section
variable {c:ZaF} {x:Zaz} (hx:x.ok) (cY:0<=c.fShards) (hs:c.fShards<=1000) {ah:List Zac} (hG:Gl ah) {a:Nat} (ha:a<=ah.length)
include cY hs hG
end
section
variable {ah:List Zac} (hG:Gl ah) {a:Nat} (ha:a<=ah.length)
include hG ha
end
def Zvo:Nat->Nat->List (List Zaa)->Pr (List (List Zaa))|0,_,w=>.ret w|k+1,i,w=>(ZuV (i:Int)).bind fun x=>Zvo k (i+1) (w++[x])
theorem ZqM:∀(k i:Nat)(w:List (List Zaa))(l:List Zac)(x:List (List Zaa))(g:Zaq),runT (Zvo k i w) l=some (.ret x g)->x.length=w.length+k/\x.flatten.length+g.fgot.length<=w.flatten.length+l.length/\∀Q:Zaa->Prop,(∀p∈w.flatten,Q p)->(∀v∈l,Q v.fPeer)->∀p∈x.flatten,Q p
 | 0,i,w,l,x,g,h=>by
  simp only[Zvo,runT,Option.some.injEq,Tout.ret.injEq]at h
  obtain⟨rfl,rfl⟩:=h
  exact⟨rfl,Nat.le_refl _,fun Q hw _=>hw⟩
 |k+1,i,w,l,x,g,h=>by
  obtain⟨y,g1,h1,h2⟩:=ZGS h
  have h3:=ZxR h1
  obtain⟨h0,h4,h5⟩:=ZqM k (i+1) (w++[y]) g1.fgot x g h2
  obtain⟨a,ha,rfl⟩:=ZDp _ _ _ _ h1
  simp only at h3 h4
  refine⟨by rw[h0];simp;omega,by simp only[List.flatten_append,List.length_append,List.flatten_cons,List.flatten_nil,List.append_nil]at h4;omega,fun Q hw hl=>h5 Q (fun p hp=>?_) (fun v hv=>hl v (List.mem_of_mem_drop hv))⟩
  simp only[List.flatten_append,List.flatten_cons,List.flatten_nil,List.append_nil,List.mem_append]at hp
  rcases hp with hp|hp
  .exact hw p hp
  .exact Zws h1 hl p hp
def inI(n a b:Int):Bool:=decide (a<=n)&&decide (n<=b)
def nowB(x:Zaz):Bool:=inI x.fNow 0 1099511627776
def Zlq(x:Zaz):Bool:=if x.fKind=1\/x.fKind=12\/x.fKind=13 then ZmI x.fEnd&&nowB x else if x.fKind=2 then ZmI x.fEnd else if x.fKind=3\/x.fKind=9 then nowB x else if x.fKind=4 then ZmI x.fEnd&&(nowB x&&inI x.fNum 0 1073741824)else if x.fKind=5 then ZmI x.fEnd&&(inI x.fNum 1 5&&nowB x)else if x.fKind=6 then Zic x.fNet&&(inI x.fNum 1 1099511627776&&nowB x)else if x.fKind=7 then Zic x.fNet else if x.fKind=8 then Zek x.fEnd.fAddr&&nowB x else if x.fKind=10 then true else if x.fKind=11 then ZmI x.fEnd&&inI x.fNum 1 1048576 else false
def ZzF(x:Zaz)(s:Int×Int)(p:Int):Bool:=if p=0 then ZmI x.fEnd else if p=1 then Zic x.fNet else if p=2 then Zek x.fEnd.fAddr else if p=3 then nowB x else if p=4 then inI x.fNum s.1 s.2 else true
theorem ZAC(x:Zaz)(hx:x.ok)(s:Int×Int)(hs:ZkO x.fKind=some s)(p:Int):Zlk x p=some (ZzF x s p):=by
 have he:x.fEnd.ok:=hx.2.1;have hn:x.fNet.ok:=hx.2.2.1;unfold Zlk ZzF;simp only[ZjF,ZCJ _ he,ZnX _ hn.1,ZkP _ he.1,hs,Option.bind_some,nowB,inI,Zai]
 repeat' split
 all_goals first|rfl | (simp_all;done) | (simp_all;omega)
theorem ZAD(x:Zaz)(hx:x.ok)(s:Int×Int)(hs:ZkO x.fKind=some s)(l:List Int)(hl:l.length<=100):ZeJ ((((l.length:Nat):Int)-(0:Int)).toNat+2) l (l.length:Int) 0 x=some (l.all (ZzF x s)):=by
 have hL:l.length<=maxLen:=by unfold maxLen;omega
 have az:∀fu (i:Nat),i<=l.length->l.length-i<fu->ZeJ fu l (l.length:Int) (i:Int) x=some ((l.drop i).all (ZzF x s)):=by
  intro fu;induction fu with
  |zero=>intro i _ h;omega
  |succ fu ih=>
   intro i hi hf;unfold ZeJ;simp only[Zai];by_cases h:i<l.length
   .rw[if_pos (by omega),Zax ⟨by omega,by omega⟩,ZAC x hx s hs,Option.bind_some,add1 h hL,Zjr l (0:Int) i h,List.all_cons,Int.toNat_natCast];cases ZzF x s (l.getD i 0)with
    |true=>simp only[Bool.not_true,cond_false,Bool.true_and];exact ih (i+1) (by omega) (by omega)
    |false=>rfl
   .rw[if_neg (by omega),List.drop_of_length_le (by omega)];rfl
 exact az _ 0 (by omega) (by omega)
theorem ZEI(k:Int):∃t,Zml k=some t/\((t.toList==(⟨#[]⟩ : ByteArray).toList) = !(decide (1<=k)&&decide (k<=13))):=by
 unfold Zml ZmP Zrr;simp only[Option.bind_some,Zai];by_cases h0:k<0
 .rw[if_pos h0];refine⟨_,rfl,?_⟩;rw[decide_eq_false (show ¬1<=k by omega)];simp
 .rw[if_neg h0];by_cases h1:k>=14
  .have h2:k>=(([(⟨#[]⟩ : ByteArray),(⟨#[97,99,99,101,112,116]⟩ : ByteArray),(⟨#[108,101,97,118,101]⟩ : ByteArray),(⟨#[100,105,97,108]⟩ : ByteArray),(⟨#[114,101,115,117,108,116]⟩ : ByteArray),(⟨#[98,108,97,109,101]⟩ : ByteArray),(⟨#[98,97,110]⟩ : ByteArray),(⟨#[117,110,98,97,110]⟩ : ByteArray),(⟨#[98,97,110,110,101,100]⟩ : ByteArray),(⟨#[116,105,99,107]⟩ : ByteArray),(⟨#[108,105,115,116]⟩ : ByteArray),(⟨#[112,111,110,103]⟩ : ByteArray),(⟨#[119,111,114,107]⟩ : ByteArray),(⟨#[108,101,97,114,110]⟩ : ByteArray)]:List ByteArray).length:Int):=h1;rw[if_pos h2];refine⟨_,rfl,?_⟩;rw[decide_eq_true (show 1<=k by omega),decide_eq_false (show ¬k<=13 by omega)];simp
  .obtain h|h|h|h|h|h|h|h|h|h|h|h|h|h:k=0\/k=1\/k=2\/k=3\/k=4\/k=5\/k=6\/k=7\/k=8\/k=9\/k=10\/k=11\/k=12\/k=13:=by omega
   all_goals subst h;exact⟨_,rfl,by decide +kernel⟩
theorem ZCM(x:Zaz)(hx:x.ok):Zll x=some (Zlq x):=by
 obtain⟨t,h1,h2⟩:=ZEI x.fKind;unfold Zll;rw[h1,Option.bind_some,h2];by_cases hk:1<=x.fKind/\x.fKind<=13
 .rw[decide_eq_true hk.1,decide_eq_true hk.2];simp only[Bool.and_self,Bool.not_true,cond_false];have key:∀(k:Int)(l:List Int)(s:Int×Int),x.fKind=k->ZjQ k=some l->ZkO k=some s->l.length<=100->l.all (ZzF x s)=Zlq x->((ZjQ x.fKind).bind fun x2=>ZeJ ((((x2.length:Nat):Int)-(0:Int)).toNat+2) x2 ((x2.length:Nat):Int) (0:Int) x)=some (Zlq x):=by
   intro k l s e h3 h4 h5 h6;rw[e,h3,Option.bind_some,ZAD x hx s (by rw[e];exact h4) l h5,h6]
  obtain h|h|h|h|h|h|h|h|h|h|h|h|h:x.fKind=1\/x.fKind=2\/x.fKind=3\/x.fKind=4\/x.fKind=5\/x.fKind=6\/x.fKind=7\/x.fKind=8\/x.fKind=9\/x.fKind=10\/x.fKind=11\/x.fKind=12\/x.fKind=13:=by omega
  all_goals exact key _ _ _ h rfl rfl (by simp) (by simp[Zlq,h,ZzF])
 .have hf:(decide (1<=x.fKind)&&decide (x.fKind<=13))=false:=by
   rw[Bool.and_eq_false_iff,decide_eq_false_iff_not,decide_eq_false_iff_not];omega
  rw[hf];simp only[Bool.not_false,cond_true];unfold Zlq
  repeat' rw[if_neg (by omega)]
theorem ZCg(x:Zaz)(hx:x.ok)(a b:Int)(s:ByteArray)(L:List Int)(hL:L.length=s.size)(h:∀i:Nat,i<s.size->((ZkH s i:Nat):Int)=L.getD i 0)(hs:s.size<=100) :
  Zbm a b x ((((s.size:Nat):Int)-(0:Int)).toNat+2) s 0=some (L.all fun c=>if c=101 then ZmI x.fEnd else if c=110 then Zic x.fNet else if c=97 then Zek x.fEnd.fAddr else if c=116 then nowB x else if c=107 then inI x.fNum a b else true):=by
 have he:x.fEnd.ok:=hx.2.1;have hn:x.fNet.ok:=hx.2.2.1;have az:∀fu (i:Nat),i<=s.size->s.size-i<fu->Zbm a b x fu s (i:Int)=some ((L.drop i).all fun c=>if c=101 then ZmI x.fEnd else if c=110 then Zic x.fNet else if c=97 then Zek x.fEnd.fAddr else if c=116 then nowB x else if c=107 then inI x.fNum a b else true):=by
  intro fu;induction fu with
  |zero=>intro i _ h;omega
  |succ fu ih=>
   intro i hi hf;unfold Zbm;simp only[Zai,ZjF,ZxN _ he,ZvA _ hn.1,ZlR _ he.1,Option.bind_some];by_cases hlt:i<s.size
   .rw[if_pos (by omega),Zax ⟨by omega,by omega⟩,add1 (n:=s.size) hlt (by unfold maxLen;omega),Zjr L (0:Int) i (by omega),List.all_cons,Int.toNat_natCast,h i hlt,ih (i+1) (by omega) (by omega)];generalize hR:((L.drop (i+1)).all fun c=>if c=101 then ZmI x.fEnd else if c=110 then Zic x.fNet else if c=97 then Zek x.fEnd.fAddr else if c=116 then nowB x else if c=107 then inI x.fNum a b else true)=R;have jL:∀q:Bool,(bif !q then some false else some R)=some (q&&R):=fun q=>by cases q<;>rfl
    simp only[jL];have rng:∀n lo hi:Int,(if n<lo then some false else if n>hi then some false else some R)=some (inI n lo hi&&R):=fun n lo hi=>by
     unfold inI;by_cases h1:n<lo
     .rw[if_pos h1,decide_eq_false (by omega)];rfl
     .rw[if_neg h1,decide_eq_true (show lo<=n by omega)];by_cases h2:n>hi
      .rw[if_pos h2,decide_eq_false (by omega)];rfl
      .rw[if_neg h2,decide_eq_true (show n<=hi by omega)];rfl
    simp only[rng];unfold nowB
    repeat' split
    all_goals first|rfl|omega
   .rw[if_neg (by omega),List.drop_of_length_le (by omega)];rfl
 exact az _ 0 (by omega) (by omega)
theorem ZzB(x:Zaz)(hx:x.ok):ZfJ x=some (Zlq x):=by
 unfold ZfJ Zdd;simp only[Zai,ZjF];by_cases h1:x.fKind<1
 .rw[if_pos h1];unfold Zlq
  repeat' rw[if_neg (by omega)]
 .rw[if_neg h1];by_cases h2:x.fKind>13
  .rw[if_pos h2];unfold Zlq
   repeat' rw[if_neg (by omega)]
  .rw[if_neg h2];have key:∀(k a b:Int)(s:ByteArray)(L:List Int),x.fKind=k->ZfI k=some s->L.length=s.size->(∀i:Nat,i<s.size->((ZkH s i:Nat):Int)=L.getD i 0)->s.size<=100 ->
     (L.all fun c=>if c=101 then ZmI x.fEnd else if c=110 then Zic x.fNet else if c=97 then Zek x.fEnd.fAddr else if c=116 then nowB x else if c=107 then inI x.fNum a b else true)=Zlq x ->
     ((ZfI x.fKind).bind fun x1=>Zbm a b x ((((x1.size:Nat):Int)-(0:Int)).toNat+2) x1 (0:Int))=some (Zlq x):=by
    intro k a b s L e h3 h4 h5 h6 h7;rw[e,h3,Option.bind_some,ZCg x hx a b s L h4 h5 h6,h7]
   obtain h|h|h|h|h|h|h|h|h|h|h|h|h:x.fKind=1\/x.fKind=2\/x.fKind=3\/x.fKind=4\/x.fKind=5\/x.fKind=6\/x.fKind=7\/x.fKind=8\/x.fKind=9\/x.fKind=10\/x.fKind=11\/x.fKind=12\/x.fKind=13:=by omega
   .rw[if_neg (by omega),if_neg (by omega),if_neg (by omega)];exact key 1 _ _ _ [101,116] h rfl rfl (by decide) (by decide) (by simp[Zlq,h])
   .rw[if_neg (by omega),if_neg (by omega),if_neg (by omega)];exact key 2 _ _ _ [101] h rfl rfl (by decide) (by decide) (by simp[Zlq,h])
   .rw[if_neg (by omega),if_neg (by omega),if_neg (by omega)];exact key 3 _ _ _ [116] h rfl rfl (by decide) (by decide) (by simp[Zlq,h])
   .rw[if_neg (by omega),if_neg (by omega),if_neg (by omega)];exact key 4 _ _ _ [101,103,116,107] h rfl rfl (by decide) (by decide) (by simp[Zlq,h])
   .rw[if_pos h];exact key 5 _ _ _ [101,107,116] h rfl rfl (by decide) (by decide) (by simp[Zlq,h])
   .rw[if_neg (by omega),if_pos h];exact key 6 _ _ _ [110,107,116] h rfl rfl (by decide) (by decide) (by simp[Zlq,h])
   .rw[if_neg (by omega),if_neg (by omega),if_neg (by omega)];exact key 7 _ _ _ [110] h rfl rfl (by decide) (by decide) (by simp[Zlq,h])
   .rw[if_neg (by omega),if_neg (by omega),if_neg (by omega)];exact key 8 _ _ _ [97,116] h rfl rfl (by decide) (by decide) (by simp[Zlq,h])
   .rw[if_neg (by omega),if_neg (by omega),if_neg (by omega)];exact key 9 _ _ _ [116] h rfl rfl (by decide) (by decide) (by simp[Zlq,h])
   .rw[if_neg (by omega),if_neg (by omega),if_neg (by omega)];exact key 10 _ _ _ [] h rfl rfl (by decide) (by decide) (by simp[Zlq,h])
   .rw[if_neg (by omega),if_neg (by omega),if_pos h];exact key 11 _ _ _ [101,107] h rfl rfl (by decide) (by decide) (by simp[Zlq,h])
   .rw[if_neg (by omega),if_neg (by omega),if_neg (by omega)];exact key 12 _ _ _ [101,116] h rfl rfl (by decide) (by decide) (by simp[Zlq,h])
   .rw[if_neg (by omega),if_neg (by omega),if_neg (by omega)];exact key 13 _ _ _ [101,116] h rfl rfl (by decide) (by decide) (by simp[Zlq,h])
def gv(v:Zac):Prop:=v.ok/\v.fBans.length<=5000/\v.fBook.length<=5000
structure Gd (l:List Zac):Prop where
 len:l.length<=400000
 val:∀v∈l,gv v
theorem Gd.drop{l:List Zac}(h:Gd l)(a:Nat):Gd (l.drop a):=⟨by have:=h.len;simp;omega,fun v hv=>h.val v (List.mem_of_mem_drop hv)⟩
def ZkR(k:Int):Zao:=⟨k,endZ,0,0,[]⟩
def pt(c:ZaF)(x:Zaz):Int:=ZxX x.fEnd.fAddr c.fSecret c.fShards
section
variable {c:ZaF} {x:Zaz} (hx:x.ok)
include hx
theorem pt_le:0<=pt c x/\pt c x<=7:=by
 obtain⟨_,_,h1,h2⟩:=ZqS x.fEnd.fAddr hx.2.1.1 c.fSecret c.fShards;have:Znp c.fShards<=8:=by
  unfold Znp
  repeat' split
  all_goals omega
 unfold pt;omega
theorem ZBb:Zar 2 (pt c x)=2+pt c x:=by
 have:=pt_le (c:=c) hx;exact Zdg (by omega) (by omega)
end
def ZHB:Pr Zao:=(keyP 8 0 true).bind fun _=>.ret (ZkR 1)
section
variable {c:ZaF} {x:Zaz} (hx:x.ok) {l:List Zac} (hl:Gd l)
include hx hl
end
section
variable {c:ZaF} {x:Zaz} (hx:x.ok) {l:List Zac} (hl:Gd l)
include hx hl
end
def ZqP(l:List Zag)(a:Zaf)(ap:Int):Int:=(Ziv l a ap).getD 0
theorem Ztn(l:List Zag)(a:Zaf)(ap:Int)(hl:l.length<=maxLen)(aA:∀b∈l,b.ok)(ha:a.ok):Ziv l a ap=some (ZqP l a ap)/\ZeQ l a ap=some (ZqP l a ap):=by
 obtain⟨r,u1,u2⟩:=ZFj l a ap hl aA ha;obtain⟨s,u3,u4⟩:=Zzz l a ap hl aA ha;have hrs:r=s:=ZCu u2 u4 fun b=>Iff.rfl;subst hrs;unfold ZqP;rw[u1,u3];exact⟨rfl,rfl⟩
def ZED(x:Zaz):Zaa:=⟨x.fEnd,true,fitI x.fNow,⟨0,fitI x.fNow⟩,0,0⟩
def Zwd(x:Zaz)(l:List Zaa):List Zaa:=l++[ZED x]
theorem ZjV(x:Zaz)(l:List Zaa):(Zwd x l).length=l.length+1:=by simp[Zwd]
theorem Zux(c:ZaF)(x:Zaz)(l:List Zaa)(hl:l.length<=900000):Zer ⟨c,x⟩ l=some (Zwd x l):=by
 unfold Zer;have ec:Zbf l=some l:=by
  unfold Zbf;rw[Zax ⟨by omega,by unfold maxLen;omega⟩]
 have en:ZnB x.fEnd true x.fNow=some (ZED x):=by unfold ZnB;rw[ZDm];rfl
 have hn:=ZjV x l;unfold Zwd at hn;rw[ec,ZaL,en,ZaL,Zax ⟨by omega,by unfold maxLen;omega⟩];rfl
theorem ZpL(x:Zaz)(l:List Zaa)(hl:l.length<=900000):ZbJ l x=some (Zwd x l):=by
 unfold ZbJ;have en:ZgI x.fEnd true x.fNow=some (ZED x):=by unfold ZgI;rw[ZDD];rfl
 have hn:=ZjV x l;unfold Zwd at hn;rw[en,ZaL,List.nil_append,Zax ⟨by omega,by unfold maxLen;omega⟩,Zax ⟨by omega,by unfold maxLen;omega⟩];rfl
theorem Zwu{all:List (List Zaa)}{l:List Zaa}(h:l∈all):l.length<=all.flatten.length:=by
 induction all with
 |nil=>cases h
 |cons y r ih=>
  simp only[List.flatten_cons,List.length_append];rcases List.mem_cons.1 h with rfl|h
  .omega
  .have:=ih h;omega
theorem Zyv(all:List (List Zaa))(i:Nat)(h:i<all.length):(all.take (i+1)).flatten=(all.take i).flatten++all[i]:=by
 rw[List.take_succ_eq_append_getElem h,List.flatten_append];simp
theorem Zul(all:List (List Zaa))(i:Nat):(all.take i).flatten.length<=all.flatten.length:=by
 have:all.flatten=(all.take i).flatten++(all.drop i).flatten:=by rw[<-List.flatten_append,List.take_append_drop]
 rw[this,List.length_append];omega
theorem ZEG(all:List (List Zaa))(h1:all.length<=1000)(h2:all.flatten.length<=900000):ZcC all=some all.flatten:=by
 have dq:∀(v3:Int)(v9:List (List Zaa))(v10 jM:Int)(k0:Int->List (List Zaa)->Int->Int->Option (List Zaa))(k i fu:Nat),all.length-i=k->i<=all.length->k+1<=fu ->
   Zbo all v3 v9 v10 jM k0 fu all (all.length:Int) (i:Int) (all.take i).flatten=some all.flatten:=by
  intro v3 v9 v10 jM k0 k;induction k with
  |zero=>
   intro i fu hk hi hf;obtain⟨fu,rfl⟩ : ∃x,fu=x+1:=⟨fu-1,by omega⟩;unfold Zbo;rw[Zai,if_neg (by omega),List.take_of_length_le (by omega)]
  |succ k ih=>
   intro i fu hk hi hf;obtain⟨fu,rfl⟩ : ∃x,fu=x+1:=⟨fu-1,by omega⟩;have bm:i<all.length:=by omega
   have e1:Zar (i:Int) 1=((i+1:Nat):Int):=add1 (n:=i+1) (by omega) (by simp only[maxLen];omega);have hg:all.getD ((i:Int)).toNat []=all[i]:=ZdM all [] i bm;have ht:=Zul all (i+1);have hs:=Zyv all i bm;unfold Zbo;rw[Zai,if_pos (by omega),Zax (by omega),hg,<-hs,Zax ⟨by omega,by unfold maxLen;omega⟩,e1];exact ih (i+1) fu (by omega) (by omega) (by omega)
 have dr:∀(k i fu:Nat),all.length-i=k->i<=all.length->k+1<=fu->ZaR all fu ((all.take i).flatten.length:Int) all (all.length:Int) (i:Int)=some all.flatten:=by
  intro k;induction k with
  |zero=>
   intro i fu hk hi hf;obtain⟨fu,rfl⟩ : ∃x,fu=x+1:=⟨fu-1,by omega⟩;have ht:=Zul all i;have eg:Zcb ((all.take i).flatten.length:Int)=some []:=by
    unfold Zcb;rw[Zax ⟨by omega,by omega,by omega⟩]
   unfold ZaR;rw[Zai,if_neg (by omega),eg,ZaL];exact dq _ _ _ _ _ all.length 0 _ (by omega) (by omega) (by omega)
  |succ k ih=>
   intro i fu hk hi hf;obtain⟨fu,rfl⟩ : ∃x,fu=x+1:=⟨fu-1,by omega⟩;have bm:i<all.length:=by omega
   have e1:Zar (i:Int) 1=((i+1:Nat):Int):=add1 (n:=i+1) (by omega) (by simp only[maxLen];omega);have hg:all.getD ((i:Int)).toNat []=all[i]:=ZdM all [] i bm;have ht:=Zul all (i+1);have hs:=Zyv all i bm;have hl:(all.take (i+1)).flatten.length=(all.take i).flatten.length+all[i].length:=by rw[hs,List.length_append]
   have e2:Zar ((all.take i).flatten.length:Int) (all[i].length:Int)=((all.take (i+1)).flatten.length:Int):=by rw[Zdg (by omega) (by omega)];omega
   unfold ZaR;rw[Zai,if_pos (by omega),Zax (by omega),hg,e2,Zai,if_neg (by omega),e1];exact ih (i+1) fu (by omega) (by omega) (by omega)
 unfold ZcC;exact dr all.length 0 _ (by omega) (by omega) (by omega)
def ZiO(all:List (List Zaa))(e:Zah):Int:=ixOf (fun l=>decide (ZnV l e>=0)) all 0
theorem ZFi(all:List (List Zaa))(e:Zah)(h1:all.length<=1000)(h2:all.flatten.length<=900000):ZbZ all e=some (ZiO all e):=by
 simp only[ZbZ];have:=ZrW all ([]:List Zaa) (fun l=>decide (ZnV l e>=0)) (by unfold maxLen;omega) (fun fu i=>ZaV all e fu (all.length:Int) i) (fun i=>i) (fun fu i hi=>by
   have hle:=Zwu (Zjv all [] i hi);simp only[ZaV,Zgq,Zai,Int.toNat_natCast];rw[if_pos (by omega),Zax ⟨by omega,by omega⟩,ZrQ _ _ (by unfold maxLen;omega)];simp only[ZaL,Bool.cond_eq_ite]) (fun fu=>by
   simp only[ZaV,Zai];rw[if_neg (by omega)]) ((((all.length:Nat):Int)-(0:Int)).toNat+2) 0 (by omega) (by omega)
 simp only[Int.natCast_zero,List.drop_zero]at this;exact this
theorem Zwe(all:List (List Zaa))(e:Zah):ZiO all e<(all.length:Int):=by
 have:=ZDU (fun l=>decide (ZnV l e>=0)) all 0;unfold ZiO;omega
theorem ZFh{all:List (List Zaa)}{e:Zah}(h:∃p∈all.flatten,p.fEnd=e):0<=ZiO all e:=by
 by_cases hn:ZiO all e<0
 .exfalso;obtain⟨p,hp,he⟩:=h;obtain⟨l,hl,cW⟩:=List.mem_flatten.1 hp;have h1:=(ZpO (fun l=>decide (ZnV l e>=0)) all 0).1 hn l hl;have h2:ZnV l e<0:=by
   have:=of_decide_eq_false h1;omega
  have h3:=(ZpO (fun x:Zaa=>decide (x.fEnd=e)) l 0).1 h2 p cW;rw[he]at h3;simp at h3
 .omega
def Zdf(c:ZaF)(all:List (List Zaa)):Zah×Bool:=(ZgS all.flatten c.fQuota c.fSecret).getD (endZ,false)
theorem ZyR(c:ZaF)(all:List (List Zaa))(h2:all.flatten.length<=800)(ho:∀p∈all.flatten,p.ok) :
  ZgS all.flatten c.fQuota c.fSecret=some (Zdf c all)/\Zeq all.flatten c.fQuota c.fSecret=some (Zdf c all)/\((Zdf c all).2=true->0<=ZiO all (Zdf c all).1):=by
 obtain⟨r,h3,h4,h5⟩:=Zyy all.flatten c.fQuota c.fSecret h2 fun p hp=>(ho p hp).1.1;have e:Zdf c all=r:=by unfold Zdf;rw[h3];rfl
 rw[e];refine⟨h3,h4,fun h=>ZFh ?_⟩;obtain⟨p,h6,h7,_⟩:=h5 h;exact⟨p,h6,h7⟩
def ZxV(c:ZaF)(x:Zaz):Pr (Zao×Bool):=(keyP 1 (2+pt c x) false).bind fun _=>(ZuV (pt c x)).bind fun l=>if ZnV l x.fEnd>=0 then(keyP 3 (2+pt c x) true).bind fun _=>.ret (ZkR 7,true)else(ZpK c.fMaxIn true 1000000).bind fun b=>if b=true then(Zvs (pt c x) l (Zwd x l)).bind fun _=>(keyP 3 (2+pt c x) false).bind fun _=>.ret (repZ,true)else(keyP 3 (2+pt c x) false).bind fun _=>.ret (repZ,false)
def ZhK(all:List (List Zaa))(i:Int):List Zaa:=all.getD i.toNat []
def ZoA(all:List (List Zaa))(e:Zah):List (List Zaa):=all.set (ZiO all e).toNat (ZqT (ZhK all (ZiO all e)) [e])
def ZqR(c:ZaF)(x:Zaz)(all:List (List Zaa)):Pr (Zao×Bool):=if ZnV (ZhK all (pt c x)) x.fEnd>=0 then .ret (ZkR 7,true)else(ZpK c.fMaxIn true 1000000).bind fun b=>if b=true then(Zvs (pt c x) (ZhK all (pt c x)) (Zwd x (ZhK all (pt c x)))).bind fun _=>.ret (repZ,false)else if(Zdf c all).2=true then(Zvs (ZiO all (Zdf c all).1) (ZhK all (ZiO all (Zdf c all).1)) (ZqT (ZhK all (ZiO all (Zdf c all).1)) [(Zdf c all).1])).bind fun _=>(Zvs (pt c x) (ZhK (ZoA all (Zdf c all).1) (pt c x)) (Zwd x (ZhK (ZoA all (Zdf c all).1) (pt c x)))).bind fun _=>.ret (⟨0,(Zdf c all).1,1,0,[]⟩,true)else .ret (ZkR 5,true)
def ZsQ(c:ZaF)(x:Zaz)(all:List (List Zaa)):Pr Zao:=(ZqR c x all).bind fun q=>(Ztb c.fShards q.2).bind fun _=>.ret q.1
def ZxH(c:ZaF)(x:Zaz):Pr Zao:=(ZwK c.fShards).bind fun _=>(Zvo c.fShards.toNat 0 []).bind fun all=>ZsQ c x all
def Zsv(c:ZaF)(x:Zaz):Pr Zao:=if Zlq x=true then(keyP 2 0 false).bind fun _=>(ZpW ⟨3,0,0⟩).bind fun v=>if ZqP v.fBans x.fEnd.fAddr x.fNow>0 then(keyP 4 0 true).bind fun _=>.ret ⟨8,endZ,0,ZqP v.fBans x.fEnd.fAddr x.fNow,[]⟩else(ZxV c x).bind fun q=>if q.2=true then(keyP 4 0 false).bind fun _=>.ret q.1 else(ZxH c x).bind fun r=>(keyP 4 0 false).bind fun _=>.ret r else ZHB
section
variable {c:ZaF} {x:Zaz} (hx:x.ok) {l:List Zac} (hl:Gl l)
include hx hl
omit hl in
theorem ZyN:Zgc ⟨c,x⟩=some (pt c x):=by
 unfold Zgc;rw[(ZqS x.fEnd.fAddr hx.2.1.1 c.fSecret c.fShards).1];rfl
theorem ZFd:ZgM ⟨c,x⟩ ⟨l⟩=runT (ZxV c x) l:=by
 unfold ZgM;rw[ZyN hx,ZaL];simp only[ZBb hx];rw[ZBR];refine Zda (fun _ a ha h=>?_) (fun _=>rfl);dsimp only;have h2:=(hl.drop a).len;rw[Zxq _ _ (by omega)];refine Zda (fun w b hb h3=>?_) (fun _=>rfl);dsimp only;have hw:=ZFG h3;rw[ZrQ _ _ (by unfold maxLen;omega),ZaL,Zai];by_cases h0:ZnV w x.fEnd>=0
 .rw[if_pos h0,if_pos h0,Zth];exact Zda (fun _ _ _ _=>rfl) (fun _=>rfl)
 .rw[if_neg h0,if_neg h0,ZqN];refine Zda (fun ok d hd h4=>?_) (fun _=>rfl);dsimp only;cases ok with
  |true=>
   rw[cond_true,if_pos rfl,Zux c x w (by omega),ZaL,ZpD _ _ _ _ (by rw[ZjV];omega)];refine Zda (fun _ e he _=>?_) (fun _=>rfl);dsimp only;rw[Zth];exact Zda (fun _ _ _ _=>rfl) (fun _=>rfl)
  |false=>
   rw[cond_false,if_neg (by decide),Zth];exact Zda (fun _ _ _ _=>rfl) (fun _=>rfl)
variable (bu:1<=c.fShards) (hs:c.fShards<=8)
include bu hs
omit hl in
theorem ZHN:0<=pt c x/\pt c x<c.fShards:=by
 obtain⟨_,_,h1,h2⟩:=ZqS x.fEnd.fAddr hx.2.1.1 c.fSecret c.fShards;have:Znp c.fShards=c.fShards:=by unfold Znp;rw[if_neg (by omega),if_neg (by omega)]
 unfold pt;omega
theorem ZAJ(all:List (List Zaa))(ha:(all.length:Int)=c.fShards)(hf:all.flatten.length<=800)(aA:∀p∈all.flatten,p.ok):ZfN ⟨c,x⟩ ⟨l⟩ all=runT (ZqR c x all) l:=by
 have hp:=ZHN hx bu hs;obtain⟨h3,_,h5⟩:=ZyR c all hf aA;have hle:=fun(i:Nat) (hi:i<all.length)=>Zwu (Zjv all [] i hi);have gL:=hle (pt c x).toNat (by omega);unfold ZfN ZqR;have hd:all.getD (pt c x).toNat ([]:List Zaa)=ZhK all (pt c x):=rfl;rw[ZyN hx,ZaL,Zax (by omega),hd,ZrQ _ _ (by unfold maxLen;unfold ZhK;omega),ZaL,Zai];by_cases h0:ZnV (ZhK all (pt c x)) x.fEnd>=0
 .rw[if_pos h0,if_pos h0];rfl
 .rw[if_neg h0,if_neg h0,ZqN];refine Zda (fun ok d hd h4=>?_) (fun _=>rfl);dsimp only;cases ok with
  |true=>
   rw[cond_true,if_pos rfl,Zux c x _ (by unfold ZhK;omega),ZaL,ZpD _ _ _ _ (by rw[ZjV];unfold ZhK;omega)];exact Zda (fun _ _ _ _=>rfl) (fun _=>rfl)
  |false=>
   rw[cond_false,if_neg (by decide),ZEG all (by omega) (by omega),ZaL,h3,ZaL];cases hc:(Zdf c all).2 with
   |false=>
    rw[Bool.not_false,cond_true,if_neg (by decide)];rfl
   |true=>
    have hk:=h5 hc;have hk2:=Zwe all (Zdf c all).1;have hkl:=hle (ZiO all (Zdf c all).1).toNat (by omega);have hr:=Ztt (ZhK all (ZiO all (Zdf c all).1)) [(Zdf c all).1];have bk:(ZhK all (ZiO all (Zdf c all).1)).length<=all.flatten.length:=hkl;have he:((ZoA all (Zdf c all).1).getD (pt c x).toNat []).length<=800:=by
     unfold ZoA;simp only[List.getD_eq_getElem?_getD,List.getElem?_set];by_cases e:(ZiO all (Zdf c all).1).toNat=(pt c x).toNat
     .rw[if_pos e];split
      .simp only[Option.getD_some];omega
      .simp
     .rw[if_neg e,<-List.getD_eq_getElem?_getD];omega
    have jO:all.getD (ZiO all (Zdf c all).1).toNat ([]:List Zaa)=ZhK all (ZiO all (Zdf c all).1):=rfl;have hd3:(all.set (ZiO all (Zdf c all).1).toNat (ZqT (ZhK all (ZiO all (Zdf c all).1)) [(Zdf c all).1])).getD (pt c x).toNat ([]:List Zaa)=ZhK (ZoA all (Zdf c all).1) (pt c x):=rfl;rw[Bool.not_true,cond_false,if_pos rfl,ZFi all _ (by omega) (by omega),ZaL,Zax (by omega),jO,ZCc _ _ (by omega) (by simp[maxLen]),ZaL,ZpD _ _ _ _ (by omega),hd3];refine Zda (fun _ e he' _=>?_) (fun _=>rfl);dsimp only;rw[Zux c x _ (by unfold ZhK;omega),ZaL,ZpD _ _ _ _ (by rw[ZjV];unfold ZhK;omega)];exact Zda (fun _ _ _ _=>rfl) (fun _=>rfl)
theorem ZGp:Zho ⟨c,x⟩ ⟨l⟩=runT (ZxH c x) l:=by
 obtain⟨n,hn⟩ : ∃n:Nat,c.fShards=(n:Int):=⟨c.fShards.toNat,by omega⟩;have az:∀(k i fu:Nat)(w:List (List Zaa))(l:List Zac)(b4:Zao),n-i=k->i<=n->k+1<=fu->w.length=i->Gl l->w.flatten.length+l.length<=800->(∀p∈w.flatten,p.ok) ->
   Zdl fu (n:Int) (i:Int) (w++List.replicate k []) ⟨l⟩ ⟨c,x⟩ b4=runT ((Zvo k i w).bind fun all=>ZsQ c x all) l:=by
  intro k;induction k with
  |zero=>
   intro i fu w l b4 hk hi hf hw hl er aA;obtain⟨fu,rfl⟩ : ∃x,fu=x+1:=⟨fu-1,by omega⟩;unfold Zdl;rw[Zai,if_neg (by omega),List.replicate_zero,List.append_nil,ZAJ hx hl bu hs w (by omega) (by omega) aA];simp only[Zvo,Pr.bind_ret];refine Zda (fun q a ha h=>?_) (fun _=>rfl);dsimp only;rw[ZuQ];exact Zda (fun _ _ _ _=>rfl) (fun _=>rfl)
  |succ k ih=>
   intro i fu w l b4 hk hi hf hw hl er aA;obtain⟨fu,rfl⟩ : ∃x,fu=x+1:=⟨fu-1,by omega⟩;have hlen:=hl.len;unfold Zdl Zvo;have e1:Zar (i:Int) 1=((i+1:Nat):Int):=add1 (n:=i+1) (by omega) (by simp only[maxLen];omega);rw[Zai,if_pos (by omega),Zxq _ _ (by omega),Pr.bind_assoc];refine Zda (fun y a ha h=>?_) (fun _=>rfl);dsimp only;have es:(w++List.replicate (k+1) []).set (i:Int).toNat y=w++[y]++List.replicate k []:=by
    rw[Int.toNat_natCast,<-hw,List.replicate_succ,List.set_append_right _ _ (Nat.le_refl _)];simp
   have hy:=ZxR h;simp only at hy;rw[Zax ⟨by omega,by simp;omega⟩,e1,es];refine ih (i+1) fu (w++[y]) (l.drop a) b4 (by omega) (by omega) (by omega) (by simp;omega) (hl.drop a) ?_ ?_
   .simp only[List.flatten_append,List.length_append,List.flatten_cons,List.flatten_nil,List.append_nil];omega
   .intro p hp;simp only[List.flatten_append,List.flatten_cons,List.flatten_nil,List.append_nil,List.mem_append]at hp;rcases hp with hp|hp
    .exact aA p hp
    .exact Zws h (Q:=Zaa.ok) (fun v hv=>(hl.val v hv).1.2.1) p hp
 unfold Zho ZxH;rw[ZuP];refine Zda (fun _ a ha h=>?_) (fun _=>rfl);dsimp only;have h2:=(hl.drop a).len;simp only[hn,Int.toNat_natCast];rw[Zax ⟨by omega,by omega,by omega,by omega⟩];have:=az n 0 (((n:Int)-(0:Int)).toNat+2) [] (l.drop a) (Zao.mk (0:Int) (Zah.mk (Zaf.mk false (0:Int) (0:Int)) (0:Int)) (0:Int) (0:Int) ([]:(List Zaa))) (by omega) (by omega) (by omega) rfl (hl.drop a) (by simpa using h2) (by simp);rw[List.nil_append]at this;exact this
theorem ZCY:Zgm ⟨c,x⟩ ⟨l⟩=runT (Zsv c x) l:=by
 unfold Zgm Zsv;rw[ZCM x hx,ZaL];cases Zlq x with
 |false=>
  rw[Bool.not_false,cond_true,if_neg (by decide),ZGq];exact Zda (fun _ _ _ _=>rfl) (fun _=>rfl)
 |true=>
  rw[Bool.not_true,cond_false,if_pos rfl,ZFb];refine Zda (fun _ a ha h=>?_) (fun _=>rfl);dsimp only;rw[Ztg];refine Zda (fun v b hb h2=>?_) (fun _=>rfl);dsimp only;have hv:=ZHd h2 (hl.drop a);rw[(Ztn v.fBans x.fEnd.fAddr x.fNow (by unfold maxLen;omega) (hv.1.2.2.1.2) hx.2.1.1).1,ZaL,Zai];by_cases h0:ZqP v.fBans x.fEnd.fAddr x.fNow>0
  .rw[if_pos h0,if_pos h0,Zxs];exact Zda (fun _ _ _ _=>rfl) (fun _=>rfl)
  .rw[if_neg h0,if_neg h0,ZFd hx ((hl.drop a).drop b)];refine Zda (fun q d hd _=>?_) (fun _=>rfl);dsimp only;cases hq:q.2 with
   |true=>
    rw[Bool.not_true,cond_false,if_pos rfl,Zxs];exact Zda (fun _ _ _ _=>rfl) (fun _=>rfl)
   |false=>
    rw[Bool.not_false,cond_true,if_neg (by decide),ZGp hx (((hl.drop a).drop b).drop d) bu hs];refine Zda (fun r e he _=>?_) (fun _=>rfl);dsimp only;rw[Zxs];exact Zda (fun _ _ _ _=>rfl) (fun _=>rfl)
theorem Zxt:Ziw c x l=(runT (Zsv c x) l).map Zwt:=by
 unfold Ziw ZmS;rw[ZaL];dsimp only;unfold ZmY;rw[ZCY hx hl bu hs];cases(runT (Zsv c x) l).map Zwt<;>rfl
end
theorem Gl.gd{l:List Zac}(h:Gl l):Gd l:=⟨by have:=h.len;omega,fun v hv=>⟨(h.val v hv).1,by have:=(h.val v hv).2.1;omega,by have:=(h.val v hv).2.2;omega⟩⟩
def fewL(b:List (List Zaa)):Prop:=b.length<=1000/\b.flatten.length<=900000
theorem ZsA{ah:List Zac}(q:Zas)(n:Nat)(hn:n<=1000)(b4:Zab):∀(k i fu:Nat)(ls:List (List Zaa)),n-i=k->i<=n->k+1<=fu->ls.length<=i->∃ie,Zcd (n:Int) fu (i:Int) ls (wt ah q) b4=some (wt ah q,ie)/\ie.length<=n/\ie.flatten=ls.flatten:=by
 intro k;induction k with
 |zero=>
  intro i fu ls hk hi hf hl;obtain⟨fu,rfl⟩ : ∃x,fu=x+1:=⟨fu-1,by omega⟩;unfold Zcd;rw[Zai,if_neg (by omega)];exact⟨_,rfl,by omega,rfl⟩
 |succ k ih=>
  intro i fu ls hk hi hf hl;obtain⟨fu,rfl⟩ : ∃x,fu=x+1:=⟨fu-1,by omega⟩;unfold Zcd;have e1:Zar (i:Int) 1=((i+1:Nat):Int):=add1 (n:=i+1) (by omega) (by simp only[maxLen];omega);rw[Zai,if_pos (by omega),ZuN,ZaL,Zax ⟨by simp only[List.length_append,List.length_singleton];omega,by simp only[List.length_append,List.length_singleton,maxLen];omega⟩,e1];obtain⟨ie,h1,h2,h3⟩:=ih (i+1) fu (ls++[[]]) (by omega) (by omega) (by omega) (by simp only[List.length_append,List.length_singleton];omega);exact⟨ie,h1,h2,by rw[h3];simp⟩
theorem ZFg{ah:List Zac}(hL:ah.length<=800)(n:Nat)(hn:n<=1000)(b4:Zab):∀(k i fu a:Nat)(ls:List (List Zaa)),n-i=k->i<=n->k+1<=fu->ls.length=i->ls.flatten.length<=i * 801->a<=ah.length ->
  Wlk ah a eqP fewL (Zvo k i ls) (Zcd (n:Int) fu (i:Int) ls (wk ah a) b4):=by
 intro k;induction k with
 |zero=>
  intro i fu a ls hk hi hf hl hs ha;obtain⟨fu,rfl⟩ : ∃x,fu=x+1:=⟨fu-1,by omega⟩;unfold Zcd;rw[Zai,if_neg (by omega)];exact Wlk.ret ha rfl
 |succ k ih=>
  intro i fu a ls hk hi hf hl hs ha;obtain⟨fu,rfl⟩ : ∃x,fu=x+1:=⟨fu-1,by omega⟩;unfold Zcd Zvo;have e1:Zar (i:Int) 1=((i+1:Nat):Int):=add1 (n:=i+1) (by omega) (by simp only[maxLen];omega);rw[Zai,if_pos (by omega),e1];refine Wlk.seqP (ZGJ (by omega) ha _) (fun x b a' h1 h2 h3=>?_) (fun q b hb=>?_)
  .obtain⟨rfl,h4,_⟩:=h3;dsimp only;rw[Zax ⟨by simp only[List.length_append,List.length_singleton];omega,by simp only[List.length_append,List.length_singleton,maxLen];omega⟩];refine ih (i+1) fu a' (ls++[x]) (by omega) (by omega) (by omega) (by simp only[List.length_append,List.length_singleton];omega) ?_ h2;simp only[List.flatten_append,List.length_append,List.flatten_cons,List.flatten_nil,List.append_nil];omega
  .dsimp only;rw[Zax ⟨by simp only[List.length_append,List.length_singleton];omega,by simp only[List.length_append,List.length_singleton,maxLen];omega⟩];obtain⟨ie,h,h5,h6⟩:=ZsA (ah:=ah) q n hn b4 k (i+1) fu (ls++[b]) (by omega) (by omega) (by omega) (by simp only[List.length_append,List.length_singleton];omega);refine⟨ie,h,by omega,?_⟩;rw[h6];simp only[List.flatten_append,List.length_append,List.flatten_cons,List.flatten_nil,List.append_nil];have:i * 801<=1000 * 801:=Nat.mul_le_mul_right _ (by omega);omega
section
variable {c:ZaF} {x:Zaz} (cY:0<=c.fShards) (hs:c.fShards<=1000) {ah:List Zac} (hG:Gl ah) {a:Nat} (ha:a<=ah.length)
include cY hs hG ha
omit hG ha in
theorem Zzm(q:Zas):∃ls,ZeC (wt ah q) c.fShards=some (wt ah q,ls)/\fewL ls:=by
 obtain⟨n,hn⟩ : ∃n:Nat,c.fShards=(n:Int):=⟨c.fShards.toNat,by omega⟩;unfold ZeC;rw[hn];obtain⟨ls,h1,h2,h3⟩:=ZsA (ah:=ah) q n (by omega) ⟨[],0,opZ,false⟩ n 0 (((n:Int)-(0:Int)).toNat+2) [] (by omega) (by omega) (by omega) (by simp);exact⟨ls,h1,by omega,by rw[h3];simp⟩
theorem ZIk:Wlk ah a (fun x b=>x=b/\b.length<=1000/\b.flatten.length<=800/\∀p∈b.flatten,p.ok) fewL (Zvo c.fShards.toNat 0 []) (ZeC (wk ah a) c.fShards):=by
 have hL:=hG.len;obtain⟨n,hn⟩ : ∃n:Nat,c.fShards=(n:Int):=⟨c.fShards.toNat,by omega⟩;unfold ZeC;rw[hn,Int.toNat_natCast];have h:=Wlk.run (ZFg hL n (by omega) ⟨[],0,opZ,false⟩ n 0 (((n:Int)-(0:Int)).toNat+2) a [] (by omega) (by omega) (by omega) rfl (by simp) ha);refine Wlk.mono h (fun y b hy=>?_) (fun b hb=>hb);obtain⟨h1,g,h3⟩:=hy;cases h1;obtain⟨h0,h4,h5⟩:=ZqM _ _ _ _ _ _ h3;simp only[List.length_nil]at h0;refine⟨rfl,by omega,?_,h5 Zaa.ok (by simp) fun v hv=>(hG.val v (List.mem_of_mem_drop hv)).1.2.1⟩;simp only[List.length_drop,List.flatten_nil,List.length_nil]at h4;omega
end
section
variable {ah:List Zac} (hG:Gd ah) {a:Nat} (ha:a<=ah.length)
include hG ha
end
section
variable {c:ZaF} {x:Zaz} (hx:x.ok) {ah:List Zac} (hG:Gd ah) {a:Nat} (ha:a<=ah.length)
include hx hG ha
theorem ZFH(k l:Int)(m:Bool)(v:Zao):Wlk ah a eqP anyW ((keyP k l m).bind fun _=>.ret v) ((ZaB (wk ah a) k l m).bind fun y=>some (y,v)):=by
 have _u:=hx;have hL:=hG.len;exact Wlk.seqU (ZCV (by omega) ha k l m) (fun _ a' h1 h2 _=>Wlk.ret h2 rfl) (fun q=>⟨_,rfl,trivial⟩)
end
section
variable {c:ZaF} {x:Zaz} (hx:x.ok) {ah:List Zac} (hG:Gd ah)
include hx hG
end
def Pr.all{α:Type}(Q:α->Prop):Pr α->Prop | .ret x=>Q x | .ask _ k=>∀v,(k v).all Q | .no=>True
theorem Pr.all_bind{α β:Type}{Q:α->Prop}{Q':β->Prop}{p:Pr α}{f:α->Pr β}(h:p.all Q)(hf:∀x,Q x->(f x).all Q'):(p.bind f).all Q':=by
 induction p with
 |ret x=>exact hf x h
 |ask o k ih=>exact fun v=>ih v (h v)
 |no=>trivial
theorem Pr.all_any{α:Type}(p:Pr α):p.all fun _=>True:=by
 induction p with
 |ret x=>trivial
 |ask o k ih=>exact fun v=>ih v
 |no=>trivial
theorem Pr.all_then{α β:Type}{Q':β->Prop}{p:Pr α}{f:α->Pr β}(hf:∀x,(f x).all Q'):(p.bind f).all Q':=Pr.all_bind (Pr.all_any p) fun x _=>hf x
theorem Pr.all_run{α:Type}{Q:α->Prop}:∀{p:Pr α}{l:List Zac}{x:α}{g:Zaq},p.all Q->runT p l=some (.ret x g)->Q x
 | .ret y,l,x,g,h,e=>by simp[runT]at e;rw[<-e.1];exact h
 | .ask o k,[],x,g,h,e=>by simp[runT]at e
 | .ask o k,v :: l,x,g,h,e=>Pr.all_run (h v) e
 | .no,l,x,g,h,e=>by simp[runT]at e
theorem ZzQ(n a b:Int):Zby n a b=some (decide (n>=a)&&decide (n<=b)):=by
 unfold Zby
 cases decide (n>=a)<;>rfl
theorem ZHn{α:Type}{c:Bool}{x y:Option α}(h1:∃b,x=some b)(h2:∃b,y=some b):∃b,(bif c then x else y)=some b:=by
 cases c
 .exact h2
 .exact h1
theorem ZGX(c:ZaF):∃b,ZdO c=some b:=by
 unfold ZdO;simp only[Zcc,ZcE,ZzQ,ZaL]
 repeat' first|exact⟨_,rfl⟩|apply ZHn
theorem got38(l:List Zac):∃b,ZhZ l=some b/\(b=true->l.length<=80/\∀v∈l,v.fBans.length<=20/\v.fBook.length<=20):=by
 have az:∀fu (i:Nat),i<=80->i<=l.length->80-i<fu->(∀j:Nat,j<i->(l.getD j Zac.d).fBans.length<=20/\(l.getD j Zac.d).fBook.length<=20) ->
   ∃b,Zdy l fu (i:Int)=some b/\(b=true->l.length<=80/\∀v∈l,v.fBans.length<=20/\v.fBook.length<=20):=by
  intro fu;induction fu with
  |zero=>intro i _ _ h;omega
  |succ fu ih=>
   intro i hi iv hf cR;unfold Zdy;simp only[Zai];have cj:l.length<=i->∀v∈l,v.fBans.length<=20/\v.fBook.length<=20:=fun hle v hv=>by
    obtain⟨j,hj,rfl⟩:=List.getElem_of_mem hv;rw[<-ZdM l Zac.d j hj];exact cR j (by omega)
   by_cases h1:(i:Int)<(l.length:Int)
   .rw[if_pos h1];by_cases h2:(i:Int)<80
    .rw[if_pos h2,Zax ⟨by omega,by omega⟩];simp only[Int.toNat_natCast];by_cases h3:((l.getD i Zac.d).fBans.length:Int)>20
     .rw[if_pos h3];exact⟨false,rfl,fun h=>by cases h⟩
     .rw[if_neg h3];by_cases h4:((l.getD i Zac.d).fBook.length:Int)>20
      .rw[if_pos h4];exact⟨false,rfl,fun h=>by cases h⟩
      .rw[if_neg h4];have e1:Zar (i:Int) 1=((i+1:Nat):Int):=add1 (n:=81) (by omega) (by unfold maxLen;omega);rw[e1];refine ih (i+1) (by omega) (by omega) (by omega) fun j hj=>?_;by_cases e:j=i
       .subst e;omega
       .exact cR j (by omega)
    .rw[if_neg h2];refine⟨_,rfl,fun h=>?_⟩;have:=of_decide_eq_true h;have hle:l.length<=i:=by omega
     exact⟨by omega,cj hle⟩
   .rw[if_neg h1];refine⟨_,rfl,fun h=>?_⟩;have:=of_decide_eq_true h;exact⟨by omega,cj (by omega)⟩
 exact az _ 0 (by omega) (by omega) (by omega) (fun j hj=>by omega)
theorem ZHf{ah:List Zac}{p:Pr Zao}{r:Option (Zab×Zao)}(h:Wlk ah 0 eqP anyW p r)(hp:p.all fun v=>v.fPeers.length<=1000000) :
  ∃t w v,(runT p ah).map Zwt=some t/\r=some (w,v)/\Zgb t w v=some true:=by
 rcases h with⟨v,b,a,h1,h2,h3,h4,h5⟩|⟨q,b,h1,h2,h3,h4⟩
 .cases h5;rw[List.drop_zero]at h1;refine⟨_,_,_,by rw[h1];rfl,h2,?_⟩;unfold Zgb;simp only[ZoV,cond_false,Zwt,cond_true,Bool.not_false];have e1:Zej Zas.d opZ=some true:=Zto opZ ZwB;have e2:=Zqi v (Pr.all_run (Q:=fun v:Zao=>v.fPeers.length<=1000000) hp h1);have ld:Zej Zas.d (Zas.mk (0:Int) (0:Int) (Zan.mk (0:Int) (0:Int) (0:Int)) (0:Int) (0:Int) (Zac.mk (0:Int) (Zaa.mk (Zah.mk (Zaf.mk false (0:Int) (0:Int)) (0:Int)) false (0:Int) (Zau.mk (0:Int) (0:Int)) (0:Int) (0:Int)) ([]:(List Zag)) ([]:(List Zad))) false)=some true:=e1;rw[ld,e2];rfl
 .rw[List.drop_zero]at h1;refine⟨_,_,_,by rw[h1];rfl,h2,?_⟩;unfold Zgb;simp only[ZjU,cond_true,Zwt,Bool.not_false];have e1:Zej q (wt ah q).fOp=some true:=Zto q h3;have e2:Zel Zao.d (Zao.mk (0:Int) (Zah.mk (Zaf.mk false (0:Int) (0:Int)) (0:Int)) (0:Int) (0:Int) ([]:(List Zaa)))=some true:=Zqi repZ (by simp[repZ]);rw[e1,e2];rfl
theorem ZDk(all:List (List Zaa))(e:Zah)(K:Nat)(hK:ZiO all e=(K:Int))(h1:all.length<=1000)(h2:all.flatten.length<=900000)(v9:Int)(c:ZaF)(x:Zaz)(w b6:Zab)(b7 b13:Zao):∀(m k fu:Nat),K-k=m->k<=K->m+1<=fu ->
  Zcf fu v9 (k:Int) all c x w b6 b7 e b13=(Zdv (all.getD K []) [e]).bind fun fG=>(ZaY w (K:Int) (all.getD K []) fG).bind fun dt=>need (0<=v9/\v9<((all.length:Nat):Int)) <|
   (ZbJ ((all.set K fG).getD v9.toNat []) x).bind fun gy=>(ZaY dt v9 ((all.set K fG).getD v9.toNat []) gy).bind fun gx=>
   (Zbx gx c.fShards true).bind fun jU=>(ZaB jU 4 0 false).bind fun jV=>some (jV,(⟨0,e,1,0,[]⟩ : Zao)):=by
 have hlt:=Zwe all e;have ia:0<=ixOf (fun l=>decide (ZnV l e>=0)) all 0:=by have:ixOf (fun l=>decide (ZnV l e>=0)) all 0=(K:Int):=hK;omega
 obtain⟨k',k1,k2,⟨y,k3,k4⟩,k5⟩:=Zrh (fun l=>decide (ZnV l e>=0)) all 0 ia;have hKK:k'=K:=by have:ixOf (fun l=>decide (ZnV l e>=0)) all 0=(K:Int):=hK;omega
 subst hKK;have hix:∀i,i<all.length->Zcx (all.getD i []) e=some (ZnV (all.getD i []) e):=fun i hi=>Zty _ _ (by have:=Zwu (Zjv all [] i hi);unfold maxLen;omega);intro m;induction m with
 |zero=>
  intro k fu hm hk hf;obtain⟨fu,rfl⟩ : ∃x,fu=x+1:=⟨fu-1,by omega⟩;obtain rfl:k=k':=by omega
  have e1:Zar (k:Int) 1=((k+1:Nat):Int):=add1 (n:=k+1) (by omega) (by simp only[maxLen];omega);unfold Zcf;simp only[Int.toNat_natCast];rw[e1,Zai,Zax (by omega)];split
  .have hy:all.getD k []=y:=by simp[List.getD_eq_getElem?_getD,k3]
   have hfy:¬ZnV (all.getD k []) e<0:=by rw[hy];have:=of_decide_eq_true k4;omega
   rw[hix k (by omega),ZaL,Zai,if_neg hfy]
  .rw[Zax (by omega)]
 |succ m ih=>
  intro k fu hm hk hf;obtain⟨fu,rfl⟩ : ∃x,fu=x+1:=⟨fu-1,by omega⟩;have e1:Zar (k:Int) 1=((k+1:Nat):Int):=add1 (n:=k+1) (by omega) (by simp only[maxLen];omega);obtain⟨z,z1,z2⟩:=k5 k (by omega);have hz:all.getD k []=z:=by simp[List.getD_eq_getElem?_getD,z1]
  have hfz:ZnV (all.getD k []) e<0:=by rw[hz];have:=of_decide_eq_false z2;omega
  rw[<-ih (k+1) fu (by omega) (by omega) (by omega)]
  conv=>lhs;unfold Zcf
  simp only[Int.toNat_natCast];rw[e1,Zai,if_pos (by omega),Zax (by omega),hix k (by omega),ZaL,Zai,if_pos hfz]
section
variable {c:ZaF} {x:Zaz} (hx:x.ok) (bu:1<=c.fShards) (hs:c.fShards<=8) {ah:List Zac} (hG:Gl ah) {a:Nat} (ha:a<=ah.length)
include hx bu hs hG ha
omit bu hs ha in
theorem ZrM{a:Nat}(ha:a<=ah.length)(k l:Int)(m:Bool)(v:Zao):Wlk ah a eqP anyW ((keyP k l m).bind fun _=>.ret v) ((ZaB (wk ah a) k l m).bind fun y=>some (y,v)):=ZFH hx hG.gd ha k l m v
omit bu hs ha in
theorem ZrN{a:Nat}(ha:a<=ah.length)(m:Bool)(v:Zao):Wlk ah a eqP anyW ((Ztb c.fShards m).bind fun _=>(keyP 4 0 false).bind fun _=>.ret v) ((Zbx (wk ah a) c.fShards m).bind fun z=>(ZaB z 4 0 false).bind fun y=>some (y,v)):=by
 have hL:=hG.len;refine Wlk.seqU (ZFf (by omega) ha c.fShards m) (fun _ a1 h1 h2 _=>ZrM hx hG h2 4 0 false v) (fun q=>?_);rw[ZiN];exact⟨_,rfl,trivial⟩
theorem ZHw:Wlk ah a eqP anyW ((ZxH c x).bind fun r=>(keyP 4 0 false).bind fun _=>.ret r) (Zem c x (wk ah a)):=by
 have hL:=hG.len;have jw:ah.length<=1000000:=by omega
 have hp:=ZHN hx bu hs;unfold ZxH Zem;rw[Pr.bind_assoc];refine Wlk.seqU (ZFe (by omega) ha c.fShards) (fun _ a1 _ h1 _=>?_) (fun q=>?_);rotate_left
 .obtain⟨ls,jB,_⟩:=Zzm (ah:=ah) (c:=c) (by omega) (by omega) q;rw[jB,ZaL];simp only[ZjU,cond_true];exact⟨_,rfl,trivial⟩
 rw[Pr.bind_assoc];have cR:=Wlk.run (ZIk (c:=c) (by omega) (by omega) hG h1);refine Wlk.seqP cR (fun all b a2 _ h2 h3=>?_) (fun q b _=>?_);rotate_left
 .simp only[ZjU,cond_true];exact⟨_,rfl,trivial⟩
 obtain⟨⟨rfl,bL,bo,dD⟩,g,hg⟩:=h3;obtain⟨bH,_,_⟩:=ZqM _ _ _ _ _ _ hg;simp only[List.length_nil,Nat.zero_add]at bH;have hle:=fun(i:Nat) (hi:i<all.length)=>Zwu (Zjv all [] i hi);have gL:=hle (pt c x).toNat (by omega);have hptl:(ZhK all (pt c x)).length<=all.flatten.length:=gL;have hd:all.getD (pt c x).toNat ([]:List Zaa)=ZhK all (pt c x):=rfl;simp only[ZoV,cond_false];rw[(ZqS x.fEnd.fAddr hx.2.1.1 c.fSecret c.fShards).2.1,ZaL];have hpd:ZxX x.fEnd.fAddr c.fSecret c.fShards=pt c x:=rfl;rw[hpd,Zax (by omega),hd,Zty _ _ (by unfold maxLen;omega),ZaL,Zai];unfold ZsQ ZqR;by_cases h0:ZnV (ZhK all (pt c x)) x.fEnd>=0
 .rw[if_pos h0,if_pos h0];simp only[Pr.bind_ret,Pr.bind_assoc];exact ZrN hx hG h2 true (ZkR 7)
 .rw[if_neg h0,if_neg h0];simp only[Pr.bind_assoc];refine Wlk.seqP (Zzh (by omega) h2 c.fMaxIn true) (fun ok b a3 _ h3 aA=>?_) (fun q b _=>?_);rotate_left
  .simp only[ZjU,cond_true];exact⟨_,rfl,trivial⟩
  cases aA;simp only[ZoV,cond_false];cases ok with
  |true=>
   rw[cond_true,if_pos rfl,ZpL x _ (by omega),ZaL];simp only[Pr.bind_ret,Pr.bind_assoc];refine Wlk.seqU (Zxp (by omega) h3 _ _ _ (by rw[ZjV];omega)) (fun _ a4 _ h4 _=>ZrN hx hG h4 false repZ) (fun q=>?_);rw[ZpF ah jw,ZaL,ZiN];exact⟨_,rfl,trivial⟩
  |false=>
   obtain⟨c1,c2,c3⟩:=ZyR c all bo dD;rw[cond_false,if_neg (by decide),ZHk all bL (by omega),ZaL,c2,ZaL];cases hc:(Zdf c all).2 with
   |false=>
    rw[cond_false,if_neg (by decide)];simp only[Pr.bind_ret,Pr.bind_assoc];exact ZrN hx hG h3 true (ZkR 5)
   |true=>
    have hk:=c3 hc;have hk2:=Zwe all (Zdf c all).1;obtain⟨K,hK⟩ : ∃K:Nat,ZiO all (Zdf c all).1=(K:Int):=⟨(ZiO all (Zdf c all).1).toNat,by omega⟩;have hkl:=hle K (by omega);have hr:=Ztt (all.getD K []) [(Zdf c all).1];have he:((all.set K (ZqT (all.getD K []) [(Zdf c all).1])).getD (pt c x).toNat []).length<=800:=by
     simp only[List.getD_eq_getElem?_getD,List.getElem?_set];by_cases e:K=(pt c x).toNat
     .rw[if_pos e];split
      .simp only[Option.getD_some];rw[<-List.getD_eq_getElem?_getD];omega
      .simp
     .rw[if_neg e,<-List.getD_eq_getElem?_getD];omega
    have i5:ZhK all (K:Int)=all.getD K []:=rfl;have bf:ZhK (ZoA all (Zdf c all).1) (pt c x)=(all.set K (ZqT (all.getD K []) [(Zdf c all).1])).getD (pt c x).toNat []:=by unfold ZoA;rw[hK];rfl
    have jx:=ZDk all (Zdf c all).1 K hK bL (by omega) (pt c x) c x (wk ah a3) (Zab.mk ([]:(List Zac)) (0:Int) (Zas.mk (0:Int) (0:Int) (Zan.mk (0:Int) (0:Int) (0:Int)) (0:Int) (0:Int) (Zac.mk (0:Int) (Zaa.mk (Zah.mk (Zaf.mk false (0:Int) (0:Int)) (0:Int)) false (0:Int) (Zau.mk (0:Int) (0:Int)) (0:Int) (0:Int)) ([]:(List Zag)) ([]:(List Zad))) false) false) (Zao.mk (0:Int) (Zah.mk (Zaf.mk false (0:Int) (0:Int)) (0:Int)) (0:Int) (0:Int) ([]:(List Zaa))) (Zao.mk (5:Int) (Zah.mk (Zaf.mk false (0:Int) (0:Int)) (0:Int)) (0:Int) (0:Int) ([]:(List Zaa))) K 0 1000000 rfl (Nat.zero_le _) (by omega);have ig:∀r,Zcf 1000000 (pt c x) ((0:Nat):Int) all c x (wk ah a3) (Zab.mk ([]:(List Zac)) (0:Int) (Zas.mk (0:Int) (0:Int) (Zan.mk (0:Int) (0:Int) (0:Int)) (0:Int) (0:Int) (Zac.mk (0:Int) (Zaa.mk (Zah.mk (Zaf.mk false (0:Int) (0:Int)) (0:Int)) false (0:Int) (Zau.mk (0:Int) (0:Int)) (0:Int) (0:Int)) ([]:(List Zag)) ([]:(List Zad))) false) false) (Zao.mk (0:Int) (Zah.mk (Zaf.mk false (0:Int) (0:Int)) (0:Int)) (0:Int) (0:Int) ([]:(List Zaa))) (Zdf c all).1 (Zao.mk (5:Int) (Zah.mk (Zaf.mk false (0:Int) (0:Int)) (0:Int)) (0:Int) (0:Int) ([]:(List Zaa)))=r->Zcf 1000000 (pt c x) 0 all c x (wk ah a3) (Zab.mk ([]:(List Zac)) (0:Int) (Zas.mk (0:Int) (0:Int) (Zan.mk (0:Int) (0:Int) (0:Int)) (0:Int) (0:Int) (Zac.mk (0:Int) (Zaa.mk (Zah.mk (Zaf.mk false (0:Int) (0:Int)) (0:Int)) false (0:Int) (Zau.mk (0:Int) (0:Int)) (0:Int) (0:Int)) ([]:(List Zag)) ([]:(List Zad))) false) false) (Zao.mk (0:Int) (Zah.mk (Zaf.mk false (0:Int) (0:Int)) (0:Int)) (0:Int) (0:Int) ([]:(List Zaa))) (Zdf c all).1 (Zao.mk (5:Int) (Zah.mk (Zaf.mk false (0:Int) (0:Int)) (0:Int)) (0:Int) (0:Int) ([]:(List Zaa)))=r:=fun r h=>h;rw[cond_true,if_pos rfl,ig _ jx,ZFA _ _ (by omega) (by simp[maxLen]),ZaL,hK,i5,bf];simp only[Pr.bind_ret,Pr.bind_assoc];refine Wlk.seqU (Zxp (by omega) h3 _ _ _ (by omega)) (fun _ a4 _ h4 _=>?_) (fun q=>?_);rotate_left
    .rw[Zax (by omega),ZpL x _ (by omega),ZaL,ZCQ ah _ _ _ _ (by rw[ZjV];omega),ZaL,ZpF ah jw,ZaL,ZiN];exact⟨_,rfl,trivial⟩
    rw[Zax (by omega),ZpL x _ (by omega),ZaL];refine Wlk.seqU (Zxp (by omega) h4 _ _ _ (by rw[ZjV];omega)) (fun _ a5 _ h5 _=>ZrN hx hG h5 true _) (fun q=>?_);rw[ZpF ah jw,ZaL,ZiN];exact⟨_,rfl,trivial⟩
omit ha in
theorem ZGs:Wlk ah 0 eqP anyW (Zsv c x) (Zfr c x ah):=by
  have hL:=hG.len
  have jw : ah.length<=1000000:=by omega
  have hw0:(Zab.mk ah (0:Int) opZ false) = wk ah 0:=rfl
  unfold Zsv Zfr
  rw [ZzB x hx,ZaL]
  cases Zlq x with
  | false =>
    rw [Bool.not_false,cond_true,if_neg (by decide)]
    exact ZrM hx hG (Nat.zero_le _) 8 0 true (ZkR 1)
  | true =>
    rw [Bool.not_true,cond_false,if_pos rfl]
    have body : Wlk ah 0 eqP anyW ((keyP 2 0 false).bind fun _ => (ZpW ⟨3, 0, 0⟩).bind fun v => if ZqP v.fBans x.fEnd.fAddr x.fNow > 0 then (keyP 4 0 true).bind fun _ => .ret ⟨8, endZ, 0, ZqP v.fBans x.fEnd.fAddr x.fNow, []⟩
        else (ZxV c x).bind fun q =>if q.2 = true then (keyP 4 0 false).bind fun _ =>.ret q.1 else (ZxH c x).bind fun r =>(keyP 4 0 false).bind fun _ =>.ret r)
        ((ZaB (wk ah 0) 2 0 false).bind fun x3 =>(ZbP x3 ⟨3,0,0⟩).bind fun x4 =>(ZeQ x4.2.fBans x.fEnd.fAddr x.fNow).bind fun x5 =>
          bif (decide (x5 > (0:Int))) then (ZaB x4.1 (4:Int) (0:Int) true).bind fun x6 =>some (x6,(⟨8,endZ,0,x5,[]⟩ : Zao))
          else (Zdh x.fEnd.fAddr c.fSecret c.fShards).bind fun x7 =>(ZaB x4.1 (1:Int) (Zar (2:Int) x7) false).bind fun x8 =>(Zcq x8 x7).bind fun x9 =>
            bif (!x9.1.fWait) then
              (Zcx x9.2 x.fEnd).bind fun lh =>
              bif (decide (lh >= (0:Int))) then
                (ZaB x9.1 (3:Int) (Zar (2:Int) x7) true).bind fun lj =>(ZaB lj (4:Int) (0:Int) false).bind fun iE =>some (iE,ZkR 7)
              else
                (Zbw x9.1 c.fMaxIn true).bind fun dR =>
                bif dR.1.fWait then some (dR.1,repZ)
                else
                  bif dR.2 then
                    (ZbJ x9.2 x).bind fun iF =>(ZaY dR.1 x7 x9.2 iF).bind fun fG =>
                    ZaX x7 dR.2 c x ⟨[],0,opZ,false⟩ repZ fG
                  else ZaX x7 dR.2 c x ⟨[],0,opZ,false⟩ repZ dR.1
            else
              (Zbw x9.1 c.fMaxIn true).bind fun dt =>
              bif dt.1.fWait then some (dt.1,repZ)
              else
                bif dt.2 then
                  (ZbJ x9.2 x).bind fun gy =>(ZaY dt.1 x7 x9.2 gy).bind fun gx =>
                  ZaX x7 dt.2 c x ⟨[],0,opZ,false⟩ repZ gx
                else ZaX x7 dt.2 c x ⟨[],0,opZ,false⟩ repZ dt.1):=by
      have hof:Zdh x.fEnd.fAddr c.fSecret c.fShards = some (pt c x):=(ZqS x.fEnd.fAddr hx.2.1.1 c.fSecret c.fShards).2.1
      have hz:valZ.fBans = []:=rfl
      have u0:=(Ztn [] x.fEnd.fAddr x.fNow (by simp) (by simp) hx.2.1.1).2
      -- behind a wait ahead of the part
      have w1 : ∀ q, ∃ d, ((Zdh x.fEnd.fAddr c.fSecret c.fShards).bind fun x7 => (ZaB (wt ah q) (1 : Int) (Zar (2 : Int) x7) false).bind fun x8 => (Zcq x8 x7).bind fun x9 =>
            bif (!x9.1.fWait) then
              (Zcx x9.2 x.fEnd).bind fun lh =>
              bif (decide (lh >= (0:Int))) then
                (ZaB x9.1 (3:Int) (Zar (2:Int) x7) true).bind fun lj =>(ZaB lj (4:Int) (0:Int) false).bind fun iE =>some (iE,ZkR 7)
              else
                (Zbw x9.1 c.fMaxIn true).bind fun dR =>
                bif dR.1.fWait then some (dR.1,repZ)
                else
                  bif dR.2 then
                    (ZbJ x9.2 x).bind fun iF =>(ZaY dR.1 x7 x9.2 iF).bind fun fG =>
                    ZaX x7 dR.2 c x ⟨[],0,opZ,false⟩ repZ fG
                  else ZaX x7 dR.2 c x ⟨[],0,opZ,false⟩ repZ dR.1
            else
              (Zbw x9.1 c.fMaxIn true).bind fun dt =>
              bif dt.1.fWait then some (dt.1,repZ)
              else
                bif dt.2 then
                  (ZbJ x9.2 x).bind fun gy =>(ZaY dt.1 x7 x9.2 gy).bind fun gx =>
                  ZaX x7 dt.2 c x ⟨[],0,opZ,false⟩ repZ gx
                else ZaX x7 dt.2 c x ⟨[],0,opZ,false⟩ repZ dt.1) = some (wt ah q,d)/\anyW d:=fun q =>by
        rw [hof,ZaL,ZiN,ZaL,ZuN,ZaL]
        simp only [ZjU,Bool.not_true,cond_false,ZpE,ZaL,cond_true]
        exact ⟨_,rfl,trivial⟩
      refine Wlk.seqU (ZCV (by omega) (Nat.zero_le _) 2 0 false) (fun _ a1 _ h1 _ =>?_) (fun q =>?_)
      rotate_left
      . rw [Zzk,ZaL]
        simp only [hz]
        rw [u0,ZaL,Zai]
        split
        . rw [ZiN]; exact ⟨_,rfl,trivial⟩
        . exact w1 q
      refine Wlk.seqP (ZIi (by omega) h1 _) (fun v b a2 _ h2 hv =>?_) (fun q b hb =>?_)
      rotate_left
      . subst hb
        simp only [hz]
        rw [u0,ZaL,Zai]
        split
        . rw [ZiN]; exact ⟨_,rfl,trivial⟩
        . exact w1 q
      obtain ⟨rfl,hm⟩:=hv
      have jE:=hG.val v hm
      dsimp only
      rw [(Ztn v.fBans x.fEnd.fAddr x.fNow (by unfold maxLen; omega) jE.1.2.2.1.2 hx.2.1.1).2,ZaL,Zai]
      by_cases h0:ZqP v.fBans x.fEnd.fAddr x.fNow > 0
      . rw [if_pos h0,if_pos h0]
        exact ZrM hx hG h2 4 0 true _
      . rw [if_neg h0,if_neg h0,hof,ZaL,ZBb hx]
        unfold ZxV
        simp only [Pr.bind_assoc]
        refine Wlk.seqU (ZCV (by omega) h2 1 (2 + pt c x) false) (fun _ a3 _ h3 _ =>?_) (fun q =>?_)
        rotate_left
        . rw [ZuN,ZaL]
          simp only [ZjU,Bool.not_true,cond_false,ZpE,ZaL,cond_true]
          exact ⟨_,rfl,trivial⟩
        refine Wlk.seqP (ZGJ (by omega) h3 (pt c x)) (fun w b a4 _ h4 hw =>?_) (fun q b _ =>?_)
        rotate_left
        . simp only [ZjU,Bool.not_true,cond_false,ZpE,ZaL,cond_true]
          exact ⟨_,rfl,trivial⟩
        obtain ⟨rfl,hwl,_⟩:=hw
        simp only [ZoV,Bool.not_false,cond_true]
        rw [Zty _ _ (by unfold maxLen; omega),ZaL,Zai]
        by_cases h5:ZnV w x.fEnd >= 0
        . rw [if_pos h5,if_pos h5]
          simp only [Pr.bind_assoc,Pr.bind_ret,if_true]
          refine Wlk.seqU (ZCV (by omega) h4 3 (2 + pt c x) true) (fun _ a5 _ h6 _ =>ZrM hx hG h6 4 0 false (ZkR 7)) (fun q =>?_)
          rw [ZiN]; exact ⟨_,rfl,trivial⟩
        . rw [if_neg h5,if_neg h5]
          simp only [Pr.bind_assoc]
          refine Wlk.seqP (Zzh (by omega) h4 c.fMaxIn true) (fun ok b a5 _ h6 aA =>?_) (fun q b _ =>?_)
          rotate_left
          . simp only [ZjU,cond_true]
            exact ⟨_,rfl,trivial⟩
          cases aA
          simp only [ZoV,cond_false]
          have sW : ∀ q,∃ d,Zem c x (wt ah q) = some (wt ah q,d):=fun q =>by
            unfold Zem
            obtain ⟨ls,jB,_⟩:=Zzm (ah:=ah) (c:=c) (by omega) (by omega) q
            rw [Zzj ah jw,ZaL,jB,ZaL]
            simp only [ZjU,cond_true]
            exact ⟨_,rfl⟩
          cases ok with
          | true =>
            rw [cond_true,if_pos rfl,ZpL x _ (by omega),ZaL]
            simp only [Pr.bind_assoc,Pr.bind_ret,if_true]
            unfold ZaX
            simp only [Bool.not_true,cond_false,ZBb hx]
            refine Wlk.seqU (Zxp (by omega) h6 _ _ _ (by rw [ZjV]; omega)) (fun _ a6 _ h7 _ =>?_) (fun q =>?_)
            rotate_left
            . rw [ZiN,ZaL,ZiN]; exact ⟨_,rfl,trivial⟩
            refine Wlk.seqU (ZCV (by omega) h7 3 (2 + pt c x) false) (fun _ a7 _ h8 _ =>ZrM hx hG h8 4 0 false repZ) (fun q =>?_)
            rw [ZiN]; exact ⟨_,rfl,trivial⟩
          | false =>
            rw [cond_false,if_neg (by decide)]
            simp only [Pr.bind_assoc,Pr.bind_ret,Bool.false_eq_true,if_false]
            unfold ZaX
            simp only [Bool.not_false,cond_true,ZBb hx]
            refine Wlk.seqU (ZCV (by omega) h6 3 (2 + pt c x) false) (fun _ a7 _ h8 _ =>?_) (fun q =>?_)
            rotate_left
            . obtain ⟨d,hd⟩:=sW q
              rw [hd,ZaL]; exact ⟨_,rfl,trivial⟩
            have lk : ∀ r:Option (Zab × Zao),(r.bind fun y =>some (y.1,y.2)) = r:=fun r =>by cases r <;> rfl
            rw [lk]
            exact ZHw hx bu hs hG h8
    exact body
end
theorem ZCP(c:ZaF)(x:Zaz):(Zsv c x).all fun v=>v.fPeers.length<=1000000:=by
 have slow:((ZxH c x).bind fun r=>(keyP 4 0 false).bind fun _=>Pr.ret r).all fun v=>v.fPeers.length<=1000000:=by
  unfold ZxH;simp only[Pr.bind_assoc];refine Pr.all_then fun _=>Pr.all_then fun all=>?_;unfold ZsQ;simp only[Pr.bind_assoc,Pr.bind_ret];refine Pr.all_bind (Q:=fun q:Zao×Bool=>q.1.fPeers.length<=1000000) ?_ fun q hq=>Pr.all_then fun _=>Pr.all_then fun _=>hq;unfold ZqR;split
  .exact Nat.zero_le _
  .refine Pr.all_then fun b=>?_;split
   .exact Pr.all_then fun _=>Nat.zero_le _
   .split
    .exact Pr.all_then fun _=>Pr.all_then fun _=>Nat.zero_le _
    .exact Nat.zero_le _
 unfold Zsv;split
 .refine Pr.all_then fun _=>Pr.all_then fun v=>?_;split
  .exact Pr.all_then fun _=>Nat.zero_le _
  .refine Pr.all_bind (Q:=fun q:Zao×Bool=>q.1.fPeers.length<=1000000) ?_ fun q hq=>?_
   .unfold ZxV;refine Pr.all_then fun _=>Pr.all_then fun l=>?_;split
    .exact Pr.all_then fun _=>Nat.zero_le _
    .refine Pr.all_then fun b=>?_;split
     .exact Pr.all_then fun _=>Pr.all_then fun _=>Nat.zero_le _
     .exact Pr.all_then fun _=>Nat.zero_le _
   .split
    .exact Pr.all_then fun _=>hq
    .exact slow
 .exact Pr.all_then fun _=>Nat.zero_le _
theorem ZFs(c:ZaF):Zcc false c=some false:=by
 simp[Zcc,ZcE,ZzQ]
theorem ZFr{c:ZaF}(h:ZdO c=some true):1<=c.fShards/\c.fShards<=8:=by
 unfold ZdO at h;simp only[ZzQ,ZaL,ZFs]at h;cases h1:(decide (c.fMaxIn>=0)&&decide (c.fMaxIn<=65535))with
 |false=>rw[h1]at h;simp at h
 |true=>
  rw[h1,cond_true]at h;cases h2:(decide (c.fMaxOut>=0)&&decide (c.fMaxOut<=65535))with
  |false=>rw[h2]at h;simp at h
  |true=>
   rw[h2,cond_true]at h;cases h3:(decide (c.fShards>=1)&&decide (c.fShards<=8))with
   |false=>rw[h3]at h;simp at h
   |true=>
    rw[Bool.and_eq_true,decide_eq_true_eq,decide_eq_true_eq]at h3;omega
theorem Zxl:ZdQ=some true:=by decide +kernel
theorem gl_of{l:List Zac}(h:okL Zac.ok l)(h1:l.length<=80)(h2:∀v∈l,v.fBans.length<=20/\v.fBook.length<=20):Gl l:=
 ⟨by omega,fun v hv=>⟨h.2 v hv,by have:=(h2 v hv).1;omega,by have:=(h2 v hv).2;omega⟩⟩
theorem ZuR(c:ZaF)(x:Zaz)(ah:List Zac)(hc:c.ok)(hx:x.ok)(hg:okL Zac.ok ah):ZfA c x ah=some true:=by
 obtain⟨b,hb⟩:=ZGX c;obtain⟨d,hd,jO⟩:=got38 ah;unfold ZfA;rw[hb,ZaL];cases b with
 |false=>rw[Bool.not_false,cond_true,Zxl];rfl
 |true=>
  obtain⟨s1,s2⟩:=ZFr hb;rw[Bool.not_true,cond_false,hd,ZaL];cases d with
  |false=>rw[Bool.not_false,cond_true,Zxl];rfl
  |true=>
   have hG:=gl_of hg (jO rfl).1 (jO rfl).2;rw[Bool.not_true,cond_false];by_cases hk:x.fKind=1
   .have e:(x.fKind != 1)=false:=by simp[hk]
    obtain⟨t,w,v,h1,h2,h3⟩:=ZHf (ZGs hx s1 s2 hG) (ZCP c x);rw[e,cond_false,h2,ZaL,Zxt hx hG s1 s2,h1,ZaL,h3,Zxl];rfl
   .have e:(x.fKind != 1)=true:=by simp[hk]
    rw[e,cond_true,Zxl];rfl
end Go.Proofs.YtmnloegcpaahcaaGreat
