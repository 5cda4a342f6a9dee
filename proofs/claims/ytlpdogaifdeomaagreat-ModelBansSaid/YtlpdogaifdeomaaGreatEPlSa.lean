import Derived.Test.YtlpdogaifdeomaaGreatEPlXb
import Derived.Test.YtlpdogaifdeomaaGreatEPlY
namespace Go.Proofs.YtlpdogaifdeomaaGreat
set_option linter.unusedVariables false
set_option linter.unusedSimpArgs false
theorem ZMA(p:Zaa)(s:Int):ZgM s (grp p.fEnd.fAddr)=some (keyZ s p):=by
 obtain⟨m,b,d,_⟩:=ZGN s (grp p.fEnd.fAddr);unfold keyZ;rw[b,d];rfl
theorem ZLy(a b:Int)(p q:Zaa):Zdw a b p q=some (decide (a<b\/(a=b/\cmpE p.fEnd q.fEnd<0))):=by
 unfold Zdw;rw[Zrb,Zao];by_cases h:a=b
 .subst h;have e:(a != a)=false:=by simp
  rw[e,cond_false];congr 1;rw[decide_eq_decide];constructor
  .intro h;exact .inr ⟨rfl,h⟩
  .rintro (h|⟨_,h⟩)
   .omega
   .exact h
 .have e:(a != b)=true:=by rw[bne_iff_ne];exact h
  rw[e,cond_true];congr 1;rw[decide_eq_decide];constructor
  .intro h;exact .inl h
  .rintro (d|⟨d,_⟩)
   .exact d
   .exact absurd d h
theorem ZGr(p q:Zaa)(b s:Int)(j:p.fEnd.fAddr.ok)(n:q.fEnd.fAddr.ok)(hb:1<=b/\b<=4):ZjC p q b s=some (decide (Zpf b s p q<0)):=by
 have hd:decide (Zpf b s p q<0)=decide (kv b s p<kv b s q\/(kv b s p=kv b s q/\cmpE p.fEnd q.fEnd<0)):=by rw[decide_eq_decide];exact Ztr
 rw[hd];unfold ZjC;simp only[ZCC _ j,ZCC _ n,Zao,ZMA,ZLy,ZcR];by_cases i:b=1
 .subst i;simp only[if_true,kv];by_cases h:keyZ s p=keyZ s q
  .have e:(keyZ s p != keyZ s q)=false:=by rw[h];simp
   rw[e,cond_false];congr 1;rw[decide_eq_decide];constructor
   .rintro (d|⟨_,d⟩)
    .omega
    .exact .inr ⟨by omega,d⟩
   .rintro (d|⟨_,d⟩)
    .omega
    .exact .inr ⟨by trivial,d⟩
  .have e:(keyZ s p != keyZ s q)=true:=by rw[bne_iff_ne];exact h
   rw[e,cond_true];congr 1;rw[decide_eq_decide];constructor
   .intro d;left;omega
   .rintro (d|⟨d,_⟩)<;>omega
 .by_cases d:b=2
  .subst d;simp[kv]
  .by_cases o:b=3
   .subst o;simp only[kv,if_neg i,if_neg d,if_true];congr 1;rw[decide_eq_decide];constructor
    .rintro (f|⟨f,g⟩)
     .left;omega
     .right;exact⟨by omega,g⟩
    .rintro (f|⟨f,g⟩)
     .left;omega
     .right;exact⟨by omega,g⟩
   .obtain rfl:b=4:=by omega
    simp[kv]
def unJ(w:List Bool)(i:Nat):Ins:=(upto i).filter fun j=>!(w.getD j.toNat false)
def ZrU(K:Cx):Ins->Int | []=>-1|b :: r=>bstJ K b r
theorem ZIP{K:Cx}(C:Ins)(y:Int):ZrU K (C++[y])=if C=[]then y else if ltJ K y (ZrU K C)=true then y else ZrU K C:=by
 cases C with
 |nil=>simp[ZrU,bstJ]
 |cons b r=>
  rw[if_neg (by simp)];exact ZxD y r b
theorem Zvc{K:Cx}{C:Ins}(h:C≠[]):ZrU K C∈C:=by
 cases C with
 |nil=>exact absurd rfl h
 |cons b r=>exact ZxC r b
theorem ZCr(w:List Bool)(i:Nat):unJ w (i+1)=unJ w i++if w.getD i false=true then[]else[(i:Int)]:=by
 unfold unJ;rw[ZqP,List.filter_append];congr 1;cases h:w.getD i false with
 |false=>simp only[List.filter_cons,Int.toNat_natCast,h,Bool.not_false,if_true,List.filter_nil,Bool.false_eq_true,if_false]
 |true=>simp only[List.filter_cons,Int.toNat_natCast,h,Bool.not_true,Bool.false_eq_true,if_false,List.filter_nil,if_true]
theorem ZAv{w:List Bool}{i:Nat}{x:Int}(h:x∈unJ w i):0<=x/\x<(i:Int)/\w.getD x.toNat false=false:=by
 obtain⟨b,d⟩:=List.mem_filter.1 h;have:=Zka.1 b;exact⟨this.1,this.2,by simpa using d⟩
theorem ZFN(w:List Bool)(i:Nat):(unJ w i).Nodup:=(Znz i).sublist List.filter_sublist
theorem ZMm(w:List Bool)(n:Nat)(m:Int)(h0:0<=m)(b:m<(w.length:Int)):unJ (w.set m.toNat true) n=(unJ w n).filter fun x=>x != m:=by
 unfold unJ;rw[List.filter_filter];refine List.filter_congr fun x hx=>?_;obtain⟨x1,x2⟩:=Zka.1 hx;simp only[List.getD_eq_getElem?_getD,List.getElem?_set];by_cases h:m=x
 .subst h;rw[if_pos rfl,if_pos (by omega)];simp
 .rw[if_neg (by omega)];have:(x != m)=true:=by rw[bne_iff_ne];omega
  rw[this,Bool.true_and]
theorem ZCf(l:List Zaa)(b:Int)(X:Ins)(p:Int->Bool):Zgo l b (X.filter p)=(Zgo l b X).filter p:=by
 unfold Zgo;rw[List.filter_filter,List.filter_filter];exact List.filter_congr fun y _=>Bool.and_comm _ _
section
variable {l:List Zaa} (hl:l.length<=800) (ho:okPs l) {s:Int} {q:Zay}
include hl ho
theorem ZJS(b:Int)(hb:1<=b/\b<=4)(v9:Int)(p:Int->List Bool->Zay->Option (List Bool))(g:Int->List Bool->Option (List Bool))(w:List Bool)(j:w.length=l.length):∀(k i fu:Nat),l.length-i=k->i<=l.length->k+1<=fu ->
  ZbW l s b q v9 p g fu (ZrU ⟨l,b,s⟩ (Zgo l b (unJ w i))) (i:Int) w=if Zgo l b (unJ w l.length)=[]then g (Zan v9 1) w else g (Zan v9 1) (w.set (ZrU ⟨l,b,s⟩ (Zgo l b (unJ w l.length))).toNat true):=by
 intro k;induction k with
 |zero=>
  intro i fu r t u;obtain⟨fu,rfl⟩ : ∃x,fu=x+1:=⟨fu-1,by omega⟩;obtain rfl:i=l.length:=by omega
  unfold ZbW;rw[Zad,if_neg (by omega),Zad];by_cases f:Zgo l b (unJ w l.length)=[]
  .rw[if_pos f,f];rw[if_neg (by simp[ZrU])]
  .have h:=Zvc (K:=⟨l,b,s⟩) f;obtain⟨m1,m2,_⟩:=ZAv (List.mem_filter.1 h).1;rw[if_neg f,if_pos (by omega),Zai (by rw[j];omega)]
 |succ k ih=>
  intro i fu r t u;obtain⟨fu,rfl⟩ : ∃x,fu=x+1:=⟨fu-1,by omega⟩;have v:Zan (i:Int) 1=((i+1:Nat):Int):=add1 (n:=i+1) (by omega) (by simp only[maxLen];omega);have bD:=ih (i+1) fu (by omega) (by omega) (by omega);rw[ZCr,ZDz]at bD;unfold ZbW;rw[Zad,if_pos (by omega),Zai (by rw[j];omega),v];simp only[Int.toNat_natCast];cases hwi:w.getD i false with
  |true=>
   rw[hwi,if_pos rfl]at bD;have:Zgo l b []=[]:=rfl;rw[this,List.append_nil]at bD;rw[Bool.not_true,cond_false];exact bD
  |false=>
   rw[hwi,if_neg (by decide)]at bD;rw[Bool.not_false,cond_true,Zai (by omega),ZEa,Zao];cases o:cntB b (l.getD i Zaa.d)with
   |false=>
    have:Zgo l b [(i:Int)]=[]:=by simp only[Zgo,gP,Int.toNat_natCast,List.filter_cons,o,Bool.false_eq_true,if_false,List.filter_nil]
    rw[this,List.append_nil]at bD;rw[cond_false];exact bD
   |true=>
    have:Zgo l b [(i:Int)]=[(i:Int)]:=by simp only[Zgo,gP,Int.toNat_natCast,List.filter_cons,o,if_true,List.filter_nil]
    rw[this,ZIP]at bD;rw[cond_true,Zad];by_cases f:Zgo l b (unJ w i)=[]
    .rw[if_pos f]at bD;rw[f,if_pos (by simp[ZrU])];exact bD
    .have h:=Zvc (K:=⟨l,b,s⟩) f;obtain⟨m1,m2,_⟩:=ZAv (List.mem_filter.1 h).1;rw[if_neg f]at bD;rw[if_neg (by omega),Zai (by omega),ZGr _ _ _ _ (by rw[ZbL l _ i (by omega)];exact ho _ (List.getElem_mem _)) (by rw[ZbL l _ _ (by omega)];exact ho _ (List.getElem_mem _)) hb,Zao];have e:decide (Zpf b s (l.getD i Zaa.d) (l.getD (ZrU ⟨l,b,s⟩ (Zgo l b (unJ w i))).toNat Zaa.d)<0)=ltJ ⟨l,b,s⟩ (i:Int) (ZrU ⟨l,b,s⟩ (Zgo l b (unJ w i))):=rfl;rw[e];cases hlt:ltJ ⟨l,b,s⟩ (i:Int) (ZrU ⟨l,b,s⟩ (Zgo l b (unJ w i)))with
     |true=>rw[hlt,if_pos rfl]at bD;rw[cond_true];exact bD
     |false=>rw[hlt,if_neg (by decide)]at bD;rw[cond_false];exact bD
theorem ZJT(b n:Int)(hb:1<=b/\b<=4)(v:ZdC q b=some n)(d:Int->List Bool->Zay->Option (List Bool)):∀(r v9 fu:Nat)(w:List Bool),(if n<(l.length:Int)then n.toNat else l.length)-v9=r->v9<=l.length->r+1<=fu->w.length=l.length ->
  ∃w',w'.length=l.length/\unJ w' l.length=(unJ w l.length).filter (fun i=>!decide (i∈selN ⟨l,b,s⟩ r (Zgo l b (unJ w l.length))))/\Zcu l s b q d fu (v9:Int) w=d (Zan b 1) w' q:=by
 intro r;induction r with
 |zero=>
  intro v9 fu w g B C e;obtain⟨fu,rfl⟩ : ∃x,fu=x+1:=⟨fu-1,by omega⟩;refine⟨w,e,by simp only[selN];exact(List.filter_eq_self.2 fun x _=>by simp).symm,?_⟩;unfold Zcu;rw[v,Zao,Zad,Zad];by_cases A:(v9:Int)<n
  .rw[if_pos A];by_cases j:(v9:Int)<(l.length:Int)
   .exfalso;split at g<;>omega
   .rw[if_neg j]
  .rw[if_neg A]
 |succ r ih=>
  intro v9 fu w g B C e;obtain⟨fu,rfl⟩ : ∃x,fu=x+1:=⟨fu-1,by omega⟩;have j:v9<l.length/\(v9:Int)<n:=by split at g<;>omega
  have D:Zan (v9:Int) 1=((v9+1:Nat):Int):=add1 (n:=v9+1) (by omega) (by simp only[maxLen];omega);unfold Zcu;have hc2:=ZJS hl ho (s:=s) (q:=q) b hb (v9:Int) d (Zcu l s b q d fu) w e l.length 0 ((((l.length:Nat):Int)-(0:Int)).toNat+2) (by omega) (by omega) (by omega);have mA:ZbW l s b q (v9:Int) d (Zcu l s b q d fu) ((((l.length:Nat):Int)-(0:Int)).toNat+2) (-1) 0 w=_:=hc2;rw[v,Zao,Zad,if_pos j.2,Zad,if_pos (by omega),mA,D];by_cases f:Zgo l b (unJ w l.length)=[]
  .rw[if_pos f];obtain⟨w',o,p,t⟩:=ih (v9+1) fu w (by omega) (by omega) (by omega) e;refine⟨w',o,?_,t⟩;rw[p,f];cases r<;>rfl
  .have E:=Zvc (K:=⟨l,b,s⟩) f;obtain⟨m1,m2,_⟩:=ZAv (List.mem_filter.1 E).1;rw[if_neg f];obtain⟨w',o,p,t⟩:=ih (v9+1) fu (w.set (ZrU ⟨l,b,s⟩ (Zgo l b (unJ w l.length))).toNat true) (by omega) (by omega) (by omega) (by simpa using e);refine⟨w',o,?_,t⟩;rw[p,ZMm w _ _ m1 (by rw[e];exact m2)];cases hCC:Zgo l b (unJ w l.length)with
   |nil=>exact absurd hCC f
   |cons x X=>
    have bK:ZrU ⟨l,b,s⟩ (x :: X)=bstJ ⟨l,b,s⟩ x X:=rfl;rw[ZCf,hCC,bK,List.filter_filter,selN];refine List.filter_congr fun y _=>?_;by_cases u:y=bstJ ⟨l,b,s⟩ x X
    .rw[u];simp
    .have:(y != bstJ ⟨l,b,s⟩ x X)=true:=by rw[bne_iff_ne];exact u
     rw[this,Bool.and_true];congr 1;rw[decide_eq_decide,List.mem_cons];constructor
     .exact .inr
     .rintro (h|h)
      .exact absurd h u
      .exact h
theorem Zpu(b n:Int)(hb:1<=b/\b<=4)(e:ZdC q b=some n)(d:Int->List Bool->Zay->Option (List Bool))(w:List Bool)(f:w.length=l.length) :
  ∃w',w'.length=l.length/\unJ w' l.length=ZnA l s b n (unJ w l.length)/\Zcu l s b q d ((((l.length:Nat):Int)-(0:Int)).toNat+2) 0 w=d (Zan b 1) w' q:=by
 obtain⟨w',g,i,o⟩:=ZJT hl ho (s:=s) b n hb e d _ 0 ((((l.length:Nat):Int)-(0:Int)).toNat+2) w rfl (by omega) (by split<;>omega) f;refine⟨w',g,?_,o⟩;have jV:(Zgo l b (unJ w l.length)).Nodup:=(ZFN w _).sublist List.filter_sublist;have hlen:(ZbP ⟨l,b,s⟩ (Zgo l b (unJ w l.length))).length<=l.length:=by
  rw[Zgp];have p:=Zty l b (unJ w l.length);have r:(unJ w l.length).length<=l.length:=by
   have:=List.length_filter_le (fun j:Int=>!(w.getD j.toNat false)) (upto l.length);rw[ZmZ]at this;exact this
  omega
 rw[i,ZCw _ _ jV];unfold ZnA;have:(ZbP ⟨l,b,s⟩ (Zgo l b (unJ w l.length))).take ((if n<(l.length:Int)then n.toNat else l.length)-0)=(ZbP ⟨l,b,s⟩ (Zgo l b (unJ w l.length))).take n.toNat:=by
  by_cases h:n<(l.length:Int)
  .rw[if_pos h];rfl
  .rw[if_neg h,List.take_of_length_le (by omega),List.take_of_length_le (by omega)]
 rw[this]
theorem ZGm:∃w,ZjB l q s=some w/\w.length=l.length/\unJ w l.length=Zxa l q s:=by
 have b:ZdC q 1=some q.fGroup:=rfl;have d:ZdC q 2=some q.fPing:=rfl;have e:ZdC q 3=some q.fWork:=rfl;have g:ZdC q 4=some q.fTime:=rfl;have w0:(List.replicate ((l.length:Nat):Int).toNat false).length=l.length:=by simp
 have u0:unJ (List.replicate ((l.length:Nat):Int).toNat false) l.length=upto l.length:=by
  unfold unJ;refine List.filter_eq_self.2 fun x hx=>?_;obtain⟨x1,x2⟩:=Zka.1 hx;have:x.toNat<l.length:=by omega
  simp[List.getD_eq_getElem?_getD,this]
 obtain⟨w1,h,b1,i⟩:=Zpu hl ho (s:=s) 1 _ (by omega) b (ZaX l s 4) _ w0;obtain⟨w2,j,b2,n⟩:=Zpu hl ho (s:=s) 2 _ (by omega) d (ZaX l s 3) w1 h;obtain⟨w3,o,b3,p⟩:=Zpu hl ho (s:=s) 3 _ (by omega) e (ZaX l s 2) w2 j;obtain⟨w4,r,b4,t⟩:=Zpu hl ho (s:=s) 4 _ (by omega) g (ZaX l s 1) w3 o;refine⟨w4,?_,r,by rw[b4,b3,b2,b1,u0];rfl⟩;have d1:ZaX l s 5 1 (List.replicate ((l.length:Nat):Int).toNat false) q=ZaX l s 4 2 w1 q:=i;have d2:ZaX l s 4 2 w1 q=ZaX l s 3 3 w2 q:=n;have d3:ZaX l s 3 3 w2 q=ZaX l s 2 4 w3 q:=p;have d4:ZaX l s 2 4 w3 q=ZaX l s 1 5 w4 q:=t;unfold ZjB;rw[Zai (by omega)];have f:(((4:Int)-(1:Int)).toNat+2)=5:=rfl;rw[f,d1,d2,d3,d4];rfl
end
def ZjY(l:List Zaa):List Zaa:=l.filter fun p=>p.fIn
def Zqf(l:List Zaa)(q:Zay)(s:Int):List Zaa:=(Zxa (ZjY l) q s).map (gP (ZjY l))
theorem ZzP(l:List Zaa)(i:Nat)(h:i<l.length):ZjY (l.take (i+1))=ZjY (l.take i)++if l[i].fIn=true then[l[i]]else[]:=by
 unfold ZjY;rw[List.take_succ_eq_append_getElem h,List.filter_append];congr 1;cases h:l[i].fIn<;>simp[h]
theorem ZuW(l:List Zaa):(ZjY l).length<=l.length:=List.length_filter_le ..
theorem ZEM(l:List Zaa)(hl:l.length<=100000):ZlG l=some (ZjY l):=by
 have aM:∀(k i fu:Nat),l.length-i=k->i<=l.length->k+1<=fu->ZfV fu l (l.length:Int) (i:Int) (ZjY (l.take i))=some (ZjY l):=by
  intro k;induction k with
  |zero=>
   intro i fu b e f;obtain⟨fu,rfl⟩ : ∃x,fu=x+1:=⟨fu-1,by omega⟩;unfold ZfV;rw[Zad,if_neg (by omega),List.take_of_length_le (by omega)]
  |succ k ih=>
   intro i fu b e f;obtain⟨fu,rfl⟩ : ∃x,fu=x+1:=⟨fu-1,by omega⟩;unfold ZfV;have bC:i<l.length:=by omega
   have g:Zan (i:Int) 1=((i+1:Nat):Int):=add1 (n:=i+1) (by omega) (by simp only[maxLen];omega);have h:=ZuW (l.take i);simp only[List.length_take]at h;have bD:=ih (i+1) fu (by omega) (by omega) (by omega);rw[ZzP l i bC]at bD;have j:l.getD ((i:Int)).toNat Zaa.d=l[i]:=ZbL l _ i bC;rw[Zad,if_pos (by omega),Zai (by omega),j,g];cases hin:l[i].fIn with
   |true=>
    rw[hin,if_pos rfl]at bD;rw[cond_true,Zai (by simp only[List.length_append,List.length_singleton,maxLen];omega)];exact bD
   |false=>
    rw[hin,if_neg (by decide),List.append_nil]at bD;rw[cond_false];exact bD
 unfold ZlG;exact aM l.length 0 _ (by omega) (by omega) (by omega)
theorem ZKf(l:List Zaa)(hl:l.length<=100000):Zko l=some (ZjY l):=by
 have aM:∀(k i fu:Nat),l.length-i=k->i<=l.length->k+1<=fu->ZdF l fu (i:Int) (ZjY (l.take i))=some (ZjY l):=by
  intro k;induction k with
  |zero=>
   intro i fu b e f;obtain⟨fu,rfl⟩ : ∃x,fu=x+1:=⟨fu-1,by omega⟩;unfold ZdF;rw[Zad,if_neg (by omega),List.take_of_length_le (by omega)]
  |succ k ih=>
   intro i fu b e f;obtain⟨fu,rfl⟩ : ∃x,fu=x+1:=⟨fu-1,by omega⟩;unfold ZdF;have bC:i<l.length:=by omega
   have g:Zan (i:Int) 1=((i+1:Nat):Int):=add1 (n:=i+1) (by omega) (by simp only[maxLen];omega);have h:=ZuW (l.take i);simp only[List.length_take]at h;have bD:=ih (i+1) fu (by omega) (by omega) (by omega);rw[ZzP l i bC]at bD;have j:l.getD ((i:Int)).toNat Zaa.d=l[i]:=ZbL l _ i bC;rw[Zad,if_pos (by omega),Zai (by omega),j,g];cases hin:l[i].fIn with
   |true=>
    rw[hin,if_pos rfl]at bD;rw[cond_true,Zai (by simp only[List.length_append,List.length_singleton,maxLen];omega)];exact bD
   |false=>
    rw[hin,if_neg (by decide),List.append_nil]at bD;rw[cond_false];exact bD
 unfold Zko;exact aM l.length 0 _ (by omega) (by omega) (by omega)
theorem ZGT(l:List Zaa)(q:Zay)(s:Int):inL l (Zxa l q s):=Znn (Znn (Znn (Znn fun i b=>Zka.1 b)))
theorem ZCU(l:List Zaa)(q:Zay)(s:Int):(Zxa l q s).length<=l.length:=by
 have b:=ZnY l s 1 q.fGroup (upto l.length);have d:=ZnY l s 2 q.fPing (ZnA l s 1 q.fGroup (upto l.length));have e:=ZnY l s 3 q.fWork (ZnA l s 2 q.fPing (ZnA l s 1 q.fGroup (upto l.length)));have f:=ZnY l s 4 q.fTime (ZnA l s 3 q.fWork (ZnA l s 2 q.fPing (ZnA l s 1 q.fGroup (upto l.length))));rw[ZmZ]at b;unfold Zxa;omega
theorem ZyL{l:List Zaa}(h:okPs l):okPs (ZjY l):=fun p b=>h p (List.mem_filter.1 b).1
theorem ZBv(l:List Zaa)(q:Zay)(s:Int)(hl:l.length<=800)(ho:okPs l):ZgD l q s=some (Zqf l q s):=by
 have j:=ZuW l;have b:=ZGT (ZjY l) q s;have hle:=ZCU (ZjY l) q s;unfold ZgD Zqf;rw[ZEM l (by omega),Zao,ZAJ _ q s (by omega) (ZyL ho),Zao];obtain⟨A,hA⟩ : ∃A,A=Zxa (ZjY l) q s:=⟨_,rfl⟩;rw[<-hA]at b hle ⊢;have aM:∀(k i fu:Nat),A.length-i=k->i<=A.length->k+1<=fu->ZdV fu (ZjY l) A (A.length:Int) (i:Int) ((A.take i).map (gP (ZjY l)))=some (A.map (gP (ZjY l))):=by
  intro k;induction k with
  |zero=>
   intro i fu d b e;obtain⟨fu,rfl⟩ : ∃x,fu=x+1:=⟨fu-1,by omega⟩;unfold ZdV;rw[Zad,if_neg (by omega),List.take_of_length_le (by omega)]
  |succ k ih=>
   intro i fu d cY e;obtain⟨fu,rfl⟩ : ∃x,fu=x+1:=⟨fu-1,by omega⟩;unfold ZdV;have bC:i<A.length:=by omega
   have f:Zan (i:Int) 1=((i+1:Nat):Int):=add1 (n:=i+1) (by omega) (by simp only[maxLen];omega);have g:=b _ (List.getElem_mem bC);have h:A.getD ((i:Int)).toNat 0=A[i]:=ZbL A 0 i bC;have hlt:((A.take i).map (gP (ZjY l))).length=i:=by simp;omega
   rw[Zad,if_pos (by omega),Zai (by omega),h,Zai g,Zai (by simp only[List.length_append,hlt,List.length_singleton,maxLen];omega),f];have:=ih (i+1) fu (by omega) (by omega) (by omega);rw[List.take_succ_eq_append_getElem bC,List.map_append,List.map_singleton]at this;exact this
 exact aM A.length 0 _ (by omega) (by omega) (by omega)
theorem ZGq(l:List Zaa)(q:Zay)(s:Int)(hl:l.length<=800)(ho:okPs l):ZgU l q s=some (Zqf l q s):=by
 have r:=ZuW l;unfold ZgU Zqf;obtain⟨w,d,e,f⟩:=ZGm (l:=ZjY l) (q:=q) (s:=s) (by omega) (ZyL ho);rw[ZKf l (by omega),Zao,d,Zao,<-f];have aM:∀(k i fu:Nat),(ZjY l).length-i=k->i<=(ZjY l).length->k+1<=fu->Zcz fu (ZjY l) w (i:Int) ((unJ w i).map (gP (ZjY l)))=some ((unJ w (ZjY l).length).map (gP (ZjY l))):=by
  intro k;induction k with
  |zero=>
   intro i fu g h o;obtain⟨fu,rfl⟩ : ∃x,fu=x+1:=⟨fu-1,by omega⟩;obtain rfl:i=(ZjY l).length:=by omega
   unfold Zcz;rw[Zad,if_neg (by omega)]
  |succ k ih=>
   intro i fu g h o;obtain⟨fu,rfl⟩ : ∃x,fu=x+1:=⟨fu-1,by omega⟩;unfold Zcz;have p:Zan (i:Int) 1=((i+1:Nat):Int):=add1 (n:=i+1) (by omega) (by simp only[maxLen];omega);have t:(unJ w i).length<=i:=by
    have:=List.length_filter_le (fun j:Int=>!(w.getD j.toNat false)) (upto i);rw[ZmZ]at this;exact this
   have bD:=ih (i+1) fu (by omega) (by omega) (by omega);rw[ZCr,List.map_append]at bD;rw[Zad,if_pos (by omega),Zai (by rw[e];omega),p];simp only[Int.toNat_natCast];cases b:w.getD i false with
   |true=>
    rw[b,if_pos rfl,List.map_nil,List.append_nil]at bD;rw[Bool.not_true,cond_false];exact bD
   |false=>
    rw[b,if_neg (by decide)]at bD;rw[Bool.not_false,cond_true,Zai (by omega),Zai (by simp only[List.length_append,List.length_map,List.length_singleton,maxLen];omega)];exact bD
 exact aM (ZjY l).length 0 _ (by omega) (by omega) (by omega)
def grpP(p:Zaa):Zae:=grp p.fEnd.fAddr
def Zgd(l:List Zaa)(g:Zae):Nat:=(l.filter fun p=>decide (grpP p=g)).length
theorem ZyP{κ ν:Type}[DecidableEq κ](k g:κ)(v z:ν):∀l:List (κ×ν),mget (mput l k v) g z=if k=g then v else mget l g z
 | []=>by
  simp only[mput,mget]
 |p :: r=>by
  simp only[mput]
  by_cases h:p.1=k
  .rw[if_pos h]
   simp only[mget]
   by_cases b:k=g
   .simp[b]
   .rw[if_neg b,if_neg b,if_neg (by rw[h];exact b)]
  .rw[if_neg h]
   simp only[mget]
   rw[ZyP k g v z r]
   by_cases b:p.1=g
   .rw[if_pos b,if_pos b,if_neg (by rintro rfl;exact h b)]
   .rw[if_neg b,if_neg b]
theorem Zwk(l:List Zaa)(i:Nat)(h:i<l.length)(g:Zae):Zgd (l.take (i+1)) g=Zgd (l.take i) g+if grpP l[i]=g then 1 else 0:=by
 unfold Zgd;rw[List.take_succ_eq_append_getElem h,List.filter_append,List.length_append];congr 1;by_cases h:grpP l[i]=g<;>simp[h]
theorem ZDv(l:List Zaa)(g:Zae):Zgd l g<=l.length:=List.length_filter_le ..
theorem ZwT{l:List Zaa}(h:okPs l){i:Nat}(b:i<l.length):(l.getD i Zaa.d).fEnd.fAddr.ok:=by rw[ZbL l _ i b];exact h _ (List.getElem_mem b)
theorem ZCc(l:List Zaa)(hl:l.length<=800)(ho:okPs l):∃m,Zmj l=some m/\∀g,mget m g 0=(Zgd l g:Int):=by
 have aM:∀(k i fu:Nat)(m:List (Zae×Int)),l.length-i=k->i<=l.length->k+1<=fu->(∀g,mget m g 0=(Zgd (l.take i) g:Int))->∃m',Zgu fu l (l.length:Int) (i:Int) m=some m'/\∀g,mget m' g 0=(Zgd l g:Int):=by
  intro k;induction k with
  |zero=>
   intro i fu m e f j b;obtain⟨fu,rfl⟩ : ∃x,fu=x+1:=⟨fu-1,by omega⟩;unfold Zgu;rw[List.take_of_length_le (by omega)]at b;exact⟨m,by rw[Zad,if_neg (by omega)],b⟩
  |succ k ih=>
   intro i fu m e f j b;obtain⟨fu,rfl⟩ : ∃x,fu=x+1:=⟨fu-1,by omega⟩;unfold Zgu;have bC:i<l.length:=by omega
   have o:Zan (i:Int) 1=((i+1:Nat):Int):=add1 (n:=i+1) (by omega) (by simp only[maxLen];omega);have p:l.getD ((i:Int)).toNat Zaa.d=l[i]:=ZbL l _ i bC;have r:=ZDv (l.take i) (grpP l[i]);simp only[List.length_take]at r;rw[Zad,if_pos (by omega),Zai (by omega),p,Zoj _ (ho _ (List.getElem_mem bC)),Zao,o];refine ih (i+1) fu _ (by omega) (by omega) (by omega) fun g=>?_;rw[ZyP,Zwk l i bC,b g];have bF:grp l[i].fEnd.fAddr=grpP l[i]:=rfl;rw[bF,b (grpP l[i])];by_cases h:grpP l[i]=g
   .subst h;rw[if_pos rfl,if_pos rfl,Zbh (by omega) (by omega)];omega
   .rw[if_neg h,if_neg h];omega
 unfold Zmj;exact aM l.length 0 _ [] (by omega) (by omega) (by omega) (fun g=>by simp[mget,Zgd])
def gtX(l:List Zaa)(i j:Nat):Int:=orI (cmpI (Zgd l (grpP (l.getD i Zaa.d)):Int) (Zgd l (grpP (l.getD j Zaa.d)):Int)) (orI (cmpI (l.getD i Zaa.d).fSince (l.getD j Zaa.d).fSince) (cmpE (l.getD i Zaa.d).fEnd (l.getD j Zaa.d).fEnd))
theorem Zus{l:List Zaa}{i j:Nat}:0<gtX l i j↔Zgd l (grpP (l.getD j Zaa.d))<Zgd l (grpP (l.getD i Zaa.d))\/(Zgd l (grpP (l.getD i Zaa.d))=Zgd l (grpP (l.getD j Zaa.d)) /\
  ((l.getD j Zaa.d).fSince<(l.getD i Zaa.d).fSince\/((l.getD i Zaa.d).fSince=(l.getD j Zaa.d).fSince/\0<cmpE (l.getD i Zaa.d).fEnd (l.getD j Zaa.d).fEnd))):=by
 unfold gtX;rw[ZvQ,ZvQ,ZsB,ZiZ,ZsB,ZiZ];omega
theorem ZHF{l:List Zaa}{i b k:Nat}(e:0<gtX l i b)(f:¬0<gtX l k b):0<gtX l i k:=by
 rw[Zus]at *
 obtain⟨I,hI⟩ : ∃x,x=l.getD i Zaa.d:=⟨_,rfl⟩;obtain⟨B,g⟩ : ∃x,x=l.getD b Zaa.d:=⟨_,rfl⟩;obtain⟨K,j⟩ : ∃x,x=l.getD k Zaa.d:=⟨_,rfl⟩;rw[<-hI,<-g]at e;rw[<-j,<-g]at f;rw[<-hI,<-j];by_cases n:Zgd l (grpP K)<Zgd l (grpP I)
 .exact .inl n
 .have o:Zgd l (grpP I)=Zgd l (grpP K)/\Zgd l (grpP B)=Zgd l (grpP K):=by
   rcases e with e|⟨e,_⟩
   .exact absurd (Or.inl (by omega)) f
   .by_cases p:Zgd l (grpP B)<Zgd l (grpP K)
    .exact absurd (Or.inl p) f
    .omega
  refine .inr ⟨o.1,?_⟩;have h1':B.fSince<I.fSince\/(I.fSince=B.fSince/\0<cmpE I.fEnd B.fEnd):=by
   rcases e with e|⟨_,e⟩
   .omega
   .exact e
  have fO:¬(B.fSince<K.fSince\/(K.fSince=B.fSince/\0<cmpE K.fEnd B.fEnd)):=fun h=>f (.inr ⟨by omega,h⟩);by_cases s1:K.fSince<I.fSince
  .exact .inl s1
  .have s2:I.fSince=K.fSince/\I.fSince=B.fSince:=by
    rcases h1' with h|⟨h,_⟩
    .exact absurd (Or.inl (by omega)) fO
    .by_cases s3:B.fSince<K.fSince
     .exact absurd (Or.inl s3) fO
     .omega
   refine .inr ⟨s2.1,?_⟩;have r:0<cmpE I.fEnd B.fEnd:=by
    rcases h1' with h|⟨_,h⟩
    .omega
    .exact h
   have u:¬0<cmpE K.fEnd B.fEnd:=fun h=>fO (.inr ⟨by omega,h⟩);have c2':=ZfE.1 r;rw[ZfE];by_cases t:cmpE K.fEnd B.fEnd=0
   .rw[ZgR.1 t];exact c2'
   .exact Zlp (show cmpE K.fEnd B.fEnd<0 by omega) c2'
theorem ZLd{l:List Zaa}{i k:Nat}(b:0<gtX l i k):¬0<gtX l k i:=by
 intro d;rw[Zus]at b d;rcases b with h|⟨f,h|⟨g,h⟩⟩<;>rcases d with e|⟨j,e|⟨n,e⟩⟩<;>first|omega|skip
 have:=ZfE.1 h;omega
theorem ZCb(p q:Zaa):Zmi p q=some (orI (cmpI p.fSince q.fSince) (cmpE p.fEnd q.fEnd)):=by
 unfold Zmi;simp only[ZqI,ZpJ,or2,Zao]
structure TopX (l:List Zaa) (n b:Nat):Prop where
 lt:b<n
 top:∀k,k<n->¬0<gtX l k b
 fst:∀k,k<b->0<gtX l b k
theorem Zwl(l:List Zaa)(hl:l.length<=800)(ho:okPs l):∃b:Int,ZlK l=some b/\((l=[]/\b = -1)\/∃n:Nat,b=(n:Int)/\TopX l l.length n):=by
 obtain⟨m,o,j⟩:=ZCc l hl ho;have aM:∀(k i fu:Nat)(b:Int),l.length-i=k->i<=l.length->k+1<=fu->((i=0/\b = -1)\/∃n:Nat,b=(n:Int)/\TopX l i n)->∃z:Int,ZeV l fu b l (l.length:Int) (i:Int) m=some z/\((l.length=0/\z = -1)\/∃n:Nat,z=(n:Int)/\TopX l l.length n):=by
  intro k;induction k with
  |zero=>
   intro i fu b f p r hb;obtain⟨fu,rfl⟩ : ∃x,fu=x+1:=⟨fu-1,by omega⟩;obtain rfl:i=l.length:=by omega
   unfold ZeV;exact⟨b,by rw[Zad,if_neg (by omega)],hb⟩
  |succ k ih=>
   intro i fu b f p r hb;obtain⟨fu,rfl⟩ : ∃x,fu=x+1:=⟨fu-1,by omega⟩;have bC:i<l.length:=by omega
   have t:Zan (i:Int) 1=((i+1:Nat):Int):=add1 (n:=i+1) (by omega) (by simp only[maxLen];omega);unfold ZeV;rw[Zad,if_pos (by omega),Zai (by omega),Zad,t];rcases hb with⟨h0,rfl⟩|⟨n,rfl,g⟩
   .subst h0;rw[if_pos (by omega)];refine ih 1 fu _ (by omega) (by omega) (by omega) (.inr ⟨0,rfl,by omega,fun k f=>?_,fun k f=>by omega⟩);obtain rfl:k=0:=by omega
    rw[Zus];rintro (h|⟨_,h|⟨_,h⟩⟩)
    .omega
    .omega
    .rw[ZgR.2 rfl]at h;omega
   .have u:=g.lt;rw[if_neg (by omega),Zoj _ (ZwT ho (by omega)),Zao,Zai (by omega),Zoj _ (ZwT ho (by omega)),Zao,ZqI,Zao,ZCb,Zao,or2,Zao];have e:orI (cmpI (mget m (grp (l.getD ((i:Int)).toNat Zaa.d).fEnd.fAddr) 0) (mget m (grp (l.getD ((n:Int)).toNat Zaa.d).fEnd.fAddr) 0)) (orI (cmpI (l.getD ((i:Int)).toNat Zaa.d).fSince (l.getD ((n:Int)).toNat Zaa.d).fSince) (cmpE (l.getD ((i:Int)).toNat Zaa.d).fEnd (l.getD ((n:Int)).toNat Zaa.d).fEnd))=gtX l i n:=by
     rw[j,j];rfl
    rw[e,Zad];by_cases h:gtX l i n>0
    .rw[if_pos h];refine ih (i+1) fu _ (by omega) (by omega) (by omega) (.inr ⟨i,rfl,by omega,fun k f=>?_,fun k f=>ZHF h (g.top k f)⟩);by_cases hki:k=i
     .subst hki;rw[Zus];rintro (h|⟨_,h|⟨_,h⟩⟩)
      .omega
      .omega
      .rw[ZgR.2 rfl]at h;omega
     .exact ZLd (ZHF h (g.top k (by omega)))
    .rw[if_neg h];refine ih (i+1) fu _ (by omega) (by omega) (by omega) (.inr ⟨n,rfl,by omega,fun k f=>?_,g.fst⟩);by_cases hki:k=i
     .subst hki;exact h
     .exact g.top k (by omega)
 unfold ZlK;obtain⟨b',h1',fO⟩:=aM l.length 0 ((((l.length:Nat):Int)-(0:Int)).toNat+2) (-1) (by omega) (by omega) (by omega) (.inl ⟨rfl,rfl⟩);refine⟨b',by rw[o,Zao];exact h1',?_⟩;rcases fO with⟨h,rfl⟩|h
 .exact .inl ⟨List.eq_nil_of_length_eq_zero h,rfl⟩
 .exact .inr h
theorem Zyw(l:List Zaa)(hl:l.length<=800)(ho:okPs l)(i:Nat)(v:i<l.length):Zhg l (i:Int)=some (Zgd l (grpP (l.getD i Zaa.d)):Int):=by
 have aM:∀(k j fu:Nat),l.length-j=k->j<=l.length->k+1<=fu->Zdv l (i:Int) fu (Zgd (l.take j) (grpP (l.getD i Zaa.d)):Int) (j:Int)=some (Zgd l (grpP (l.getD i Zaa.d)):Int):=by
  intro k;induction k with
  |zero=>
   intro j fu b e f;obtain⟨fu,rfl⟩ : ∃x,fu=x+1:=⟨fu-1,by omega⟩;unfold Zdv;rw[Zad,if_neg (by omega),List.take_of_length_le (by omega)]
  |succ k ih=>
   intro j fu b e f;obtain⟨fu,rfl⟩ : ∃x,fu=x+1:=⟨fu-1,by omega⟩;have hj2:j<l.length:=by omega
   have g:Zan (j:Int) 1=((j+1:Nat):Int):=add1 (n:=j+1) (by omega) (by simp only[maxLen];omega);have o:=ZDv (l.take j) (grpP (l.getD i Zaa.d));simp only[List.length_take]at o;have p:l.getD ((j:Int)).toNat Zaa.d=l[j]:=ZbL l _ j hj2;have bD:=ih (j+1) fu (by omega) (by omega) (by omega);rw[Zwk l j hj2]at bD;unfold Zdv;rw[Zad,if_pos (by omega),Zai (by omega),p,ZCC _ (ho _ (List.getElem_mem hj2)),Zao,Zai (by omega),ZCC _ (ZwT ho (by omega)),Zao,Zad,g];have r:grp l[j].fEnd.fAddr=grpP l[j]:=rfl;have t:grp (l.getD ((i:Int)).toNat Zaa.d).fEnd.fAddr=grpP (l.getD i Zaa.d):=rfl;rw[r,t];by_cases h:grpP l[j]=grpP (l.getD i Zaa.d)
   .rw[if_pos h]at bD ⊢;have u:Zan (Zgd (l.take j) (grpP (l.getD i Zaa.d)):Int) 1=((Zgd (l.take j) (grpP (l.getD i Zaa.d))+1:Nat):Int):=by rw[Zbh (by omega) (by omega)];omega
    rw[u];exact bD
   .rw[if_neg h]at bD ⊢;exact bD
 unfold Zhg;rw[Zad,if_neg (by omega),Zad,if_neg (by omega)];exact aM l.length 0 _ (by omega) (by omega) (by omega)
theorem ZAO(p q:Zaa):Ziu p q=some (decide (p.fSince>q.fSince\/(p.fSince=q.fSince/\0<cmpE p.fEnd q.fEnd))):=by
 unfold Ziu;rw[Zrb,Zao];by_cases h:p.fSince=q.fSince
 .have e:(p.fSince != q.fSince)=false:=by rw[h];simp
  rw[e,cond_false];congr 1;rw[decide_eq_decide];omega
 .have e:(p.fSince != q.fSince)=true:=by rw[bne_iff_ne];exact h
  rw[e,cond_true];congr 1;rw[decide_eq_decide];omega
theorem ZtN(l:List Zaa)(hl:l.length<=800)(ho:okPs l)(i:Nat)(p:i<l.length)(e:Int->Option Int):∀(k j fu:Nat),l.length-j=k->j<=l.length->k+1<=fu->∀v:Bool,(v=true↔∀x,x<j->¬0<gtX l x i) ->
  ((∀x,x<l.length->¬0<gtX l x i)->ZbA l (i:Int) e fu v (j:Int)=some (i:Int))/\((∃x,x<l.length/\0<gtX l x i)->ZbA l (i:Int) e fu v (j:Int)=e (Zan (i:Int) 1)):=by
 intro k;induction k with
 |zero=>
  intro j fu r t u v f;obtain⟨fu,rfl⟩ : ∃x,fu=x+1:=⟨fu-1,by omega⟩;obtain rfl:j=l.length:=by omega
  unfold ZbA;rw[Zad,if_neg (by omega)];refine⟨fun h=>by rw[f.2 h];rfl,fun⟨x,y,A⟩=>?_⟩;cases v with
  |false=>rfl
  |true=>exact absurd A (f.1 rfl x y)
 |succ k ih=>
  intro j fu r t u v f;obtain⟨fu,rfl⟩ : ∃x,fu=x+1:=⟨fu-1,by omega⟩;have B:Zan (j:Int) 1=((j+1:Nat):Int):=add1 (n:=j+1) (by omega) (by simp only[maxLen];omega);have hb:∀b:Bool,(b=true↔∀x,x<j+1->¬0<gtX l x i)->ZbA l (i:Int) e (fu+1) v (j:Int)=ZbA l (i:Int) e fu b ((j+1:Nat):Int):=by
   intro b hb
   conv=>lhs;unfold ZbA
   rw[Zad,if_pos (by omega),Zyw l hl ho j (by omega),Zao,Zyw l hl ho i p,Zao,B];cases v with
   |false=>
    rw[cond_false];have:b=false:=by
     cases b with
     |false=>rfl
     |true=>
      have:=f.2 fun x hx=>hb.1 rfl x (by omega);cases this
    rw[this]
   |true=>
    have dz:=f.1 rfl;rw[cond_true,Zad,Zad];have hgt:=Zus (l:=l) (i:=j) (j:=i);by_cases g:(Zgd l (grpP (l.getD j Zaa.d)):Int)<=(Zgd l (grpP (l.getD i Zaa.d)):Int)
    .rw[if_pos g];by_cases o:(Zgd l (grpP (l.getD j Zaa.d)):Int)<(Zgd l (grpP (l.getD i Zaa.d)):Int)
     .rw[if_pos o];have:b=true:=hb.2 fun x hx=>by
       by_cases hxj:x=j
       .subst hxj;rw[hgt];omega
       .exact dz x (by omega)
      rw[this]
     .rw[if_neg o,Zai (by omega),Zai (by omega),ZAO,Zao];simp only[Int.toNat_natCast];congr 1;rw[Bool.eq_iff_iff,hb,Bool.not_eq_true',decide_eq_false_iff_not];constructor
      .intro h x hx;by_cases hxj:x=j
       .subst hxj;rw[hgt];omega
       .exact dz x (by omega)
      .intro h;have:=h j (by omega);rw[hgt]at this;omega
    .rw[if_neg g];have:b=false:=by
      cases b with
      |false=>rfl
      |true=>
       have:=hb.1 rfl j (by omega);rw[hgt]at this;omega
     rw[this]
  by_cases hd:∀x,x<j+1->¬0<gtX l x i
  .rw[hb true (by simp only[true_iff];exact hd)];exact ih (j+1) fu (by omega) (by omega) (by omega) true (by simp only[true_iff];exact hd)
  .rw[hb false (by simp only[Bool.false_eq_true,false_iff];exact hd)];exact ih (j+1) fu (by omega) (by omega) (by omega) false (by simp only[Bool.false_eq_true,false_iff];exact hd)
theorem ZKc(l:List Zaa)(hl:l.length<=800)(ho:okPs l):Zkp l=ZlK l:=by
 obtain⟨b,hb,e⟩:=Zwl l hl ho;rw[hb];rcases e with⟨rfl,rfl⟩|⟨n,rfl,d⟩
 .rfl
 .have f:=d.lt;have aM:∀(k i fu:Nat),n-i=k->i<=n->k+1<=fu->ZcY l fu (i:Int)=some (n:Int):=by
   intro k;induction k with
   |zero=>
    intro i fu g h j;obtain⟨fu,rfl⟩ : ∃x,fu=x+1:=⟨fu-1,by omega⟩;obtain rfl:i=n:=by omega
    unfold ZcY;rw[Zad,if_pos (by omega)];exact(ZtN l hl ho i (by omega) _ l.length 0 ((((l.length:Nat):Int)-(0:Int)).toNat+2) (by omega) (by omega) (by omega) true (by simp)).1 d.top
   |succ k ih=>
    intro i fu g h j;obtain⟨fu,rfl⟩ : ∃x,fu=x+1:=⟨fu-1,by omega⟩;have o:Zan (i:Int) 1=((i+1:Nat):Int):=add1 (n:=i+1) (by omega) (by simp only[maxLen];omega);unfold ZcY;rw[Zad,if_pos (by omega)];have:=(ZtN l hl ho i (by omega) (ZcY l fu) l.length 0 ((((l.length:Nat):Int)-(0:Int)).toNat+2) (by omega) (by omega) (by omega) true (by simp)).2 ⟨n,f,d.fst i (by omega)⟩;have er:ZbA l (i:Int) (ZcY l fu) ((((l.length:Nat):Int)-(0:Int)).toNat+2) true 0=_:=this;rw[er,o];exact ih (i+1) fu (by omega) (by omega) (by omega)
  unfold Zkp;exact aM n 0 _ (by omega) (by omega) (by omega)
theorem ZIJ(l:List Zaa)(q:Zay)(s:Int):(Zqf l q s).length<=l.length:=by
 have b:=ZCU (ZjY l) q s;have d:=ZuW l;unfold Zqf;rw[List.length_map];omega
theorem ZII(l:List Zaa)(q:Zay)(s:Int):∀p∈Zqf l q s,p∈l/\p.fIn=true:=fun p b=>by
 obtain⟨i,d,rfl⟩:=List.mem_map.1 b
 have:=ZGT (ZjY l) q s i d
 unfold gP
 rw[ZbL _ _ i.toNat (by omega)]
 have e:=List.mem_filter.1 (List.getElem_mem (l:=ZjY l) (n:=i.toNat) (by omega))
 exact e
theorem ZsQ(l:List Zaa)(q:Zay)(s:Int)(hl:l.length<=800)(ho:okPs l) :
  ∃r:Zah×Bool,Zim l q s=some r/\ZgI l q s=some r/\(r.2=true->∃p∈l,p.fEnd=r.1/\p.fIn=true):=by
 have i:=ZIJ l q s;have d:=ZII l q s;have hoc:okPs (Zqf l q s):=fun p f=>ho p (d p f).1;obtain⟨b,hb,gh⟩:=Zwl (Zqf l q s) (by omega) hoc;have bK:=ZKc (Zqf l q s) (by omega) hoc;unfold Zim ZgI;rw[ZBv l q s hl ho,ZGq l q s hl ho,Zao,Zao,bK,hb,Zao,Zad];rcases gh with⟨j,rfl⟩|⟨n,rfl,g⟩
 .rw[if_pos (by omega)];exact⟨_,rfl,rfl,fun h=>by cases h⟩
 .have e:=g.lt;rw[if_neg (by omega),Zai (by omega)];refine⟨_,rfl,rfl,fun _=>⟨_,(d _ ?_).1,rfl,(d _ ?_).2⟩⟩
  all_goals
   simp only[Int.toNat_natCast];rw[ZbL _ _ n e];exact List.getElem_mem e
set_option linter.unusedSectionVars false
def fd(l:List Zaa):Prop:=l.Pairwise fun p q=>p.fEnd≠q.fEnd
theorem fd.perm{a b:List Zaa}(h:fd a)(d:a.Perm b):fd b:=(List.Perm.pairwise_iff (R:=fun p q:Zaa=>p.fEnd≠q.fEnd) (fun e=>Ne.symm e) d).1 h
theorem fd.filter{l:List Zaa}(h:fd l)(p:Zaa->Bool):fd (l.filter p):=List.Pairwise.filter p h
section
variable {l:List Zaa} (hd:fd l)
include hd
end
def ZnB(h:Int):Int:=if h<1 then 1 else if h>1073741824 then 1073741824 else h
def Zrk(s:Zat)(h af:Int):Nat:=(fitI af-fitI s.fAt).toNat / (ZnB h).toNat
def decS(s:Zat)(h af:Int):Zat:=⟨(((fitI s.fPoints).toNat / 2 ^ Zrk s h af:Nat):Int),fitI s.fAt+((Zrk s h af*(ZnB h).toNat:Nat):Int)⟩
theorem ZCu(h:Int):1<=ZnB h/\ZnB h<=1073741824:=by
 unfold ZnB
 repeat' split
 all_goals omega
theorem ZNc(x:Int)(h:x<=1099511627776):fitI x=((x.toNat:Nat):Int):=by
 unfold fitI;split
 .omega
 .rw[if_neg (by omega)];omega
theorem ZFa(h:Nat)(h0:1<=h)(o:h<=1073741824)(t:Int)(r:0<=t/\t<=1099511627776)(b6:Zat):∀(m fu p a:Nat),p<2 ^ m->m+1<=fu->a<=2199023255552->p<=1099511627776 ->
  Zei (h:Int) b6 fu t ⟨(p:Int),(a:Int)⟩=some ⟨((p / 2 ^ ((t-(a:Int)).toNat / h):Nat):Int),(a:Int)+(((t-(a:Int)).toNat / h*h:Nat):Int)⟩:=by
 intro m;have sub:∀a:Nat,a<=2199023255552->Zaz t (a:Int)=t-(a:Int):=fun a b=>by
  exact Zbp (by omega) (by omega)
 have last:∀(a:Nat),a<=2199023255552->t-(a:Int)>=(h:Int)->Zaz t (Int.tmod (t-(a:Int)) (h:Int))=(a:Int)+(((t-(a:Int)).toNat / h*h:Nat):Int):=fun a b hd=>by
  obtain⟨d,jj⟩ : ∃d:Nat,t-(a:Int)=(d:Int):=⟨(t-(a:Int)).toNat,by omega⟩;have hd4:t=(d:Int)+(a:Int):=by omega
  rw[jj,Int.toNat_natCast,<-Int.ofNat_tmod];have u:d % h<=d:=Nat.mod_le _ _;have hdm:=Nat.div_add_mod d h;rw[Nat.mul_comm]at hdm;have e:Zaz t ((d % h:Nat):Int)=t-((d % h:Nat):Int):=by
   exact Zbp (by omega) (by omega)
  rw[e];generalize d / h*h=q at *
  omega
 induction m with
 |zero=>
  intro fu p a f g b bu;obtain⟨fu,rfl⟩ : ∃x,fu=x+1:=⟨fu-1,by omega⟩;have hZ:p=0:=by simpa using f
  subst hZ;unfold Zei;simp only[Zad,sub a b];rw[if_neg (by omega),Nat.zero_div];by_cases hd:t-(a:Int)>=(h:Int)
  .rw[if_pos hd,Zai (by omega),last a b hd]
  .have h0:(t-(a:Int)).toNat / h=0:=Nat.div_eq_of_lt (by omega);rw[if_neg hd,h0];simp
 |succ m ih=>
  intro fu p a f g b bu;obtain⟨fu,rfl⟩ : ∃x,fu=x+1:=⟨fu-1,by omega⟩;unfold Zei;simp only[Zad,sub a b];by_cases hZ:(p:Int)>0
  .rw[if_pos hZ];by_cases hd:t-(a:Int)>=(h:Int)
   .rw[if_pos hd];have i:IntKind.wrap .i64 (Int.tdiv (p:Int) 2)=((p / 2:Nat):Int):=by
     have:Int.tdiv (p:Int) 2=((p / 2:Nat):Int):=(Int.ofNat_tdiv p 2).symm;rw[this];exact ZfJ (by omega) (by omega)
    have j:Zan (a:Int) (h:Int)=((a+h:Nat):Int):=by rw[Zbh (by omega) (by omega)];omega
    rw[i,j,ih fu (p / 2) (a+h) (by rw[Nat.pow_succ]at f;omega) (by omega) (by omega) (by omega)];obtain⟨d,jj⟩ : ∃d:Nat,t-(a:Int)=((d+h:Nat):Int):=⟨(t-(a:Int)).toNat-h,by omega⟩;have hd3:t-((a+h:Nat):Int)=(d:Int):=by omega
    have n:(d+h) / h=d / h+1:=Nat.add_div_right d (by omega);rw[jj,hd3,Int.toNat_natCast,Int.toNat_natCast,n,Nat.pow_succ,Nat.mul_comm (2 ^ (d / h)) 2,<-Nat.div_div_eq_div_mul,Nat.add_mul,Nat.one_mul];congr 2;generalize d / h*h=q;omega
   .have h0:(t-(a:Int)).toNat / h=0:=Nat.div_eq_of_lt (by omega);rw[if_neg hd,if_neg hd,h0];simp
  .have hZ:p=0:=by omega
   subst hZ;rw[if_neg hZ,Nat.zero_div];by_cases hd:t-(a:Int)>=(h:Int)
   .rw[if_pos hd,Zai (by omega),last a b hd]
   .rw[if_neg hd,Nat.div_eq_of_lt (by omega)];simp
theorem ZGn(s:Zat)(h af:Int):ZjD s h af=some (decS s h af):=by
 have j:=ZCu h;have n:=Zid s.fAt;have o:=Zid s.fPoints;have f:=Zid af;obtain⟨k,g⟩ : ∃k:Nat,ZnB h=k:=⟨(ZnB h).toNat,by omega⟩;obtain⟨a,i⟩ : ∃k:Nat,fitI s.fAt=k:=⟨(fitI s.fAt).toNat,by omega⟩;obtain⟨p,fo⟩ : ∃k:Nat,fitI s.fPoints=k:=⟨(fitI s.fPoints).toNat,by omega⟩;have aM:∀b:Zat,ZfH af s b (ZnB h)=some (decS s h af):=fun b=>by
  unfold ZfH decS Zrk;simp only[ZiI,Option.bind_some,g,i,fo,Int.toNat_natCast];rw[ZFa k (by omega) (by omega) (fitI af) f b 41 1000000 p a (by omega) (by omega) (by omega) (by omega)]
 unfold ZjD Zia;simp only[Zad];by_cases d:h<1
 .rw[if_pos d,if_neg (by omega)];have:=aM ⟨0,0⟩;rwa [show ZnB h=1 by unfold ZnB;rw[if_pos d]]at this
 .rw[if_neg d];by_cases e:h>1073741824
  .rw[if_pos e];have:=aM ⟨0,0⟩;rwa [show ZnB h=1073741824 by unfold ZnB;rw[if_neg d,if_pos e]]at this
  .rw[if_neg e];have:=aM ⟨0,0⟩;rwa [show ZnB h=h by unfold ZnB;rw[if_neg d,if_neg e]]at this
theorem ZEH(s:Zat)(h af:Int):Znh s h af=some (decS s h af):=by
 have C:=ZCu h;have g:=Zid s.fAt;have D:=Zid s.fPoints;have E:=Zid af;unfold Znh Zst Zuu;have r:(if(1073741824:Int)<(if(1:Int)>h then(1:Int)else h)then(1073741824:Int)else(if(1:Int)>h then(1:Int)else h))=ZnB h:=by
  unfold ZnB
  repeat' split
  all_goals omega
 have t:(if(1099511627776:Int)<(if(0:Int)>s.fPoints then(0:Int)else s.fPoints)then(1099511627776:Int)else(if(0:Int)>s.fPoints then(0:Int)else s.fPoints))=fitI s.fPoints:=by
  unfold fitI
  repeat' split
  all_goals omega
 have u:∀n,0<=n->n<=1099511627776->fitI n=n:=fun n i b=>by unfold fitI;rw[if_neg (by omega),if_neg (by omega)]
 have v:Zaz (fitI af) (fitI s.fAt)=fitI af-fitI s.fAt:=Zbp (by omega) (by omega);simp only[ZiH,Option.bind_some,r,t,u (fitI s.fAt) g.1 g.2,v];obtain⟨k,e⟩ : ∃k:Nat,ZnB h=k:=⟨(ZnB h).toNat,by omega⟩;obtain⟨a,j⟩ : ∃k:Nat,fitI s.fAt=k:=⟨(fitI s.fAt).toNat,by omega⟩;obtain⟨p,fo⟩ : ∃k:Nat,fitI s.fPoints=k:=⟨(fitI s.fPoints).toNat,by omega⟩;obtain⟨d,hd⟩ : ∃d:Nat,(fitI af-fitI s.fAt).toNat=d:=⟨_,rfl⟩;have jj:fitI (fitI af-fitI s.fAt)=(d:Int):=by rw[ZNc _ (by omega),hd]
 have hdk:d / k<=d:=Nat.div_le_self _ _;have y:IntKind.wrap .i64 (Int.tdiv (d:Int) (k:Int))=((d / k:Nat):Int):=by
  rw[<-Int.ofNat_tdiv];exact ZfJ (Int.natCast_nonneg _) (by omega)
 have hnn:(0:Int)<=((d / k:Nat):Int):=Int.natCast_nonneg _;rw[jj,e,y,Zai (by omega),Zai (by split<;>omega),fo,j];have hl:Zrk s h af=d / k:=by unfold Zrk;rw[hd,e,Int.toNat_natCast]
 unfold decS;rw[hl,fo,j,e,Int.toNat_natCast,Int.toNat_natCast];have hdm:d / k*k<=d:=Nat.div_mul_le_self d k;have A:ZhI ((d / k:Nat):Int) (k:Int)=((d / k*k:Nat):Int):=by
  unfold ZhI;rw[<-Int.natCast_mul];exact ZfJ (by omega) (by omega)
 have B:Zan (a:Int) ((d / k*k:Nat):Int)=(a:Int)+((d / k*k:Nat):Int):=Zbh (by omega) (by omega);rw[A,B];congr 2
 -- the points
 have o:∀c:Nat,c<=41->Int.fdiv (p:Int) (2 ^ (min ((c:Nat):Int).toNat (IntKind.bits .i64)))=((p / 2 ^ c:Nat):Int):=fun c f=>by
  have:min ((c:Nat):Int).toNat (IntKind.bits .i64)=c:=by
   rw[Int.toNat_natCast];show min c 64=c;omega
  rw[this];have b:((2:Int) ^ c)=((2 ^ c:Nat):Int):=by simp
  rw[b,Int.fdiv_eq_tdiv_of_nonneg (by omega) (Int.natCast_nonneg _)];exact(Int.ofNat_tdiv p (2 ^ c)).symm
 by_cases f:(41:Int)<((d / k:Nat):Int)
 .rw[if_pos f];have:=o 41 (by omega);rw[show (((41:Nat):Int))=(41:Int)from rfl]at this;rw[this];have i:p / 2 ^ 41=0:=Nat.div_eq_of_lt (by omega);have b:p / 2 ^ (d / k)=0:=Nat.div_eq_of_lt (Nat.lt_of_lt_of_le (show p<2 ^ 41 by omega) (Nat.pow_le_pow_right (by omega) (by omega)));rw[i,b]
 .rw[if_neg f,o (d / k) (by omega)]
theorem ZNm(s:Zat)(h af:Int):0<=(decS s h af).fPoints/\(decS s h af).fPoints<=1099511627776:=by
 have b:=Zid s.fPoints;unfold decS;have:=Nat.div_le_self (fitI s.fPoints).toNat (2 ^ Zrk s h af);constructor
 .exact Int.natCast_nonneg _
 .show (((fitI s.fPoints).toNat / 2 ^ Zrk s h af:Nat):Int)<=_;omega
def ZIY(s:Zat)(points h af:Int):Zat:=⟨fitI ((decS s h af).fPoints+points * 65536),(decS s h af).fAt⟩
theorem ZFZ(s:Zat)(points h af:Int)(h0:0<=points)(f:points<=100):Zlk s points h af=some (ZIY s points h af)/\ZkT s points h af=some (ZIY s points h af):=by
 have hd:=ZNm s h af;have b:∀n,0<=n->n<=1099511627776->fitI n=n:=fun n f i=>by unfold fitI;rw[if_neg (by omega),if_neg (by omega)]
 have em:ZhI points 65536=points * 65536:=by unfold ZhI;exact ZfJ (by omega) (by omega)
 have ea:Zan (decS s h af).fPoints (points * 65536)=(decS s h af).fPoints+points * 65536:=Zbh (by omega) (by omega);constructor
 .unfold Zlk Zuv ZlD ZIY;simp only[ZEH,ZiH,Option.bind_some,Zad,b points h0 (by omega),b 65536 (by omega) (by omega),b _ hd.1 hd.2];have j:(Zlk s points h af=Zlk s points h af):=rfl;by_cases d:points>0
  .rw[if_pos d,Zai (by omega)];have g:¬((65536:Int)>IntKind.wrap .i64 (Int.tdiv 1099511627776 points)):=by
    obtain⟨n,rfl⟩ : ∃n:Nat,points=n:=⟨points.toNat,by omega⟩;have e:Int.tdiv (1099511627776:Int) (n:Int)=((1099511627776 / n:Nat):Int):=(Int.ofNat_tdiv 1099511627776 n).symm;have hle:1099511627776 / n<=1099511627776:=Nat.div_le_self _ _;have mh:1099511627776 / 100<=1099511627776 / n:=Nat.div_le_div_left (by omega) (by omega);rw[e,ZfJ (by omega) (by omega)];omega
   rw[if_neg g];simp only[Option.bind_some,em,b (points * 65536) (by omega) (by omega),ea]
  .rw[if_neg d];simp only[Option.bind_some,em,b (points * 65536) (by omega) (by omega),ea]
 .unfold ZkT ZIY;simp only[ZGn,ZiI,Option.bind_some,Zad,b points h0 (by omega)];rw[if_neg (by omega),em,ea]
theorem ZAM(s:Zat):∃r,Zjl s=some r/\ZcV s=some r:=by
 unfold Zjl ZcV;simp only[Zad];by_cases h:s.fPoints<0
 .rw[if_pos (by omega),if_pos h];exact⟨_,rfl,rfl⟩
 .rw[if_neg (by omega),if_neg h];exact⟨_,rfl,rfl⟩
def ZFL(s:Zat):Int:=(Zjl s).getD 0
theorem Zwx(s:Zat):Zjl s=some (ZFL s)/\ZcV s=some (ZFL s):=by
 obtain⟨r,b,d⟩:=ZAM s;unfold ZFL;rw[b,d];exact⟨rfl,rfl⟩
def ZvM(s:Zat)(bh:Int):Bool:=decide (s.fPoints>=(if bh<1 then 1 else if bh>16777216 then 16777216 else bh) * 65536)
theorem Zsf(s:Zat)(bh:Int)(h0:0<=s.fPoints)(f:s.fPoints<=1099511627776):ZkK s bh=some (ZvM s bh)/\Ziv s bh=some (ZvM s bh):=by
 obtain⟨p,g⟩ : ∃k:Nat,s.fPoints=k:=⟨s.fPoints.toNat,by omega⟩;have i:ZcV s=some ((p / 65536:Nat):Int):=by
  unfold ZcV;simp only[Zad];have e:Int.tdiv (p:Int) 65536=((p / 65536:Nat):Int):=(Int.ofNat_tdiv p 65536).symm;rw[if_neg (by omega),g,e,ZfJ (by omega) (by omega)]
 have key:∀L:Int,1<=L->L<=16777216->decide (((p / 65536:Nat):Int)>=L)=decide (s.fPoints>=L * 65536):=fun L f j=>by
  rw[g];apply decide_eq_decide.2;omega
 have kl:(if(16777216:Int)<(if(1:Int)>bh then(1:Int)else bh)then(16777216:Int)else(if(1:Int)>bh then(1:Int)else bh))=(if bh<1 then 1 else if bh>16777216 then 16777216 else bh):=by
  repeat' split
  all_goals omega
 have h:1<=(if bh<1 then(1:Int)else if bh>16777216 then 16777216 else bh)/\(if bh<1 then(1:Int)else if bh>16777216 then 16777216 else bh)<=16777216:=by
  repeat' split
  all_goals omega
 have em:∀L:Int,1<=L->L<=16777216->ZhI L 65536=L * 65536:=fun L f j=>by unfold ZhI;exact ZfJ (by omega) (by omega)
 constructor
 .unfold ZkK ZvM;rw[kl,em _ h.1 h.2]
 .unfold Ziv ZgV ZvM;simp only[Zad,i,Option.bind_some];by_cases b:bh<1
  .rw[if_pos b,if_pos b,if_neg (by omega),key 1 (by omega) (by omega)]
  .rw[if_neg b,if_neg b];by_cases d:bh>16777216
   .rw[if_pos d,if_pos d,key 16777216 (by omega) (by omega)]
   .rw[if_neg d,if_neg d,key bh (by omega) (by omega)]
def penI(k:Int):Int:=(Zhp k).getD 0
theorem ZCG(k:Int):Zhp k=some (penI k)/\Zgh k=some (penI k)/\0<=penI k/\penI k<=100:=by
 obtain⟨q,b,d,e,f⟩:=ZEf k;unfold penI;rw[b,d];exact⟨rfl,rfl,e,f⟩
def ZpX(c:Zar)(x:Zam)(p:Zaa):Zaa:=⟨p.fEnd,p.fIn,p.fSince,ZIY p.fScore (penI x.fNum) c.fHalf x.fNow,p.fPing,p.fWork⟩
theorem Zva(c:Zar)(x:Zam)(p:Zaa):Zmg p (penI x.fNum) c.fHalf x.fNow=some (ZpX c x p)/\ZiT p (penI x.fNum) c.fHalf x.fNow=some (ZpX c x p):=by
 obtain⟨_,_,b,d⟩:=ZCG x.fNum;obtain⟨e,f⟩:=ZFZ p.fScore (penI x.fNum) c.fHalf x.fNow b d;unfold Zmg ZiT;rw[e,f];exact⟨rfl,rfl⟩
theorem ZCq(c:Zar)(x:Zam)(p:Zaa):0<=(ZpX c x p).fScore.fPoints/\(ZpX c x p).fScore.fPoints<=1099511627776:=Zid _
def ofP(l:List Zaa)(n:Zae)(b:Bool):List Zaa:=l.filter fun p=>hasS n p.fEnd.fAddr==b
theorem ZIG(p:Zae)(a:Zaf)(b:p.fAddr.ok)(e:a.ok):Zln p a=some (hasS p a):=by
 unfold hasS;cases d:Zhk p with
 |true=>
  have fe:=(ZtK b).1 d;rw[ZMa p a fe e,Bool.true_and]
 |false=>
  unfold Zln;simp only[Zlq p b,d,Option.bind_some,cond_false,Bool.false_and]
theorem ZAx(l:List Zaa)(n:Zae)(j:n.fAddr.ok)(hl:l.length<=1000000)(aL:∀p∈l,p.fEnd.fAddr.ok):Zok l n=some (ofP l n true,ofP l n false):=by
 have hL:l.length<=maxLen:=by unfold maxLen;omega
 have aM:∀fu (i:Nat) w u,i<=l.length->l.length-i<fu->w=ofP (l.take i) n true->u=ofP (l.take i) n false->Zgr fu l (l.length:Int) (i:Int) w u n=some (ofP l n true,ofP l n false):=by
  intro fu;induction fu with
  |zero=>intro i w u _ h;omega
  |succ fu ih=>
   intro i w u r t e f;unfold Zgr;simp only[Zad];by_cases h:i<l.length
   .have o:=ZdM l Zaa.d i h;rw[if_pos (by omega),Zai ⟨by omega,by omega⟩,add1 h hL];simp only[Int.toNat_natCast,ZIG n _ j (aL _ o),Option.bind_some];have bL:∀b,ofP (l.take (i+1)) n b=ofP (l.take i) n b++[l.getD i Zaa.d].filter (fun p=>hasS n p.fEnd.fAddr==b):=fun b=>by
     unfold ofP;rw[List.take_succ_eq_append_getElem h,List.filter_append,ZbL l _ i h]
    have hlen:∀b,(ofP (l.take i) n b).length<=1000000:=fun b=>by
     have:=List.length_filter_le (fun p:Zaa=>hasS n p.fEnd.fAddr==b) (l.take i);simp only[List.length_take]at this;unfold ofP;omega
    have hlw:=hlen true;have hlu:=hlen false;cases g:hasS n (l.getD i Zaa.d).fEnd.fAddr with
    |true=>
     simp only[cond_true];rw[Zai ⟨by rw[e];simp;omega,by rw[e];simp[maxLen];omega⟩];refine ih (i+1) _ _ (by omega) (by omega) ?_ ?_
     .rw[bL true,List.filter_cons_of_pos (by rw[g];rfl),e];rfl
     .rw[bL false,List.filter_cons_of_neg (by rw[g];decide),f];simp
    |false=>
     simp only[cond_false];rw[Zai ⟨by rw[f];simp;omega,by rw[f];simp[maxLen];omega⟩];refine ih (i+1) _ _ (by omega) (by omega) ?_ ?_
     .rw[bL true,List.filter_cons_of_neg (by rw[g];decide),e];simp
     .rw[bL false,List.filter_cons_of_pos (by rw[g];rfl),f];rfl
   .rw[if_neg (by omega),e,f];have:i=l.length:=by omega
    rw[this,List.take_length]
 exact aM _ 0 [] [] (by omega) (by omega) rfl rfl
theorem Zpw(l:List Zaa)(n:Zae)(b:Bool)(g:n.fAddr.ok)(hl:l.length<=1000000)(aL:∀p∈l,p.fEnd.fAddr.ok):Zlm l n b=some (ofP l n b):=by
 have hL:l.length<=maxLen:=by unfold maxLen;omega
 have aM:∀fu (i:Nat) w,i<=l.length->l.length-i<fu->w=ofP (l.take i) n b->ZfA l b fu (i:Int) w n=some (ofP l n b):=by
  intro fu;induction fu with
  |zero=>intro i w _ h;omega
  |succ fu ih=>
   intro i w o r e;unfold ZfA;simp only[Zad];by_cases h:i<l.length
   .have j:=ZdM l Zaa.d i h;rw[if_pos (by omega),Zai ⟨by omega,by omega⟩,add1 h hL];simp only[Int.toNat_natCast,Zte n _ g (aL _ j),Option.bind_some];have bL:ofP (l.take (i+1)) n b=w++[l.getD i Zaa.d].filter (fun p=>hasS n p.fEnd.fAddr==b):=by
     rw[e];unfold ofP;rw[List.take_succ_eq_append_getElem h,List.filter_append,ZbL l _ i h]
    have hwl:w.length<=1000000:=by
     rw[e];have:=List.length_filter_le (fun p:Zaa=>hasS n p.fEnd.fAddr==b) (l.take i);simp only[List.length_take]at this;unfold ofP;omega
    cases f:hasS n (l.getD i Zaa.d).fEnd.fAddr==b with
    |true=>
     rw[List.filter_cons_of_pos (by rw[f])]at bL;simp only[cond_true];rw[Zai ⟨by simp;omega,by simp[maxLen];omega⟩];exact ih (i+1) _ (by omega) (by omega) bL.symm
    |false=>
     rw[List.filter_cons_of_neg (by rw[f];decide)]at bL;simp only[cond_false];refine ih (i+1) _ (by omega) (by omega) ?_;rw[bL];simp
   .rw[if_neg (by omega),e];have:i=l.length:=by omega
    rw[this,List.take_length]
 exact aM _ 0 [] (by omega) (by omega) rfl
theorem Zua(l:List Zaa)(n:Zae)(b:Bool):(ofP l n b).length<=l.length:=List.length_filter_le _ _
def cntP(l:List Zaa)(b:Bool):Int:=((l.countP fun p=>p.fIn==b:Nat):Int)
theorem ZtE(l:List Zaa)(b:Bool)(hl:l.length<=maxLen):ZhL l b=some (cntP l b):=by
 simp only[ZhL];have:=ZpA l Zaa.d (fun p=>p.fIn==b) hl (fun fu n i=>Zfl b fu n l (l.length:Int) i) (fun fu i n e=>by
   simp only[Zfl,Zad];rw[if_pos (by omega),Zai ⟨by omega,by omega⟩];simp only[Int.toNat_natCast];cases((l.getD i Zaa.d).fIn==b)<;>rfl) (fun fu n=>by
   simp only[Zfl,Zad];rw[if_neg (by omega)]) ((((l.length:Nat):Int)-(0:Int)).toNat+2) 0 0 (by omega) (by omega) (by omega)
 simp only[Int.natCast_zero,List.drop_zero]at this;rw[this];unfold cntP;congr 2;omega
theorem ZtP(l:List Zaa)(b:Bool)(hl:l.length<=maxLen):Zhe l b=some (cntP l b):=by
 simp only[Zhe];have:=ZpA l Zaa.d (fun p=>p.fIn==b) hl (fun fu n i=>Zds l b fu n i) (fun fu i n e=>by
   simp only[Zds,Zad];rw[if_pos (by omega),Zai ⟨by omega,by omega⟩];simp only[Int.toNat_natCast];cases((l.getD i Zaa.d).fIn==b)<;>rfl) (fun fu n=>by
   simp only[Zds,Zad];rw[if_neg (by omega)]) ((((l.length:Nat):Int)-(0:Int)).toNat+2) 0 0 (by omega) (by omega) (by omega)
 simp only[Int.natCast_zero,List.drop_zero]at this;rw[this];unfold cntP;congr 2;omega
theorem ZIA(l:List Zaa)(b:Bool):0<=cntP l b/\cntP l b<=(l.length:Int):=by
 unfold cntP;have:=List.countP_le_length (p:=fun p:Zaa=>p.fIn==b) (l:=l);omega
def ZoI(l:List Zaa):List Zah:=l.map (·.fEnd)
def addT(a b:Int):Int:=fitI (fitI a+fitI b)
theorem Zqh(a b:Int):ZlD a b=some (addT a b)/\Zfi a b=some (addT a b):=by
 have d:=Zid a;have f:=Zid b;have e:Zan (fitI a) (fitI b)=fitI a+fitI b:=Zbh (by omega) (by omega);constructor
 .unfold ZlD addT;simp only[ZiH,Option.bind_some,e]
 .unfold Zfi addT;simp only[ZiI,Option.bind_some,e]
theorem ZDW{n:Nat}(h:n<=1000000):n<=maxLen:=by simp only[maxLen];omega
theorem ZxT{a:Int}(h : -1000000000000000000<=a)(h':a<=1000000000000000000):IntKind.i64.wrap a=a:=by
 simp only[IntKind.wrap,IntKind.bits,IntKind.signed];simp;omega
abbrev Itm:=Zag
def cmpH(a b:Itm):Int:=orI (cmpI a.fKey b.fKey) (cmpE a.fEnd b.fEnd)
theorem ZEG(a b:Itm):Znf a b=some (cmpH a b):=by
 simp only[Znf,ZqI,ZpJ,or2,Option.bind_some,cmpH]
theorem Zwa(a b:Itm):Zng a b=some (decide (cmpH a b<0)):=by
 simp only[Zng,ZEG,Option.bind_some]
theorem ZID{a b:Itm}:cmpH a b<0↔a.fKey<b.fKey\/(a.fKey=b.fKey/\cmpE a.fEnd b.fEnd<0):=by simp only[cmpH,ZvP,ZsA,ZiZ]
theorem ZuR{a b:Itm}:0<cmpH a b↔cmpH b a<0:=by
 simp only[cmpH,ZvP,ZvQ,ZsA,ZsB,ZiZ,ZfE];constructor<;>rintro (h|⟨d,e⟩)<;>first|exact .inl h|exact .inr ⟨d.symm,e⟩
theorem ZuQ{a b:Itm}:cmpH a b=0↔a=b:=by
 simp only[cmpH,Zti,ZiZ,ZgR];obtain⟨x,p⟩:=a;obtain⟨y,q⟩:=b;simp
theorem Zwn{a b c:Itm}(d:cmpH a b<0)(e:cmpH b c<0):cmpH a c<0:=by
 rw[ZID]at *
 rcases d with d|⟨d,f⟩<;>rcases e with e|⟨e,g⟩
 .exact .inl (by omega)
 .exact .inl (by omega)
 .exact .inl (by omega)
 .exact .inr ⟨by omega,Zlp f g⟩
def leH(a b:Itm):Prop:=¬cmpH b a<0
theorem ZpB(a:Itm):leH a a:=by unfold leH;rw[ZuQ.2 rfl];omega
theorem Zum{a b:Itm}(h:cmpH a b<0):leH a b:=by
 unfold leH;intro d;have:=ZuR.2 d;omega
theorem Zul{a b c:Itm}(e:leH a b)(d:leH b c):leH a c:=by
 unfold leH at *
 intro h;have f:cmpH a b<=0:=by
  by_cases q:0<cmpH a b
  .exact absurd (ZuR.1 q) e
  .omega
 by_cases q:cmpH a b=0
 .have:=ZuQ.1 q;subst this;exact d h
 .exact d (Zwn h (by omega))
theorem Zrl{a b:Itm}(h:¬cmpH a b<0):leH b a:=h
abbrev ixH(h:List Itm)(i:Nat):Itm:=h.getD i Zag.d
def HF(lo:Nat)(h:List Itm):Prop:=∀k,0<k->k<h.length->lo<=(k-1) / 2->leH (ixH h ((k-1) / 2)) (ixH h k)
structure HB (lo i:Nat) (h:List Itm):Prop where
 ge:lo<=i
 up:∀k,0<k->k<h.length->lo<=(k-1) / 2->(k-1) / 2≠i->leH (ixH h ((k-1) / 2)) (ixH h k)
 over:∀k,0<k->k<h.length->(k-1) / 2=i->0<i->lo<=(i-1) / 2->leH (ixH h ((i-1) / 2)) (ixH h k)
def ZxF(h:List Itm)(i b:Nat):Nat:=if 2*i+2<h.length/\cmpH (ixH h (2*i+2)) (ixH h b)<0 then 2*i+2 else b
def ZmS(h:List Itm)(i:Nat):Nat:=ZxF h i (if 2*i+1<h.length/\cmpH (ixH h (2*i+1)) (ixH h i)<0 then 2*i+1 else i)
theorem ZzY(h:List Itm)(i:Nat)(e:¬2*i+1<h.length):ZmS h i=i:=by
 unfold ZmS ZxF;rw[if_neg (fun x:2*i+1<h.length/\_=>e x.1),if_neg (fun x=>by have:=x.1;omega)]
theorem Zvb(h:List Itm)(i:Nat)(o:i<h.length):(ZmS h i=i\/(ZmS h i=2*i+1\/ZmS h i=2*i+2)/\ZmS h i<h.length/\cmpH (ixH h (ZmS h i)) (ixH h i)<0)/\ZmS h i<h.length /\
  ∀k,k<h.length->0<k->(k-1) / 2=i->leH (ixH h (ZmS h i)) (ixH h k):=by
 have n:∀k,0<k->(k-1) / 2=i->k=2*i+1\/k=2*i+2:=by intro k d f;omega
 unfold ZmS ZxF;by_cases g:2*i+1<h.length/\cmpH (ixH h (2*i+1)) (ixH h i)<0
 .rw[if_pos g];by_cases b:2*i+2<h.length/\cmpH (ixH h (2*i+2)) (ixH h (2*i+1))<0
  .rw[if_pos b];refine⟨.inr ⟨.inr rfl,b.1,Zwn b.2 g.2⟩,b.1,fun k d f j=>?_⟩;rcases n k f j with e|e
   .subst e;exact Zum b.2
   .subst e;exact ZpB _
  .rw[if_neg b];refine⟨.inr ⟨.inl rfl,g.1,g.2⟩,g.1,fun k d f j=>?_⟩;rcases n k f j with e|e
   .subst e;exact ZpB _
   .subst e;exact Zrl fun q=>b ⟨d,q⟩
 .rw[if_neg g];by_cases b:2*i+2<h.length/\cmpH (ixH h (2*i+2)) (ixH h i)<0
  .rw[if_pos b];refine⟨.inr ⟨.inr rfl,b.1,b.2⟩,b.1,fun k d f j=>?_⟩;rcases n k f j with e|e
   .subst e;exact Zul (Zum b.2) (Zrl fun q=>g ⟨d,q⟩)
   .subst e;exact ZpB _
  .rw[if_neg b];refine⟨.inl rfl,o,fun k d f j=>?_⟩;rcases n k f j with e|e
   .subst e;exact Zrl fun q=>g ⟨d,q⟩
   .subst e;exact Zrl fun q=>b ⟨d,q⟩
def ZsT(h:List Itm)(i b:Nat):List Itm:=(h.set i (ixH h b)).set b (ixH h i)
theorem ZoN(h:List Itm)(i b:Nat):(ZsT h i b).length=h.length:=by simp[ZsT]
theorem ZqS(h:List Itm)(i b k:Nat)(f:i<h.length)(hb:b<h.length):ixH (ZsT h i b) k=if k=b then ixH h i else if k=i then ixH h b else ixH h k:=by
 simp only[ixH,ZsT,List.getD_eq_getElem?_getD,List.getElem?_set,List.length_set];by_cases d:k=b
 .subst d;simp[hb]
 .rw[if_neg (Ne.symm d),if_neg d];by_cases e:k=i
  .subst e;simp[f]
  .rw[if_neg (Ne.symm e),if_neg e]
theorem ZDT(h:List Itm)(i b:Nat)(d:i<h.length)(hb:b<h.length):(ZsT h i b).Perm h:=by
 rw[List.perm_iff_count];intro a;unfold ZsT;have e:ixH h i=h[i]:=ZbL h _ i d;have f:ixH h b=h[b]:=ZbL h _ b hb;rw[e,f];by_cases hib:i=b
 .subst hib;simp
 .rw[List.count_set (by simpa using hb),List.count_set d,List.getElem_set_ne hib];have m1:(if(h[i]==a)=true then 1 else 0)<=h.count a:=by
   split
   .rename_i q;have:h[i]=a:=by simpa using q
    exact List.one_le_count_iff.2 (this ▸ List.getElem_mem d)
   .omega
  have m2:(if(h[b]==a)=true then 1 else 0)<=h.count a:=by
   split
   .rename_i q;have:h[b]=a:=by simpa using q
    exact List.one_le_count_iff.2 (this ▸ List.getElem_mem hb)
   .omega
  by_cases g:(h[i]==a)=true<;>by_cases j:(h[b]==a)=true<;>simp only[g,j]at m1 m2 ⊢<;>omega
theorem HB.step{lo i:Nat}{h:List Itm}(H:HB lo i h)(f:i<h.length)(hne:ZmS h i≠i):HB lo (ZmS h i) (ZsT h i (ZmS h i)):=by
 obtain⟨c,hb,p⟩:=Zvb h i f;generalize hbe:ZmS h i=b at *
 rcases c with c|⟨c,_,hlt⟩
 .exact absurd c hne
 have km:(b-1) / 2=i:=by omega
 have hib:i<b:=by omega
 refine⟨by have:=H.ge;omega,fun k g d j o=>?_,fun k g d j o r=>?_⟩
 .rw[ZoN]at d;rw[ZqS h i b _ f hb,ZqS h i b _ f hb,if_neg o];by_cases n:(k-1) / 2=i
  .rw[if_pos n];by_cases e:k=b
   .rw[if_pos e];exact Zum hlt
   .rw[if_neg e,if_neg (by omega)];exact p k d g n
  .rw[if_neg n,if_neg (by omega:k≠b)];by_cases e:k=i
   .rw[if_pos e];subst e;exact H.over b (by omega) hb km g j
   .rw[if_neg e];exact H.up k g d j n
 .rw[ZoN]at d;rw[ZqS h i b _ f hb,ZqS h i b _ f hb,if_neg (by omega),if_pos km,if_neg (by omega),if_neg (by omega)];have:=H.up k g d (by have:=H.ge;omega) (by omega);rw[j]at this;exact this
theorem HB.done{lo i:Nat}{h:List Itm}(H:HB lo i h)(g:i<h.length)(j:ZmS h i=i):HF lo h:=by
 obtain⟨c,hb,b⟩:=Zvb h i g;intro k d f n;by_cases e:(k-1) / 2=i
 .rw[e];rw[j]at b;exact b k f d e
 .exact H.up k d f n e
theorem mul2{i:Nat}(h:i<=1000000):ZhI (2:Int) (i:Int)=((2*i:Nat):Int):=by
 simp only[ZhI];rw[show (2:Int)*(i:Int)=((2*i:Nat):Int)by omega];exact ZxT (by omega) (by omega)
theorem add2{i k:Nat}(h:i<=3000000)(b:k<=2):Zan (i:Int) (k:Int)=((i+k:Nat):Int):=by rw[Zbh (by omega) (by omega)];omega
theorem ZNl(i:Nat)(h:List Itm)(f:i<h.length)(hl:h.length<=1000000)(kk:Int->List Itm->Option (List Itm))(fu:Nat)(j:3<=fu) :
  ZdJ (i:Int) kk fu (i:Int) ((2*i+1:Nat):Int) h=if ZmS h i=i then some h else kk ((ZmS h i:Nat):Int) (ZsT h i (ZmS h i)):=by
 obtain⟨fu,rfl⟩ : ∃n,fu=n+3:=⟨fu-3,by omega⟩;have gQ:Zan (ZhI (2:Int) (i:Int)) (2:Int)=((2*i+2:Nat):Int):=by rw[mul2 (by omega)];exact add2 (k:=2) (by omega) (by omega)
 have ends:∀b:Nat,b<h.length->(bif((b:Int)==(i:Int))then some h else need (0<=(b:Int)/\(b:Int)<((h.length:Nat):Int))<|need (0<=(i:Int)/\(i:Int)<((h.length:Nat):Int))<|kk (b:Int) ((h.set (i:Int).toNat (h.getD (b:Int).toNat Zag.d)).set (b:Int).toNat (h.getD (i:Int).toNat Zag.d))) =
   if b=i then some h else kk ((b:Nat):Int) (ZsT h i b):=by
  intro b hb;by_cases e:b=i
  .subst e;simp
  .rw[show ((b:Int)==(i:Int))=false by rw[beq_eq_false_iff_ne];omega,cond_false,Zai ⟨by omega,by omega⟩,Zai ⟨by omega,by omega⟩,if_neg e];rfl
 -- the cH one below,or none
 have cH:∀(b fu:Nat),b<h.length->ZdJ (i:Int) kk (fu+2) (b:Int) ((2*i+2:Nat):Int) h=if ZxF h i b=i then some h else kk ((ZxF h i b:Nat):Int) (ZsT h i (ZxF h i b)):=by
  intro b fu hb;have iF:∀c:Nat,c<h.length->ZdJ (i:Int) kk (fu+1) (c:Int) ((2*i+3:Nat):Int) h=if c=i then some h else kk ((c:Nat):Int) (ZsT h i c):=by
   intro c g;simp only[ZdJ,Zad,gQ];rw[if_neg (by omega)];exact ends c g
  unfold ZdJ;simp only[Zad,gQ];rw[if_pos (by omega)];by_cases e:2*i+2<h.length
  .rw[if_pos (by omega),Zai ⟨by omega,by omega⟩,Zai ⟨by omega,by omega⟩,Zwa];simp only[Option.bind_some,Int.toNat_natCast,Zad];rw[show Zan ((2*i+2:Nat):Int) (1:Int)=((2*i+3:Nat):Int)from add2 (i:=2*i+2) (k:=1) (by omega) (by omega)];by_cases q:cmpH (ixH h (2*i+2)) (ixH h b)<0
   .rw[if_pos q,show ZxF h i b=2*i+2 from if_pos ⟨e,q⟩];exact iF _ e
   .rw[if_neg q,show ZxF h i b=b from if_neg (fun x=>q x.2)];exact iF _ hb
  .rw[if_neg (by omega),show ZxF h i b=b from if_neg (fun x=>e x.1)];exact ends b hb
 unfold ZdJ;simp only[Zad,gQ];rw[if_pos (by omega)];by_cases e:2*i+1<h.length
 .rw[if_pos (by omega),Zai ⟨by omega,by omega⟩,Zai ⟨by omega,by omega⟩,Zwa];simp only[Option.bind_some,Int.toNat_natCast,Zad];rw[show Zan ((2*i+1:Nat):Int) (1:Int)=((2*i+2:Nat):Int)from add2 (i:=2*i+1) (k:=1) (by omega) (by omega)];by_cases q:cmpH (ixH h (2*i+1)) (ixH h i)<0
  .rw[if_pos q,cH _ fu e];unfold ZmS;rw[if_pos (show 2*i+1<h.length/\cmpH (ixH h (2*i+1)) (ixH h i)<0 from⟨e,q⟩)]
  .rw[if_neg q,cH _ fu f];unfold ZmS;rw[if_neg (show ¬(2*i+1<h.length/\cmpH (ixH h (2*i+1)) (ixH h i)<0)from fun x=>q x.2)]
 .rw[if_neg (by omega),ends i f,ZzY h i e]
theorem ZIo:∀fu (lo i:Nat) (h:List Itm),i<h.length->h.length<=1000000->HB lo i h->h.length-i<fu->∃h',ZgT fu (i:Int) h=some h'/\h'.Perm h/\HF lo h':=by
 intro fu;induction fu with
 |zero=>intro _ _ _ _ _ _ h;omega
 |succ fu ih=>
  intro lo i h b hl H r;simp only[ZgT];have d:Zan (ZhI (2:Int) (i:Int)) (1:Int)=((2*i+1:Nat):Int):=by rw[mul2 (by omega)];exact add2 (k:=1) (by omega) (by omega)
  obtain⟨c,hb,_⟩:=Zvb h i b;rw[d];by_cases f:2*i+1<h.length
  .rw[ZNl i h b hl _ _ (by omega)];by_cases e:ZmS h i=i
   .rw[if_pos e];exact⟨h,rfl,List.Perm.refl _,H.done b e⟩
   .rw[if_neg e];obtain⟨h',g,j,o⟩:=ih lo (ZmS h i) (ZsT h i (ZmS h i)) (by rw[ZoN];exact hb) (by rw[ZoN];exact hl) (H.step b e) (by rw[ZoN];omega);exact⟨h',g,j.trans (ZDT h i _ b hb),o⟩
  .-- no kids: the fuel is small
   have e:=ZzY h i f;refine⟨h,?_,List.Perm.refl _,H.done b e⟩;have gQ:Zan (ZhI (2:Int) (i:Int)) (2:Int)=((2*i+2:Nat):Int):=by rw[mul2 (by omega)];exact add2 (k:=2) (by omega) (by omega)
   obtain⟨n,p⟩ : ∃n,((((h.length:Nat):Int)-((2*i+1:Nat):Int)).toNat+2)=n+1:=⟨_,rfl⟩;rw[p];simp only[ZdJ,Zad,gQ];rw[if_pos (by omega),if_neg (by omega)];simp
theorem Zzi(lo i:Nat)(h:List Itm)(b:i<h.length)(hl:h.length<=900000)(H:HB lo i h):∃h',Zll h (i:Int)=some h'/\h'.Perm h/\HF lo h':=
 ZIo 1000000 lo i h b (by omega) H (by omega)
theorem ZLj:Zll [] 0=some []:=by
 have:∀fu,ZgT (fu+1) 0 []=some []:=fun fu=>by
  rw[ZgT];rw[show ((((([]:List Itm).length:Nat):Int)-(Zan (ZhI (2:Int) (0:Int)) (1:Int))).toNat+2)=1+1 from rfl];rfl
 exact this 999999
theorem ZzM(l:List Itm)(h:l.length<=1000000):ZaQ l=some l:=by
 unfold ZaQ;rw[Zai ⟨by omega,ZDW h⟩]
theorem ZGP:∀fu (i:Nat) (h:List Itm),i<=h.length / 2->h.length<=900000->HF i h->i<fu->∃h',ZjS fu ((i:Int)-1) h=some h'/\h'.Perm h/\HF 0 h':=by
 intro fu;induction fu with
 |zero=>intro _ _ _ _ _ h;omega
 |succ fu ih=>
  intro i h n hl H o;simp only[ZjS,Zad];by_cases e:i=0
  .subst e;rw[if_neg (by omega)];exact⟨h,rfl,List.Perm.refl _,H⟩
  .rw[if_pos (by omega)];obtain⟨j,rfl⟩ : ∃j,i=j+1:=⟨i-1,by omega⟩;rw[show ((j+1:Nat):Int)-1=(j:Int)by omega];have HBj:HB j j h:=⟨Nat.le_refl _,fun k b d f g=>H k b d (by omega),fun k b d f g p=>by omega⟩;obtain⟨h',d1,d2,d3⟩:=Zzi j j h (by omega) hl HBj;rw[d1];simp only[Option.bind_some];rw[show Zaz (j:Int) (1:Int)=(j:Int)-1 from Zbp (by omega) (by omega)];obtain⟨h'',m1,m2,m3⟩:=ih j h' (by rw[d2.length_eq];omega) (by rw[d2.length_eq];exact hl) d3 (by omega);exact⟨h'',m1,m2.trans d2,m3⟩
theorem tdiv2(n:Nat)(h:n<=1000000):IntKind.wrap .i64 (Int.tdiv (n:Int) (2:Int))=((n / 2:Nat):Int):=by
 rw[show Int.tdiv (n:Int) (2:Int)=((n / 2:Nat):Int)by rw[Int.tdiv_eq_ediv_of_nonneg (by omega)];omega];exact ZxT (by omega) (by omega)
theorem Zzh(l:List Itm)(hl:l.length<=900000):∃h,Zkl l=some h/\h.Perm l/\HF 0 h:=by
 simp only[Zkl,ZzM l (by omega),Option.bind_some];rw[tdiv2 _ (by omega),show Zaz ((l.length / 2:Nat):Int) (1:Int)=((l.length / 2:Nat):Int)-1 from Zbp (by omega) (by omega)];exact ZGP _ (l.length / 2) l (Nat.le_refl _) hl (fun k b d e=>by omega) (by omega)
theorem ZKW{h:List Itm}(H:HF 0 h):∀n k,k<=n->k<h.length->leH (ixH h 0) (ixH h k):=by
 intro n;induction n with
 |zero=>intro k d b;rw[show k=0 by omega];exact ZpB _
 |succ n ih=>
  intro k d b;by_cases e:k=0
  .rw[e];exact ZpB _
  .exact Zul (ih ((k-1) / 2) (by omega) (by omega)) (H k (by omega) b (Nat.zero_le _))
theorem ZsM:Zmt []=some (⟨0,⟨⟨false,0,0⟩,0⟩⟩,[],false):=rfl
theorem ZDc(h:List Itm)(hl:h.length<=900000)(H:HF 0 h)(hne:h≠[]):∃x r,Zmt h=some (x,r,true)/\h.Perm (x :: r)/\HF 0 r/\∀y∈h,leH x y:=by
 have jl:0<h.length:=List.length_pos_iff.2 hne;have es:Zaz ((h.length:Nat):Int) (1:Int)=((h.length-1:Nat):Int):=by rw[Zbp (by omega) (by omega)];omega
 -- the rest ahead of sinking
 have hx:∀(l:List Itm),(hlp:0<l.length)->l.Perm (ixH l 0 :: (l.set 0 (ixH l (l.length-1))).take (l.length-1)):=by
  intro l hlp;cases l with
  |nil=>simp at hlp
  |cons a t=>
   simp only[ixH,List.getD_cons_zero,List.length_cons,Nat.add_sub_cancel,List.set_cons_zero];rcases t.eq_nil_or_concat with e|⟨t',z,e⟩
   .subst e;simp
   .subst e;simp only[List.concat_eq_append,List.length_append,List.length_singleton];rw[show ((a :: (t'++[z])).getD (t'.length+1) Zag.d)=z by simp[List.getD_eq_getElem?_getD]];rw[show List.take (t'.length+1) (z :: (t'++[z]))=z :: t' by simp];refine List.Perm.cons a ?_;exact List.perm_append_comm
 have hin:∀y∈h,leH (ixH h 0) y:=by
  intro y n;obtain⟨k,f,b⟩:=List.getElem_of_mem n;have:=ZKW H k k (Nat.le_refl _) f;rw[show ixH h k=y by rw[<-b];exact ZbL h _ k f]at this;exact this
 let r0:=(h.set 0 (ixH h (h.length-1))).take (h.length-1)
 have jw:r0.length=h.length-1:=by simp[r0]
 have hd:∃r,Zll r0 (0:Int)=some r/\r.Perm r0/\HF 0 r:=by
  by_cases e:h.length=1
  .have:r0=[]:=List.eq_nil_of_length_eq_zero (by omega);rw[this];exact⟨[],ZLj,List.Perm.refl _,fun k _ b=>by simp at b⟩
  .refine Zzi 0 0 r0 (by omega) (by omega) ⟨Nat.le_refl _,fun k f b g o=>?_,fun k f b g o=>by omega⟩;have i:∀j,0<j->j<r0.length->ixH r0 j=ixH h j:=by
    intro j j1 j2;rw[jw]at j2;simp only[ixH,r0,List.getD_eq_getElem?_getD,List.getElem?_take,if_pos j2,List.getElem?_set,if_neg (show ¬0=j by omega)]
   rw[i k f b,i _ (by omega) (by omega)];exact H k f (by rw[jw]at b;omega) g
 obtain⟨r,d1,d2,d3⟩:=hd;refine⟨ixH h 0,r,?_,(hx h jl).trans (List.Perm.cons _ d2.symm),d3,hin⟩;simp only[Zmt];rw[show (((h.length:Nat):Int)==(0:Int))=false by rw[beq_eq_false_iff_ne];omega,cond_false,ZzM h (by omega)];simp only[Option.bind_some,es,Int.toNat_natCast];rw[Zai ⟨by omega,by omega⟩,Zai ⟨by omega,by omega⟩,Zai ⟨by omega,by omega,by omega⟩,Zai (by simp)];rw[show (h.set ((0:Int).toNat) (h.getD (h.length-1) Zag.d)).take (h.length-1)=r0 from rfl,d1];simp only[Option.bind_some];rw[Zai ⟨by omega,by omega⟩];rfl
def outP(p:Zaa):Bool:=!p.fIn
def outE(e:Zab):Bool:=e.fState==2
def gsP(l:List Zaa):List Zae:=(l.filter outP).map fun p=>grp p.fEnd.fAddr
def gsE(l:List Zab):List Zae:=(l.filter outE).map fun e=>grp e.fEnd.fAddr
theorem ZFX(n:Nat)(h:n<999999):n * 32<=140737488355328/\n<=maxLen:=⟨by omega,by unfold maxLen;omega⟩
theorem ZHH(l:List Zab):(gsE l).length<=l.length:=by simp only[gsE,List.length_map];exact List.length_filter_le _ _
theorem ZHG(l:List Zaa):(gsP l).length<=l.length:=by simp only[gsP,List.length_map];exact List.length_filter_le _ _
theorem ZDg(l:List Zab)(i:Nat)(h:i<l.length):gsE (l.drop i)=(if outE (l.getD i Zab.d)then[grp (l.getD i Zab.d).fEnd.fAddr]else[])++gsE (l.drop (i+1)):=by
 rw[Zdl l Zab.d i h];unfold gsE;generalize l.getD i Zab.d=e;cases b:outE e<;>simp[b]
theorem ZDf(l:List Zaa)(i:Nat)(h:i<l.length):gsP (l.drop i)=(if outP (l.getD i Zaa.d)then[grp (l.getD i Zaa.d).fEnd.fAddr]else[])++gsP (l.drop (i+1)):=by
 rw[Zdl l Zaa.d i h];unfold gsP;generalize l.getD i Zaa.d=e;cases b:outP e<;>simp[b]
theorem ZJM(es:List Zab)(gD:es.length<=1000)(aL:∀e∈es,e.ok)(v10:List Zaa)(ki v12:Int)(k:List Zaa->Int->Int->List Zae->Option (List Zae)) :
  ∀fu (i:Nat) (w:List Zae),i<=es.length->es.length-i<fu->w.length<=1000+i ->
   ZfL es v10 ki v12 k fu es (es.length:Int) (i:Int) w=(Zgw (w++gsE (es.drop i))).bind ZbJ:=by
 have b:es.length<=maxLen:=by unfold maxLen;omega
 intro fu;induction fu with
 |zero=>intro _ _ _ h;omega
 |succ fu ih=>
  intro i w g j n;simp only[ZfL,Zad];by_cases h:i<es.length
  .rw[if_pos (by omega),Zai ⟨by omega,by omega⟩,ZDg es i h];simp only[Int.toNat_natCast];have dx:=aL _ (ZdM es Zab.d i h);cases f:outE (es.getD i Zab.d)
   .have cK:((es.getD i Zab.d).fState==(2:Int))=false:=f;rw[cK,cond_false,add1 h b,ih (i+1) w (by omega) (by omega) (by omega)];simp
   .have cK:((es.getD i Zab.d).fState==(2:Int))=true:=f;rw[cK,cond_true,Zoj _ dx.1.1];simp only[Option.bind_some];rw[Zai (ZFX _ (by simp;omega)),add1 h b,ih (i+1) _ (by omega) (by omega) (by simp;omega)];simp
  .have e:i=es.length:=by omega
   rw[if_neg (by omega),e,List.drop_length];simp[gsE]
theorem ZFQ(ps:List Zaa)(es:List Zab)(cj:ps.length<=1000)(gD:es.length<=1000)(dO:∀p∈ps,p.ok)(aL:∀e∈es,e.ok) :
  ∀fu (i:Nat) (w:List Zae),i<=ps.length->ps.length-i<fu->w.length<=i ->
   ZdT es fu ps (ps.length:Int) (i:Int) w=(Zgw (w++gsP (ps.drop i)++gsE es)).bind ZbJ:=by
 have b:ps.length<=maxLen:=by unfold maxLen;omega
 intro fu;induction fu with
 |zero=>intro _ _ _ h;omega
 |succ fu ih=>
  intro i w g j n;simp only[ZdT,Zad];by_cases h:i<ps.length
  .rw[if_pos (by omega),Zai ⟨by omega,by omega⟩,ZDf ps i h];simp only[Int.toNat_natCast];have dx:=dO _ (ZdM ps Zaa.d i h);cases f:outP (ps.getD i Zaa.d)
   .have cK:(!(ps.getD i Zaa.d).fIn)=false:=f;rw[cK,cond_false,add1 h b,ih (i+1) w (by omega) (by omega) (by omega)];simp
   .have cK:(!(ps.getD i Zaa.d).fIn)=true:=f;rw[cK,cond_true,Zoj _ dx.1.1];simp only[Option.bind_some];rw[Zai (ZFX _ (by simp;omega)),add1 h b,ih (i+1) _ (by omega) (by omega) (by simp;omega)];simp
  .have e:i=ps.length:=by omega
   rw[if_neg (by omega),e,List.drop_length];have:=ZJM es gD aL ps (ps.length:Int) (ps.length:Int) (ZdT es fu) ((((es.length:Nat):Int)-(0:Int)).toNat+2) 0 w (by omega) (by omega) (by omega);simp only[Int.natCast_zero,List.drop_zero]at this;rw[this];simp[gsP]
theorem Zyj(ps:List Zaa)(es:List Zab)(cj:ps.length<=1000)(gD:es.length<=1000)(dO:∀p∈ps,p.ok)(aL:∀e∈es,e.ok) :
  ∃L,ZjL ps es=some L/\Srt L/\∀x,x∈L↔x∈gsP ps++gsE es:=by
 have h:=ZFQ ps es cj gD dO aL ((((ps.length:Nat):Int)-(0:Int)).toNat+2) 0 [] (by omega) (by omega) (by simp);simp only[Int.natCast_zero,List.drop_zero,List.nil_append]at h;unfold ZjL;rw[h];refine ZJP _ ?_;have:=ZHH es;have:=ZHG ps;simp only[List.length_append];omega
theorem ZzK(l:List Zae)(e:Zae)(hl:l.length<=maxLen):Zde l e=some (l.contains e):=by
 simp only[Zde,ZeQ];have:=ZlR l Zae.d (fun x=>decide (e=x)) hl (fun fu i=>Zcc l fu (l.length:Int) i e) (fun i=>i) (fun fu i n=>by
   simp only[Zcc,Zad];rw[if_pos (by omega),Zai ⟨by omega,by omega⟩];simp) (fun fu=>by
   simp only[Zcc,Zad];rw[if_neg (by omega)]) ((((l.length:Nat):Int)-(0:Int)).toNat+2) 0 (by omega) (by omega)
 simp only[Int.natCast_zero,List.drop_zero]at this;rw[this];simp only[Option.bind_some,Option.some.injEq];rw[Bool.eq_iff_iff,decide_eq_true_eq,List.contains_iff_mem];have f:=Zne (fun x=>decide (e=x)) l 0;constructor
 .intro h;obtain⟨k,b,_,⟨x,g,j⟩,_⟩:=Zma _ l 0 h;rw[of_decide_eq_true j];exact List.mem_of_getElem? g
 .intro h;apply Int.not_lt.1;intro b;have:=f.1 b e h;simp at this
theorem ZyN{α:Type}[DecidableEq α]:∀(L l:List α),L.Nodup->(∀x∈L,x∈l)->L.length<=l.length
 | [],_,_,_=>by simp
 |a :: r,l,f,b=>by
  have eA:=List.nodup_cons.1 f
  have d:=b a (by simp)
  have:=ZyN r (l.erase a) eA.2 fun x hx=>(List.mem_erase_of_ne (show x≠a from fun e=>eA.1 (e ▸ hx))).2 (b x (by simp[hx]))
  have:=List.length_erase_of_mem d
  have:=List.length_pos_of_mem d
  simp only[List.length_cons]
  omega
theorem ZMo{L:List Zae}(b:Srt L){l:List Zae}(h:∀x,x∈L↔x∈l):L.length<=l.length:=
 ZyN L l b.nodup fun x hx=>(h x).1 hx
theorem Zqg(ps:List Zaa)(es:List Zab)(a:Zaf)(cj:ps.length<=1000)(gD:es.length<=1000)(dO:∀p∈ps,p.ok)(aL:∀e∈es,e.ok)(b:a.ok) :
  Zme ps es a=some (ZcJ a && !decide (grp a∈gsP ps++gsE es)):=by
 obtain⟨L,f,g,d⟩:=Zyj ps es cj gD dO aL;have hl:L.length<=2000:=by
  have:=ZMo g d;have:=ZHH es;have:=ZHG ps;simp only[List.length_append]at *
  omega
 simp only[Zme,ZkC a b,f,Zoj a b,Option.bind_some,ZzK L _ (by unfold maxLen;omega)];cases ZcJ a
 .rfl
 .simp only[cond_true,Bool.true_and,Option.some.injEq];congr 1;rw[Bool.eq_iff_iff,decide_eq_true_eq,List.contains_iff_mem,d]
def bitA(a:Zaf)(j:Nat):Int:=if a.fV6 then a.fHi / 2 ^ (63-j) % 2 else a.fLo / 2 ^ (31-j) % 2
theorem ZMl(n k:Nat)(h:k<64)(b:n<2 ^ 64):IntKind.i64.wrap (IntKind.u64.wrap (((BitVec.ofInt (IntKind.bits .u64) (Int.fdiv (n:Int) (2 ^ (min (IntKind.u64.wrap (k:Int)).toNat (IntKind.bits .u64))))) &&& (BitVec.ofInt (IntKind.bits .u64) (1:Int))).toNat:Int))=(n:Int) / 2 ^ k % 2:=by
 have d:(IntKind.u64.wrap (k:Int)).toNat=k:=by rw[Zhc (by omega) (by omega)];rfl
 rw[d,show min k (IntKind.bits .u64)=k from Nat.min_eq_left (by simp[IntKind.bits];omega)];have e:Int.fdiv (n:Int) (2 ^ k)=((n / 2 ^ k:Nat):Int):=by
  rw[Int.fdiv_eq_ediv_of_nonneg _ (by have:(0:Int)<2 ^ k:=Int.pow_pos (by omega);omega)];simp
 have f:n / 2 ^ k<2 ^ 64:=Nat.lt_of_le_of_lt (Nat.div_le_self _ _) b;rw[e,show (1:Int)=((1:Nat):Int)from rfl,ZxJ _ 1 f (by omega),Nat.and_one_is_mod];have i:n / 2 ^ k % 2<2:=Nat.mod_lt _ (by omega);have g:IntKind.i64.wrap ((n / 2 ^ k % 2:Nat):Int)=((n / 2 ^ k % 2:Nat):Int):=by
  simp only[IntKind.wrap,IntKind.bits,IntKind.signed];simp;omega
 rw[g];simp
theorem ZMk(a:Zaf)(h:a.ok)(j:Nat)(b:j<if a.fV6 then 32 else 16):Zbx a (j:Int)=some (bitA a j):=by
 obtain⟨v,o,lo⟩:=a;obtain⟨_,d,f,_⟩:=h;have d:=Zjv d;have f:=Zjv f;simp only at d f;obtain⟨n,g⟩:=ZjJ d.1;obtain⟨m,i⟩:=ZjJ f.1;subst g i;cases v with
 |false=>
  have b:j<16:=by simpa using b
  have e:Zaz (31:Int) (j:Int)=((31-j:Nat):Int):=by rw[Zbp (by omega) (by omega)];omega
  simp only[Zbx,ZbU,ZcL,Zad,Option.bind_some,cond_false,Bool.not_false,cond_true,e];rw[if_neg (by omega),if_neg (by omega),Zai (by rw[Zhc (by omega) (by omega)];omega),ZMl m (31-j) (by omega) (by omega)];simp[bitA]
 |true=>
  have b:j<32:=by simpa using b
  have et:Int.tmod (j:Int) 64=(j:Int):=by rw[Int.tmod_eq_emod_of_nonneg (by omega)];omega
  have e:Zaz (63:Int) (j:Int)=((63-j:Nat):Int):=by rw[Zbp (by omega) (by omega)];omega
  simp only[Zbx,ZbU,ZcL,Zad,Option.bind_some,cond_false,Bool.not_true,cond_true,et,e];rw[if_neg (by omega),if_neg (by omega),if_pos (by omega),Zai (by rw[Zhc (by omega) (by omega)];omega),ZMl n (63-j) (by omega) (by omega)];simp[bitA]
theorem Zzf(n m t b:Nat)(hb:b<=t)(d:n<2 ^ t)(f:m<2 ^ t):(∀j,j<b->n / 2 ^ (t-1-j) % 2=m / 2 ^ (t-1-j) % 2)↔n / 2 ^ (t-b)=m / 2 ^ (t-b):=by
 constructor
 .intro h;apply Nat.eq_of_testBit_eq;intro i;rw[Nat.testBit_div_two_pow,Nat.testBit_div_two_pow];by_cases g:i<b
  .have:=h (b-1-i) (by omega);rw[show t-1-(b-1-i)=i+(t-b)by omega]at this;rw[Nat.testBit_eq_decide_div_mod_eq,Nat.testBit_eq_decide_div_mod_eq,this]
  .rw[Nat.testBit_lt_two_pow (Nat.lt_of_lt_of_le d (Nat.pow_le_pow_right (by omega) (by omega))),Nat.testBit_lt_two_pow (Nat.lt_of_lt_of_le f (Nat.pow_le_pow_right (by omega) (by omega)))]
 .intro h j o;have e:2 ^ (t-1-j)=2 ^ (t-b) * 2 ^ (b-1-j):=by rw[<-Nat.pow_add];congr 1;omega
  rw[e,<-Nat.div_div_eq_div_mul,<-Nat.div_div_eq_div_mul,h]
theorem ZGa(a b:Zaf)(u:a.ok)(hb:b.ok)(v:a.fV6=b.fV6):∀fu (i:Nat),i<=32->32-i<fu ->
  ∃r,ZcA fu (i:Int) a b=some r/\(r=true↔∀j,i<=j->j<(if a.fV6 then 32 else 16)->bitA a j=bitA b j):=by
 intro fu;induction fu with
 |zero=>intro _ _ h;omega
 |succ fu ih=>
  intro i C D;simp only[ZcA,Zad];by_cases h:i<32
  .rw[if_pos (by omega)];have jA:Zan (i:Int) 1=((i+1:Nat):Int):=add1 (n:=32) h (by unfold maxLen;omega);rw[jA];obtain⟨r,t,p⟩:=ih (i+1) (by omega) (by omega);by_cases d:i<(if a.fV6 then 32 else 16)
   .have y:=ZMk a u i d;have A:=ZMk b hb i (by rw[<-v];exact d);have step:∃r,((Zbx a (i:Int)).bind fun x3=>(Zbx b (i:Int)).bind fun x4=>bif(x3 != x4)then some false else ZcA fu ((i+1:Nat):Int) a b)=some r/\(r=true↔∀j,i<=j->j<(if a.fV6 then 32 else 16)->bitA a j=bitA b j):=by
     rw[y,A];simp only[Option.bind_some];by_cases g:bitA a i=bitA b i
     .rw[show (bitA a i != bitA b i)=false by simp[g],cond_false];refine⟨r,t,p.trans ⟨fun q j o e=>?_,fun q j o e=>q j (by omega) e⟩⟩;by_cases B:j=i
      .subst B;exact g
      .exact q j (by omega) e
     .rw[show (bitA a i != bitA b i)=true by simp[g],cond_true];exact⟨false,rfl,by simp;exact⟨i,Nat.le_refl _,d,g⟩⟩
    cases f:a.fV6
    .rw[f]at d;have d:i<16:=by simpa using d
     simp only[cond_false];rw[if_pos (by omega)];rw[f]at step;exact step
    .simp only[cond_true];rw[f]at step;exact step
   .cases f:a.fV6
    .rw[f]at d p;have d:16<=i:=by simpa using d
     simp only[cond_false];rw[if_neg (by omega)];refine⟨r,t,p.trans ⟨fun q j o e=>?_,fun q j o e=>q j (by omega) e⟩⟩;have:j<16:=by simpa using e
     omega
    .rw[f]at d;exact absurd h (by simpa using d)
  .rw[if_neg (by omega)];refine⟨true,rfl,by simp;intro j o e;split at e<;>omega⟩
theorem ZCx(a b:Zaf)(i:a.ok)(hb:b.ok)(d:ZcJ b=true):Zib a b=some (decide (grp a=grp b)):=by
 have t:=ZGa a b i hb;simp only[Zib,ZjH a i,ZjH b hb,d,Option.bind_some,Bool.not_true,cond_false];cases hra:ZcJ a with
 |false=>
  simp only[Bool.not_false,cond_true,Option.some.injEq];rw[eq_comm,decide_eq_false_iff_not];unfold grp;rw[hra,d];intro e;have:=congrArg Zae.fBits e;simp only[Bool.false_eq_true,if_false,if_true]at this;split at this<;>simp at this
 |true=>
  simp only[Bool.not_true,cond_false];by_cases f:a.fV6=b.fV6
  .rw[show (!(a.fV6==b.fV6))=false by simp[f],cond_false];obtain⟨r,g,o⟩:=t f (((32:Int)-(0:Int)).toNat+2) 0 (by omega) (by omega);have g:ZcA (((32:Int)-(0:Int)).toNat+2) 0 a b=some r:=g;rw[g,Option.some.injEq,Bool.eq_iff_iff,o,decide_eq_true_eq];obtain⟨v,A,lo⟩:=a;obtain⟨v',cY,k7⟩:=b;simp only at f;subst f;have jA:=Zjv i.2.1;have ha2:=Zjv i.2.2.1;have bX:=Zjv hb.2.1;have bK:=Zjv hb.2.2.1;simp only at jA ha2 bX bK;obtain⟨n,u⟩:=ZjJ jA.1;obtain⟨m,y⟩:=ZjJ ha2.1;obtain⟨n',eA⟩:=ZjJ bX.1;obtain⟨m',fL⟩:=ZjJ bK.1;subst u y eA fL;cases v with
   |false=>
    have B:(n:Int)=0/\(m:Int)<4294967296:=by simpa[ZcJ]using hra
    have C:(n':Int)=0/\(m':Int)<4294967296:=by simpa[ZcJ]using d
    have hb:=Zzf m m' 32 16 (by omega) (by omega) (by omega);simp only[grp,hra,d,if_true,Bool.false_eq_true,if_false,Zae.mk.injEq,Zaf.mk.injEq,true_and,and_true];have e:(∀j,0<=j->j<16->bitA ⟨false,n,m⟩ j=bitA ⟨false,n',m'⟩ j)↔∀j,j<16->m / 2 ^ (32-1-j) % 2=m' / 2 ^ (32-1-j) % 2:=by
     constructor
     .intro q j h;have:=q j (by omega) h;simp only[bitA,Bool.false_eq_true,if_false]at this;rw[show 32-1-j=31-j by omega]
      exact_mod_cast this
     .intro q j _ h;have:=q j h;rw[show 32-1-j=31-j by omega]at this;simp only[bitA,Bool.false_eq_true,if_false]
      exact_mod_cast this
    rw[e,hb];rw[show (2:Nat) ^ (32-16)=65536 from rfl];constructor<;>intro q<;>omega
   |true=>
    have hb:=Zzf n n' 64 32 (by omega) (by omega) (by omega);simp only[grp,hra,d,if_true,Bool.false_eq_true,if_false,Zae.mk.injEq,Zaf.mk.injEq,true_and,and_true];have e:(∀j,0<=j->j<32->bitA ⟨true,n,m⟩ j=bitA ⟨true,n',m'⟩ j)↔∀j,j<32->n / 2 ^ (64-1-j) % 2=n' / 2 ^ (64-1-j) % 2:=by
     constructor
     .intro q j h;have:=q j (by omega) h;simp only[bitA,if_true]at this;rw[show 64-1-j=63-j by omega]
      exact_mod_cast this
     .intro q j _ h;have:=q j h;rw[show 64-1-j=63-j by omega]at this;simp only[bitA,if_true]
      exact_mod_cast this
    rw[e,hb];rw[show (2:Nat) ^ (64-32)=4294967296 from rfl];constructor<;>intro q<;>omega
  .rw[show (!(a.fV6==b.fV6))=true by simp[f],cond_true,Option.some.injEq,eq_comm,decide_eq_false_iff_not];unfold grp;rw[hra,d];intro e;have p:=congrArg (fun x:Zae=>x.fAddr.fV6) e;simp only[if_true]at p;apply f;cases g:a.fV6<;>cases o:b.fV6<;>simp[g,o]at p ⊢
theorem ZJV(ps:List Zaa)(es:List Zab)(gD:es.length<=1000)(aL:∀e∈es,e.ok)(a:Zaf)(j:a.ok)(n:ZcJ a=true)(v7:Int)(k:Int->Zaf->Option Bool):∀fu (i:Nat),i<=es.length->es.length-i<fu ->
  Zey ps es v7 a k fu (i:Int)=some (!decide (grp a∈gsE (es.drop i))):=by
 have o:es.length<=maxLen:=by unfold maxLen;omega
 intro fu;induction fu with
 |zero=>intro _ _ h;omega
 |succ fu ih=>
  intro i p r;simp only[Zey,Zad];by_cases h:i<es.length
  .rw[if_pos (by omega),Zai ⟨by omega,by omega⟩,ZDg es i h];simp only[Int.toNat_natCast];have dx:=aL _ (ZdM es Zab.d i h);rw[add1 h o,ih (i+1) (by omega) (by omega)];cases f:outE (es.getD i Zab.d)
   .have cK:((es.getD i Zab.d).fState==(2:Int))=false:=f;rw[cK,cond_false];simp
   .have cK:((es.getD i Zab.d).fState==(2:Int))=true:=f;rw[cK,cond_true,ZCx _ _ dx.1.1 j n];simp only[Option.bind_some,Zad,if_true,List.mem_append,List.mem_singleton];generalize grp (es.getD i Zab.d).fEnd.fAddr=g;by_cases b:g=grp a
    .rw[if_pos b];simp[b]
    .rw[if_neg b];simp[Ne.symm b]
  .have e:i=es.length:=by omega
   rw[if_neg (by omega),e,List.drop_length];simp[gsE]
theorem ZGg(ps:List Zaa)(es:List Zab)(cj:ps.length<=1000)(gD:es.length<=1000)(dO:∀p∈ps,p.ok)(aL:∀e∈es,e.ok)(a:Zaf)(f:a.ok)(j:ZcJ a=true):∀fu (i:Nat),i<=ps.length->ps.length-i<fu ->
  ZcW ps es fu (i:Int) a=some (!decide (grp a∈gsP (ps.drop i)++gsE es)):=by
 have o:ps.length<=maxLen:=by unfold maxLen;omega
 intro fu;induction fu with
 |zero=>intro _ _ h;omega
 |succ fu ih=>
  intro i r t;simp only[ZcW,Zad];by_cases h:i<ps.length
  .rw[if_pos (by omega),Zai ⟨by omega,by omega⟩,ZDf ps i h];simp only[Int.toNat_natCast];have dx:=dO _ (ZdM ps Zaa.d i h);rw[add1 h o,ih (i+1) (by omega) (by omega)];cases n:outP (ps.getD i Zaa.d)
   .have cK:(!(ps.getD i Zaa.d).fIn)=false:=n;rw[cK,cond_false];simp
   .have cK:(!(ps.getD i Zaa.d).fIn)=true:=n;rw[cK,cond_true,ZCx _ _ dx.1.1 f j];simp only[Option.bind_some,Zad,if_true,List.mem_append,List.mem_singleton];generalize grp (ps.getD i Zaa.d).fEnd.fAddr=g;by_cases b:g=grp a
    .rw[if_pos b];simp[b]
    .rw[if_neg b];simp[Ne.symm b]
  .have e:i=ps.length:=by omega
   rw[if_neg (by omega),e,List.drop_length];have:=ZJV ps es gD aL a f j (ps.length:Int) (ZcW ps es fu) ((((es.length:Nat):Int)-(0:Int)).toNat+2) 0 (by omega) (by omega);simp only[Int.natCast_zero,List.drop_zero]at this;rw[this];simp[gsP]
theorem ZKd(ps:List Zaa)(es:List Zab)(a:Zaf)(cj:ps.length<=1000)(gD:es.length<=1000)(dO:∀p∈ps,p.ok)(aL:∀e∈es,e.ok)(b:a.ok) :
  Zkm ps es a=some (ZcJ a && !decide (grp a∈gsP ps++gsE es)):=by
 simp only[Zkm,ZjH a b,Option.bind_some];cases d:ZcJ a
 .rfl
 .have:=ZGg ps es cj gD dO aL a b d ((((ps.length:Nat):Int)-(0:Int)).toNat+2) 0 (by omega) (by omega);simp only[Int.natCast_zero,List.drop_zero]at this;simp only[Bool.not_true,cond_false,Bool.true_and];exact this
def conn(l:List Zaa)(e:Zah):Bool:=l.any fun p=>decide (p.fEnd=e)
theorem ZIx(l:List Zaa)(e:Zah)(hl:l.length<=maxLen):∀fu (i:Nat),i<=l.length->l.length-i<fu->ZdZ fu l (l.length:Int) (i:Int) e=some (conn (l.drop i) e):=by
 intro fu;induction fu with
 |zero=>intro _ _ h;omega
 |succ fu ih=>
  intro i b f;simp only[ZdZ,Zad];by_cases h:i<l.length
  .rw[if_pos (by omega),Zai ⟨by omega,by omega⟩,Zdl l Zaa.d i h];simp only[Int.toNat_natCast];rw[add1 h hl,ih (i+1) (by omega) (by omega)];rw[show ∀(x:Zaa) r,conn (x :: r) e=(decide (x.fEnd=e)||conn r e)from fun _ _=>rfl];by_cases q:(l.getD i Zaa.d).fEnd=e
   .rw[if_pos q,decide_eq_true q];rfl
   .rw[if_neg q,decide_eq_false q];rfl
  .rw[if_neg (by omega),List.drop_eq_nil_of_le (by omega)];rfl
theorem ZuO(v:ZaC)(e:Zah)(hl:v.fPeers.length<=maxLen):ZgO v e=some (conn v.fPeers e):=by
 have:=ZIx v.fPeers e hl ((((v.fPeers.length:Nat):Int)-(0:Int)).toNat+2) 0 (by omega) (by omega);simpa[ZgO]using this
structure ZmU (v:ZaC):Prop where
 book:v.fBook.length<=900
 peers:v.fPeers.length<=900
 bans:v.fBans.length<=900
 bookOk:∀e∈v.fBook,e.ok
 peersOk:∀p∈v.fPeers,p.ok
 bansOk:∀b∈v.fBans,b.ok
def ZHT(v:ZaC)(a:Zaf):Bool:=ZcJ a && !decide (grp a∈gsP v.fPeers++gsE v.fBook)
def Zqk(v:ZaC)(e:Zah)(af:Int):Bool:=(ZdO v e af).getD false
theorem ZIt{v:ZaC}(h:ZmU v)(e:Zah)(b:e.ok)(af:Int):ZdO v e af=some (Zqk v e af) /\
  (Zqk v e af=true->conn v.fPeers e=false/\Zvi v.fBans e.fAddr af 0/\ZHT v e.fAddr=true):=by
 obtain⟨r,u1,u2⟩:=ZsY v.fBans e.fAddr af (by have:=h.bans;unfold maxLen;omega) h.bansOk b.1;have d:=Zqg v.fPeers v.fBook e.fAddr (by have:=h.peers;omega) (by have:=h.book;omega) h.peersOk h.bookOk b.1;have aM:ZdO v e af=some (!conn v.fPeers e&&(r==0)&&ZHT v e.fAddr):=by
  simp only[ZdO,ZuO v e (by have:=h.peers;unfold maxLen;omega),u1,d,Option.bind_some];cases conn v.fPeers e
  .simp only[Bool.not_false,cond_true,Bool.true_and];cases(r==(0:Int))
   .rfl
   .simp only[cond_true,Bool.true_and];rfl
  .rfl
 refine⟨by unfold Zqk;rw[aM];rfl,fun ho=>?_⟩;unfold Zqk at ho;rw[aM]at ho;simp only[Option.getD_some,Bool.and_eq_true,Bool.not_eq_true',beq_iff_eq]at ho;refine⟨ho.1.1,?_,ho.2⟩;rw[<-ho.1.2];exact u2
def dueS(e:Zab)(af:Int):Bool:=(e.fState==1)&&decide (e.fNext<=af)
theorem ZIj(e:Zab)(af:Int):Zor e af=some (dueS e af):=by
 simp only[Zor,dueS];cases(e.fState==(1:Int))<;>rfl
theorem ZMB(e:Zab)(af:Int):ZkS e af=some (dueS e af):=by
 simp only[ZkS,dueS];cases(e.fState==(1:Int))<;>rfl
def ZCM(af:Int)(e:Zab):Bool:=Zmu e&&dueS e af
def Zig(e:Zab):Itm:=⟨e.fNext,e.fEnd⟩
def ZlT(l:List Zab)(af:Int):List Itm:=(l.filter (ZCM af)).map Zig
theorem ZEr(l:List Zab)(af:Int)(hl:l.length<=900)(aL:∀e∈l,e.ok):∀fu (i:Nat) (w:List Itm),i<=l.length->l.length-i<fu->w.length<=i ->
  ZcG af fu l (l.length:Int) (i:Int) w=(Zkl (w++ZlT (l.drop i) af)).bind fun x=>some x:=by
 have b:l.length<=maxLen:=by unfold maxLen;omega
 intro fu;induction fu with
 |zero=>intro _ _ _ h;omega
 |succ fu ih=>
  intro i w g j n;simp only[ZcG,Zad];by_cases h:i<l.length
  .rw[if_pos (by omega),Zai ⟨by omega,by omega⟩,Zdl l Zab.d i h];simp only[Int.toNat_natCast];have dx:=aL _ (ZdM l Zab.d i h);rw[add1 h b,ih (i+1) w (by omega) (by omega) (by omega),ZqG _ dx];simp only[Option.bind_some,Zos,ZIj];rw[Zai ⟨by simp;omega,by unfold maxLen;simp;omega⟩,ih (i+1) _ (by omega) (by omega) (by simp;omega)];generalize l.getD i Zab.d=e;have f:ZlT (e :: l.drop (i+1)) af=(if ZCM af e then[Zig e]else[])++ZlT (l.drop (i+1)) af:=by
    unfold ZlT;cases q:ZCM af e<;>simp[q]
   rw[f];unfold ZCM;cases Zmu e
   .simp
   .cases dueS e af
    .simp
    .simp[Zig]
  .rw[if_neg (by omega),List.drop_eq_nil_of_le (by omega)];simp[ZlT]
theorem ZEY{v:ZaC}(h:ZmU v)(af:Int):∃L,ZeU v af=some L/\L.Perm (ZlT v.fBook af)/\HF 0 L:=by
 have:=ZEr v.fBook af h.book h.bookOk ((((v.fBook.length:Nat):Int)-(0:Int)).toNat+2) 0 [] (by omega) (by omega) (by simp);simp only[Int.natCast_zero,List.drop_zero,List.nil_append]at this;unfold ZeU;rw[this];obtain⟨L,b,d,e⟩:=Zzh (ZlT v.fBook af) (by
  have:(ZlT v.fBook af).length<=v.fBook.length:=by simp only[ZlT,List.length_map];exact List.length_filter_le _ _
  have:=h.book;omega)
 exact⟨L,by rw[b];rfl,d,e⟩
def zE:Zah:=⟨⟨false,0,0⟩,0⟩
def Zwu(v:ZaC)(af:Int)(L:List Itm)(e:Zah)(ok:Bool):Prop:=(ok=true/\∃x∈L,x.fEnd=e/\Zqk v e af=true/\∀y∈L,Zqk v y.fEnd af=true->leH x y)\/(ok=false/\e=zE/\∀y∈L,Zqk v y.fEnd af=false)
theorem Zwu.perm{v:ZaC}{af:Int}{L L':List Itm}{e:Zah}{ok:Bool}(h:Zwu v af L e ok)(b:∀x,x∈L'↔x∈L):Zwu v af L' e ok:=by
 rcases h with⟨d,x,f,g,j,n⟩|⟨d,f,g⟩
 .exact .inl ⟨d,x,(b x).2 f,g,j,fun y i=>n y ((b y).1 i)⟩
 .exact .inr ⟨d,f,fun y i=>g y ((b y).1 i)⟩
theorem ZGA{v:ZaC}(h:ZmU v)(af:Int)(z:Zah):∀fu (L:List Itm),L.length<fu->L.length<=900->HF 0 L->(∀x∈L,x.fEnd.ok)->∃e ok,ZjT af fu L v z=some (e,ok)/\Zwu v af L e ok:=by
 intro fu;induction fu with
 |zero=>intro _ h;omega
 |succ fu ih=>
  intro L B hl H aL;simp only[ZjT];by_cases n:L=[]
  .subst n;rw[ZsM];exact⟨zE,false,rfl,.inr ⟨rfl,rfl,by simp⟩⟩
  .obtain⟨x,r,p1,p2,p3,p4⟩:=ZDc L (by omega) H n;rw[p1];simp only[Option.bind_some,Bool.not_true,cond_false];have hx:x∈L:=p2.mem_iff.2 (by simp);have hlr:L.length=r.length+1:=by simpa using p2.length_eq
   rw[(ZIt h x.fEnd (aL x hx) af).1];simp only[Option.bind_some];cases ho:Zqk v x.fEnd af with
   |true=>
    simp only[cond_true];exact⟨x.fEnd,true,rfl,.inl ⟨rfl,x,hx,rfl,ho,fun y b _=>p4 y b⟩⟩
   |false=>
    simp only[cond_false];obtain⟨e,ok,o,p⟩:=ih r (by omega) (by omega) p3 fun y b=>aL y (p2.mem_iff.2 (by simp[b]));refine⟨e,ok,o,?_⟩;have d:∀y,y∈L↔y=x\/y∈r:=fun y=>by rw[p2.mem_iff];simp
    rcases p with⟨f,y,g,i,u,A⟩|⟨f,g,i⟩
    .refine .inl ⟨f,y,(d y).2 (.inr g),i,u,fun t j mB=>?_⟩;rcases(d t).1 j with e1|e1
     .subst e1;rw[ho]at mB;cases mB
     .exact A t e1 mB
    .refine .inr ⟨f,g,fun t j=>?_⟩;rcases(d t).1 j with e1|e1
     .subst e1;exact ho
     .exact i t e1
theorem ZzH{v:ZaC}(h:ZmU v)(af:Int):∃e ok,Zkt v af=some (e,ok)/\Zwu v af (ZlT v.fBook af) e ok:=by
 obtain⟨L,l1,l2,l3⟩:=ZEY h af;have hlen:(ZlT v.fBook af).length<=v.fBook.length:=by simp only[ZlT,List.length_map];exact List.length_filter_le _ _
 have hb:=h.book;obtain⟨e,ok,b,d⟩:=ZGA h af zE 1000000 L (by rw[l2.length_eq];omega) (by rw[l2.length_eq];omega) l3 fun x hx=>by
  have:=l2.mem_iff.1 hx;simp only[ZlT,List.mem_map,List.mem_filter]at this;obtain⟨a,⟨f,_⟩,rfl⟩:=this;exact(h.bookOk a f).1
 refine⟨e,ok,?_,d.perm fun x=>l2.mem_iff.symm⟩;simp only[Zkt,l1,Option.bind_some];rw[show (Zah.mk (Zaf.mk false (0:Int) (0:Int)) (0:Int))=zE from rfl];exact b
def mayS(v:ZaC)(af:Int)(x:Zab):Bool:=Zmu x&&dueS x af&&Zqk v x.fEnd af
def dblN:Nat->Int->Int|0,x=>x|k+1,x=>dblN k (fitI (2*x))
theorem ZzJ:∀k,dblN k 0=0
 | 0=>rfl
 |k+1=>by show dblN k (fitI (2 * 0))=0;exact ZzJ k
theorem ZDt:∀k,dblN k 1099511627776=1099511627776
 | 0=>rfl
 |k+1=>by show dblN k (fitI (2 * 1099511627776))=_;exact ZDt k
theorem ZNd{x:Int}(h0:0<=x)(b:x<=1099511627776):fitI x=x:=by
 unfold fitI;rw[if_neg (by omega),if_neg (by omega)]
theorem ZwD:∀(j:Nat)(x:Int)(n fu:Nat),n<=1000000->0<=x->x<=1099511627776->(x=0\/1099511627776<=x * 2 ^ j)->(1099511627776-x).toNat+1<=fu->Zik fu x (n:Int)=some (dblN (min n j) x):=by
 intro j;induction j with
 |zero=>
  intro x n fu _ h0 d h2 e;obtain⟨fu,rfl⟩ : ∃y,fu=y+1:=⟨fu-1,by omega⟩;unfold Zik;simp only[Zad];rw[Nat.min_zero];have fO:x=0\/1099511627776<=x:=by simpa using h2
  split
  .split
   .rw[if_neg (by omega)];rfl
   .rfl
  .rfl
 |succ j ih=>
  intro x n fu g h0 d h2 e;obtain⟨fu,rfl⟩ : ∃y,fu=y+1:=⟨fu-1,by omega⟩;unfold Zik;simp only[Zad];cases n with
  |zero=>rw[if_neg (by omega),Nat.zero_min];rfl
  |succ n=>
   rw[if_pos (by omega)];have dM:min (n+1) (j+1)=min n j+1:=by omega
   rw[dM];by_cases hx:x>0
   .rw[if_pos hx];by_cases b:x<1099511627776
    .rw[if_pos b,Zoe (by omega) (by omega),ZiH,Zao,ZND (by omega)];have hle:=Zid (2*x);have mh:x+1<=fitI (2*x):=by
      unfold fitI;repeat' split
      all_goals omega
     have fO:fitI (2*x)=0\/1099511627776<=fitI (2*x) * 2 ^ j:=by
      right;have k4:(1:Int)<=2 ^ j:=Int.pow_pos (by omega);rcases h2 with h2|h2
      .omega
      .have f:x * 2 ^ (j+1)=2*x * 2 ^ j:=by
        rw[Int.pow_succ,<-Int.mul_assoc,Int.mul_right_comm,Int.mul_comm x 2]
       rw[f]at h2;unfold fitI;rw[if_neg (by omega)];split
       .have:=Int.mul_le_mul_of_nonneg_left k4 (show (0:Int)<=1099511627776 by omega);omega
       .exact h2
     exact ih (fitI (2*x)) n fu (by omega) hle.1 hle.2 fO (by omega)
    .have:x=1099511627776:=by omega
     rw[if_neg b,this,ZDt]
   .have:x=0:=by omega
    rw[if_neg hx,this,ZzJ]
theorem ZwM(n:Nat):∀(k i:Nat)(x:Int)(fu:Nat),min n 41-i=k->i<=41->0<=x->x<=1099511627776->k+1<=fu->Zem (n:Int) fu x (i:Int)=some (dblN k x):=by
 intro k;induction k with
 |zero=>
  intro i x fu d e h0 b f;obtain⟨fu,rfl⟩ : ∃y,fu=y+1:=⟨fu-1,by omega⟩;unfold Zem;simp only[Zad];split
  .rw[if_neg (by omega)];rfl
  .rfl
 |succ k ih=>
  intro i x fu d e h0 b f;obtain⟨fu,rfl⟩ : ∃y,fu=y+1:=⟨fu-1,by omega⟩;unfold Zem;simp only[Zad];have g:Zan (i:Int) 1=((i+1:Nat):Int):=add1 (n:=i+1) (by omega) (by simp only[maxLen];omega);have h:addT x x=fitI (2*x):=by
   unfold addT;rw[ZNd h0 b];congr 1;omega
  have hle:=Zid (2*x);rw[if_pos (by omega),if_pos (by omega),(Zqh _ _).2,Zao,g,h];exact ih (i+1) _ fu (by omega) (by omega) hle.1 hle.2 (by omega)
theorem ZCs(a:Int)(n:Nat)(b:n<=1000000):Zon a (n:Int)=some (dblN (min n 41) (fitI a))/\ZjF a (n:Int)=some (dblN (min n 41) (fitI a)):=by
 have h:=Zid a;constructor
 .unfold Zon;rw[ZiH,Zao];exact ZwD 41 _ n _ b h.1 h.2 (by omega) (by omega)
 .unfold ZjF;rw[ZiI,Zao];exact ZwM n _ 0 _ _ rfl (by omega) h.1 h.2 (by omega)
theorem ZLk(c:Zar)(n:Nat)(d:n<=1000000):∃t,ZkZ c (n:Int)=some t/\ZjA c (n:Int)=some t:=by
 unfold ZkZ ZjA;simp only[Zad];cases n with
 |zero=>exact⟨0,rfl,rfl⟩
 |succ n=>
  rw[if_neg (by omega),if_neg (by omega),ZND (by omega),ZiH,ZiI,(ZCs _ n (by omega)).1,(ZCs _ n (by omega)).2];simp only[Zao];generalize dblN (min n 41) (fitI c.fBase)=a;generalize fitI c.fCap=b;refine⟨if a<b then a else b,rfl,?_⟩;split<;>split<;>first|rfl|omega | (congr 1;omega)
theorem ZGV(c:Zar)(r:Int):∃t,Zke c r=some t/\ZiR c r=some t:=by
 unfold Zke ZiR;simp only[Zad];by_cases h:c.fJitter<1
 .rw[if_pos h];exact⟨_,rfl,rfl⟩
 .rw[if_neg h,Zai (by omega)];split<;>exact⟨_,rfl,rfl⟩
theorem ZMH(c:Zar)(n:Nat)(b:n<=1000000)(af r:Int):∃t,ZjV c (n:Int) af r=some t/\ZfZ c (n:Int) af r=some t:=by
 obtain⟨t,d,e⟩:=ZLk c n b;obtain⟨u,f,g⟩:=ZGV c r;unfold ZjV ZfZ;rw[d,e,f,g];simp only[Zao,(Zqh _ _).1,(Zqh _ _).2];exact⟨_,rfl,rfl⟩
def ZuB(c:Zar)(e:Zab)(af r:Int):Zab:=(ZhB c e af r).getD e
theorem ZuA(c:Zar)(e:Zab)(af r:Int):ZhB c e af r=some (ZuB c e af r)/\ZeF c e af r=some (ZuB c e af r):=by
 have aM:∀n:Nat,n<=1000->Zan (if(999:Int)<(if(0:Int)>e.fFails then(0:Int)else e.fFails)then(999:Int)else(if(0:Int)>e.fFails then(0:Int)else e.fFails)) (1:Int)=(n:Int) ->
   ZeF c e af r=((ZfZ c (n:Int) af r).bind fun x=>some (Zab.mk e.fEnd 1 (n:Int) x))->ZhB c e af r=some (ZuB c e af r)/\ZeF c e af r=some (ZuB c e af r):=by
  intro n f b h;obtain⟨t,i,j⟩:=ZMH c n (by omega) af r;have g:ZhB c e af r=some ⟨e.fEnd,1,(n:Int),t⟩:=by
   unfold ZhB;rw[b,i];rfl
  have o:ZuB c e af r=⟨e.fEnd,1,(n:Int),t⟩:=by unfold ZuB;rw[g];rfl
  rw[o,g,h,j];exact⟨rfl,rfl⟩
 unfold ZeF Zgg at aM ⊢;simp only[Zad]at aM ⊢;by_cases h0:e.fFails>0
 .by_cases b:e.fFails<1000
  .obtain⟨n,f⟩ : ∃n:Nat,e.fFails=(n:Int):=⟨e.fFails.toNat,by omega⟩;have d:Zan e.fFails 1=((n+1:Nat):Int):=by rw[f];exact add1 (n:=n+1) (by omega) (by simp only[maxLen];omega)
   refine aM (n+1) (by omega) ?_ ?_
   .rw[if_neg (show ¬(0:Int)>e.fFails by omega),if_neg (by omega),d]
   .rw[if_pos h0,if_pos b,if_neg (show ¬e.fFails>=1000 by omega),d]
  .refine aM 1000 (by omega) ?_ ?_
   .rw[if_neg (show ¬(0:Int)>e.fFails by omega),if_pos (by omega)];exact Zbh (by omega) (by omega)
   .rw[if_pos h0,if_neg b,if_pos (show e.fFails>=1000 by omega)];rfl
 .refine aM 1 (by omega) ?_ ?_
  .have d:(if(0:Int)>e.fFails then(0:Int)else e.fFails)=0:=by split<;>omega
   rw[d,if_neg (by omega)];exact Zbh (by omega) (by omega)
  .rw[if_neg h0,if_neg (show ¬e.fFails>=1000 by omega)];rfl
theorem ZMM(l:List Zaa)(e:Zah):ZgP l e<0↔conn l e=false:=by
 unfold ZgP conn;rw[Zne,List.any_eq_false];simp
theorem ZMz{v:ZaC}(h:ZmU v)(e:Zab)(d:e.ok)(af:Int):ZkP v.fBook v.fPeers v.fBans e af=some (mayS v af e):=by
 obtain⟨r,u1,u2⟩:=ZsY v.fBans e.fEnd.fAddr af (by have:=h.bans;unfold maxLen;omega) h.bansOk d.1.1;obtain⟨s,u3,u4⟩:=ZtO v.fBans e.fEnd.fAddr af (by have:=h.bans;unfold maxLen;omega) h.bansOk d.1.1;have me:r=s:=ZvX u2 u4 fun b=>Iff.rfl;subst me;have i:=Zqg v.fPeers v.fBook e.fEnd.fAddr (by have:=h.peers;omega) (by have:=h.book;omega) h.peersOk h.bookOk d.1.1;have hf2:=ZKd v.fPeers v.fBook e.fEnd.fAddr (by have:=h.peers;omega) (by have:=h.book;omega) h.peersOk h.bookOk d.1.1;have g:v.fPeers.length<=maxLen:=by have:=h.peers;unfold maxLen;omega
 have aM:Zqk v e.fEnd af=(!conn v.fPeers e.fEnd&&(r==0)&&ZHT v e.fEnd.fAddr):=by
  unfold Zqk;simp only[ZdO,ZuO v e.fEnd g,u1,i,Option.bind_some];cases conn v.fPeers e.fEnd
  .simp only[Bool.not_false,cond_true,Bool.true_and];cases(r==(0:Int))
   .rfl
   .simp only[cond_true,Bool.true_and];rfl
  .rfl
 unfold ZkP mayS;rw[Znp e d,Zao,ZMB,Zao,u3,Zao,Zie _ _ g,Zao,hf2,Zao,aM,Zad];have hU:=ZMM v.fPeers e.fEnd;unfold ZHT;cases Zmu e
 .rfl
 .cases dueS e af
  .rfl
  .simp only[cond_true,Bool.true_and];cases(r==(0:Int))
   .simp
   .simp only[cond_true,Bool.and_true];by_cases f:ZgP v.fPeers e.fEnd<0
    .rw[if_pos f,hU.1 f];rfl
    .rw[if_neg f];cases j:conn v.fPeers e.fEnd
     .exact absurd (hU.2 j) f
     .rfl
def Zpq(v:ZaC)(af:Int)(e:Zah)(ok:Bool):Prop:=(ok=true/\∃x∈v.fBook,x.fEnd=e/\mayS v af x=true/\∀y∈v.fBook,mayS v af y=true->leH (Zig x) (Zig y))\/(ok=false/\e=zE/\∀y∈v.fBook,mayS v af y=false)
theorem ZvO{v:ZaC}{af:Int}{e:Zah}{ok:Bool}(h:Zwu v af (ZlT v.fBook af) e ok):Zpq v af e ok:=by
 have d:∀y∈v.fBook,mayS v af y=true->Zig y∈ZlT v.fBook af/\Zqk v (Zig y).fEnd af=true:=fun y b dj=>by
  unfold mayS at dj;rw[Bool.and_eq_true]at dj;exact⟨List.mem_map.2 ⟨y,List.mem_filter.2 ⟨b,dj.1⟩,rfl⟩,dj.2⟩
 rcases h with⟨g,x,i,f,n,o⟩|⟨g,i,f⟩
 .have hx:=i;simp only[ZlT,List.mem_map,List.mem_filter]at hx;obtain⟨a,⟨p,r⟩,rfl⟩:=hx;refine .inl ⟨g,a,p,f,?_,fun y b dj=>o _ (d y b dj).1 (d y b dj).2⟩;unfold mayS;rw[show (Zmu a&&dueS a af)=true from r,show a.fEnd=e from f,n];rfl
 .refine .inr ⟨g,i,fun y b=>?_⟩;cases j:mayS v af y with
  |false=>rfl
  |true=>exact absurd (d y b j).2 (by rw[f _ (d y b j).1];simp)
theorem Zpq.one{v:ZaC}{af:Int}{e e':Zah}{ok j8:Bool}(h:Zpq v af e ok)(h':Zpq v af e' j8):(e,ok)=(e',j8):=by
 rcases h with⟨j,x,g,n,o,r⟩|⟨j,g,n⟩
 .rcases h' with⟨d,y,b,f,i,p⟩|⟨d,b,f⟩
  .have l1:=r y b i;have l2:=p x g o;have t:cmpH (Zig x) (Zig y)=0:=by
    unfold leH at l1 l2;rcases Int.lt_trichotomy (cmpH (Zig x) (Zig y)) 0 with q|q|q
    .exact absurd q l2
    .exact q
    .exact absurd (ZuR.1 q) l1
   have:=ZuQ.1 t;simp only[Zig,Zag.mk.injEq]at this;rw[j,d,<-n,<-f,this.2]
  .rw[f x g]at o;cases o
 .rcases h' with⟨d,y,b,f,i,p⟩|⟨d,b,f⟩
  .rw[n y b]at i;cases i
  .rw[j,g,d,b]
theorem ZpC{x y:Zab}:leH (Zig x) (Zig y)↔x.fNext<y.fNext\/(x.fNext=y.fNext/\cmpE x.fEnd y.fEnd<=0):=by
 unfold leH;rw[ZID];simp only[Zig];have e:=@ZfE y.fEnd x.fEnd;have b:=@ZfE x.fEnd y.fEnd;omega
theorem ZDY{v:ZaC}(h:ZmU v)(af:Int)(z:Zah):∀(fu i:Nat)(b:Int),i<=v.fBook.length->v.fBook.length-i<fu->b<(i:Int)->-1<=b ->
  (b<0->∀y∈v.fBook.take i,mayS v af y=false)->(0<=b->mayS v af (v.fBook.getD b.toNat Zab.d)=true/\∀y∈v.fBook.take i,mayS v af y=true->leH (Zig (v.fBook.getD b.toNat Zab.d)) (Zig y)) ->
  ∃e ok,ZbN v.fBook v.fPeers v.fBans af fu b (i:Int) z=some (e,ok)/\Zpq v af e ok:=by
 have p:v.fBook.length<=maxLen:=by have:=h.book;unfold maxLen;omega
 intro fu;induction fu with
 |zero=>intro _ _ _ h;omega
 |succ fu ih=>
  intro i b r t hb bX g f;unfold ZbN;simp only[Zad];by_cases hlt:i<v.fBook.length
  .rw[if_pos (by omega),Zai ⟨by omega,by omega⟩];simp only[Int.toNat_natCast];have eX:=ZdM v.fBook Zab.d i hlt;have dW:v.fBook.take (i+1)=v.fBook.take i++[v.fBook.getD i Zab.d]:=by rw[List.take_succ_eq_append_getElem hlt,ZbL v.fBook _ i hlt]
   have iG:∀y,y∈v.fBook.take (i+1)->y∈v.fBook.take i\/y=v.fBook.getD i Zab.d:=fun y f=>by
    rw[dW]at f;rcases List.mem_append.1 f with q|q
    .exact .inl q
    .exact .inr (List.mem_singleton.1 q)
   rw[ZMz h _ (h.bookOk _ eX),Zao,add1 hlt p];have keep:mayS v af (v.fBook.getD i Zab.d)=false\/(0<=b/\leH (Zig (v.fBook.getD b.toNat Zab.d)) (Zig (v.fBook.getD i Zab.d)))->∃e ok,ZbN v.fBook v.fPeers v.fBans af fu b ((i+1:Nat):Int) z=some (e,ok)/\Zpq v af e ok:=fun hk=>by
    refine ih (i+1) b (by omega) (by omega) (by omega) bX (fun bH y ez=>?_) (fun bH=>⟨(f bH).1,fun y ez dj=>?_⟩)
    .rcases iG y ez with q|q
     .exact g bH y q
     .rw[q];rcases hk with hk|hk
      .exact hk
      .omega
    .rcases iG y ez with q|q
     .exact(f bH).2 y q dj
     .rcases hk with hk|hk
      .rw[q,hk]at dj;cases dj
      .rw[q];exact hk.2
   have move:mayS v af (v.fBook.getD i Zab.d)=true->(0<=b->leH (Zig (v.fBook.getD i Zab.d)) (Zig (v.fBook.getD b.toNat Zab.d)))->∃e ok,ZbN v.fBook v.fPeers v.fBans af fu (i:Int) ((i+1:Nat):Int) z=some (e,ok)/\Zpq v af e ok:=fun hk hle=>by
    refine ih (i+1) (i:Int) (by omega) (by omega) (by omega) (by omega) (fun bH=>by omega) (fun _=>⟨by rw[Int.toNat_natCast];exact hk,fun y ez dj=>?_⟩);rw[Int.toNat_natCast];rcases iG y ez with q|q
    .by_cases bH:b<0
     .rw[g bH y q]at dj;cases dj
     .exact Zul (hle (by omega)) ((f (by omega)).2 y q dj)
    .rw[q];exact ZpB _
   cases hk:mayS v af (v.fBook.getD i Zab.d)with
   |false=>rw[Bool.not_false,cond_true];exact keep (.inl hk)
   |true=>
    rw[Bool.not_true,cond_false];by_cases bH:b<0
    .rw[if_pos bH];exact move hk (fun q=>by omega)
    .rw[if_neg bH,Zai ⟨by omega,by omega⟩];by_cases n:(v.fBook.getD i Zab.d).fNext<(v.fBook.getD b.toNat Zab.d).fNext
     .rw[if_pos n];exact move hk fun _=>ZpC.2 (.inl n)
     .rw[if_neg n,ZcR,Zrb,Zao];by_cases j:(v.fBook.getD i Zab.d).fNext=(v.fBook.getD b.toNat Zab.d).fNext
      .rw[if_pos j];by_cases o:cmpE (v.fBook.getD i Zab.d).fEnd (v.fBook.getD b.toNat Zab.d).fEnd<0
       .rw[if_pos o];exact move hk fun _=>ZpC.2 (.inr ⟨j,by omega⟩)
       .rw[if_neg o];refine keep (.inr ⟨by omega,ZpC.2 (.inr ⟨j.symm,?_⟩)⟩);have:=@ZfE (v.fBook.getD b.toNat Zab.d).fEnd (v.fBook.getD i Zab.d).fEnd;omega
      .rw[if_neg j];exact keep (.inr ⟨by omega,ZpC.2 (.inl (by omega))⟩)
  .rw[if_neg (by omega)];have et:v.fBook.take i=v.fBook:=List.take_of_length_le (by omega);rw[et]at g f;by_cases bH:b<0
   .rw[if_pos bH];exact⟨_,_,rfl,.inr ⟨rfl,rfl,g bH⟩⟩
   .rw[if_neg bH,Zai ⟨by omega,by omega⟩];exact⟨_,_,rfl,.inl ⟨rfl,_,ZdM v.fBook Zab.d b.toNat (by omega),rfl,(f (by omega)).1,(f (by omega)).2⟩⟩
def Zhu(v:ZaC)(af:Int):Zah×Bool:=(Zkt v af).getD (zE,false)
theorem ZAR{v:ZaC}(h:ZmU v)(af:Int):Zkt v af=some (Zhu v af)/\ZfY v.fBook v.fPeers v.fBans af=some (Zhu v af)/\((Zhu v af).2=true->0<=ZfD v.fBook (Zhu v af).1):=by
 obtain⟨e,ok,d,g⟩:=ZzH h af;have f:=ZvO g;obtain⟨e',j8,i,j⟩:=ZDY h af ⟨⟨false,0,0⟩,0⟩ ((((v.fBook.length:Nat):Int)-(0:Int)).toNat+2) 0 (-1) (by omega) (by omega) (by omega) (by omega) (fun _=>by simp) (fun q=>by omega);have n:=Zpq.one f j;have b:Zhu v af=(e,ok):=by unfold Zhu;rw[d];rfl
 refine⟨by rw[b,d],?_,fun aL=>?_⟩
 .unfold ZfY;rw[b,n];exact i
 .rw[b]at aL ⊢;rcases f with⟨_,x,x1,x2,_⟩|⟨q,_⟩
  .have hx:¬ZfD v.fBook e<0:=fun q=>Zuz.1 q x x1 x2;exact Int.not_lt.1 hx
  .rw[show ok=true from aL]at q;cases q
def Zog(af:Int)(e:Zab):Bool:=Zmu e&&((e.fState==1)&&decide (e.fNext>af))
def Zxb(l:List Zab)(af:Int):List Itm:=(l.filter (Zog af)).map Zig
theorem ZJJ(e:Zab)(af:Int):Zmh e af=some ((e.fState==1)&&decide (e.fNext>af)):=by
 simp only[Zmh];cases(e.fState==(1:Int))<;>rfl
theorem ZGU(l:List Zab)(af:Int)(hl:l.length<=900)(aL:∀e∈l,e.ok):∀fu (i:Nat) (w:List Itm),i<=l.length->l.length-i<fu->w.length<=i ->
  ZcF af fu l (l.length:Int) (i:Int) w=(Zkl (w++Zxb (l.drop i) af)).bind fun x=>some x:=by
 have b:l.length<=maxLen:=by unfold maxLen;omega
 intro fu;induction fu with
 |zero=>intro _ _ _ h;omega
 |succ fu ih=>
  intro i w g j n;simp only[ZcF,Zad];by_cases h:i<l.length
  .rw[if_pos (by omega),Zai ⟨by omega,by omega⟩,Zdl l Zab.d i h];simp only[Int.toNat_natCast];have dx:=aL _ (ZdM l Zab.d i h);rw[add1 h b,ih (i+1) w (by omega) (by omega) (by omega),ZqG _ dx];simp only[Option.bind_some,ZJJ];rw[Zai ⟨by simp;omega,by unfold maxLen;simp;omega⟩,ih (i+1) _ (by omega) (by omega) (by simp;omega)];generalize l.getD i Zab.d=e;have f:Zxb (e :: l.drop (i+1)) af=(if Zog af e then[Zig e]else[])++Zxb (l.drop (i+1)) af:=by
    unfold Zxb;cases q:Zog af e<;>simp[q]
   rw[f];unfold Zog;cases Zmu e
   .simp
   .cases((e.fState==(1:Int))&&decide (e.fNext>af))
    .simp
    .simp[Zig]
  .rw[if_neg (by omega),List.drop_eq_nil_of_le (by omega)];simp[Zxb]
def ZqL(S:Zab->Prop)(r:Int):Prop:=((∀y,¬S y)/\r=0)\/∃x,S x/\r=x.fNext/\∀y,S y->r<=y.fNext
theorem ZqL.one{S:Zab->Prop}{r s:Int}(h:ZqL S r)(g:ZqL S s):r=s:=by
 rcases h with⟨d,i⟩|⟨x,d,i,j⟩
 .rcases g with⟨b,e⟩|⟨y,b,e,f⟩
  .omega
  .exact absurd b (d y)
 .rcases g with⟨b,e⟩|⟨y,b,e,f⟩
  .exact absurd d (b x)
  .have:=j y b;have:=f x d;omega
theorem ZIs{v:ZaC}(h:ZmU v)(af:Int):∃r,Zks v af=some r/\ZqL (fun y=>y∈v.fBook/\Zog af y=true) r:=by
 have hlen:(Zxb v.fBook af).length<=v.fBook.length:=by simp only[Zxb,List.length_map];exact List.length_filter_le _ _
 have hb:=h.book;have hl:=ZGU v.fBook af h.book h.bookOk ((((v.fBook.length:Nat):Int)-(0:Int)).toNat+2) 0 [] (by omega) (by omega) (by simp);simp only[Int.natCast_zero,List.drop_zero,List.nil_append]at hl;obtain⟨L,f,d,g⟩:=Zzh (Zxb v.fBook af) (by omega);have hin:∀y,y∈v.fBook/\Zog af y=true->Zig y∈L:=fun y b=>d.mem_iff.2 (List.mem_map.2 ⟨y,List.mem_filter.2 b,rfl⟩);unfold Zks ZgN;rw[hl,f,Zao,Zao];by_cases e:L=[]
 .subst e;rw[ZsM,Zao];exact⟨0,rfl,.inl ⟨fun y b=>by have:=hin y b;simp at this,rfl⟩⟩
 .obtain⟨x,r,p1,p2,p3,p4⟩:=ZDc L (by rw[d.length_eq];omega) g e;rw[p1,Zao];have hx:x∈L:=p2.mem_iff.2 (by simp);have dS:=d.mem_iff.1 hx;simp only[Zxb,List.mem_map,List.mem_filter]at dS;obtain⟨a,i,rfl⟩:=dS;refine⟨_,rfl,.inr ⟨a,i,rfl,fun y b=>?_⟩⟩;have:=ZpC.1 (p4 _ (hin y b));show a.fNext<=y.fNext;omega
theorem ZDX{l:List Zab}(hl:l.length<=900)(aL:∀e∈l,e.ok)(af:Int):∀(fu i:Nat)(r:Int)(any:Bool),i<=l.length->l.length-i<fu ->
  (any=false->r=0/\∀y∈l.take i,Zog af y=false)->(any=true->∃x,(x∈l/\Zog af x=true)/\r=x.fNext/\∀y∈l.take i,Zog af y=true->r<=y.fNext) ->
  ∃r',ZbM l af fu r any (i:Int)=some r'/\ZqL (fun y=>y∈l/\Zog af y=true) r':=by
 have t:l.length<=maxLen:=by unfold maxLen;omega
 intro fu;induction fu with
 |zero=>intro _ _ _ _ h;omega
 |succ fu ih=>
  intro i r any u v j f;unfold ZbM;simp only[Zad,ZcR];by_cases hlt:i<l.length
  .rw[if_pos (by omega),Zai ⟨by omega,by omega⟩];simp only[Int.toNat_natCast];have eX:=ZdM l Zab.d i hlt;have dW:l.take (i+1)=l.take i++[l.getD i Zab.d]:=by rw[List.take_succ_eq_append_getElem hlt,ZbL l _ i hlt]
   have iG:∀y,y∈l.take (i+1)->y∈l.take i\/y=l.getD i Zab.d:=fun y f=>by
    rw[dW]at f;rcases List.mem_append.1 f with q|q
    .exact .inl q
    .exact .inr (List.mem_singleton.1 q)
   rw[Znp _ (aL _ eX),Zao,add1 hlt t];generalize l.getD i Zab.d=e at eX dW iG ⊢;have keep:Zog af e=false\/(any=true/\r<=e.fNext)->∃r',ZbM l af fu r any ((i+1:Nat):Int)=some r'/\ZqL (fun y=>y∈l/\Zog af y=true) r':=fun hk=>by
    refine ih (i+1) r any (by omega) (by omega) (fun b=>⟨(j b).1,fun y ez=>?_⟩) (fun b=>?_)
    .rcases iG y ez with q|q
     .exact(j b).2 y q
     .rw[q];rcases hk with hk|hk
      .exact hk
      .rw[b]at hk;exact absurd hk.1 (by decide)
    .obtain⟨x,x1,x2,x3⟩:=f b;refine⟨x,x1,x2,fun y ez dj=>?_⟩;rcases iG y ez with q|q
     .exact x3 y q dj
     .rcases hk with hk|hk
      .rw[q,hk]at dj;cases dj
      .rw[q];exact hk.2
   have move:Zog af e=true->(any=true->e.fNext<=r)->∃r',ZbM l af fu e.fNext true ((i+1:Nat):Int)=some r'/\ZqL (fun y=>y∈l/\Zog af y=true) r':=fun hk hle=>by
    refine ih (i+1) _ true (by omega) (by omega) (fun b=>by cases b) (fun _=>⟨e,⟨eX,hk⟩,rfl,fun y ez dj=>?_⟩);rcases iG y ez with q|q
    .cases b:any with
     |false=>rw[(j b).2 y q]at dj;cases dj
     |true=>
      obtain⟨x,x1,x2,x3⟩:=f b;have:=x3 y q dj;have:=hle b;omega
    .rw[q];exact Int.le_refl _
   cases o:Zmu e with
   |false=>rw[cond_false];exact keep (.inl (by simp[Zog,o]))
   |true=>
    rw[cond_true];by_cases g:e.fState=1
    .rw[if_pos g];by_cases n:e.fNext>af
     .rw[if_pos n];have hk:Zog af e=true:=by unfold Zog;rw[o,g,decide_eq_true n];rfl
      cases b:any with
      |false=>rw[Bool.not_false,cond_true];exact move hk fun q=>by rw[b]at q;cases q
      |true=>
       rw[Bool.not_true,cond_false];by_cases p:e.fNext<r
       .rw[if_pos p];exact move hk fun _=>by omega
       .rw[if_neg p];have hk2:=keep (.inr ⟨b,by omega⟩);rw[b]at hk2;exact hk2
     .rw[if_neg n];exact keep (.inl (by unfold Zog;rw[decide_eq_false n];simp))
    .rw[if_neg g];exact keep (.inl (by simp[Zog,g]))
  .rw[if_neg (by omega)];have et:l.take i=l:=List.take_of_length_le (by omega);rw[et]at j f;refine⟨r,rfl,?_⟩;cases b:any with
   |false=>exact .inl ⟨fun y ez=>(by have g:=ez.2;rw[(j b).2 y ez.1]at g;cases g),(j b).1⟩
   |true=>
    obtain⟨x,x1,x2,x3⟩:=f b;exact .inr ⟨x,x1,x2,fun y ez=>x3 y ez.1 ez.2⟩
def ZAu(v:ZaC)(af:Int):Int:=(Zks v af).getD 0
theorem ZAt{v:ZaC}(h:ZmU v)(af:Int):Zks v af=some (ZAu v af)/\ZfX v.fBook af=some (ZAu v af):=by
 obtain⟨r,b,e⟩:=ZIs h af;obtain⟨s,f,g⟩:=ZDX h.book h.bookOk af ((((v.fBook.length:Nat):Int)-(0:Int)).toNat+2) 0 0 false (by omega) (by omega) (fun _=>⟨rfl,by simp⟩) (fun q=>by cases q);have d:ZAu v af=r:=by unfold ZAu;rw[b];rfl
 refine⟨by rw[d,b],?_⟩;unfold ZfX;rw[d,e.one g];exact f
theorem ZMr{α:Type}(L R:List α)(x y:α):(L++x :: R).set L.length y=L++y :: R:=by
 induction L with
 |nil=>rfl
 |cons z L ih=>simp[ih]
theorem ZHQ{α:Type}(L R:List α)(x d:α):(L++x :: R).getD L.length d=x:=by
 induction L with
 |nil=>rfl
 |cons z L ih=>simp
theorem ZsI{α:Type}{l L R:List α}{x y:α}{k:Nat}(h:l=L++x :: R)(b:k=L.length):l.set k y=L++y :: R:=by rw[h,b,ZMr]
theorem Zqd{α:Type}{l L R:List α}{x d:α}{k:Nat}(h:l=L++x :: R)(b:k=L.length):l.getD k d=x:=by rw[h,b,ZHQ]
abbrev Prs:=List Zaa
theorem ZFR(P B Q:Prs):∀(k:Nat)(A1 A2 C1 C2:Prs)(fu:Nat),A2.length=k->C2.length=k->A1.length=C1.length->k+1<=fu->P.length+B.length+Q.length+2*(A1.length+k)<=1000000 ->
  Zbl (P.length:Int) ((P.length+(A1.length+k)+B.length:Nat):Int) ((A1.length+k:Nat):Int) fu (A1.length:Int) (P++(C1++(A2++(B++(A1++(C2++Q))))))=some (P++(C1++(C2++(B++(A1++(A2++Q)))))):=by
 intro k;induction k with
 |zero=>
  intro A1 A2 C1 C2 fu b e f g hb;obtain⟨fu,rfl⟩ : ∃x,fu=x+1:=⟨fu-1,by omega⟩;obtain rfl:=List.eq_nil_of_length_eq_zero b;obtain rfl:=List.eq_nil_of_length_eq_zero e;unfold Zbl;rw[Zad,if_neg (by omega)]
 |succ k ih=>
  intro A1 A2 C1 C2 fu b e f g hb;obtain⟨fu,rfl⟩ : ∃x,fu=x+1:=⟨fu-1,by omega⟩;cases A2 with
  |nil=>cases b
  |cons a A2=>
   cases C2 with
   |nil=>cases e
   |cons c C2=>
    simp only[List.length_cons,Nat.add_right_cancel_iff]at b e;unfold Zbl;have h:Zan (P.length:Int) (A1.length:Int)=((P.length+A1.length:Nat):Int):=by rw[Zbh (by omega) (by omega)];omega
    have i:Zan ((P.length+(A1.length+(k+1))+B.length:Nat):Int) (A1.length:Int)=((P.length+(A1.length+(k+1))+B.length+A1.length:Nat):Int):=by rw[Zbh (by omega) (by omega)];omega
    have j:Zan (A1.length:Int) 1=((A1.length+1:Nat):Int):=by rw[Zbh (by omega) (by omega)];omega
    have hl:(P++(C1++(a :: A2++(B++(A1++(c :: C2++Q)))))).length=P.length+B.length+Q.length+2*(A1.length+(k+1)):=by simp;omega
    rw[Zad,if_pos (by omega),h,i,j,Zai (by rw[hl];omega),Zai (by rw[hl];omega)];simp only[Int.toNat_natCast];have n:(P++(C1++(a :: A2++(B++(A1++(c :: C2++Q)))))).getD (P.length+(A1.length+(k+1))+B.length+A1.length) Zaa.d=c:=
     Zqd (L:=P++(C1++(a :: A2++(B++A1)))) (R:=C2++Q) (by simp) (by simp;omega)
    have o:(P++(C1++(a :: A2++(B++(A1++(c :: C2++Q)))))).getD (P.length+A1.length) Zaa.d=a:=
     Zqd (L:=P++C1) (R:=A2++(B++(A1++(c :: C2++Q)))) (by simp) (by simp;omega)
    have s1:(P++(C1++(a :: A2++(B++(A1++(c :: C2++Q)))))).set (P.length+A1.length) c=P++(C1++(c :: A2++(B++(A1++(c :: C2++Q))))):=by
     rw[ZsI (L:=P++C1) (x:=a) (R:=A2++(B++(A1++(c :: C2++Q)))) (by simp) (by simp;omega)];simp
    have s2:(P++(C1++(c :: A2++(B++(A1++(c :: C2++Q)))))).set (P.length+(A1.length+(k+1))+B.length+A1.length) a=P++(C1++(c :: A2++(B++(A1++(a :: C2++Q))))):=by
     rw[ZsI (L:=P++(C1++(c :: A2++(B++A1)))) (x:=c) (R:=C2++Q) (by simp) (by simp;omega)];simp
    rw[n,o,s1,s2];have:=ih (A1++[a]) A2 (C1++[c]) C2 fu b e (by simp;omega) (by omega) (by simp;omega);simp only[List.length_append,List.length_singleton,List.append_assoc,List.singleton_append,List.cons_append]at this ⊢;have x1:A1.length+1+k=A1.length+(k+1):=by omega
    rw[x1]at this;exact this
theorem ZAA(P A B C Q:Prs)(h:A.length=C.length)(hb:P.length+B.length+Q.length+2*A.length<=1000000)(a b n:Int)(d:a=(P.length:Int))(gA:b=((P.length+A.length+B.length:Nat):Int))(e:n=(A.length:Int)) :
  ZbB (P++(A++(B++(C++Q)))) a b n=some (P++(C++(B++(A++Q)))):=by
 subst d gA e;unfold ZbB;have:=ZFR P B Q A.length [] A [] C (((A.length:Int)-0).toNat+2) rfl h.symm rfl (by omega) (by simpa using hb);simpa using this
theorem ZJU(m:Nat):∀(s:Nat)(P X Y Q:Prs)(fu:Nat),X.length+Y.length<=s->0<X.length->0<Y.length->m=P.length+X.length->P.length+X.length+Y.length+Q.length<=1000000->s+1<=fu ->
  ZbC (m:Int) fu (X.length:Int) (Y.length:Int) (P++(X++(Y++Q)))=some (P++(Y++(X++Q))):=by
 intro s;induction s with
 |zero=>intro P X Y Q fu i b;omega
 |succ s ih=>
  intro P X Y Q fu i b p j hb r;obtain⟨fu,rfl⟩ : ∃x,fu=x+1:=⟨fu-1,by omega⟩;unfold ZbC;have f:Zaz (m:Int) (X.length:Int)=(P.length:Int):=by rw[Zbp (by omega) (by omega)];omega
  by_cases g:X.length=Y.length
  .have d:((X.length:Int) != (Y.length:Int))=false:=by rw[g];simp
   rw[d,cond_false,f];have:=ZAA P X [] Y Q g (by simp;omega) (P.length:Int) (m:Int) (X.length:Int) rfl (by simp[j]) rfl;simp only[List.nil_append]at this;rw[this];rfl
  .have d:((X.length:Int) != (Y.length:Int))=true:=by rw[bne_iff_ne];omega
   rw[d,cond_true,Zad,f];by_cases t:Y.length<X.length
   .obtain⟨X1,X2,rfl,hx⟩ : ∃X1 X2,X=X1++X2/\X1.length=Y.length:=⟨X.take Y.length,X.drop Y.length,(List.take_append_drop ..).symm,by simp;omega⟩;simp only[List.length_append]at *
    have e:Zaz ((X1.length+X2.length:Nat):Int) (Y.length:Int)=(X2.length:Int):=by rw[Zbp (by omega) (by omega)];omega
    rw[if_pos (by omega),e];have:=ZAA P X1 X2 Y Q hx (by omega) (P.length:Int) (m:Int) (Y.length:Int) rfl (by omega) (by omega);simp only[List.append_assoc]at this ⊢;rw[this,Zao];have b:=ih (P++Y) X2 X1 Q fu (by omega) (by omega) (by omega) (by simp;omega) (by simp;omega) (by omega);simp only[List.append_assoc,hx]at b;exact b
   .obtain⟨Y1,Y2,rfl,h⟩ : ∃Y1 Y2,Y=Y1++Y2/\Y2.length=X.length:=⟨Y.take (Y.length-X.length),Y.drop (Y.length-X.length),(List.take_append_drop ..).symm,by simp;omega⟩;simp only[List.length_append]at *
    have e:Zaz ((Y1.length+Y2.length:Nat):Int) (X.length:Int)=(Y1.length:Int):=by rw[Zbp (by omega) (by omega)];omega
    have n:Zan (m:Int) ((Y1.length+Y2.length:Nat):Int)=((m+Y1.length+Y2.length:Nat):Int):=by rw[Zbh (by omega) (by omega)];omega
    have o:Zaz ((m+Y1.length+Y2.length:Nat):Int) (X.length:Int)=((P.length+X.length+Y1.length:Nat):Int):=by rw[Zbp (by omega) (by omega)];omega
    rw[if_neg (by omega),e,n,o];have:=ZAA P X Y1 Y2 Q h.symm (by omega) (P.length:Int) ((P.length+X.length+Y1.length:Nat):Int) (X.length:Int) rfl rfl rfl;simp only[List.append_assoc]at this ⊢;rw[this,Zao];have b:=ih P Y2 Y1 (X++Q) fu (by omega) (by omega) (by omega) (by omega) (by simp;omega) (by omega);simp only[List.append_assoc,h]at b;exact b
theorem ZNJ(P X Y Q:Prs)(d:0<X.length)(e:0<Y.length)(hb:P.length+X.length+Y.length+Q.length<=900000)(a m b:Int)(f:a=(P.length:Int))(g:m=((P.length+X.length:Nat):Int))(gA:b=((P.length+X.length+Y.length:Nat):Int)) :
  Zck (P++(X++(Y++Q))) a m b=some (P++(Y++(X++Q))):=by
 subst f g gA;unfold Zck;have h:Zaz ((P.length+X.length:Nat):Int) (P.length:Int)=(X.length:Int):=by rw[Zbp (by omega) (by omega)];omega
 have i:Zaz ((P.length+X.length+Y.length:Nat):Int) ((P.length+X.length:Nat):Int)=(Y.length:Int):=by rw[Zbp (by omega) (by omega)];omega
 rw[h,i];exact ZJU _ (X.length+Y.length) P X Y Q 1000000 (Nat.le_refl _) d e rfl (by omega) (by omega)
end Go.Proofs.YtlpdogaifdeomaaGreat
