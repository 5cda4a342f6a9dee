import Derived.Test.YtmnloegcpaahcaaGreatCPlXc
import Derived.Test.YtmnloegcpaahcaaGreatCPlEb
namespace Go.Proofs.YtmnloegcpaahcaaGreat
set_option linter.unusedVariables false
set_option linter.unusedSimpArgs false
def grpP(p:Zaa):Zaj:=grp p.fEnd.fAddr
def ZgT(l:List Zaa)(g:Zaj):Nat:=(l.filter fun p=>decide (grpP p=g)).length
theorem ZzE{κ ν:Type}[DecidableEq κ](k g:κ)(v z:ν):∀l:List (κ×ν),mget (mput l k v) g z=if k=g then v else mget l g z
 | []=>by
  simp only[mput,mget]
 |p :: r=>by
  simp only[mput]
  by_cases h:p.1=k
  .rw[if_pos h]
   simp only[mget]
   by_cases b:k=g
   .simp[b]
   .rw[if_neg b,if_neg b,if_neg (by rw[h];exact b)]
  .rw[if_neg h]
   simp only[mget]
   rw[ZzE k g v z r]
   by_cases b:p.1=g
   .rw[if_pos b,if_pos b,if_neg (by rintro rfl;exact h b)]
   .rw[if_neg b,if_neg b]
theorem ZxE(l:List Zaa)(i:Nat)(h:i<l.length)(g:Zaj):ZgT (l.take (i+1)) g=ZgT (l.take i) g+if grpP l[i]=g then 1 else 0:=by
 unfold ZgT;rw[List.take_succ_eq_append_getElem h,List.filter_append,List.length_append];congr 1;by_cases h:grpP l[i]=g<;>simp[h]
theorem ZDA(l:List Zaa)(g:Zaj):ZgT l g<=l.length:=List.length_filter_le ..
theorem ZuC{l:List Zaa}(h:okPs l){i:Nat}(b:i<l.length):(l.getD i Zaa.d).fEnd.fAddr.ok:=by rw[ZbX l _ i b];exact h _ (List.getElem_mem b)
theorem ZCj(l:List Zaa)(hl:l.length<=800)(ho:okPs l):∃m,ZkN l=some m/\∀g,mget m g 0=(ZgT l g:Int):=by
 have ay:∀(k i fu:Nat)(m:List (Zaj×Int)),l.length-i=k->i<=l.length->k+1<=fu->(∀g,mget m g 0=(ZgT (l.take i) g:Int))->∃m',Zfd fu l (l.length:Int) (i:Int) m=some m'/\∀g,mget m' g 0=(ZgT l g:Int):=by
  intro k;induction k with
  |zero=>
   intro i fu m e f j b;obtain⟨fu,rfl⟩ : ∃x,fu=x+1:=⟨fu-1,by omega⟩;unfold Zfd;rw[List.take_of_length_le (by omega)]at b;exact⟨m,by rw[Zah,if_neg (by omega)],b⟩
  |succ k ih=>
   intro i fu m e f j b;obtain⟨fu,rfl⟩ : ∃x,fu=x+1:=⟨fu-1,by omega⟩;unfold Zfd;have a8:i<l.length:=by omega
   have o:Zan (i:Int) 1=((i+1:Nat):Int):=add1 (n:=i+1) (by omega) (by simp only[maxLen];omega);have p:l.getD ((i:Int)).toNat Zaa.d=l[i]:=ZbX l _ i a8;have r:=ZDA (l.take i) (grpP l[i]);simp only[List.length_take]at r;rw[Zah,if_pos (by omega),Zaq (by omega),p,Zpa _ (ho _ (List.getElem_mem a8)),ZaA,o];refine ih (i+1) fu _ (by omega) (by omega) (by omega) fun g=>?_;rw[ZzE,ZxE l i a8,b g];have bi:grp l[i].fEnd.fAddr=grpP l[i]:=rfl;rw[bi,b (grpP l[i])];by_cases h:grpP l[i]=g
   .subst h;rw[if_pos rfl,if_pos rfl,Zcd (by omega) (by omega)];omega
   .rw[if_neg h,if_neg h];omega
 unfold ZkN;exact ay l.length 0 _ [] (by omega) (by omega) (by omega) (fun g=>by simp[mget,ZgT])
def gtX(l:List Zaa)(i j:Nat):Int:=orI (cmpI (ZgT l (grpP (l.getD i Zaa.d)):Int) (ZgT l (grpP (l.getD j Zaa.d)):Int)) (orI (cmpI (l.getD i Zaa.d).fSince (l.getD j Zaa.d).fSince) (cmpE (l.getD i Zaa.d).fEnd (l.getD j Zaa.d).fEnd))
theorem ZvF{l:List Zaa}{i j:Nat}:0<gtX l i j↔ZgT l (grpP (l.getD j Zaa.d))<ZgT l (grpP (l.getD i Zaa.d))\/(ZgT l (grpP (l.getD i Zaa.d))=ZgT l (grpP (l.getD j Zaa.d)) /\
  ((l.getD j Zaa.d).fSince<(l.getD i Zaa.d).fSince\/((l.getD i Zaa.d).fSince=(l.getD j Zaa.d).fSince/\0<cmpE (l.getD i Zaa.d).fEnd (l.getD j Zaa.d).fEnd))):=by
 unfold gtX;rw[Zxj,Zxj,ZtN,Zjj,ZtN,Zjj];omega
theorem ZGz{l:List Zaa}{i b k:Nat}(e:0<gtX l i b)(f:¬0<gtX l k b):0<gtX l i k:=by
 rw[ZvF]at *
 obtain⟨I,hI⟩ : ∃x,x=l.getD i Zaa.d:=⟨_,rfl⟩;obtain⟨B,g⟩ : ∃x,x=l.getD b Zaa.d:=⟨_,rfl⟩;obtain⟨K,j⟩ : ∃x,x=l.getD k Zaa.d:=⟨_,rfl⟩;rw[<-hI,<-g]at e;rw[<-j,<-g]at f;rw[<-hI,<-j];by_cases n:ZgT l (grpP K)<ZgT l (grpP I)
 .exact .inl n
 .have o:ZgT l (grpP I)=ZgT l (grpP K)/\ZgT l (grpP B)=ZgT l (grpP K):=by
   rcases e with e|⟨e,_⟩
   .exact absurd (Or.inl (by omega)) f
   .by_cases p:ZgT l (grpP B)<ZgT l (grpP K)
    .exact absurd (Or.inl p) f
    .omega
  refine .inr ⟨o.1,?_⟩;have h1':B.fSince<I.fSince\/(I.fSince=B.fSince/\0<cmpE I.fEnd B.fEnd):=by
   rcases e with e|⟨_,e⟩
   .omega
   .exact e
  have fv:¬(B.fSince<K.fSince\/(K.fSince=B.fSince/\0<cmpE K.fEnd B.fEnd)):=fun h=>f (.inr ⟨by omega,h⟩);by_cases s1:K.fSince<I.fSince
  .exact .inl s1
  .have s2:I.fSince=K.fSince/\I.fSince=B.fSince:=by
    rcases h1' with h|⟨h,_⟩
    .exact absurd (Or.inl (by omega)) fv
    .by_cases s3:B.fSince<K.fSince
     .exact absurd (Or.inl s3) fv
     .omega
   refine .inr ⟨s2.1,?_⟩;have r:0<cmpE I.fEnd B.fEnd:=by
    rcases h1' with h|⟨_,h⟩
    .omega
    .exact h
   have u:¬0<cmpE K.fEnd B.fEnd:=fun h=>fv (.inr ⟨by omega,h⟩);have c2':=ZfS.1 r;rw[ZfS];by_cases t:cmpE K.fEnd B.fEnd=0
   .rw[ZiC.1 t];exact c2'
   .exact Zmy (show cmpE K.fEnd B.fEnd<0 by omega) c2'
theorem ZIN{l:List Zaa}{i k:Nat}(b:0<gtX l i k):¬0<gtX l k i:=by
 intro d;rw[ZvF]at b d;rcases b with h|⟨f,h|⟨g,h⟩⟩<;>rcases d with e|⟨j,e|⟨n,e⟩⟩<;>first|omega|skip
 have:=ZfS.1 h;omega
theorem ZCi(p q:Zaa):ZkM p q=some (orI (cmpI p.fSince q.fSince) (cmpE p.fEnd q.fEnd)):=by
 unfold ZkM;simp only[ZtL,ZuN,or2,ZaA]
structure TopX (l:List Zaa) (n b:Nat):Prop where
 lt:b<n
 top:∀k,k<n->¬0<gtX l k b
 fst:∀k,k<b->0<gtX l b k
theorem ZtK(l:List Zaa)(hl:l.length<=800)(ho:okPs l):∃b:Int,Zkg l=some b/\((l=[]/\b = -1)\/∃n:Nat,b=(n:Int)/\TopX l l.length n):=by
 obtain⟨m,o,j⟩:=ZCj l hl ho;have ay:∀(k i fu:Nat)(b:Int),l.length-i=k->i<=l.length->k+1<=fu->((i=0/\b = -1)\/∃n:Nat,b=(n:Int)/\TopX l i n)->∃z:Int,Zek l fu b l (l.length:Int) (i:Int) m=some z/\((l.length=0/\z = -1)\/∃n:Nat,z=(n:Int)/\TopX l l.length n):=by
  intro k;induction k with
  |zero=>
   intro i fu b f p r hb;obtain⟨fu,rfl⟩ : ∃x,fu=x+1:=⟨fu-1,by omega⟩;obtain rfl:i=l.length:=by omega
   unfold Zek;exact⟨b,by rw[Zah,if_neg (by omega)],hb⟩
  |succ k ih=>
   intro i fu b f p r hb;obtain⟨fu,rfl⟩ : ∃x,fu=x+1:=⟨fu-1,by omega⟩;have a8:i<l.length:=by omega
   have t:Zan (i:Int) 1=((i+1:Nat):Int):=add1 (n:=i+1) (by omega) (by simp only[maxLen];omega);unfold Zek;rw[Zah,if_pos (by omega),Zaq (by omega),Zah,t];rcases hb with⟨h0,rfl⟩|⟨n,rfl,g⟩
   .subst h0;rw[if_pos (by omega)];refine ih 1 fu _ (by omega) (by omega) (by omega) (.inr ⟨0,rfl,by omega,fun k f=>?_,fun k f=>by omega⟩);obtain rfl:k=0:=by omega
    rw[ZvF];rintro (h|⟨_,h|⟨_,h⟩⟩)
    .omega
    .omega
    .rw[ZiC.2 rfl]at h;omega
   .have u:=g.lt;rw[if_neg (by omega),Zpa _ (ZuC ho (by omega)),ZaA,Zaq (by omega),Zpa _ (ZuC ho (by omega)),ZaA,ZtL,ZaA,ZCi,ZaA,or2,ZaA];have e:orI (cmpI (mget m (grp (l.getD ((i:Int)).toNat Zaa.d).fEnd.fAddr) 0) (mget m (grp (l.getD ((n:Int)).toNat Zaa.d).fEnd.fAddr) 0)) (orI (cmpI (l.getD ((i:Int)).toNat Zaa.d).fSince (l.getD ((n:Int)).toNat Zaa.d).fSince) (cmpE (l.getD ((i:Int)).toNat Zaa.d).fEnd (l.getD ((n:Int)).toNat Zaa.d).fEnd))=gtX l i n:=by
     rw[j,j];rfl
    rw[e,Zah];by_cases h:gtX l i n>0
    .rw[if_pos h];refine ih (i+1) fu _ (by omega) (by omega) (by omega) (.inr ⟨i,rfl,by omega,fun k f=>?_,fun k f=>ZGz h (g.top k f)⟩);by_cases hki:k=i
     .subst hki;rw[ZvF];rintro (h|⟨_,h|⟨_,h⟩⟩)
      .omega
      .omega
      .rw[ZiC.2 rfl]at h;omega
     .exact ZIN (ZGz h (g.top k (by omega)))
    .rw[if_neg h];refine ih (i+1) fu _ (by omega) (by omega) (by omega) (.inr ⟨n,rfl,by omega,fun k f=>?_,g.fst⟩);by_cases hki:k=i
     .subst hki;exact h
     .exact g.top k (by omega)
 unfold Zkg;obtain⟨b',h1',fv⟩:=ay l.length 0 ((((l.length:Nat):Int)-(0:Int)).toNat+2) (-1) (by omega) (by omega) (by omega) (.inl ⟨rfl,rfl⟩);refine⟨b',by rw[o,ZaA];exact h1',?_⟩;rcases fv with⟨h,rfl⟩|h
 .exact .inl ⟨List.eq_nil_of_length_eq_zero h,rfl⟩
 .exact .inr h
theorem Zzo(l:List Zaa)(hl:l.length<=800)(ho:okPs l)(i:Nat)(v:i<l.length):ZeU l (i:Int)=some (ZgT l (grpP (l.getD i Zaa.d)):Int):=by
 have ay:∀(k j fu:Nat),l.length-j=k->j<=l.length->k+1<=fu->Zcc l (i:Int) fu (ZgT (l.take j) (grpP (l.getD i Zaa.d)):Int) (j:Int)=some (ZgT l (grpP (l.getD i Zaa.d)):Int):=by
  intro k;induction k with
  |zero=>
   intro j fu b e f;obtain⟨fu,rfl⟩ : ∃x,fu=x+1:=⟨fu-1,by omega⟩;unfold Zcc;rw[Zah,if_neg (by omega),List.take_of_length_le (by omega)]
  |succ k ih=>
   intro j fu b e f;obtain⟨fu,rfl⟩ : ∃x,fu=x+1:=⟨fu-1,by omega⟩;have hj2:j<l.length:=by omega
   have g:Zan (j:Int) 1=((j+1:Nat):Int):=add1 (n:=j+1) (by omega) (by simp only[maxLen];omega);have o:=ZDA (l.take j) (grpP (l.getD i Zaa.d));simp only[List.length_take]at o;have p:l.getD ((j:Int)).toNat Zaa.d=l[j]:=ZbX l _ j hj2;have aV:=ih (j+1) fu (by omega) (by omega) (by omega);rw[ZxE l j hj2]at aV;unfold Zcc;rw[Zah,if_pos (by omega),Zaq (by omega),p,ZCH _ (ho _ (List.getElem_mem hj2)),ZaA,Zaq (by omega),ZCH _ (ZuC ho (by omega)),ZaA,Zah,g];have r:grp l[j].fEnd.fAddr=grpP l[j]:=rfl;have t:grp (l.getD ((i:Int)).toNat Zaa.d).fEnd.fAddr=grpP (l.getD i Zaa.d):=rfl;rw[r,t];by_cases h:grpP l[j]=grpP (l.getD i Zaa.d)
   .rw[if_pos h]at aV ⊢;have u:Zan (ZgT (l.take j) (grpP (l.getD i Zaa.d)):Int) 1=((ZgT (l.take j) (grpP (l.getD i Zaa.d))+1:Nat):Int):=by rw[Zcd (by omega) (by omega)];omega
    rw[u];exact aV
   .rw[if_neg h]at aV ⊢;exact aV
 unfold ZeU;rw[Zah,if_neg (by omega),Zah,if_neg (by omega)];exact ay l.length 0 _ (by omega) (by omega) (by omega)
theorem ZBg(p q:Zaa):Zfm p q=some (decide (p.fSince>q.fSince\/(p.fSince=q.fSince/\0<cmpE p.fEnd q.fEnd))):=by
 unfold Zfm;rw[Zsm,ZaA];by_cases h:p.fSince=q.fSince
 .have e:(p.fSince != q.fSince)=false:=by rw[h];simp
  rw[e,cond_false];congr 1;rw[decide_eq_decide];omega
 .have e:(p.fSince != q.fSince)=true:=by rw[bne_iff_ne];exact h
  rw[e,cond_true];congr 1;rw[decide_eq_decide];omega
theorem Zve(l:List Zaa)(hl:l.length<=800)(ho:okPs l)(i:Nat)(p:i<l.length)(e:Int->Option Int):∀(k j fu:Nat),l.length-j=k->j<=l.length->k+1<=fu->∀v:Bool,(v=true↔∀x,x<j->¬0<gtX l x i) ->
  ((∀x,x<l.length->¬0<gtX l x i)->Zbd l (i:Int) e fu v (j:Int)=some (i:Int))/\((∃x,x<l.length/\0<gtX l x i)->Zbd l (i:Int) e fu v (j:Int)=e (Zan (i:Int) 1)):=by
 intro k;induction k with
 |zero=>
  intro j fu r t u v f;obtain⟨fu,rfl⟩ : ∃x,fu=x+1:=⟨fu-1,by omega⟩;obtain rfl:j=l.length:=by omega
  unfold Zbd;rw[Zah,if_neg (by omega)];refine⟨fun h=>by rw[f.2 h];rfl,fun⟨x,y,z⟩=>?_⟩;cases v with
  |false=>rfl
  |true=>exact absurd z (f.1 rfl x y)
 |succ k ih=>
  intro j fu r t u v f;obtain⟨fu,rfl⟩ : ∃x,fu=x+1:=⟨fu-1,by omega⟩;have A:Zan (j:Int) 1=((j+1:Nat):Int):=add1 (n:=j+1) (by omega) (by simp only[maxLen];omega);have hb:∀b:Bool,(b=true↔∀x,x<j+1->¬0<gtX l x i)->Zbd l (i:Int) e (fu+1) v (j:Int)=Zbd l (i:Int) e fu b ((j+1:Nat):Int):=by
   intro b hb
   conv=>lhs;unfold Zbd
   rw[Zah,if_pos (by omega),Zzo l hl ho j (by omega),ZaA,Zzo l hl ho i p,ZaA,A];cases v with
   |false=>
    rw[cond_false];have:b=false:=by
     cases b with
     |false=>rfl
     |true=>
      have:=f.2 fun x hx=>hb.1 rfl x (by omega);cases this
    rw[this]
   |true=>
    have cA:=f.1 rfl;rw[cond_true,Zah,Zah];have hgt:=ZvF (l:=l) (i:=j) (j:=i);by_cases g:(ZgT l (grpP (l.getD j Zaa.d)):Int)<=(ZgT l (grpP (l.getD i Zaa.d)):Int)
    .rw[if_pos g];by_cases o:(ZgT l (grpP (l.getD j Zaa.d)):Int)<(ZgT l (grpP (l.getD i Zaa.d)):Int)
     .rw[if_pos o];have:b=true:=hb.2 fun x hx=>by
       by_cases hxj:x=j
       .subst hxj;rw[hgt];omega
       .exact cA x (by omega)
      rw[this]
     .rw[if_neg o,Zaq (by omega),Zaq (by omega),ZBg,ZaA];simp only[Int.toNat_natCast];congr 1;rw[Bool.eq_iff_iff,hb,Bool.not_eq_true',decide_eq_false_iff_not];constructor
      .intro h x hx;by_cases hxj:x=j
       .subst hxj;rw[hgt];omega
       .exact cA x (by omega)
      .intro h;have:=h j (by omega);rw[hgt]at this;omega
    .rw[if_neg g];have:b=false:=by
      cases b with
      |false=>rfl
      |true=>
       have:=hb.1 rfl j (by omega);rw[hgt]at this;omega
     rw[this]
  by_cases hd:∀x,x<j+1->¬0<gtX l x i
  .rw[hb true (by simp only[true_iff];exact hd)];exact ih (j+1) fu (by omega) (by omega) (by omega) true (by simp only[true_iff];exact hd)
  .rw[hb false (by simp only[Bool.false_eq_true,false_iff];exact hd)];exact ih (j+1) fu (by omega) (by omega) (by omega) false (by simp only[Bool.false_eq_true,false_iff];exact hd)
theorem ZIp(l:List Zaa)(hl:l.length<=800)(ho:okPs l):ZgL l=Zkg l:=by
 obtain⟨b,hb,e⟩:=ZtK l hl ho;rw[hb];rcases e with⟨rfl,rfl⟩|⟨n,rfl,d⟩
 .rfl
 .have f:=d.lt;have ay:∀(k i fu:Nat),n-i=k->i<=n->k+1<=fu->ZbP l fu (i:Int)=some (n:Int):=by
   intro k;induction k with
   |zero=>
    intro i fu g h j;obtain⟨fu,rfl⟩ : ∃x,fu=x+1:=⟨fu-1,by omega⟩;obtain rfl:i=n:=by omega
    unfold ZbP;rw[Zah,if_pos (by omega)];exact(Zve l hl ho i (by omega) _ l.length 0 ((((l.length:Nat):Int)-(0:Int)).toNat+2) (by omega) (by omega) (by omega) true (by simp)).1 d.top
   |succ k ih=>
    intro i fu g h j;obtain⟨fu,rfl⟩ : ∃x,fu=x+1:=⟨fu-1,by omega⟩;have o:Zan (i:Int) 1=((i+1:Nat):Int):=add1 (n:=i+1) (by omega) (by simp only[maxLen];omega);unfold ZbP;rw[Zah,if_pos (by omega)];have:=(Zve l hl ho i (by omega) (ZbP l fu) l.length 0 ((((l.length:Nat):Int)-(0:Int)).toNat+2) (by omega) (by omega) (by omega) true (by simp)).2 ⟨n,f,d.fst i (by omega)⟩;have fe:Zbd l (i:Int) (ZbP l fu) ((((l.length:Nat):Int)-(0:Int)).toNat+2) true 0=_:=this;rw[fe,o];exact ih (i+1) fu (by omega) (by omega) (by omega)
  unfold ZgL;exact ay n 0 _ (by omega) (by omega) (by omega)
theorem ZAz(l:List Zaa)(q:Zax)(s:Int):(ZpH l q s).length<=l.length:=by
 have b:=ZDd (ZhB l) q s;have d:=ZtO l;unfold ZpH;rw[List.length_map];omega
theorem ZAy(l:List Zaa)(q:Zax)(s:Int):∀p∈ZpH l q s,p∈l/\p.fIn=true:=fun p b=>by
 obtain⟨i,d,rfl⟩:=List.mem_map.1 b
 have:=ZGr (ZhB l) q s i d
 unfold gP
 rw[ZbX _ _ i.toNat (by omega)]
 have e:=List.mem_filter.1 (List.getElem_mem (l:=ZhB l) (n:=i.toNat) (by omega))
 exact e
theorem ZtZ(l:List Zaa)(q:Zax)(s:Int)(hl:l.length<=800)(ho:okPs l) :
  ∃r:Zai×Bool,Zef l q s=some r/\Zeu l q s=some r/\(r.2=true->∃p∈l,p.fEnd=r.1/\p.fIn=true):=by
 have i:=ZAz l q s;have d:=ZAy l q s;have hoc:okPs (ZpH l q s):=fun p f=>ho p (d p f).1;obtain⟨b,hb,eG⟩:=ZtK (ZpH l q s) (by omega) hoc;have bu:=ZIp (ZpH l q s) (by omega) hoc;unfold Zef Zeu;rw[ZvU l q s hl ho,ZFR l q s hl ho,ZaA,ZaA,bu,hb,ZaA,Zah];rcases eG with⟨j,rfl⟩|⟨n,rfl,g⟩
 .rw[if_pos (by omega)];exact⟨_,rfl,rfl,fun h=>by cases h⟩
 .have e:=g.lt;rw[if_neg (by omega),Zaq (by omega)];refine⟨_,rfl,rfl,fun _=>⟨_,(d _ ?_).1,rfl,(d _ ?_).2⟩⟩
  all_goals
   simp only[Int.toNat_natCast];rw[ZbX _ _ n e];exact List.getElem_mem e
set_option linter.unusedSectionVars false
def TotJ(K:Cx)(L:Ins):Prop:=∀x∈L,∀y∈L,x≠y->ltJ K x y=true\/ltJ K y x=true
theorem ZmW{K:Cx}:∀(l:Ins)(b:Int),TotJ K (b :: l)->∀y∈b :: l,y≠bstJ K b l->ltJ K (bstJ K b l) y=true
 | [],b,_,y,hy,d=>by
  rw[List.mem_singleton.1 hy]at d
  exact absurd rfl d
 |x :: r,b,e,y,hy,d=>by
  have t1:TotJ K (x :: r):=fun p f q g=>e p (List.mem_cons_of_mem _ f) q (List.mem_cons_of_mem _ g)
  have t2:TotJ K (b :: r):=fun p f q g=>e p (by rcases List.mem_cons.1 f with h|h<;>simp[h]) q (by rcases List.mem_cons.1 g with h|h<;>simp[h])
  simp only[bstJ]at d ⊢
  by_cases h:ltJ K x b=true
  .rw[if_pos h]at d ⊢
   rcases List.mem_cons.1 hy with rfl|hy
   .by_cases hx:x=bstJ K x r
    .rw[<-hx];exact h
    .exact Zsr (ZmW r x t1 x (by simp) hx) h
   .exact ZmW r x t1 y hy d
  .rw[if_neg h]at d ⊢
   have hb:∀z,ltJ K b z=true->ltJ K (bstJ K b r) z=true:=fun z i=>by
    by_cases hx:b=bstJ K b r
    .rw[<-hx];exact i
    .exact Zsr (ZmW r b t2 b (by simp) hx) i
   rcases List.mem_cons.1 hy with rfl|hy
   .exact ZmW r y t2 y (by simp) d
   .rcases List.mem_cons.1 hy with rfl|hy
    .by_cases hx:y=b
     .subst hx;exact ZmW r y t2 y (by simp) d
     .rcases e y (by simp) b (by simp) hx with h1|h1
      .exact absurd h1 h
      .exact hb y h1
    .exact ZmW r b t2 y (List.mem_cons_of_mem _ hy) d
def rkJ(K:Cx)(L:Ins)(i:Int):Nat:=(L.filter fun j=>ltJ K j i).length
theorem ZxR{K:Cx}:∀(n:Nat)(L:Ins),L.Nodup->TotJ K L->∀i∈L,(i∈selN K n L↔rkJ K L i<n)
 | 0,L,_,_,i,_=>by simp[selN]
 |n+1,[],_,_,i,d=>by cases d
 |n+1,b :: l,hnd,f,i,d=>by
  have g:=Zwp (K:=K) l b
  have hl:=ZmW l b f
  obtain⟨m,hmd⟩ : ∃m,m=bstJ K b l:=⟨_,rfl⟩
  rw[selN,<-hmd]
  rw[<-hmd]at g hl
  have o:(b :: l).Perm (m :: (b :: l).filter fun x=>x != m):=by
   rw[<-hnd.erase_eq_filter];exact List.perm_cons_erase g
  by_cases h:i=m
  .subst h;have:rkJ K (b :: l) i=0:=by
    unfold rkJ;rw[List.length_eq_zero_iff,List.filter_eq_nil_iff];intro j p;by_cases e:j=i
    .subst e;simp[ZBw]
    .rw[ZCZ (hl j p e)];simp
   rw[this];simp
  .have a8:i∈(b :: l).filter fun x=>x != m:=List.mem_filter.2 ⟨d,by rw[bne_iff_ne];exact h⟩;have ih:=ZxR n ((b :: l).filter fun x=>x != m) (hnd.sublist List.filter_sublist) (fun x hx y r=>f x (List.mem_filter.1 hx).1 y (List.mem_filter.1 r).1) i a8;have t:rkJ K (b :: l) i=rkJ K ((b :: l).filter fun x=>x != m) i+1:=by
    unfold rkJ;rw[(o.filter _).length_eq,List.filter_cons,if_pos (hl i d h),List.length_cons]
   rw[List.mem_cons,t,ih];constructor
   .rintro (h2|h2)
    .exact absurd h2 h
    .omega
   .intro h2;right;omega
def rkP(s b:Int)(P:List Zaa)(p:Zaa):Nat:=(P.filter fun q=>cntB b q&&decide (ZkX b s q p<0)).length
def stP(s b n:Int)(P:List Zaa)(p:Zaa):Bool:=!(cntB b p&&decide ((rkP s b P p:Int)<n))
def ZuV(s b n:Int)(P:List Zaa):List Zaa:=P.filter (stP s b n P)
def ZBx(q:Zax)(s:Int)(P:List Zaa):List Zaa:=ZuV s 4 q.fTime (ZuV s 3 q.fWork (ZuV s 2 q.fPing (ZuV s 1 q.fGroup P)))
def dEnd(l:List Zaa):Prop:=l.Pairwise fun p q=>p.fEnd≠q.fEnd
theorem dEnd.perm{a b:List Zaa}(h:dEnd a)(d:a.Perm b):dEnd b:=(List.Perm.pairwise_iff (R:=fun p q:Zaa=>p.fEnd≠q.fEnd) (fun e=>Ne.symm e) d).1 h
theorem dEnd.filter{l:List Zaa}(h:dEnd l)(p:Zaa->Bool):dEnd (l.filter p):=List.Pairwise.filter p h
theorem ZED{b s:Int}{p q:Zaa}(h:p.fEnd≠q.fEnd):ZkX b s p q<0\/ZkX b s q p<0:=by
 by_cases e:ZkX b s p q<0
 .exact .inl e
 .right;rw[ZsS]at e ⊢;by_cases g:kv b s q<kv b s p
  .exact .inl g
  .have f:kv b s p=kv b s q:=by
    by_cases d:kv b s p<kv b s q
    .exact absurd (Or.inl d) e
    .omega
   refine .inr ⟨f.symm,?_⟩;have i:¬cmpE p.fEnd q.fEnd<0:=fun d=>e (.inr ⟨f,d⟩);have j:cmpE p.fEnd q.fEnd≠0:=fun d=>h (ZiC.1 d);exact ZfS.1 (by omega)
section
variable {l:List Zaa} (hd:dEnd l)
include hd
theorem at_ne{i j:Int}(d:0<=i/\i<((l.length:Nat):Int))(e:0<=j/\j<((l.length:Nat):Int))(h:i≠j):(gP l i).fEnd≠(gP l j).fEnd:=by
 have b:=List.pairwise_iff_getElem.1 hd;unfold gP;rw[ZbX l _ i.toNat (by omega),ZbX l _ j.toNat (by omega)];by_cases f:i<j
 .exact b i.toNat j.toNat (by omega) (by omega) (by omega)
 .exact(b j.toNat i.toNat (by omega) (by omega) (by omega)).symm
theorem ZKL{b s:Int}{at_:Ins}(d:inL l at_):TotJ ⟨l,b,s⟩ at_:=fun x hx y e f=>by
 rw[ZrF,ZrF]
 exact ZED (at_ne hd (d x hx) (d y e) f)
theorem Zuu{s b n:Int}{at_:Ins}(f:inL l at_)(g:at_.Nodup):(Zna l s b n at_).map (gP l)=ZuV s b n (at_.map (gP l)):=by
 unfold Zna ZuV;refine(ZyD (gP l) _ _ at_ fun i o=>?_).symm;have d:(Zge l b at_).Nodup:=g.sublist List.filter_sublist;have e:TotJ ⟨l,b,s⟩ (Zge l b at_):=ZKL hd fun x hx=>f x (List.mem_filter.1 hx).1;have hrk:rkJ ⟨l,b,s⟩ (Zge l b at_) i=rkP s b (at_.map (gP l)) (gP l i):=by
  unfold rkJ rkP Zge;rw[List.filter_filter,List.filter_map,List.length_map];congr 1;refine List.filter_congr fun j _=>?_;simp only[Function.comp];rw[Bool.and_comm];rfl
 unfold stP;congr 1;rw[<-Zuw _ _ d];rw[Bool.eq_iff_iff,Bool.and_eq_true,decide_eq_true_eq,decide_eq_true_eq];constructor
 .rintro ⟨p,r⟩;have a8:i∈Zge l b at_:=List.mem_filter.2 ⟨o,p⟩;rw[ZxR _ _ d e i a8,hrk];omega
 .intro h;have a8:i∈Zge l b at_:=by
   rw[Zuw _ _ d]at h;exact ZvA _ i (List.mem_of_mem_take h)
  rw[ZxR _ _ d e i a8,hrk]at h;exact⟨(List.mem_filter.1 a8).2,by omega⟩
theorem ZHW:(upto l.length).map (gP l)=l:=by
 apply List.ext_getElem
 .simp[upto]
 .intro i d b;simp only[upto,List.getElem_map,List.getElem_range,gP,Int.toNat_natCast];exact ZbX l _ i b
theorem ZIF(q:Zax)(s:Int):(Zvx l q s).map (gP l)=ZBx q s l:=by
 have n0:=Zms l.length;have i0:inL l (upto l.length):=fun i b=>Zjl.1 b;unfold Zvx ZBx;rw[Zuu hd (ZjA (ZjA (ZjA i0))) (Zhb (Zhb (Zhb n0))),Zuu hd (ZjA (ZjA i0)) (Zhb (Zhb n0)),Zuu hd (ZjA i0) (Zhb n0),Zuu hd i0 n0,ZHW hd]
end
theorem ZKB{l:List Zaa}(hd:dEnd l)(q:Zax)(s:Int):ZpH l q s=ZBx q s (ZhB l):=ZIF (hd.filter _) q s
def Zod(h:Int):Int:=if h<1 then 1 else if h>1073741824 then 1073741824 else h
def Zsu(s:Zaw)(h ag:Int):Nat:=(fitI ag-fitI s.fAt).toNat / (Zod h).toNat
def decS(s:Zaw)(h ag:Int):Zaw:=⟨(((fitI s.fPoints).toNat / 2 ^ Zsu s h ag:Nat):Int),fitI s.fAt+((Zsu s h ag*(Zod h).toNat:Nat):Int)⟩
theorem ZCy(h:Int):1<=Zod h/\Zod h<=1073741824:=by
 unfold Zod
 repeat' split
 all_goals omega
theorem ZKl(x:Int)(h:x<=1099511627776):fitI x=((x.toNat:Nat):Int):=by
 unfold fitI;split
 .omega
 .rw[if_neg (by omega)];omega
theorem ZEV(h:Nat)(h0:1<=h)(o:h<=1073741824)(t:Int)(r:0<=t/\t<=1099511627776)(b6:Zaw):∀(m fu p a:Nat),p<2 ^ m->m+1<=fu->a<=2199023255552->p<=1099511627776 ->
  ZcC (h:Int) b6 fu t ⟨(p:Int),(a:Int)⟩=some ⟨((p / 2 ^ ((t-(a:Int)).toNat / h):Nat):Int),(a:Int)+(((t-(a:Int)).toNat / h*h:Nat):Int)⟩:=by
 intro m;have sub:∀a:Nat,a<=2199023255552->ZaJ t (a:Int)=t-(a:Int):=fun a b=>by
  exact ZcI (by omega) (by omega)
 have last:∀(a:Nat),a<=2199023255552->t-(a:Int)>=(h:Int)->ZaJ t (Int.tmod (t-(a:Int)) (h:Int))=(a:Int)+(((t-(a:Int)).toNat / h*h:Nat):Int):=fun a b hd=>by
  obtain⟨d,ij⟩ : ∃d:Nat,t-(a:Int)=(d:Int):=⟨(t-(a:Int)).toNat,by omega⟩;have hd4:t=(d:Int)+(a:Int):=by omega
  rw[ij,Int.toNat_natCast,<-Int.ofNat_tmod];have u:d % h<=d:=Nat.mod_le _ _;have hdm:=Nat.div_add_mod d h;rw[Nat.mul_comm]at hdm;have e:ZaJ t ((d % h:Nat):Int)=t-((d % h:Nat):Int):=by
   exact ZcI (by omega) (by omega)
  rw[e];generalize d / h*h=q at *
  omega
 induction m with
 |zero=>
  intro fu p a f g b a4;obtain⟨fu,rfl⟩ : ∃x,fu=x+1:=⟨fu-1,by omega⟩;have gh:p=0:=by simpa using f
  subst gh;unfold ZcC;simp only[Zah,sub a b];rw[if_neg (by omega),Nat.zero_div];by_cases hd:t-(a:Int)>=(h:Int)
  .rw[if_pos hd,Zaq (by omega),last a b hd]
  .have h0:(t-(a:Int)).toNat / h=0:=Nat.div_eq_of_lt (by omega);rw[if_neg hd,h0];simp
 |succ m ih=>
  intro fu p a f g b a4;obtain⟨fu,rfl⟩ : ∃x,fu=x+1:=⟨fu-1,by omega⟩;unfold ZcC;simp only[Zah,sub a b];by_cases gh:(p:Int)>0
  .rw[if_pos gh];by_cases hd:t-(a:Int)>=(h:Int)
   .rw[if_pos hd];have i:IntKind.wrap .i64 (Int.tdiv (p:Int) 2)=((p / 2:Nat):Int):=by
     have:Int.tdiv (p:Int) 2=((p / 2:Nat):Int):=(Int.ofNat_tdiv p 2).symm;rw[this];exact Zha (by omega) (by omega)
    have j:Zan (a:Int) (h:Int)=((a+h:Nat):Int):=by rw[Zcd (by omega) (by omega)];omega
    rw[i,j,ih fu (p / 2) (a+h) (by rw[Nat.pow_succ]at f;omega) (by omega) (by omega) (by omega)];obtain⟨d,ij⟩ : ∃d:Nat,t-(a:Int)=((d+h:Nat):Int):=⟨(t-(a:Int)).toNat-h,by omega⟩;have hd3:t-((a+h:Nat):Int)=(d:Int):=by omega
    have n:(d+h) / h=d / h+1:=Nat.add_div_right d (by omega);rw[ij,hd3,Int.toNat_natCast,Int.toNat_natCast,n,Nat.pow_succ,Nat.mul_comm (2 ^ (d / h)) 2,<-Nat.div_div_eq_div_mul,Nat.add_mul,Nat.one_mul];congr 2;generalize d / h*h=q;omega
   .have h0:(t-(a:Int)).toNat / h=0:=Nat.div_eq_of_lt (by omega);rw[if_neg hd,if_neg hd,h0];simp
  .have gh:p=0:=by omega
   subst gh;rw[if_neg gh,Nat.zero_div];by_cases hd:t-(a:Int)>=(h:Int)
   .rw[if_pos hd,Zaq (by omega),last a b hd]
   .rw[if_neg hd,Nat.div_eq_of_lt (by omega)];simp
theorem ZFO(s:Zaw)(h ag:Int):Zgn s h ag=some (decS s h ag):=by
 have j:=ZCy h;have n:=ZiN s.fAt;have o:=ZiN s.fPoints;have f:=ZiN ag;obtain⟨k,g⟩ : ∃k:Nat,Zod h=k:=⟨(Zod h).toNat,by omega⟩;obtain⟨a,i⟩ : ∃k:Nat,fitI s.fAt=k:=⟨(fitI s.fAt).toNat,by omega⟩;obtain⟨p,fD⟩ : ∃k:Nat,fitI s.fPoints=k:=⟨(fitI s.fPoints).toNat,by omega⟩;have ay:∀b:Zaw,ZdN ag s b (Zod h)=some (decS s h ag):=fun b=>by
  unfold ZdN decS Zsu;simp only[Zko,Option.bind_some,g,i,fD,Int.toNat_natCast];rw[ZEV k (by omega) (by omega) (fitI ag) f b 41 1000000 p a (by omega) (by omega) (by omega) (by omega)]
 unfold Zgn ZeK;simp only[Zah];by_cases d:h<1
 .rw[if_pos d,if_neg (by omega)];have:=ay ⟨0,0⟩;rwa [show Zod h=1 by unfold Zod;rw[if_pos d]]at this
 .rw[if_neg d];by_cases e:h>1073741824
  .rw[if_pos e];have:=ay ⟨0,0⟩;rwa [show Zod h=1073741824 by unfold Zod;rw[if_neg d,if_pos e]]at this
  .rw[if_neg e];have:=ay ⟨0,0⟩;rwa [show Zod h=h by unfold Zod;rw[if_neg d,if_neg e]]at this
theorem ZEB(s:Zaw)(h ag:Int):Zqs s h ag=some (decS s h ag):=by
 have B:=ZCy h;have g:=ZiN s.fAt;have C:=ZiN s.fPoints;have D:=ZiN ag;unfold Zqs Zxv ZzR;have r:(if(1073741824:Int)<(if(1:Int)>h then(1:Int)else h)then(1073741824:Int)else(if(1:Int)>h then(1:Int)else h))=Zod h:=by
  unfold Zod
  repeat' split
  all_goals omega
 have t:(if(1099511627776:Int)<(if(0:Int)>s.fPoints then(0:Int)else s.fPoints)then(1099511627776:Int)else(if(0:Int)>s.fPoints then(0:Int)else s.fPoints))=fitI s.fPoints:=by
  unfold fitI
  repeat' split
  all_goals omega
 have u:∀n,0<=n->n<=1099511627776->fitI n=n:=fun n i b=>by unfold fitI;rw[if_neg (by omega),if_neg (by omega)]
 have v:ZaJ (fitI ag) (fitI s.fAt)=fitI ag-fitI s.fAt:=ZcI (by omega) (by omega);simp only[Zkl,Option.bind_some,r,t,u (fitI s.fAt) g.1 g.2,v];obtain⟨k,e⟩ : ∃k:Nat,Zod h=k:=⟨(Zod h).toNat,by omega⟩;obtain⟨a,j⟩ : ∃k:Nat,fitI s.fAt=k:=⟨(fitI s.fAt).toNat,by omega⟩;obtain⟨p,fD⟩ : ∃k:Nat,fitI s.fPoints=k:=⟨(fitI s.fPoints).toNat,by omega⟩;obtain⟨d,hd⟩ : ∃d:Nat,(fitI ag-fitI s.fAt).toNat=d:=⟨_,rfl⟩;have ij:fitI (fitI ag-fitI s.fAt)=(d:Int):=by rw[ZKl _ (by omega),hd]
 have hdk:d / k<=d:=Nat.div_le_self _ _;have y:IntKind.wrap .i64 (Int.tdiv (d:Int) (k:Int))=((d / k:Nat):Int):=by
  rw[<-Int.ofNat_tdiv];exact Zha (Int.natCast_nonneg _) (by omega)
 have hnn:(0:Int)<=((d / k:Nat):Int):=Int.natCast_nonneg _;rw[ij,e,y,Zaq (by omega),Zaq (by split<;>omega),fD,j];have hl:Zsu s h ag=d / k:=by unfold Zsu;rw[hd,e,Int.toNat_natCast]
 unfold decS;rw[hl,fD,j,e,Int.toNat_natCast,Int.toNat_natCast];have hdm:d / k*k<=d:=Nat.div_mul_le_self d k;have z:ZiS ((d / k:Nat):Int) (k:Int)=((d / k*k:Nat):Int):=by
  unfold ZiS;rw[<-Int.natCast_mul];exact Zha (by omega) (by omega)
 have A:Zan (a:Int) ((d / k*k:Nat):Int)=(a:Int)+((d / k*k:Nat):Int):=Zcd (by omega) (by omega);rw[z,A];congr 2
 -- the points
 have o:∀c:Nat,c<=41->Int.fdiv (p:Int) (2 ^ (min ((c:Nat):Int).toNat (IntKind.bits .i64)))=((p / 2 ^ c:Nat):Int):=fun c f=>by
  have:min ((c:Nat):Int).toNat (IntKind.bits .i64)=c:=by
   rw[Int.toNat_natCast];show min c 64=c;omega
  rw[this];have b:((2:Int) ^ c)=((2 ^ c:Nat):Int):=by simp
  rw[b,Int.fdiv_eq_tdiv_of_nonneg (by omega) (Int.natCast_nonneg _)];exact(Int.ofNat_tdiv p (2 ^ c)).symm
 by_cases f:(41:Int)<((d / k:Nat):Int)
 .rw[if_pos f];have:=o 41 (by omega);rw[show (((41:Nat):Int))=(41:Int)from rfl]at this;rw[this];have i:p / 2 ^ 41=0:=Nat.div_eq_of_lt (by omega);have b:p / 2 ^ (d / k)=0:=Nat.div_eq_of_lt (Nat.lt_of_lt_of_le (show p<2 ^ 41 by omega) (Nat.pow_le_pow_right (by omega) (by omega)));rw[i,b]
 .rw[if_neg f,o (d / k) (by omega)]
theorem ZKv(s:Zaw)(h ag:Int):0<=(decS s h ag).fPoints/\(decS s h ag).fPoints<=1099511627776:=by
 have b:=ZiN s.fPoints;unfold decS;have:=Nat.div_le_self (fitI s.fPoints).toNat (2 ^ Zsu s h ag);constructor
 .exact Int.natCast_nonneg _
 .show (((fitI s.fPoints).toNat / 2 ^ Zsu s h ag:Nat):Int)<=_;omega
def ZHO(s:Zaw)(points h ag:Int):Zaw:=⟨fitI ((decS s h ag).fPoints+points * 65536),(decS s h ag).fAt⟩
theorem ZFA(s:Zaw)(points h ag:Int)(h0:0<=points)(f:points<=100):ZmF s points h ag=some (ZHO s points h ag)/\Zhr s points h ag=some (ZHO s points h ag):=by
 have hd:=ZKv s h ag;have b:∀n,0<=n->n<=1099511627776->fitI n=n:=fun n f i=>by unfold fitI;rw[if_neg (by omega),if_neg (by omega)]
 have em:ZiS points 65536=points * 65536:=by unfold ZiS;exact Zha (by omega) (by omega)
 have ea:Zan (decS s h ag).fPoints (points * 65536)=(decS s h ag).fPoints+points * 65536:=Zcd (by omega) (by omega);constructor
 .unfold ZmF ZzS Zol ZHO;simp only[ZEB,Zkl,Option.bind_some,Zah,b points h0 (by omega),b 65536 (by omega) (by omega),b _ hd.1 hd.2];have j:(ZmF s points h ag=ZmF s points h ag):=rfl;by_cases d:points>0
  .rw[if_pos d,Zaq (by omega)];have g:¬((65536:Int)>IntKind.wrap .i64 (Int.tdiv 1099511627776 points)):=by
    obtain⟨n,rfl⟩ : ∃n:Nat,points=n:=⟨points.toNat,by omega⟩;have e:Int.tdiv (1099511627776:Int) (n:Int)=((1099511627776 / n:Nat):Int):=(Int.ofNat_tdiv 1099511627776 n).symm;have hle:1099511627776 / n<=1099511627776:=Nat.div_le_self _ _;have lA:1099511627776 / 100<=1099511627776 / n:=Nat.div_le_div_left (by omega) (by omega);rw[e,Zha (by omega) (by omega)];omega
   rw[if_neg g];simp only[Option.bind_some,em,b (points * 65536) (by omega) (by omega),ea]
  .rw[if_neg d];simp only[Option.bind_some,em,b (points * 65536) (by omega) (by omega),ea]
 .unfold Zhr ZHO;simp only[ZFO,Zko,Option.bind_some,Zah,b points h0 (by omega)];rw[if_neg (by omega),em,ea]
theorem ZBf(s:Zaw):∃r,Zmn s=some r/\Zcs s=some r:=by
 unfold Zmn Zcs;simp only[Zah];by_cases h:s.fPoints<0
 .rw[if_pos (by omega),if_pos h];exact⟨_,rfl,rfl⟩
 .rw[if_neg (by omega),if_neg h];exact⟨_,rfl,rfl⟩
def ZFl(s:Zaw):Int:=(Zmn s).getD 0
theorem ZHT(s:Zaw):Zmn s=some (ZFl s)/\Zcs s=some (ZFl s):=by
 obtain⟨r,b,d⟩:=ZBf s;unfold ZFl;rw[b,d];exact⟨rfl,rfl⟩
def Zzr(s:Zaw)(aR:Int):Bool:=decide (s.fPoints>=(if aR<1 then 1 else if aR>16777216 then 16777216 else aR) * 65536)
theorem ZEg(s:Zaw)(aR:Int)(h0:0<=s.fPoints)(f:s.fPoints<=1099511627776):Zqo s aR=some (Zzr s aR)/\Zfn s aR=some (Zzr s aR):=by
 obtain⟨p,g⟩ : ∃k:Nat,s.fPoints=k:=⟨s.fPoints.toNat,by omega⟩;have i:Zcs s=some ((p / 65536:Nat):Int):=by
  unfold Zcs;simp only[Zah];have e:Int.tdiv (p:Int) 65536=((p / 65536:Nat):Int):=(Int.ofNat_tdiv p 65536).symm;rw[if_neg (by omega),g,e,Zha (by omega) (by omega)]
 have key:∀L:Int,1<=L->L<=16777216->decide (((p / 65536:Nat):Int)>=L)=decide (s.fPoints>=L * 65536):=fun L f j=>by
  rw[g];apply decide_eq_decide.2;omega
 have jP:(if(16777216:Int)<(if(1:Int)>aR then(1:Int)else aR)then(16777216:Int)else(if(1:Int)>aR then(1:Int)else aR))=(if aR<1 then 1 else if aR>16777216 then 16777216 else aR):=by
  repeat' split
  all_goals omega
 have h:1<=(if aR<1 then(1:Int)else if aR>16777216 then 16777216 else aR)/\(if aR<1 then(1:Int)else if aR>16777216 then 16777216 else aR)<=16777216:=by
  repeat' split
  all_goals omega
 have em:∀L:Int,1<=L->L<=16777216->ZiS L 65536=L * 65536:=fun L f j=>by unfold ZiS;exact Zha (by omega) (by omega)
 constructor
 .unfold Zqo Zzr;rw[jP,em _ h.1 h.2]
 .unfold Zfn Zeg Zzr;simp only[Zah,i,Option.bind_some];by_cases b:aR<1
  .rw[if_pos b,if_pos b,if_neg (by omega),key 1 (by omega) (by omega)]
  .rw[if_neg b,if_neg b];by_cases d:aR>16777216
   .rw[if_pos d,if_pos d,key 16777216 (by omega) (by omega)]
   .rw[if_neg d,if_neg d,key aR (by omega) (by omega)]
def penI(k:Int):Int:=(Zkx k).getD 0
theorem ZJm(k:Int):Zkx k=some (penI k)/\Zec k=some (penI k)/\0<=penI k/\penI k<=100:=by
 obtain⟨q,b,d,e,f⟩:=ZEm k;unfold penI;rw[b,d];exact⟨rfl,rfl,e,f⟩
def ZuU(c:Zav)(x:Zar)(p:Zaa):Zaa:=⟨p.fEnd,p.fIn,p.fSince,ZHO p.fScore (penI x.fNum) c.fHalf x.fNow,p.fPing,p.fWork⟩
theorem ZHE(c:Zav)(x:Zar)(p:Zaa):ZsC p (penI x.fNum) c.fHalf x.fNow=some (ZuU c x p)/\ZfQ p (penI x.fNum) c.fHalf x.fNow=some (ZuU c x p):=by
 obtain⟨_,_,b,d⟩:=ZJm x.fNum;obtain⟨e,f⟩:=ZFA p.fScore (penI x.fNum) c.fHalf x.fNow b d;unfold ZsC ZfQ;rw[e,f];exact⟨rfl,rfl⟩
theorem ZHR(c:Zav)(x:Zar)(p:Zaa):0<=(ZuU c x p).fScore.fPoints/\(ZuU c x p).fScore.fPoints<=1099511627776:=ZiN _
def ofP(l:List Zaa)(n:Zaj)(b:Bool):List Zaa:=l.filter fun p=>hasS n p.fEnd.fAddr==b
theorem ZCM(l:List Zaa)(n:Zaj)(b:Bool)(g:n.fAddr.ok)(hl:l.length<=1000000)(az:∀p∈l,p.fEnd.fAddr.ok):ZgA l n b=some (ofP l n b):=by
 have hL:l.length<=maxLen:=by unfold maxLen;omega
 have ay:∀fu (i:Nat) w,i<=l.length->l.length-i<fu->w=ofP (l.take i) n b->Zdi l b fu (i:Int) w n=some (ofP l n b):=by
  intro fu;induction fu with
  |zero=>intro i w _ h;omega
  |succ fu ih=>
   intro i w o r e;unfold Zdi;simp only[Zah];by_cases h:i<l.length
   .have j:=ZeD l Zaa.d i h;rw[if_pos (by omega),Zaq ⟨by omega,by omega⟩,add1 h hL];simp only[Int.toNat_natCast,ZCL n _ g (az _ j),Option.bind_some];have bM:ofP (l.take (i+1)) n b=w++[l.getD i Zaa.d].filter (fun p=>hasS n p.fEnd.fAddr==b):=by
     rw[e];unfold ofP;rw[List.take_succ_eq_append_getElem h,List.filter_append,ZbX l _ i h]
    have hwl:w.length<=1000000:=by
     rw[e];have:=List.length_filter_le (fun p:Zaa=>hasS n p.fEnd.fAddr==b) (l.take i);simp only[List.length_take]at this;unfold ofP;omega
    cases f:hasS n (l.getD i Zaa.d).fEnd.fAddr==b with
    |true=>
     rw[List.filter_cons_of_pos (by rw[f])]at bM;simp only[cond_true];rw[Zaq ⟨by simp;omega,by simp[maxLen];omega⟩];exact ih (i+1) _ (by omega) (by omega) bM.symm
    |false=>
     rw[List.filter_cons_of_neg (by rw[f];decide)]at bM;simp only[cond_false];refine ih (i+1) _ (by omega) (by omega) ?_;rw[bM];simp
   .rw[if_neg (by omega),e];have:i=l.length:=by omega
    rw[this,List.take_length]
 exact ay _ 0 [] (by omega) (by omega) rfl
theorem ZGi(l:List Zaa)(n:Zaj)(b:Bool):(ofP l n b).length<=l.length:=List.length_filter_le _ _
def cntP(l:List Zaa)(b:Bool):Int:=((l.countP fun p=>p.fIn==b:Nat):Int)
theorem ZAS(l:List Zaa)(b:Bool)(hl:l.length<=maxLen):Zhi l b=some (cntP l b):=by
 simp only[Zhi];have:=Zts l Zaa.d (fun p=>p.fIn==b) hl (fun fu n i=>Zem b fu n l (l.length:Int) i) (fun fu i n e=>by
   simp only[Zem,Zah];rw[if_pos (by omega),Zaq ⟨by omega,by omega⟩];simp only[Int.toNat_natCast];cases((l.getD i Zaa.d).fIn==b)<;>rfl) (fun fu n=>by
   simp only[Zem,Zah];rw[if_neg (by omega)]) ((((l.length:Nat):Int)-(0:Int)).toNat+2) 0 0 (by omega) (by omega) (by omega)
 simp only[Int.natCast_zero,List.drop_zero]at this;rw[this];unfold cntP;congr 2;omega
theorem Zvg(l:List Zaa)(b:Bool)(hl:l.length<=maxLen):ZeS l b=some (cntP l b):=by
 simp only[ZeS];have:=Zts l Zaa.d (fun p=>p.fIn==b) hl (fun fu n i=>Zca l b fu n i) (fun fu i n e=>by
   simp only[Zca,Zah];rw[if_pos (by omega),Zaq ⟨by omega,by omega⟩];simp only[Int.toNat_natCast];cases((l.getD i Zaa.d).fIn==b)<;>rfl) (fun fu n=>by
   simp only[Zca,Zah];rw[if_neg (by omega)]) ((((l.length:Nat):Int)-(0:Int)).toNat+2) 0 0 (by omega) (by omega) (by omega)
 simp only[Int.natCast_zero,List.drop_zero]at this;rw[this];unfold cntP;congr 2;omega
theorem ZKx(l:List Zaa)(b:Bool):0<=cntP l b/\cntP l b<=(l.length:Int):=by
 unfold cntP;have:=List.countP_le_length (p:=fun p:Zaa=>p.fIn==b) (l:=l);omega
def ZEP(l:List Zaa):List Zai:=l.map (·.fEnd)
def addT(a b:Int):Int:=fitI (fitI a+fitI b)
theorem ZuX(a b:Int):Zol a b=some (addT a b)/\ZdZ a b=some (addT a b):=by
 have d:=ZiN a;have f:=ZiN b;have e:Zan (fitI a) (fitI b)=fitI a+fitI b:=Zcd (by omega) (by omega);constructor
 .unfold Zol addT;simp only[Zkl,Option.bind_some,e]
 .unfold ZdZ addT;simp only[Zko,Option.bind_some,e]
theorem ZEa{n:Nat}(h:n<=1000000):n<=maxLen:=by simp only[maxLen];omega
theorem ZyV{a:Int}(h : -1000000000000000000<=a)(h':a<=1000000000000000000):IntKind.i64.wrap a=a:=by
 simp only[IntKind.wrap,IntKind.bits,IntKind.signed];simp;omega
abbrev Itm:=ZaF
def cmpH(a b:Itm):Int:=orI (cmpI a.fKey b.fKey) (cmpE a.fEnd b.fEnd)
theorem ZEA(a b:Itm):Zqq a b=some (cmpH a b):=by
 simp only[Zqq,ZtL,ZuN,or2,Option.bind_some,cmpH]
theorem Zxu(a b:Itm):Zqr a b=some (decide (cmpH a b<0)):=by
 simp only[Zqr,ZEA,Option.bind_some]
theorem ZHw{a b:Itm}:cmpH a b<0↔a.fKey<b.fKey\/(a.fKey=b.fKey/\cmpE a.fEnd b.fEnd<0):=by simp only[cmpH,Zxi,ZtM,Zjj]
theorem Zwk{a b:Itm}:0<cmpH a b↔cmpH b a<0:=by
 simp only[cmpH,Zxi,Zxj,ZtM,ZtN,Zjj,ZfS];constructor<;>rintro (h|⟨d,e⟩)<;>first|exact .inl h|exact .inr ⟨d.symm,e⟩
theorem Zwj{a b:Itm}:cmpH a b=0↔a=b:=by
 simp only[cmpH,ZuB,Zjj,ZiC];obtain⟨x,p⟩:=a;obtain⟨y,q⟩:=b;simp
theorem ZxH{a b c:Itm}(d:cmpH a b<0)(e:cmpH b c<0):cmpH a c<0:=by
 rw[ZHw]at *
 rcases d with d|⟨d,f⟩<;>rcases e with e|⟨e,g⟩
 .exact .inl (by omega)
 .exact .inl (by omega)
 .exact .inl (by omega)
 .exact .inr ⟨by omega,Zmy f g⟩
def leH(a b:Itm):Prop:=¬cmpH b a<0
theorem Zra(a:Itm):leH a a:=by unfold leH;rw[Zwj.2 rfl];omega
theorem Zvz{a b:Itm}(h:cmpH a b<0):leH a b:=by
 unfold leH;intro d;have:=Zwk.2 d;omega
theorem Zvy{a b c:Itm}(e:leH a b)(d:leH b c):leH a c:=by
 unfold leH at *
 intro h;have f:cmpH a b<=0:=by
  by_cases q:0<cmpH a b
  .exact absurd (Zwk.1 q) e
  .omega
 by_cases q:cmpH a b=0
 .have:=Zwj.1 q;subst this;exact d h
 .exact d (ZxH h (by omega))
theorem Zsv{a b:Itm}(h:¬cmpH a b<0):leH b a:=h
abbrev ixH(h:List Itm)(i:Nat):Itm:=h.getD i ZaF.d
def HF(lo:Nat)(h:List Itm):Prop:=∀k,0<k->k<h.length->lo<=(k-1) / 2->leH (ixH h ((k-1) / 2)) (ixH h k)
structure HB (lo i:Nat) (h:List Itm):Prop where
 ge:lo<=i
 up:∀k,0<k->k<h.length->lo<=(k-1) / 2->(k-1) / 2≠i->leH (ixH h ((k-1) / 2)) (ixH h k)
 over:∀k,0<k->k<h.length->(k-1) / 2=i->0<i->lo<=(i-1) / 2->leH (ixH h ((i-1) / 2)) (ixH h k)
def ZyQ(h:List Itm)(i b:Nat):Nat:=if 2*i+2<h.length/\cmpH (ixH h (2*i+2)) (ixH h b)<0 then 2*i+2 else b
def ZmX(h:List Itm)(i:Nat):Nat:=ZyQ h i (if 2*i+1<h.length/\cmpH (ixH h (2*i+1)) (ixH h i)<0 then 2*i+1 else i)
theorem ZAI(h:List Itm)(i:Nat)(e:¬2*i+1<h.length):ZmX h i=i:=by
 unfold ZmX ZyQ;rw[if_neg (fun x:2*i+1<h.length/\_=>e x.1),if_neg (fun x=>by have:=x.1;omega)]
theorem Zws(h:List Itm)(i:Nat)(o:i<h.length):(ZmX h i=i\/(ZmX h i=2*i+1\/ZmX h i=2*i+2)/\ZmX h i<h.length/\cmpH (ixH h (ZmX h i)) (ixH h i)<0)/\ZmX h i<h.length /\
  ∀k,k<h.length->0<k->(k-1) / 2=i->leH (ixH h (ZmX h i)) (ixH h k):=by
 have n:∀k,0<k->(k-1) / 2=i->k=2*i+1\/k=2*i+2:=by intro k d f;omega
 unfold ZmX ZyQ;by_cases g:2*i+1<h.length/\cmpH (ixH h (2*i+1)) (ixH h i)<0
 .rw[if_pos g];by_cases b:2*i+2<h.length/\cmpH (ixH h (2*i+2)) (ixH h (2*i+1))<0
  .rw[if_pos b];refine⟨.inr ⟨.inr rfl,b.1,ZxH b.2 g.2⟩,b.1,fun k d f j=>?_⟩;rcases n k f j with e|e
   .subst e;exact Zvz b.2
   .subst e;exact Zra _
  .rw[if_neg b];refine⟨.inr ⟨.inl rfl,g.1,g.2⟩,g.1,fun k d f j=>?_⟩;rcases n k f j with e|e
   .subst e;exact Zra _
   .subst e;exact Zsv fun q=>b ⟨d,q⟩
 .rw[if_neg g];by_cases b:2*i+2<h.length/\cmpH (ixH h (2*i+2)) (ixH h i)<0
  .rw[if_pos b];refine⟨.inr ⟨.inr rfl,b.1,b.2⟩,b.1,fun k d f j=>?_⟩;rcases n k f j with e|e
   .subst e;exact Zvy (Zvz b.2) (Zsv fun q=>g ⟨d,q⟩)
   .subst e;exact Zra _
  .rw[if_neg b];refine⟨.inl rfl,o,fun k d f j=>?_⟩;rcases n k f j with e|e
   .subst e;exact Zsv fun q=>g ⟨d,q⟩
   .subst e;exact Zsv fun q=>b ⟨d,q⟩
def Zub(h:List Itm)(i b:Nat):List Itm:=(h.set i (ixH h b)).set b (ixH h i)
theorem Zqc(h:List Itm)(i b:Nat):(Zub h i b).length=h.length:=by simp[Zub]
theorem Zsh(h:List Itm)(i b k:Nat)(f:i<h.length)(hb:b<h.length):ixH (Zub h i b) k=if k=b then ixH h i else if k=i then ixH h b else ixH h k:=by
 simp only[ixH,Zub,List.getD_eq_getElem?_getD,List.getElem?_set,List.length_set];by_cases d:k=b
 .subst d;simp[hb]
 .rw[if_neg (Ne.symm d),if_neg d];by_cases e:k=i
  .subst e;simp[f]
  .rw[if_neg (Ne.symm e),if_neg e]
theorem ZDW(h:List Itm)(i b:Nat)(d:i<h.length)(hb:b<h.length):(Zub h i b).Perm h:=by
 rw[List.perm_iff_count];intro a;unfold Zub;have e:ixH h i=h[i]:=ZbX h _ i d;have f:ixH h b=h[b]:=ZbX h _ b hb;rw[e,f];by_cases hib:i=b
 .subst hib;simp
 .rw[List.count_set (by simpa using hb),List.count_set d,List.getElem_set_ne hib];have m1:(if(h[i]==a)=true then 1 else 0)<=h.count a:=by
   split
   .rename_i q;have:h[i]=a:=by simpa using q
    exact List.one_le_count_iff.2 (this ▸ List.getElem_mem d)
   .omega
  have m2:(if(h[b]==a)=true then 1 else 0)<=h.count a:=by
   split
   .rename_i q;have:h[b]=a:=by simpa using q
    exact List.one_le_count_iff.2 (this ▸ List.getElem_mem hb)
   .omega
  by_cases g:(h[i]==a)=true<;>by_cases j:(h[b]==a)=true<;>simp only[g,j]at m1 m2 ⊢<;>omega
theorem HB.step{lo i:Nat}{h:List Itm}(H:HB lo i h)(f:i<h.length)(hne:ZmX h i≠i):HB lo (ZmX h i) (Zub h i (ZmX h i)):=by
 obtain⟨c,hb,p⟩:=Zws h i f;generalize hbe:ZmX h i=b at *
 rcases c with c|⟨c,_,hlt⟩
 .exact absurd c hne
 have jQ:(b-1) / 2=i:=by omega
 have hib:i<b:=by omega
 refine⟨by have:=H.ge;omega,fun k g d j o=>?_,fun k g d j o r=>?_⟩
 .rw[Zqc]at d;rw[Zsh h i b _ f hb,Zsh h i b _ f hb,if_neg o];by_cases n:(k-1) / 2=i
  .rw[if_pos n];by_cases e:k=b
   .rw[if_pos e];exact Zvz hlt
   .rw[if_neg e,if_neg (by omega)];exact p k d g n
  .rw[if_neg n,if_neg (by omega:k≠b)];by_cases e:k=i
   .rw[if_pos e];subst e;exact H.over b (by omega) hb jQ g j
   .rw[if_neg e];exact H.up k g d j n
 .rw[Zqc]at d;rw[Zsh h i b _ f hb,Zsh h i b _ f hb,if_neg (by omega),if_pos jQ,if_neg (by omega),if_neg (by omega)];have:=H.up k g d (by have:=H.ge;omega) (by omega);rw[j]at this;exact this
theorem HB.done{lo i:Nat}{h:List Itm}(H:HB lo i h)(g:i<h.length)(j:ZmX h i=i):HF lo h:=by
 obtain⟨c,hb,b⟩:=Zws h i g;intro k d f n;by_cases e:(k-1) / 2=i
 .rw[e];rw[j]at b;exact b k f d e
 .exact H.up k d f n e
theorem mul2{i:Nat}(h:i<=1000000):ZiS (2:Int) (i:Int)=((2*i:Nat):Int):=by
 simp only[ZiS];rw[show (2:Int)*(i:Int)=((2*i:Nat):Int)by omega];exact ZyV (by omega) (by omega)
theorem add2{i k:Nat}(h:i<=3000000)(b:k<=2):Zan (i:Int) (k:Int)=((i+k:Nat):Int):=by rw[Zcd (by omega) (by omega)];omega
theorem ZKt(i:Nat)(h:List Itm)(f:i<h.length)(hl:h.length<=1000000)(kk:Int->List Itm->Option (List Itm))(fu:Nat)(j:3<=fu) :
  ZeA (i:Int) kk fu (i:Int) ((2*i+1:Nat):Int) h=if ZmX h i=i then some h else kk ((ZmX h i:Nat):Int) (Zub h i (ZmX h i)):=by
 obtain⟨fu,rfl⟩ : ∃n,fu=n+3:=⟨fu-3,by omega⟩;have fF:Zan (ZiS (2:Int) (i:Int)) (2:Int)=((2*i+2:Nat):Int):=by rw[mul2 (by omega)];exact add2 (k:=2) (by omega) (by omega)
 have ends:∀b:Nat,b<h.length->(bif((b:Int)==(i:Int))then some h else need (0<=(b:Int)/\(b:Int)<((h.length:Nat):Int))<|need (0<=(i:Int)/\(i:Int)<((h.length:Nat):Int))<|kk (b:Int) ((h.set (i:Int).toNat (h.getD (b:Int).toNat ZaF.d)).set (b:Int).toNat (h.getD (i:Int).toNat ZaF.d))) =
   if b=i then some h else kk ((b:Nat):Int) (Zub h i b):=by
  intro b hb;by_cases e:b=i
  .subst e;simp
  .rw[show ((b:Int)==(i:Int))=false by rw[beq_eq_false_iff_ne];omega,cond_false,Zaq ⟨by omega,by omega⟩,Zaq ⟨by omega,by omega⟩,if_neg e];rfl
 -- the bS one below,or none
 have bS:∀(b fu:Nat),b<h.length->ZeA (i:Int) kk (fu+2) (b:Int) ((2*i+2:Nat):Int) h=if ZyQ h i b=i then some h else kk ((ZyQ h i b:Nat):Int) (Zub h i (ZyQ h i b)):=by
  intro b fu hb;have gF:∀c:Nat,c<h.length->ZeA (i:Int) kk (fu+1) (c:Int) ((2*i+3:Nat):Int) h=if c=i then some h else kk ((c:Nat):Int) (Zub h i c):=by
   intro c g;simp only[ZeA,Zah,fF];rw[if_neg (by omega)];exact ends c g
  unfold ZeA;simp only[Zah,fF];rw[if_pos (by omega)];by_cases e:2*i+2<h.length
  .rw[if_pos (by omega),Zaq ⟨by omega,by omega⟩,Zaq ⟨by omega,by omega⟩,Zxu];simp only[Option.bind_some,Int.toNat_natCast,Zah];rw[show Zan ((2*i+2:Nat):Int) (1:Int)=((2*i+3:Nat):Int)from add2 (i:=2*i+2) (k:=1) (by omega) (by omega)];by_cases q:cmpH (ixH h (2*i+2)) (ixH h b)<0
   .rw[if_pos q,show ZyQ h i b=2*i+2 from if_pos ⟨e,q⟩];exact gF _ e
   .rw[if_neg q,show ZyQ h i b=b from if_neg (fun x=>q x.2)];exact gF _ hb
  .rw[if_neg (by omega),show ZyQ h i b=b from if_neg (fun x=>e x.1)];exact ends b hb
 unfold ZeA;simp only[Zah,fF];rw[if_pos (by omega)];by_cases e:2*i+1<h.length
 .rw[if_pos (by omega),Zaq ⟨by omega,by omega⟩,Zaq ⟨by omega,by omega⟩,Zxu];simp only[Option.bind_some,Int.toNat_natCast,Zah];rw[show Zan ((2*i+1:Nat):Int) (1:Int)=((2*i+2:Nat):Int)from add2 (i:=2*i+1) (k:=1) (by omega) (by omega)];by_cases q:cmpH (ixH h (2*i+1)) (ixH h i)<0
  .rw[if_pos q,bS _ fu e];unfold ZmX;rw[if_pos (show 2*i+1<h.length/\cmpH (ixH h (2*i+1)) (ixH h i)<0 from⟨e,q⟩)]
  .rw[if_neg q,bS _ fu f];unfold ZmX;rw[if_neg (show ¬(2*i+1<h.length/\cmpH (ixH h (2*i+1)) (ixH h i)<0)from fun x=>q x.2)]
 .rw[if_neg (by omega),ends i f,ZAI h i e]
theorem ZHh:∀fu (lo i:Nat) (h:List Itm),i<h.length->h.length<=1000000->HB lo i h->h.length-i<fu->∃h',ZiG fu (i:Int) h=some h'/\h'.Perm h/\HF lo h':=by
 intro fu;induction fu with
 |zero=>intro _ _ _ _ _ _ h;omega
 |succ fu ih=>
  intro lo i h b hl H r;simp only[ZiG];have d:Zan (ZiS (2:Int) (i:Int)) (1:Int)=((2*i+1:Nat):Int):=by rw[mul2 (by omega)];exact add2 (k:=1) (by omega) (by omega)
  obtain⟨c,hb,_⟩:=Zws h i b;rw[d];by_cases f:2*i+1<h.length
  .rw[ZKt i h b hl _ _ (by omega)];by_cases e:ZmX h i=i
   .rw[if_pos e];exact⟨h,rfl,List.Perm.refl _,H.done b e⟩
   .rw[if_neg e];obtain⟨h',g,j,o⟩:=ih lo (ZmX h i) (Zub h i (ZmX h i)) (by rw[Zqc];exact hb) (by rw[Zqc];exact hl) (H.step b e) (by rw[Zqc];omega);exact⟨h',g,j.trans (ZDW h i _ b hb),o⟩
  .-- no kids: the fuel is small
   have e:=ZAI h i f;refine⟨h,?_,List.Perm.refl _,H.done b e⟩;have fF:Zan (ZiS (2:Int) (i:Int)) (2:Int)=((2*i+2:Nat):Int):=by rw[mul2 (by omega)];exact add2 (k:=2) (by omega) (by omega)
   obtain⟨n,p⟩ : ∃n,((((h.length:Nat):Int)-((2*i+1:Nat):Int)).toNat+2)=n+1:=⟨_,rfl⟩;rw[p];simp only[ZeA,Zah,fF];rw[if_pos (by omega),if_neg (by omega)];simp
theorem ZzP(lo i:Nat)(h:List Itm)(b:i<h.length)(hl:h.length<=900000)(H:HB lo i h):∃h',ZmN h (i:Int)=some h'/\h'.Perm h/\HF lo h':=
 ZHh 1000000 lo i h b (by omega) H (by omega)
theorem ZIS:ZmN [] 0=some []:=by
 have:∀fu,ZiG (fu+1) 0 []=some []:=fun fu=>by
  rw[ZiG];rw[show ((((([]:List Itm).length:Nat):Int)-(Zan (ZiS (2:Int) (0:Int)) (1:Int))).toNat+2)=1+1 from rfl];rfl
 exact this 999999
theorem ZAw(l:List Itm)(h:l.length<=1000000):ZbM l=some l:=by
 unfold ZbM;rw[Zaq ⟨by omega,ZEa h⟩]
theorem ZGo:∀fu (i:Nat) (h:List Itm),i<=h.length / 2->h.length<=900000->HF i h->i<fu->∃h',Zly fu ((i:Int)-1) h=some h'/\h'.Perm h/\HF 0 h':=by
 intro fu;induction fu with
 |zero=>intro _ _ _ _ _ h;omega
 |succ fu ih=>
  intro i h n hl H o;simp only[Zly,Zah];by_cases e:i=0
  .subst e;rw[if_neg (by omega)];exact⟨h,rfl,List.Perm.refl _,H⟩
  .rw[if_pos (by omega)];obtain⟨j,rfl⟩ : ∃j,i=j+1:=⟨i-1,by omega⟩;rw[show ((j+1:Nat):Int)-1=(j:Int)by omega];have HBj:HB j j h:=⟨Nat.le_refl _,fun k b d f g=>H k b d (by omega),fun k b d f g p=>by omega⟩;obtain⟨h',d1,d2,d3⟩:=ZzP j j h (by omega) hl HBj;rw[d1];simp only[Option.bind_some];rw[show ZaJ (j:Int) (1:Int)=(j:Int)-1 from ZcI (by omega) (by omega)];obtain⟨h'',m1,m2,m3⟩:=ih j h' (by rw[d2.length_eq];omega) (by rw[d2.length_eq];exact hl) d3 (by omega);exact⟨h'',m1,m2.trans d2,m3⟩
theorem tdiv2(n:Nat)(h:n<=1000000):IntKind.wrap .i64 (Int.tdiv (n:Int) (2:Int))=((n / 2:Nat):Int):=by
 rw[show Int.tdiv (n:Int) (2:Int)=((n / 2:Nat):Int)by rw[Int.tdiv_eq_ediv_of_nonneg (by omega)];omega];exact ZyV (by omega) (by omega)
theorem ZzO(l:List Itm)(hl:l.length<=900000):∃h,Zlm l=some h/\h.Perm l/\HF 0 h:=by
 simp only[Zlm,ZAw l (by omega),Option.bind_some];rw[tdiv2 _ (by omega),show ZaJ ((l.length / 2:Nat):Int) (1:Int)=((l.length / 2:Nat):Int)-1 from ZcI (by omega) (by omega)];exact ZGo _ (l.length / 2) l (Nat.le_refl _) hl (fun k b d e=>by omega) (by omega)
theorem ZIK{h:List Itm}(H:HF 0 h):∀n k,k<=n->k<h.length->leH (ixH h 0) (ixH h k):=by
 intro n;induction n with
 |zero=>intro k d b;rw[show k=0 by omega];exact Zra _
 |succ n ih=>
  intro k d b;by_cases e:k=0
  .rw[e];exact Zra _
  .exact Zvy (ih ((k-1) / 2) (by omega) (by omega)) (H k (by omega) b (Nat.zero_le _))
theorem ZtW:Zop []=some (⟨0,⟨⟨false,0,0⟩,0⟩⟩,[],false):=rfl
theorem ZDi(h:List Itm)(hl:h.length<=900000)(H:HF 0 h)(hne:h≠[]):∃x r,Zop h=some (x,r,true)/\h.Perm (x :: r)/\HF 0 r/\∀y∈h,leH x y:=by
 have ii:0<h.length:=List.length_pos_iff.2 hne;have es:ZaJ ((h.length:Nat):Int) (1:Int)=((h.length-1:Nat):Int):=by rw[ZcI (by omega) (by omega)];omega
 -- the rest ahead of sinking
 have hx:∀(l:List Itm),(hlp:0<l.length)->l.Perm (ixH l 0 :: (l.set 0 (ixH l (l.length-1))).take (l.length-1)):=by
  intro l hlp;cases l with
  |nil=>simp at hlp
  |cons a t=>
   simp only[ixH,List.getD_cons_zero,List.length_cons,Nat.add_sub_cancel,List.set_cons_zero];rcases t.eq_nil_or_concat with e|⟨t',z,e⟩
   .subst e;simp
   .subst e;simp only[List.concat_eq_append,List.length_append,List.length_singleton];rw[show ((a :: (t'++[z])).getD (t'.length+1) ZaF.d)=z by simp[List.getD_eq_getElem?_getD]];rw[show List.take (t'.length+1) (z :: (t'++[z]))=z :: t' by simp];refine List.Perm.cons a ?_;exact List.perm_append_comm
 have hin:∀y∈h,leH (ixH h 0) y:=by
  intro y n;obtain⟨k,f,b⟩:=List.getElem_of_mem n;have:=ZIK H k k (Nat.le_refl _) f;rw[show ixH h k=y by rw[<-b];exact ZbX h _ k f]at this;exact this
 let r0:=(h.set 0 (ixH h (h.length-1))).take (h.length-1)
 have j5:r0.length=h.length-1:=by simp[r0]
 have hd:∃r,ZmN r0 (0:Int)=some r/\r.Perm r0/\HF 0 r:=by
  by_cases e:h.length=1
  .have:r0=[]:=List.eq_nil_of_length_eq_zero (by omega);rw[this];exact⟨[],ZIS,List.Perm.refl _,fun k _ b=>by simp at b⟩
  .refine ZzP 0 0 r0 (by omega) (by omega) ⟨Nat.le_refl _,fun k f b g o=>?_,fun k f b g o=>by omega⟩;have i:∀j,0<j->j<r0.length->ixH r0 j=ixH h j:=by
    intro j j1 j2;rw[j5]at j2;simp only[ixH,r0,List.getD_eq_getElem?_getD,List.getElem?_take,if_pos j2,List.getElem?_set,if_neg (show ¬0=j by omega)]
   rw[i k f b,i _ (by omega) (by omega)];exact H k f (by rw[j5]at b;omega) g
 obtain⟨r,d1,d2,d3⟩:=hd;refine⟨ixH h 0,r,?_,(hx h ii).trans (List.Perm.cons _ d2.symm),d3,hin⟩;simp only[Zop];rw[show (((h.length:Nat):Int)==(0:Int))=false by rw[beq_eq_false_iff_ne];omega,cond_false,ZAw h (by omega)];simp only[Option.bind_some,es,Int.toNat_natCast];rw[Zaq ⟨by omega,by omega⟩,Zaq ⟨by omega,by omega⟩,Zaq ⟨by omega,by omega,by omega⟩,Zaq (by simp)];rw[show (h.set ((0:Int).toNat) (h.getD (h.length-1) ZaF.d)).take (h.length-1)=r0 from rfl,d1];simp only[Option.bind_some];rw[Zaq ⟨by omega,by omega⟩];rfl
def outP(p:Zaa):Bool:=!p.fIn
def outE(e:Zab):Bool:=e.fState==2
def gsP(l:List Zaa):List Zaj:=(l.filter outP).map fun p=>grp p.fEnd.fAddr
def gsE(l:List Zab):List Zaj:=(l.filter outE).map fun e=>grp e.fEnd.fAddr
theorem ZFw(n:Nat)(h:n<999999):n * 32<=140737488355328/\n<=maxLen:=⟨by omega,by unfold maxLen;omega⟩
theorem ZGB(l:List Zab):(gsE l).length<=l.length:=by simp only[gsE,List.length_map];exact List.length_filter_le _ _
theorem ZGA(l:List Zaa):(gsP l).length<=l.length:=by simp only[gsP,List.length_map];exact List.length_filter_le _ _
theorem ZDl(l:List Zab)(i:Nat)(h:i<l.length):gsE (l.drop i)=(if outE (l.getD i Zab.d)then[grp (l.getD i Zab.d).fEnd.fAddr]else[])++gsE (l.drop (i+1)):=by
 rw[Zex l Zab.d i h];unfold gsE;generalize l.getD i Zab.d=e;cases b:outE e<;>simp[b]
theorem ZDk(l:List Zaa)(i:Nat)(h:i<l.length):gsP (l.drop i)=(if outP (l.getD i Zaa.d)then[grp (l.getD i Zaa.d).fEnd.fAddr]else[])++gsP (l.drop (i+1)):=by
 rw[Zex l Zaa.d i h];unfold gsP;generalize l.getD i Zaa.d=e;cases b:outP e<;>simp[b]
theorem ZIa(es:List Zab)(ff:es.length<=1000)(az:∀e∈es,e.ok)(v10:List Zaa)(lC v12:Int)(k:List Zaa->Int->Int->List Zaj->Option (List Zaj)) :
  ∀fu (i:Nat) (w:List Zaj),i<=es.length->es.length-i<fu->w.length<=1000+i ->
   ZhM es v10 lC v12 k fu es (es.length:Int) (i:Int) w=(ZjI (w++gsE (es.drop i))).bind ZbZ:=by
 have b:es.length<=maxLen:=by unfold maxLen;omega
 intro fu;induction fu with
 |zero=>intro _ _ _ h;omega
 |succ fu ih=>
  intro i w g j n;simp only[ZhM,Zah];by_cases h:i<es.length
  .rw[if_pos (by omega),Zaq ⟨by omega,by omega⟩,ZDl es i h];simp only[Int.toNat_natCast];have cz:=az _ (ZeD es Zab.d i h);cases f:outE (es.getD i Zab.d)
   .have bV:((es.getD i Zab.d).fState==(2:Int))=false:=f;rw[bV,cond_false,add1 h b,ih (i+1) w (by omega) (by omega) (by omega)];simp
   .have bV:((es.getD i Zab.d).fState==(2:Int))=true:=f;rw[bV,cond_true,Zpa _ cz.1.1];simp only[Option.bind_some];rw[Zaq (ZFw _ (by simp;omega)),add1 h b,ih (i+1) _ (by omega) (by omega) (by simp;omega)];simp
  .have e:i=es.length:=by omega
   rw[if_neg (by omega),e,List.drop_length];simp[gsE]
theorem ZFp(ps:List Zaa)(es:List Zab)(bC:ps.length<=1000)(ff:es.length<=1000)(cY:∀p∈ps,p.ok)(az:∀e∈es,e.ok) :
  ∀fu (i:Nat) (w:List Zaj),i<=ps.length->ps.length-i<fu->w.length<=i ->
   Zfu es fu ps (ps.length:Int) (i:Int) w=(ZjI (w++gsP (ps.drop i)++gsE es)).bind ZbZ:=by
 have b:ps.length<=maxLen:=by unfold maxLen;omega
 intro fu;induction fu with
 |zero=>intro _ _ _ h;omega
 |succ fu ih=>
  intro i w g j n;simp only[Zfu,Zah];by_cases h:i<ps.length
  .rw[if_pos (by omega),Zaq ⟨by omega,by omega⟩,ZDk ps i h];simp only[Int.toNat_natCast];have cz:=cY _ (ZeD ps Zaa.d i h);cases f:outP (ps.getD i Zaa.d)
   .have bV:(!(ps.getD i Zaa.d).fIn)=false:=f;rw[bV,cond_false,add1 h b,ih (i+1) w (by omega) (by omega) (by omega)];simp
   .have bV:(!(ps.getD i Zaa.d).fIn)=true:=f;rw[bV,cond_true,Zpa _ cz.1.1];simp only[Option.bind_some];rw[Zaq (ZFw _ (by simp;omega)),add1 h b,ih (i+1) _ (by omega) (by omega) (by simp;omega)];simp
  .have e:i=ps.length:=by omega
   rw[if_neg (by omega),e,List.drop_length];have:=ZIa es ff az ps (ps.length:Int) (ps.length:Int) (Zfu es fu) ((((es.length:Nat):Int)-(0:Int)).toNat+2) 0 w (by omega) (by omega) (by omega);simp only[Int.natCast_zero,List.drop_zero]at this;rw[this];simp[gsP]
theorem Zzg(ps:List Zaa)(es:List Zab)(bC:ps.length<=1000)(ff:es.length<=1000)(cY:∀p∈ps,p.ok)(az:∀e∈es,e.ok) :
  ∃L,ZnE ps es=some L/\Srt L/\∀x,x∈L↔x∈gsP ps++gsE es:=by
 have h:=ZFp ps es bC ff cY az ((((ps.length:Nat):Int)-(0:Int)).toNat+2) 0 [] (by omega) (by omega) (by simp);simp only[Int.natCast_zero,List.drop_zero,List.nil_append]at h;unfold ZnE;rw[h];refine ZIb _ ?_;have:=ZGB es;have:=ZGA ps;simp only[List.length_append];omega
theorem ZAs(l:List Zaj)(e:Zaj)(hl:l.length<=maxLen):ZeE l e=some (l.contains e):=by
 simp only[ZeE,Zib];have:=ZrG l Zaj.d (fun x=>decide (e=x)) hl (fun fu i=>Zcx l fu (l.length:Int) i e) (fun i=>i) (fun fu i n=>by
   simp only[Zcx,Zah];rw[if_pos (by omega),Zaq ⟨by omega,by omega⟩];simp) (fun fu=>by
   simp only[Zcx,Zah];rw[if_neg (by omega)]) ((((l.length:Nat):Int)-(0:Int)).toNat+2) 0 (by omega) (by omega)
 simp only[Int.natCast_zero,List.drop_zero]at this;rw[this];simp only[Option.bind_some,Option.some.injEq];rw[Bool.eq_iff_iff,decide_eq_true_eq,List.contains_iff_mem];have f:=ZoX (fun x=>decide (e=x)) l 0;constructor
 .intro h;obtain⟨k,b,_,⟨x,g,j⟩,_⟩:=ZoW _ l 0 h;rw[of_decide_eq_true j];exact List.mem_of_getElem? g
 .intro h;apply Int.not_lt.1;intro b;have:=f.1 b e h;simp at this
theorem ZzC{α:Type}[DecidableEq α]:∀(L l:List α),L.Nodup->(∀x∈L,x∈l)->L.length<=l.length
 | [],_,_,_=>by simp
 |a :: r,l,f,b=>by
  have dl:=List.nodup_cons.1 f
  have d:=b a (by simp)
  have:=ZzC r (l.erase a) dl.2 fun x hx=>(List.mem_erase_of_ne (show x≠a from fun e=>dl.1 (e ▸ hx))).2 (b x (by simp[hx]))
  have:=List.length_erase_of_mem d
  have:=List.length_pos_of_mem d
  simp only[List.length_cons]
  omega
theorem ZJJ{L:List Zaj}(b:Srt L){l:List Zaj}(h:∀x,x∈L↔x∈l):L.length<=l.length:=
 ZzC L l b.nodup fun x hx=>(h x).1 hx
theorem ZuW(ps:List Zaa)(es:List Zab)(a:Zaf)(bC:ps.length<=1000)(ff:es.length<=1000)(cY:∀p∈ps,p.ok)(az:∀e∈es,e.ok)(b:a.ok) :
  Zpc ps es a=some (Zdc a && !decide (grp a∈gsP ps++gsE es)):=by
 obtain⟨L,f,g,d⟩:=Zzg ps es bC ff cY az;have hl:L.length<=2000:=by
  have:=ZJJ g d;have:=ZGB es;have:=ZGA ps;simp only[List.length_append]at *
  omega
 simp only[Zpc,Zki a b,f,Zpa a b,Option.bind_some,ZAs L _ (by unfold maxLen;omega)];cases Zdc a
 .rfl
 .simp only[cond_true,Bool.true_and,Option.some.injEq];congr 1;rw[Bool.eq_iff_iff,decide_eq_true_eq,List.contains_iff_mem,d]
def bitA(a:Zaf)(j:Nat):Int:=if a.fV6 then a.fHi / 2 ^ (63-j) % 2 else a.fLo / 2 ^ (31-j) % 2
theorem ZJC(n k:Nat)(h:k<64)(b:n<2 ^ 64):IntKind.i64.wrap (IntKind.u64.wrap (((BitVec.ofInt (IntKind.bits .u64) (Int.fdiv (n:Int) (2 ^ (min (IntKind.u64.wrap (k:Int)).toNat (IntKind.bits .u64))))) &&& (BitVec.ofInt (IntKind.bits .u64) (1:Int))).toNat:Int))=(n:Int) / 2 ^ k % 2:=by
 have d:(IntKind.u64.wrap (k:Int)).toNat=k:=by rw[ZhF (by omega) (by omega)];rfl
 rw[d,show min k (IntKind.bits .u64)=k from Nat.min_eq_left (by simp[IntKind.bits];omega)];have e:Int.fdiv (n:Int) (2 ^ k)=((n / 2 ^ k:Nat):Int):=by
  rw[Int.fdiv_eq_ediv_of_nonneg _ (by have:(0:Int)<2 ^ k:=Int.pow_pos (by omega);omega)];simp
 have f:n / 2 ^ k<2 ^ 64:=Nat.lt_of_le_of_lt (Nat.div_le_self _ _) b;rw[e,show (1:Int)=((1:Nat):Int)from rfl,ZyS _ 1 f (by omega),Nat.and_one_is_mod];have i:n / 2 ^ k % 2<2:=Nat.mod_lt _ (by omega);have g:IntKind.i64.wrap ((n / 2 ^ k % 2:Nat):Int)=((n / 2 ^ k % 2:Nat):Int):=by
  simp only[IntKind.wrap,IntKind.bits,IntKind.signed];simp;omega
 rw[g];simp
theorem ZJB(a:Zaf)(h:a.ok)(j:Nat)(b:j<if a.fV6 then 32 else 16):Zby a (j:Int)=some (bitA a j):=by
 obtain⟨v,o,lo⟩:=a;obtain⟨_,d,f,_⟩:=h;have d:=ZjB d;have f:=ZjB f;simp only at d f;obtain⟨n,g⟩:=ZjH d.1;obtain⟨m,i⟩:=ZjH f.1;subst g i;cases v with
 |false=>
  have b:j<16:=by simpa using b
  have e:ZaJ (31:Int) (j:Int)=((31-j:Nat):Int):=by rw[ZcI (by omega) (by omega)];omega
  simp only[Zby,ZbK,ZcF,Zah,Option.bind_some,cond_false,Bool.not_false,cond_true,e];rw[if_neg (by omega),if_neg (by omega),Zaq (by rw[ZhF (by omega) (by omega)];omega),ZJC m (31-j) (by omega) (by omega)];simp[bitA]
 |true=>
  have b:j<32:=by simpa using b
  have et:Int.tmod (j:Int) 64=(j:Int):=by rw[Int.tmod_eq_emod_of_nonneg (by omega)];omega
  have e:ZaJ (63:Int) (j:Int)=((63-j:Nat):Int):=by rw[ZcI (by omega) (by omega)];omega
  simp only[Zby,ZbK,ZcF,Zah,Option.bind_some,cond_false,Bool.not_true,cond_true,et,e];rw[if_neg (by omega),if_neg (by omega),if_pos (by omega),Zaq (by rw[ZhF (by omega) (by omega)];omega),ZJC n (63-j) (by omega) (by omega)];simp[bitA]
theorem ZzM(n m t b:Nat)(hb:b<=t)(d:n<2 ^ t)(f:m<2 ^ t):(∀j,j<b->n / 2 ^ (t-1-j) % 2=m / 2 ^ (t-1-j) % 2)↔n / 2 ^ (t-b)=m / 2 ^ (t-b):=by
 constructor
 .intro h;apply Nat.eq_of_testBit_eq;intro i;rw[Nat.testBit_div_two_pow,Nat.testBit_div_two_pow];by_cases g:i<b
  .have:=h (b-1-i) (by omega);rw[show t-1-(b-1-i)=i+(t-b)by omega]at this;rw[Nat.testBit_eq_decide_div_mod_eq,Nat.testBit_eq_decide_div_mod_eq,this]
  .rw[Nat.testBit_lt_two_pow (Nat.lt_of_lt_of_le d (Nat.pow_le_pow_right (by omega) (by omega))),Nat.testBit_lt_two_pow (Nat.lt_of_lt_of_le f (Nat.pow_le_pow_right (by omega) (by omega)))]
 .intro h j o;have e:2 ^ (t-1-j)=2 ^ (t-b) * 2 ^ (b-1-j):=by rw[<-Nat.pow_add];congr 1;omega
  rw[e,<-Nat.div_div_eq_div_mul,<-Nat.div_div_eq_div_mul,h]
theorem ZFB(a b:Zaf)(u:a.ok)(hb:b.ok)(v:a.fV6=b.fV6):∀fu (i:Nat),i<=32->32-i<fu ->
  ∃r,ZbQ fu (i:Int) a b=some r/\(r=true↔∀j,i<=j->j<(if a.fV6 then 32 else 16)->bitA a j=bitA b j):=by
 intro fu;induction fu with
 |zero=>intro _ _ h;omega
 |succ fu ih=>
  intro i B C;simp only[ZbQ,Zah];by_cases h:i<32
  .rw[if_pos (by omega)];have iC:Zan (i:Int) 1=((i+1:Nat):Int):=add1 (n:=32) h (by unfold maxLen;omega);rw[iC];obtain⟨r,t,p⟩:=ih (i+1) (by omega) (by omega);by_cases d:i<(if a.fV6 then 32 else 16)
   .have y:=ZJB a u i d;have z:=ZJB b hb i (by rw[<-v];exact d);have step:∃r,((Zby a (i:Int)).bind fun x3=>(Zby b (i:Int)).bind fun x4=>bif(x3 != x4)then some false else ZbQ fu ((i+1:Nat):Int) a b)=some r/\(r=true↔∀j,i<=j->j<(if a.fV6 then 32 else 16)->bitA a j=bitA b j):=by
     rw[y,z];simp only[Option.bind_some];by_cases g:bitA a i=bitA b i
     .rw[show (bitA a i != bitA b i)=false by simp[g],cond_false];refine⟨r,t,p.trans ⟨fun q j o e=>?_,fun q j o e=>q j (by omega) e⟩⟩;by_cases A:j=i
      .subst A;exact g
      .exact q j (by omega) e
     .rw[show (bitA a i != bitA b i)=true by simp[g],cond_true];exact⟨false,rfl,by simp;exact⟨i,Nat.le_refl _,d,g⟩⟩
    cases f:a.fV6
    .rw[f]at d;have d:i<16:=by simpa using d
     simp only[cond_false];rw[if_pos (by omega)];rw[f]at step;exact step
    .simp only[cond_true];rw[f]at step;exact step
   .cases f:a.fV6
    .rw[f]at d p;have d:16<=i:=by simpa using d
     simp only[cond_false];rw[if_neg (by omega)];refine⟨r,t,p.trans ⟨fun q j o e=>?_,fun q j o e=>q j (by omega) e⟩⟩;have:j<16:=by simpa using e
     omega
    .rw[f]at d;exact absurd h (by simpa using d)
  .rw[if_neg (by omega)];refine⟨true,rfl,by simp;intro j o e;split at e<;>omega⟩
theorem ZCC(a b:Zaf)(i:a.ok)(hb:b.ok)(d:Zdc b=true):ZfA a b=some (decide (grp a=grp b)):=by
 have t:=ZFB a b i hb;simp only[ZfA,ZjG a i,ZjG b hb,d,Option.bind_some,Bool.not_true,cond_false];cases hra:Zdc a with
 |false=>
  simp only[Bool.not_false,cond_true,Option.some.injEq];rw[eq_comm,decide_eq_false_iff_not];unfold grp;rw[hra,d];intro e;have:=congrArg Zaj.fBits e;simp only[Bool.false_eq_true,if_false,if_true]at this;split at this<;>simp at this
 |true=>
  simp only[Bool.not_true,cond_false];by_cases f:a.fV6=b.fV6
  .rw[show (!(a.fV6==b.fV6))=false by simp[f],cond_false];obtain⟨r,g,o⟩:=t f (((32:Int)-(0:Int)).toNat+2) 0 (by omega) (by omega);have g:ZbQ (((32:Int)-(0:Int)).toNat+2) 0 a b=some r:=g;rw[g,Option.some.injEq,Bool.eq_iff_iff,o,decide_eq_true_eq];obtain⟨v,z,lo⟩:=a;obtain⟨v',ce,j7⟩:=b;simp only at f;subst f;have iC:=ZjB i.2.1;have ha2:=ZjB i.2.2.1;have bB:=ZjB hb.2.1;have bu:=ZjB hb.2.2.1;simp only at iC ha2 bB bu;obtain⟨n,u⟩:=ZjH iC.1;obtain⟨m,y⟩:=ZjH ha2.1;obtain⟨n',dl⟩:=ZjH bB.1;obtain⟨m',fK⟩:=ZjH bu.1;subst u y dl fK;cases v with
   |false=>
    have A:(n:Int)=0/\(m:Int)<4294967296:=by simpa[Zdc]using hra
    have B:(n':Int)=0/\(m':Int)<4294967296:=by simpa[Zdc]using d
    have hb:=ZzM m m' 32 16 (by omega) (by omega) (by omega);simp only[grp,hra,d,if_true,Bool.false_eq_true,if_false,Zaj.mk.injEq,Zaf.mk.injEq,true_and,and_true];have e:(∀j,0<=j->j<16->bitA ⟨false,n,m⟩ j=bitA ⟨false,n',m'⟩ j)↔∀j,j<16->m / 2 ^ (32-1-j) % 2=m' / 2 ^ (32-1-j) % 2:=by
     constructor
     .intro q j h;have:=q j (by omega) h;simp only[bitA,Bool.false_eq_true,if_false]at this;rw[show 32-1-j=31-j by omega]
      exact_mod_cast this
     .intro q j _ h;have:=q j h;rw[show 32-1-j=31-j by omega]at this;simp only[bitA,Bool.false_eq_true,if_false]
      exact_mod_cast this
    rw[e,hb];rw[show (2:Nat) ^ (32-16)=65536 from rfl];constructor<;>intro q<;>omega
   |true=>
    have hb:=ZzM n n' 64 32 (by omega) (by omega) (by omega);simp only[grp,hra,d,if_true,Bool.false_eq_true,if_false,Zaj.mk.injEq,Zaf.mk.injEq,true_and,and_true];have e:(∀j,0<=j->j<32->bitA ⟨true,n,m⟩ j=bitA ⟨true,n',m'⟩ j)↔∀j,j<32->n / 2 ^ (64-1-j) % 2=n' / 2 ^ (64-1-j) % 2:=by
     constructor
     .intro q j h;have:=q j (by omega) h;simp only[bitA,if_true]at this;rw[show 64-1-j=63-j by omega]
      exact_mod_cast this
     .intro q j _ h;have:=q j h;rw[show 64-1-j=63-j by omega]at this;simp only[bitA,if_true]
      exact_mod_cast this
    rw[e,hb];rw[show (2:Nat) ^ (64-32)=4294967296 from rfl];constructor<;>intro q<;>omega
  .rw[show (!(a.fV6==b.fV6))=true by simp[f],cond_true,Option.some.injEq,eq_comm,decide_eq_false_iff_not];unfold grp;rw[hra,d];intro e;have p:=congrArg (fun x:Zaj=>x.fAddr.fV6) e;simp only[if_true]at p;apply f;cases g:a.fV6<;>cases o:b.fV6<;>simp[g,o]at p ⊢
theorem ZIg(ps:List Zaa)(es:List Zab)(ff:es.length<=1000)(az:∀e∈es,e.ok)(a:Zaf)(j:a.ok)(n:Zdc a=true)(v7:Int)(k:Int->Zaf->Option Bool):∀fu (i:Nat),i<=es.length->es.length-i<fu ->
  ZcK ps es v7 a k fu (i:Int)=some (!decide (grp a∈gsE (es.drop i))):=by
 have o:es.length<=maxLen:=by unfold maxLen;omega
 intro fu;induction fu with
 |zero=>intro _ _ h;omega
 |succ fu ih=>
  intro i p r;simp only[ZcK,Zah];by_cases h:i<es.length
  .rw[if_pos (by omega),Zaq ⟨by omega,by omega⟩,ZDl es i h];simp only[Int.toNat_natCast];have cz:=az _ (ZeD es Zab.d i h);rw[add1 h o,ih (i+1) (by omega) (by omega)];cases f:outE (es.getD i Zab.d)
   .have bV:((es.getD i Zab.d).fState==(2:Int))=false:=f;rw[bV,cond_false];simp
   .have bV:((es.getD i Zab.d).fState==(2:Int))=true:=f;rw[bV,cond_true,ZCC _ _ cz.1.1 j n];simp only[Option.bind_some,Zah,if_true,List.mem_append,List.mem_singleton];generalize grp (es.getD i Zab.d).fEnd.fAddr=g;by_cases b:g=grp a
    .rw[if_pos b];simp[b]
    .rw[if_neg b];simp[Ne.symm b]
  .have e:i=es.length:=by omega
   rw[if_neg (by omega),e,List.drop_length];simp[gsE]
theorem ZFG(ps:List Zaa)(es:List Zab)(bC:ps.length<=1000)(ff:es.length<=1000)(cY:∀p∈ps,p.ok)(az:∀e∈es,e.ok)(a:Zaf)(f:a.ok)(j:Zdc a=true):∀fu (i:Nat),i<=ps.length->ps.length-i<fu ->
  ZbO ps es fu (i:Int) a=some (!decide (grp a∈gsP (ps.drop i)++gsE es)):=by
 have o:ps.length<=maxLen:=by unfold maxLen;omega
 intro fu;induction fu with
 |zero=>intro _ _ h;omega
 |succ fu ih=>
  intro i r t;simp only[ZbO,Zah];by_cases h:i<ps.length
  .rw[if_pos (by omega),Zaq ⟨by omega,by omega⟩,ZDk ps i h];simp only[Int.toNat_natCast];have cz:=cY _ (ZeD ps Zaa.d i h);rw[add1 h o,ih (i+1) (by omega) (by omega)];cases n:outP (ps.getD i Zaa.d)
   .have bV:(!(ps.getD i Zaa.d).fIn)=false:=n;rw[bV,cond_false];simp
   .have bV:(!(ps.getD i Zaa.d).fIn)=true:=n;rw[bV,cond_true,ZCC _ _ cz.1.1 f j];simp only[Option.bind_some,Zah,if_true,List.mem_append,List.mem_singleton];generalize grp (ps.getD i Zaa.d).fEnd.fAddr=g;by_cases b:g=grp a
    .rw[if_pos b];simp[b]
    .rw[if_neg b];simp[Ne.symm b]
  .have e:i=ps.length:=by omega
   rw[if_neg (by omega),e,List.drop_length];have:=ZIg ps es ff az a f j (ps.length:Int) (ZbO ps es fu) ((((es.length:Nat):Int)-(0:Int)).toNat+2) 0 (by omega) (by omega);simp only[Int.natCast_zero,List.drop_zero]at this;rw[this];simp[gsP]
theorem ZIr(ps:List Zaa)(es:List Zab)(a:Zaf)(bC:ps.length<=1000)(ff:es.length<=1000)(cY:∀p∈ps,p.ok)(az:∀e∈es,e.ok)(b:a.ok) :
  ZgK ps es a=some (Zdc a && !decide (grp a∈gsP ps++gsE es)):=by
 simp only[ZgK,ZjG a b,Option.bind_some];cases d:Zdc a
 .rfl
 .have:=ZFG ps es bC ff cY az a b d ((((ps.length:Nat):Int)-(0:Int)).toNat+2) 0 (by omega) (by omega);simp only[Int.natCast_zero,List.drop_zero]at this;simp only[Bool.not_true,cond_false,Bool.true_and];exact this
def conn(l:List Zaa)(e:Zai):Bool:=l.any fun p=>decide (p.fEnd=e)
theorem ZHr(l:List Zaa)(e:Zai)(hl:l.length<=maxLen):∀fu (i:Nat),i<=l.length->l.length-i<fu->Zga fu l (l.length:Int) (i:Int) e=some (conn (l.drop i) e):=by
 intro fu;induction fu with
 |zero=>intro _ _ h;omega
 |succ fu ih=>
  intro i b f;simp only[Zga,Zah];by_cases h:i<l.length
  .rw[if_pos (by omega),Zaq ⟨by omega,by omega⟩,Zex l Zaa.d i h];simp only[Int.toNat_natCast];rw[add1 h hl,ih (i+1) (by omega) (by omega)];rw[show ∀(x:Zaa) r,conn (x :: r) e=(decide (x.fEnd=e)||conn r e)from fun _ _=>rfl];by_cases q:(l.getD i Zaa.d).fEnd=e
   .rw[if_pos q,decide_eq_true q];rfl
   .rw[if_neg q,decide_eq_false q];rfl
  .rw[if_neg (by omega),List.drop_eq_nil_of_le (by omega)];rfl
theorem ZAp(v:Zbs)(e:Zai)(hl:v.fPeers.length<=maxLen):Zjg v e=some (conn v.fPeers e):=by
 have:=ZHr v.fPeers e hl ((((v.fPeers.length:Nat):Int)-(0:Int)).toNat+2) 0 (by omega) (by omega);simpa[Zjg]using this
structure Zry (v:Zbs):Prop where
 book:v.fBook.length<=900
 peers:v.fPeers.length<=900
 bans:v.fBans.length<=900
 bookOk:∀e∈v.fBook,e.ok
 peersOk:∀p∈v.fPeers,p.ok
 bansOk:∀b∈v.fBans,b.ok
def ZIP(v:Zbs)(a:Zaf):Bool:=Zdc a && !decide (grp a∈gsP v.fPeers++gsE v.fBook)
def Zuc(v:Zbs)(e:Zai)(ag:Int):Bool:=(Zhe v e ag).getD false
theorem ZHn{v:Zbs}(h:Zry v)(e:Zai)(b:e.ok)(ag:Int):Zhe v e ag=some (Zuc v e ag) /\
  (Zuc v e ag=true->conn v.fPeers e=false/\Zwy v.fBans e.fAddr ag 0/\ZIP v e.fAddr=true):=by
 obtain⟨r,u1,u2⟩:=ZxN v.fBans e.fAddr ag (by have:=h.bans;unfold maxLen;omega) h.bansOk b.1;have d:=ZuW v.fPeers v.fBook e.fAddr (by have:=h.peers;omega) (by have:=h.book;omega) h.peersOk h.bookOk b.1;have ay:Zhe v e ag=some (!conn v.fPeers e&&(r==0)&&ZIP v e.fAddr):=by
  simp only[Zhe,ZAp v e (by have:=h.peers;unfold maxLen;omega),u1,d,Option.bind_some];cases conn v.fPeers e
  .simp only[Bool.not_false,cond_true,Bool.true_and];cases(r==(0:Int))
   .rfl
   .simp only[cond_true,Bool.true_and];rfl
  .rfl
 refine⟨by unfold Zuc;rw[ay];rfl,fun ho=>?_⟩;unfold Zuc at ho;rw[ay]at ho;simp only[Option.getD_some,Bool.and_eq_true,Bool.not_eq_true',beq_iff_eq]at ho;refine⟨ho.1.1,?_,ho.2⟩;rw[<-ho.1.2];exact u2
def dueS(e:Zab)(ag:Int):Bool:=(e.fState==1)&&decide (e.fNext<=ag)
theorem ZHc(e:Zab)(ag:Int):ZrR e ag=some (dueS e ag):=by
 simp only[ZrR,dueS];cases(e.fState==(1:Int))<;>rfl
theorem ZJU(e:Zab)(ag:Int):Zhq e ag=some (dueS e ag):=by
 simp only[Zhq,dueS];cases(e.fState==(1:Int))<;>rfl
def ZCW(ag:Int)(e:Zab):Bool:=Znt e&&dueS e ag
def Ziy(e:Zab):Itm:=⟨e.fNext,e.fEnd⟩
def Zmf(l:List Zab)(ag:Int):List Itm:=(l.filter (ZCW ag)).map Ziy
theorem ZEv(l:List Zab)(ag:Int)(hl:l.length<=900)(az:∀e∈l,e.ok):∀fu (i:Nat) (w:List Itm),i<=l.length->l.length-i<fu->w.length<=i ->
  Zds ag fu l (l.length:Int) (i:Int) w=(Zlm (w++Zmf (l.drop i) ag)).bind fun x=>some x:=by
 have b:l.length<=maxLen:=by unfold maxLen;omega
 intro fu;induction fu with
 |zero=>intro _ _ _ h;omega
 |succ fu ih=>
  intro i w g j n;simp only[Zds,Zah];by_cases h:i<l.length
  .rw[if_pos (by omega),Zaq ⟨by omega,by omega⟩,Zex l Zab.d i h];simp only[Int.toNat_natCast];have cz:=az _ (ZeD l Zab.d i h);rw[add1 h b,ih (i+1) w (by omega) (by omega) (by omega),Zwg _ cz];simp only[Option.bind_some,ZsF,ZHc];rw[Zaq ⟨by simp;omega,by unfold maxLen;simp;omega⟩,ih (i+1) _ (by omega) (by omega) (by simp;omega)];generalize l.getD i Zab.d=e;have f:Zmf (e :: l.drop (i+1)) ag=(if ZCW ag e then[Ziy e]else[])++Zmf (l.drop (i+1)) ag:=by
    unfold Zmf;cases q:ZCW ag e<;>simp[q]
   rw[f];unfold ZCW;cases Znt e
   .simp
   .cases dueS e ag
    .simp
    .simp[Ziy]
  .rw[if_neg (by omega),List.drop_eq_nil_of_le (by omega)];simp[Zmf]
theorem ZEU{v:Zbs}(h:Zry v)(ag:Int):∃L,Zjf v ag=some L/\L.Perm (Zmf v.fBook ag)/\HF 0 L:=by
 have:=ZEv v.fBook ag h.book h.bookOk ((((v.fBook.length:Nat):Int)-(0:Int)).toNat+2) 0 [] (by omega) (by omega) (by simp);simp only[Int.natCast_zero,List.drop_zero,List.nil_append]at this;unfold Zjf;rw[this];obtain⟨L,b,d,e⟩:=ZzO (Zmf v.fBook ag) (by
  have:(Zmf v.fBook ag).length<=v.fBook.length:=by simp only[Zmf,List.length_map];exact List.length_filter_le _ _
  have:=h.book;omega)
 exact⟨L,by rw[b];rfl,d,e⟩
def zE:Zai:=⟨⟨false,0,0⟩,0⟩
def ZxL(v:Zbs)(ag:Int)(L:List Itm)(e:Zai)(ok:Bool):Prop:=(ok=true/\∃x∈L,x.fEnd=e/\Zuc v e ag=true/\∀y∈L,Zuc v y.fEnd ag=true->leH x y)\/(ok=false/\e=zE/\∀y∈L,Zuc v y.fEnd ag=false)
theorem ZxL.perm{v:Zbs}{ag:Int}{L L':List Itm}{e:Zai}{ok:Bool}(h:ZxL v ag L e ok)(b:∀x,x∈L'↔x∈L):ZxL v ag L' e ok:=by
 rcases h with⟨d,x,f,g,j,n⟩|⟨d,f,g⟩
 .exact .inl ⟨d,x,(b x).2 f,g,j,fun y i=>n y ((b y).1 i)⟩
 .exact .inr ⟨d,f,fun y i=>g y ((b y).1 i)⟩
theorem ZGa{v:Zbs}(h:Zry v)(ag:Int)(z:Zai):∀fu (L:List Itm),L.length<fu->L.length<=900->HF 0 L->(∀x∈L,x.fEnd.ok)->∃e ok,Zlz ag fu L v z=some (e,ok)/\ZxL v ag L e ok:=by
 intro fu;induction fu with
 |zero=>intro _ h;omega
 |succ fu ih=>
  intro L B hl H az;simp only[Zlz];by_cases n:L=[]
  .subst n;rw[ZtW];exact⟨zE,false,rfl,.inr ⟨rfl,rfl,by simp⟩⟩
  .obtain⟨x,r,p1,p2,p3,p4⟩:=ZDi L (by omega) H n;rw[p1];simp only[Option.bind_some,Bool.not_true,cond_false];have hx:x∈L:=p2.mem_iff.2 (by simp);have hlr:L.length=r.length+1:=by simpa using p2.length_eq
   rw[(ZHn h x.fEnd (az x hx) ag).1];simp only[Option.bind_some];cases ho:Zuc v x.fEnd ag with
   |true=>
    simp only[cond_true];exact⟨x.fEnd,true,rfl,.inl ⟨rfl,x,hx,rfl,ho,fun y b _=>p4 y b⟩⟩
   |false=>
    simp only[cond_false];obtain⟨e,ok,o,p⟩:=ih r (by omega) (by omega) p3 fun y b=>az y (p2.mem_iff.2 (by simp[b]));refine⟨e,ok,o,?_⟩;have d:∀y,y∈L↔y=x\/y∈r:=fun y=>by rw[p2.mem_iff];simp
    rcases p with⟨f,y,g,i,u,A⟩|⟨f,g,i⟩
    .refine .inl ⟨f,y,(d y).2 (.inr g),i,u,fun t j lE=>?_⟩;rcases(d t).1 j with e1|e1
     .subst e1;rw[ho]at lE;cases lE
     .exact A t e1 lE
    .refine .inr ⟨f,g,fun t j=>?_⟩;rcases(d t).1 j with e1|e1
     .subst e1;exact ho
     .exact i t e1
theorem ZHm{v:Zbs}(h:Zry v)(ag:Int):∃e ok,Zpx v ag=some (e,ok)/\ZxL v ag (Zmf v.fBook ag) e ok:=by
 obtain⟨L,l1,l2,l3⟩:=ZEU h ag;have hlen:(Zmf v.fBook ag).length<=v.fBook.length:=by simp only[Zmf,List.length_map];exact List.length_filter_le _ _
 have hb:=h.book;obtain⟨e,ok,b,d⟩:=ZGa h ag zE 1000000 L (by rw[l2.length_eq];omega) (by rw[l2.length_eq];omega) l3 fun x hx=>by
  have:=l2.mem_iff.1 hx;simp only[Zmf,List.mem_map,List.mem_filter]at this;obtain⟨a,⟨f,_⟩,rfl⟩:=this;exact(h.bookOk a f).1
 refine⟨e,ok,?_,d.perm fun x=>l2.mem_iff.symm⟩;simp only[Zpx,l1,Option.bind_some];rw[show (Zai.mk (Zaf.mk false (0:Int) (0:Int)) (0:Int))=zE from rfl];exact b
def mayS(v:Zbs)(ag:Int)(x:Zab):Bool:=Znt x&&dueS x ag&&Zuc v x.fEnd ag
def dblN:Nat->Int->Int|0,x=>x|k+1,x=>dblN k (fitI (2*x))
theorem ZAr:∀k,dblN k 0=0
 | 0=>rfl
 |k+1=>by show dblN k (fitI (2 * 0))=0;exact ZAr k
theorem ZDy:∀k,dblN k 1099511627776=1099511627776
 | 0=>rfl
 |k+1=>by show dblN k (fitI (2 * 1099511627776))=_;exact ZDy k
theorem ZKm{x:Int}(h0:0<=x)(b:x<=1099511627776):fitI x=x:=by
 unfold fitI;rw[if_neg (by omega),if_neg (by omega)]
theorem ZxS:∀(j:Nat)(x:Int)(n fu:Nat),n<=1000000->0<=x->x<=1099511627776->(x=0\/1099511627776<=x * 2 ^ j)->(1099511627776-x).toNat+1<=fu->ZjN fu x (n:Int)=some (dblN (min n j) x):=by
 intro j;induction j with
 |zero=>
  intro x n fu _ h0 d h2 e;obtain⟨fu,rfl⟩ : ∃y,fu=y+1:=⟨fu-1,by omega⟩;unfold ZjN;simp only[Zah];rw[Nat.min_zero];have fv:x=0\/1099511627776<=x:=by simpa using h2
  split
  .split
   .rw[if_neg (by omega)];rfl
   .rfl
  .rfl
 |succ j ih=>
  intro x n fu g h0 d h2 e;obtain⟨fu,rfl⟩ : ∃y,fu=y+1:=⟨fu-1,by omega⟩;unfold ZjN;simp only[Zah];cases n with
  |zero=>rw[if_neg (by omega),Nat.zero_min];rfl
  |succ n=>
   rw[if_pos (by omega)];have cR:min (n+1) (j+1)=min n j+1:=by omega
   rw[cR];by_cases hx:x>0
   .rw[if_pos hx];by_cases b:x<1099511627776
    .rw[if_pos b,ZuD (by omega) (by omega),Zkl,ZaA,ZKK (by omega)];have hle:=ZiN (2*x);have lA:x+1<=fitI (2*x):=by
      unfold fitI;repeat' split
      all_goals omega
     have fv:fitI (2*x)=0\/1099511627776<=fitI (2*x) * 2 ^ j:=by
      right;have j3:(1:Int)<=2 ^ j:=Int.pow_pos (by omega);rcases h2 with h2|h2
      .omega
      .have f:x * 2 ^ (j+1)=2*x * 2 ^ j:=by
        rw[Int.pow_succ,<-Int.mul_assoc,Int.mul_right_comm,Int.mul_comm x 2]
       rw[f]at h2;unfold fitI;rw[if_neg (by omega)];split
       .have:=Int.mul_le_mul_of_nonneg_left j3 (show (0:Int)<=1099511627776 by omega);omega
       .exact h2
     exact ih (fitI (2*x)) n fu (by omega) hle.1 hle.2 fv (by omega)
    .have:x=1099511627776:=by omega
     rw[if_neg b,this,ZDy]
   .have:x=0:=by omega
    rw[if_neg hx,this,ZAr]
theorem Zye(n:Nat):∀(k i:Nat)(x:Int)(fu:Nat),min n 41-i=k->i<=41->0<=x->x<=1099511627776->k+1<=fu->ZcG (n:Int) fu x (i:Int)=some (dblN k x):=by
 intro k;induction k with
 |zero=>
  intro i x fu d e h0 b f;obtain⟨fu,rfl⟩ : ∃y,fu=y+1:=⟨fu-1,by omega⟩;unfold ZcG;simp only[Zah];split
  .rw[if_neg (by omega)];rfl
  .rfl
 |succ k ih=>
  intro i x fu d e h0 b f;obtain⟨fu,rfl⟩ : ∃y,fu=y+1:=⟨fu-1,by omega⟩;unfold ZcG;simp only[Zah];have g:Zan (i:Int) 1=((i+1:Nat):Int):=add1 (n:=i+1) (by omega) (by simp only[maxLen];omega);have h:addT x x=fitI (2*x):=by
   unfold addT;rw[ZKm h0 b];congr 1;omega
  have hle:=ZiN (2*x);rw[if_pos (by omega),if_pos (by omega),(ZuX _ _).2,ZaA,g,h];exact ih (i+1) _ fu (by omega) (by omega) hle.1 hle.2 (by omega)
theorem ZCv(a:Int)(n:Nat)(b:n<=1000000):ZrO a (n:Int)=some (dblN (min n 41) (fitI a))/\Zgq a (n:Int)=some (dblN (min n 41) (fitI a)):=by
 have h:=ZiN a;constructor
 .unfold ZrO;rw[Zkl,ZaA];exact ZxS 41 _ n _ b h.1 h.2 (by omega) (by omega)
 .unfold Zgq;rw[Zko,ZaA];exact Zye n _ 0 _ _ rfl (by omega) h.1 h.2 (by omega)
theorem ZIU(c:Zav)(n:Nat)(d:n<=1000000):∃t,ZmS c (n:Int)=some t/\Zgm c (n:Int)=some t:=by
 unfold ZmS Zgm;simp only[Zah];cases n with
 |zero=>exact⟨0,rfl,rfl⟩
 |succ n=>
  rw[if_neg (by omega),if_neg (by omega),ZKK (by omega),Zkl,Zko,(ZCv _ n (by omega)).1,(ZCv _ n (by omega)).2];simp only[ZaA];generalize dblN (min n 41) (fitI c.fBase)=a;generalize fitI c.fCap=b;refine⟨if a<b then a else b,rfl,?_⟩;split<;>split<;>first|rfl|omega | (congr 1;omega)
theorem ZGt(c:Zav)(r:Int):∃t,Zme c r=some t/\ZfO c r=some t:=by
 unfold Zme ZfO;simp only[Zah];by_cases h:c.fJitter<1
 .rw[if_pos h];exact⟨_,rfl,rfl⟩
 .rw[if_neg h,Zaq (by omega)];split<;>exact⟨_,rfl,rfl⟩
theorem ZJZ(c:Zav)(n:Nat)(b:n<=1000000)(ag r:Int):∃t,ZlA c (n:Int) ag r=some t/\Zep c (n:Int) ag r=some t:=by
 obtain⟨t,d,e⟩:=ZIU c n b;obtain⟨u,f,g⟩:=ZGt c r;unfold ZlA Zep;rw[d,e,f,g];simp only[ZaA,(ZuX _ _).1,(ZuX _ _).2];exact⟨_,rfl,rfl⟩
def ZzY(c:Zav)(e:Zab)(ag r:Int):Zab:=(Zkf c e ag r).getD e
theorem ZGN(c:Zav)(e:Zab)(ag r:Int):Zkf c e ag r=some (ZzY c e ag r)/\Zdz c e ag r=some (ZzY c e ag r):=by
 have ay:∀n:Nat,n<=1000->Zan (if(999:Int)<(if(0:Int)>e.fFails then(0:Int)else e.fFails)then(999:Int)else(if(0:Int)>e.fFails then(0:Int)else e.fFails)) (1:Int)=(n:Int) ->
   Zdz c e ag r=((Zep c (n:Int) ag r).bind fun x=>some (Zab.mk e.fEnd 1 (n:Int) x))->Zkf c e ag r=some (ZzY c e ag r)/\Zdz c e ag r=some (ZzY c e ag r):=by
  intro n f b h;obtain⟨t,i,j⟩:=ZJZ c n (by omega) ag r;have g:Zkf c e ag r=some ⟨e.fEnd,1,(n:Int),t⟩:=by
   unfold Zkf;rw[b,i];rfl
  have o:ZzY c e ag r=⟨e.fEnd,1,(n:Int),t⟩:=by unfold ZzY;rw[g];rfl
  rw[o,g,h,j];exact⟨rfl,rfl⟩
 unfold Zdz Zeb at ay ⊢;simp only[Zah]at ay ⊢;by_cases h0:e.fFails>0
 .by_cases b:e.fFails<1000
  .obtain⟨n,f⟩ : ∃n:Nat,e.fFails=(n:Int):=⟨e.fFails.toNat,by omega⟩;have d:Zan e.fFails 1=((n+1:Nat):Int):=by rw[f];exact add1 (n:=n+1) (by omega) (by simp only[maxLen];omega)
   refine ay (n+1) (by omega) ?_ ?_
   .rw[if_neg (show ¬(0:Int)>e.fFails by omega),if_neg (by omega),d]
   .rw[if_pos h0,if_pos b,if_neg (show ¬e.fFails>=1000 by omega),d]
  .refine ay 1000 (by omega) ?_ ?_
   .rw[if_neg (show ¬(0:Int)>e.fFails by omega),if_pos (by omega)];exact Zcd (by omega) (by omega)
   .rw[if_pos h0,if_neg b,if_pos (show e.fFails>=1000 by omega)];rfl
 .refine ay 1 (by omega) ?_ ?_
  .have d:(if(0:Int)>e.fFails then(0:Int)else e.fFails)=0:=by split<;>omega
   rw[d,if_neg (by omega)];exact Zcd (by omega) (by omega)
  .rw[if_neg h0,if_neg (show ¬e.fFails>=1000 by omega)];rfl
theorem ZKf(l:List Zaa)(e:Zai):Zhv l e<0↔conn l e=false:=by
 unfold Zhv conn;rw[ZoX,List.any_eq_false];simp
theorem ZJS{v:Zbs}(h:Zry v)(e:Zab)(d:e.ok)(ag:Int):Zhm v.fBook v.fPeers v.fBans e ag=some (mayS v ag e):=by
 obtain⟨r,u1,u2⟩:=ZxN v.fBans e.fEnd.fAddr ag (by have:=h.bans;unfold maxLen;omega) h.bansOk d.1.1;obtain⟨s,u3,u4⟩:=Zvf v.fBans e.fEnd.fAddr ag (by have:=h.bans;unfold maxLen;omega) h.bansOk d.1.1;have lF:r=s:=Zxr u2 u4 fun b=>Iff.rfl;subst lF;have i:=ZuW v.fPeers v.fBook e.fEnd.fAddr (by have:=h.peers;omega) (by have:=h.book;omega) h.peersOk h.bookOk d.1.1;have hf2:=ZIr v.fPeers v.fBook e.fEnd.fAddr (by have:=h.peers;omega) (by have:=h.book;omega) h.peersOk h.bookOk d.1.1;have g:v.fPeers.length<=maxLen:=by have:=h.peers;unfold maxLen;omega
 have ay:Zuc v e.fEnd ag=(!conn v.fPeers e.fEnd&&(r==0)&&ZIP v e.fEnd.fAddr):=by
  unfold Zuc;simp only[Zhe,ZAp v e.fEnd g,u1,i,Option.bind_some];cases conn v.fPeers e.fEnd
  .simp only[Bool.not_false,cond_true,Bool.true_and];cases(r==(0:Int))
   .rfl
   .simp only[cond_true,Bool.true_and];rfl
  .rfl
 unfold Zhm mayS;rw[ZnB e d,ZaA,ZJU,ZaA,u3,ZaA,Zkn _ _ g,ZaA,hf2,ZaA,ay,Zah];have gj:=ZKf v.fPeers e.fEnd;unfold ZIP;cases Znt e
 .rfl
 .cases dueS e ag
  .rfl
  .simp only[cond_true,Bool.true_and];cases(r==(0:Int))
   .simp
   .simp only[cond_true,Bool.and_true];by_cases f:Zhv v.fPeers e.fEnd<0
    .rw[if_pos f,gj.1 f];rfl
    .rw[if_neg f];cases j:conn v.fPeers e.fEnd
     .exact absurd (gj.2 j) f
     .rfl
def ZqQ(v:Zbs)(ag:Int)(e:Zai)(ok:Bool):Prop:=(ok=true/\∃x∈v.fBook,x.fEnd=e/\mayS v ag x=true/\∀y∈v.fBook,mayS v ag y=true->leH (Ziy x) (Ziy y))\/(ok=false/\e=zE/\∀y∈v.fBook,mayS v ag y=false)
theorem ZEk{v:Zbs}{ag:Int}{e:Zai}{ok:Bool}(h:ZxL v ag (Zmf v.fBook ag) e ok):ZqQ v ag e ok:=by
 have d:∀y∈v.fBook,mayS v ag y=true->Ziy y∈Zmf v.fBook ag/\Zuc v (Ziy y).fEnd ag=true:=fun y b cn=>by
  unfold mayS at cn;rw[Bool.and_eq_true]at cn;exact⟨List.mem_map.2 ⟨y,List.mem_filter.2 ⟨b,cn.1⟩,rfl⟩,cn.2⟩
 rcases h with⟨g,x,i,f,n,o⟩|⟨g,i,f⟩
 .have hx:=i;simp only[Zmf,List.mem_map,List.mem_filter]at hx;obtain⟨a,⟨p,r⟩,rfl⟩:=hx;refine .inl ⟨g,a,p,f,?_,fun y b cn=>o _ (d y b cn).1 (d y b cn).2⟩;unfold mayS;rw[show (Znt a&&dueS a ag)=true from r,show a.fEnd=e from f,n];rfl
 .refine .inr ⟨g,i,fun y b=>?_⟩;cases j:mayS v ag y with
  |false=>rfl
  |true=>exact absurd (d y b j).2 (by rw[f _ (d y b j).1];simp)
theorem ZqQ.one{v:Zbs}{ag:Int}{e e':Zai}{ok jj:Bool}(h:ZqQ v ag e ok)(h':ZqQ v ag e' jj):(e,ok)=(e',jj):=by
 rcases h with⟨j,x,g,n,o,r⟩|⟨j,g,n⟩
 .rcases h' with⟨d,y,b,f,i,p⟩|⟨d,b,f⟩
  .have l1:=r y b i;have l2:=p x g o;have t:cmpH (Ziy x) (Ziy y)=0:=by
    unfold leH at l1 l2;rcases Int.lt_trichotomy (cmpH (Ziy x) (Ziy y)) 0 with q|q|q
    .exact absurd q l2
    .exact q
    .exact absurd (Zwk.1 q) l1
   have:=Zwj.1 t;simp only[Ziy,ZaF.mk.injEq]at this;rw[j,d,<-n,<-f,this.2]
  .rw[f x g]at o;cases o
 .rcases h' with⟨d,y,b,f,i,p⟩|⟨d,b,f⟩
  .rw[n y b]at i;cases i
  .rw[j,g,d,b]
theorem Zsw{x y:Zab}:leH (Ziy x) (Ziy y)↔x.fNext<y.fNext\/(x.fNext=y.fNext/\cmpE x.fEnd y.fEnd<=0):=by
 unfold leH;rw[ZHw];simp only[Ziy];have e:=@ZfS y.fEnd x.fEnd;have b:=@ZfS x.fEnd y.fEnd;omega
theorem ZEc{v:Zbs}(h:Zry v)(ag:Int)(z:Zai):∀(fu i:Nat)(b:Int),i<=v.fBook.length->v.fBook.length-i<fu->b<(i:Int)->-1<=b ->
  (b<0->∀y∈v.fBook.take i,mayS v ag y=false)->(0<=b->mayS v ag (v.fBook.getD b.toNat Zab.d)=true/\∀y∈v.fBook.take i,mayS v ag y=true->leH (Ziy (v.fBook.getD b.toNat Zab.d)) (Ziy y)) ->
  ∃e ok,Zbn v.fBook v.fPeers v.fBans ag fu b (i:Int) z=some (e,ok)/\ZqQ v ag e ok:=by
 have p:v.fBook.length<=maxLen:=by have:=h.book;unfold maxLen;omega
 intro fu;induction fu with
 |zero=>intro _ _ _ h;omega
 |succ fu ih=>
  intro i b r t hb bB g f;unfold Zbn;simp only[Zah];by_cases hlt:i<v.fBook.length
  .rw[if_pos (by omega),Zaq ⟨by omega,by omega⟩];simp only[Int.toNat_natCast];have dC:=ZeD v.fBook Zab.d i hlt;have c8:v.fBook.take (i+1)=v.fBook.take i++[v.fBook.getD i Zab.d]:=by rw[List.take_succ_eq_append_getElem hlt,ZbX v.fBook _ i hlt]
   have gG:∀y,y∈v.fBook.take (i+1)->y∈v.fBook.take i\/y=v.fBook.getD i Zab.d:=fun y f=>by
    rw[c8]at f;rcases List.mem_append.1 f with q|q
    .exact .inl q
    .exact .inr (List.mem_singleton.1 q)
   rw[ZJS h _ (h.bookOk _ dC),ZaA,add1 hlt p];have keep:mayS v ag (v.fBook.getD i Zab.d)=false\/(0<=b/\leH (Ziy (v.fBook.getD b.toNat Zab.d)) (Ziy (v.fBook.getD i Zab.d)))->∃e ok,Zbn v.fBook v.fPeers v.fBans ag fu b ((i+1:Nat):Int) z=some (e,ok)/\ZqQ v ag e ok:=fun hk=>by
    refine ih (i+1) b (by omega) (by omega) (by omega) bB (fun bk y dj=>?_) (fun bk=>⟨(f bk).1,fun y dj cn=>?_⟩)
    .rcases gG y dj with q|q
     .exact g bk y q
     .rw[q];rcases hk with hk|hk
      .exact hk
      .omega
    .rcases gG y dj with q|q
     .exact(f bk).2 y q cn
     .rcases hk with hk|hk
      .rw[q,hk]at cn;cases cn
      .rw[q];exact hk.2
   have move:mayS v ag (v.fBook.getD i Zab.d)=true->(0<=b->leH (Ziy (v.fBook.getD i Zab.d)) (Ziy (v.fBook.getD b.toNat Zab.d)))->∃e ok,Zbn v.fBook v.fPeers v.fBans ag fu (i:Int) ((i+1:Nat):Int) z=some (e,ok)/\ZqQ v ag e ok:=fun hk hle=>by
    refine ih (i+1) (i:Int) (by omega) (by omega) (by omega) (by omega) (fun bk=>by omega) (fun _=>⟨by rw[Int.toNat_natCast];exact hk,fun y dj cn=>?_⟩);rw[Int.toNat_natCast];rcases gG y dj with q|q
    .by_cases bk:b<0
     .rw[g bk y q]at cn;cases cn
     .exact Zvy (hle (by omega)) ((f (by omega)).2 y q cn)
    .rw[q];exact Zra _
   cases hk:mayS v ag (v.fBook.getD i Zab.d)with
   |false=>rw[Bool.not_false,cond_true];exact keep (.inl hk)
   |true=>
    rw[Bool.not_true,cond_false];by_cases bk:b<0
    .rw[if_pos bk];exact move hk (fun q=>by omega)
    .rw[if_neg bk,Zaq ⟨by omega,by omega⟩];by_cases n:(v.fBook.getD i Zab.d).fNext<(v.fBook.getD b.toNat Zab.d).fNext
     .rw[if_pos n];exact move hk fun _=>Zsw.2 (.inl n)
     .rw[if_neg n,ZgU,Zsm,ZaA];by_cases j:(v.fBook.getD i Zab.d).fNext=(v.fBook.getD b.toNat Zab.d).fNext
      .rw[if_pos j];by_cases o:cmpE (v.fBook.getD i Zab.d).fEnd (v.fBook.getD b.toNat Zab.d).fEnd<0
       .rw[if_pos o];exact move hk fun _=>Zsw.2 (.inr ⟨j,by omega⟩)
       .rw[if_neg o];refine keep (.inr ⟨by omega,Zsw.2 (.inr ⟨j.symm,?_⟩)⟩);have:=@ZfS (v.fBook.getD b.toNat Zab.d).fEnd (v.fBook.getD i Zab.d).fEnd;omega
      .rw[if_neg j];exact keep (.inr ⟨by omega,Zsw.2 (.inl (by omega))⟩)
  .rw[if_neg (by omega)];have et:v.fBook.take i=v.fBook:=List.take_of_length_le (by omega);rw[et]at g f;by_cases bk:b<0
   .rw[if_pos bk];exact⟨_,_,rfl,.inr ⟨rfl,rfl,g bk⟩⟩
   .rw[if_neg bk,Zaq ⟨by omega,by omega⟩];exact⟨_,_,rfl,.inl ⟨rfl,_,ZeD v.fBook Zab.d b.toNat (by omega),rfl,(f (by omega)).1,(f (by omega)).2⟩⟩
def Zyf(v:Zbs)(ag:Int):Zai×Bool:=(Zpx v ag).getD (zE,false)
theorem ZJX{v:Zbs}(h:Zry v)(ag:Int):Zpx v ag=some (Zyf v ag)/\Zfy v.fBook v.fPeers v.fBans ag=some (Zyf v ag)/\((Zyf v ag).2=true->0<=ZnY v.fBook (Zyf v ag).1):=by
 obtain⟨e,ok,d,g⟩:=ZHm h ag;have f:=ZEk g;obtain⟨e',jj,i,j⟩:=ZEc h ag ⟨⟨false,0,0⟩,0⟩ ((((v.fBook.length:Nat):Int)-(0:Int)).toNat+2) 0 (-1) (by omega) (by omega) (by omega) (by omega) (fun _=>by simp) (fun q=>by omega);have n:=ZqQ.one f j;have b:Zyf v ag=(e,ok):=by unfold Zyf;rw[d];rfl
 refine⟨by rw[b,d],?_,fun az=>?_⟩
 .unfold Zfy;rw[b,n];exact i
 .rw[b]at az ⊢;rcases f with⟨_,x,x1,x2,_⟩|⟨q,_⟩
  .have hx:¬ZnY v.fBook e<0:=fun q=>ZzW.1 q x x1 x2;exact Int.not_lt.1 hx
  .rw[show ok=true from az]at q;cases q
def ZoV(ag:Int)(e:Zab):Bool:=Znt e&&((e.fState==1)&&decide (e.fNext>ag))
def Zyt(l:List Zab)(ag:Int):List Itm:=(l.filter (ZoV ag)).map Ziy
theorem ZHU(e:Zab)(ag:Int):Zpv e ag=some ((e.fState==1)&&decide (e.fNext>ag)):=by
 simp only[Zpv];cases(e.fState==(1:Int))<;>rfl
theorem ZGs(l:List Zab)(ag:Int)(hl:l.length<=900)(az:∀e∈l,e.ok):∀fu (i:Nat) (w:List Itm),i<=l.length->l.length-i<fu->w.length<=i ->
  Zdr ag fu l (l.length:Int) (i:Int) w=(Zlm (w++Zyt (l.drop i) ag)).bind fun x=>some x:=by
 have b:l.length<=maxLen:=by unfold maxLen;omega
 intro fu;induction fu with
 |zero=>intro _ _ _ h;omega
 |succ fu ih=>
  intro i w g j n;simp only[Zdr,Zah];by_cases h:i<l.length
  .rw[if_pos (by omega),Zaq ⟨by omega,by omega⟩,Zex l Zab.d i h];simp only[Int.toNat_natCast];have cz:=az _ (ZeD l Zab.d i h);rw[add1 h b,ih (i+1) w (by omega) (by omega) (by omega),Zwg _ cz];simp only[Option.bind_some,ZHU];rw[Zaq ⟨by simp;omega,by unfold maxLen;simp;omega⟩,ih (i+1) _ (by omega) (by omega) (by simp;omega)];generalize l.getD i Zab.d=e;have f:Zyt (e :: l.drop (i+1)) ag=(if ZoV ag e then[Ziy e]else[])++Zyt (l.drop (i+1)) ag:=by
    unfold Zyt;cases q:ZoV ag e<;>simp[q]
   rw[f];unfold ZoV;cases Znt e
   .simp
   .cases((e.fState==(1:Int))&&decide (e.fNext>ag))
    .simp
    .simp[Ziy]
  .rw[if_neg (by omega),List.drop_eq_nil_of_le (by omega)];simp[Zyt]
def Zsc(S:Zab->Prop)(r:Int):Prop:=((∀y,¬S y)/\r=0)\/∃x,S x/\r=x.fNext/\∀y,S y->r<=y.fNext
theorem Zsc.one{S:Zab->Prop}{r s:Int}(h:Zsc S r)(g:Zsc S s):r=s:=by
 rcases h with⟨d,i⟩|⟨x,d,i,j⟩
 .rcases g with⟨b,e⟩|⟨y,b,e,f⟩
  .omega
  .exact absurd b (d y)
 .rcases g with⟨b,e⟩|⟨y,b,e,f⟩
  .exact absurd d (b x)
  .have:=j y b;have:=f x d;omega
theorem ZHl{v:Zbs}(h:Zry v)(ag:Int):∃r,Zpw v ag=some r/\Zsc (fun y=>y∈v.fBook/\ZoV ag y=true) r:=by
 have hlen:(Zyt v.fBook ag).length<=v.fBook.length:=by simp only[Zyt,List.length_map];exact List.length_filter_le _ _
 have hb:=h.book;have hl:=ZGs v.fBook ag h.book h.bookOk ((((v.fBook.length:Nat):Int)-(0:Int)).toNat+2) 0 [] (by omega) (by omega) (by simp);simp only[Int.natCast_zero,List.drop_zero,List.nil_append]at hl;obtain⟨L,f,d,g⟩:=ZzO (Zyt v.fBook ag) (by omega);have hin:∀y,y∈v.fBook/\ZoV ag y=true->Ziy y∈L:=fun y b=>d.mem_iff.2 (List.mem_map.2 ⟨y,List.mem_filter.2 b,rfl⟩);unfold Zpw ZlR;rw[hl,f,ZaA,ZaA];by_cases e:L=[]
 .subst e;rw[ZtW,ZaA];exact⟨0,rfl,.inl ⟨fun y b=>by have:=hin y b;simp at this,rfl⟩⟩
 .obtain⟨x,r,p1,p2,p3,p4⟩:=ZDi L (by rw[d.length_eq];omega) g e;rw[p1,ZaA];have hx:x∈L:=p2.mem_iff.2 (by simp);have c4:=d.mem_iff.1 hx;simp only[Zyt,List.mem_map,List.mem_filter]at c4;obtain⟨a,i,rfl⟩:=c4;refine⟨_,rfl,.inr ⟨a,i,rfl,fun y b=>?_⟩⟩;have:=Zsw.1 (p4 _ (hin y b));show a.fNext<=y.fNext;omega
theorem ZEb{l:List Zab}(hl:l.length<=900)(az:∀e∈l,e.ok)(ag:Int):∀(fu i:Nat)(r:Int)(any:Bool),i<=l.length->l.length-i<fu ->
  (any=false->r=0/\∀y∈l.take i,ZoV ag y=false)->(any=true->∃x,(x∈l/\ZoV ag x=true)/\r=x.fNext/\∀y∈l.take i,ZoV ag y=true->r<=y.fNext) ->
  ∃r',Zbm l ag fu r any (i:Int)=some r'/\Zsc (fun y=>y∈l/\ZoV ag y=true) r':=by
 have t:l.length<=maxLen:=by unfold maxLen;omega
 intro fu;induction fu with
 |zero=>intro _ _ _ _ h;omega
 |succ fu ih=>
  intro i r any u v j f;unfold Zbm;simp only[Zah,ZgU];by_cases hlt:i<l.length
  .rw[if_pos (by omega),Zaq ⟨by omega,by omega⟩];simp only[Int.toNat_natCast];have dC:=ZeD l Zab.d i hlt;have c8:l.take (i+1)=l.take i++[l.getD i Zab.d]:=by rw[List.take_succ_eq_append_getElem hlt,ZbX l _ i hlt]
   have gG:∀y,y∈l.take (i+1)->y∈l.take i\/y=l.getD i Zab.d:=fun y f=>by
    rw[c8]at f;rcases List.mem_append.1 f with q|q
    .exact .inl q
    .exact .inr (List.mem_singleton.1 q)
   rw[ZnB _ (az _ dC),ZaA,add1 hlt t];generalize l.getD i Zab.d=e at dC c8 gG ⊢;have keep:ZoV ag e=false\/(any=true/\r<=e.fNext)->∃r',Zbm l ag fu r any ((i+1:Nat):Int)=some r'/\Zsc (fun y=>y∈l/\ZoV ag y=true) r':=fun hk=>by
    refine ih (i+1) r any (by omega) (by omega) (fun b=>⟨(j b).1,fun y dj=>?_⟩) (fun b=>?_)
    .rcases gG y dj with q|q
     .exact(j b).2 y q
     .rw[q];rcases hk with hk|hk
      .exact hk
      .rw[b]at hk;exact absurd hk.1 (by decide)
    .obtain⟨x,x1,x2,x3⟩:=f b;refine⟨x,x1,x2,fun y dj cn=>?_⟩;rcases gG y dj with q|q
     .exact x3 y q cn
     .rcases hk with hk|hk
      .rw[q,hk]at cn;cases cn
      .rw[q];exact hk.2
   have move:ZoV ag e=true->(any=true->e.fNext<=r)->∃r',Zbm l ag fu e.fNext true ((i+1:Nat):Int)=some r'/\Zsc (fun y=>y∈l/\ZoV ag y=true) r':=fun hk hle=>by
    refine ih (i+1) _ true (by omega) (by omega) (fun b=>by cases b) (fun _=>⟨e,⟨dC,hk⟩,rfl,fun y dj cn=>?_⟩);rcases gG y dj with q|q
    .cases b:any with
     |false=>rw[(j b).2 y q]at cn;cases cn
     |true=>
      obtain⟨x,x1,x2,x3⟩:=f b;have:=x3 y q cn;have:=hle b;omega
    .rw[q];exact Int.le_refl _
   cases o:Znt e with
   |false=>rw[cond_false];exact keep (.inl (by simp[ZoV,o]))
   |true=>
    rw[cond_true];by_cases g:e.fState=1
    .rw[if_pos g];by_cases n:e.fNext>ag
     .rw[if_pos n];have hk:ZoV ag e=true:=by unfold ZoV;rw[o,g,decide_eq_true n];rfl
      cases b:any with
      |false=>rw[Bool.not_false,cond_true];exact move hk fun q=>by rw[b]at q;cases q
      |true=>
       rw[Bool.not_true,cond_false];by_cases p:e.fNext<r
       .rw[if_pos p];exact move hk fun _=>by omega
       .rw[if_neg p];have hk2:=keep (.inr ⟨b,by omega⟩);rw[b]at hk2;exact hk2
     .rw[if_neg n];exact keep (.inl (by unfold ZoV;rw[decide_eq_false n];simp))
    .rw[if_neg g];exact keep (.inl (by simp[ZoV,g]))
  .rw[if_neg (by omega)];have et:l.take i=l:=List.take_of_length_le (by omega);rw[et]at j f;refine⟨r,rfl,?_⟩;cases b:any with
   |false=>exact .inl ⟨fun y dj=>(by have g:=dj.2;rw[(j b).2 y dj.1]at g;cases g),(j b).1⟩
   |true=>
    obtain⟨x,x1,x2,x3⟩:=f b;exact .inr ⟨x,x1,x2,fun y dj=>x3 y dj.1 dj.2⟩
def ZHV(v:Zbs)(ag:Int):Int:=(Zpw v ag).getD 0
theorem ZJD{v:Zbs}(h:Zry v)(ag:Int):Zpw v ag=some (ZHV v ag)/\Zfx v.fBook ag=some (ZHV v ag):=by
 obtain⟨r,b,e⟩:=ZHl h ag;obtain⟨s,f,g⟩:=ZEb h.book h.bookOk ag ((((v.fBook.length:Nat):Int)-(0:Int)).toNat+2) 0 0 false (by omega) (by omega) (fun _=>⟨rfl,by simp⟩) (fun q=>by cases q);have d:ZHV v ag=r:=by unfold ZHV;rw[b];rfl
 refine⟨by rw[d,b],?_⟩;unfold Zfx;rw[d,e.one g];exact f
abbrev Prs:=List Zaa
def ltP(x y:Zaa):Bool:=decide (cmpE x.fEnd y.fEnd<0)
theorem Zqk{x y:Zaa}:ltP x y=true↔cmpE x.fEnd y.fEnd<0:=by unfold ltP;simp
theorem ZzF{x y:Zaa}:ltP x y=false↔¬cmpE x.fEnd y.fEnd<0:=by unfold ltP;simp
theorem ZBu{x y z:Zaa}(d:ltP x y=false)(b:ltP y z=false):ltP x z=false:=by
 rw[ZzF]at *
 intro h;have e:cmpE x.fEnd y.fEnd=0\/0<cmpE x.fEnd y.fEnd:=by omega
 rcases e with e|e
 .rw[ZiC.1 e]at h;exact b h
 .exact b (Zmy (ZfS.1 e) h)
theorem ZGq{x y z:Zaa}(b:ltP z x=true)(d:ltP y x=false):ltP z y=true:=by
 cases h:ltP z y with
 |true=>rfl
 |false=>rw[ZBu h d]at b;cases b
def mrg:Prs->Prs->Prs | [],ys=>ys|x :: xs,[]=>x :: xs|x :: xs,y :: ys=>if ltP y x=true then y :: mrg (x :: xs) ys else x :: mrg xs (y :: ys)
termination_by xs ys=>xs.length+ys.length
theorem ZrE(xs:Prs):mrg xs []=xs:=by cases xs<;>simp[mrg]
theorem Zma(xs:Prs):mrg [] xs=xs:=by simp[mrg]
theorem Zxn{x y:Zaa}(xs ys:Prs)(h:ltP y x=true):mrg (x :: xs) (y :: ys)=y :: mrg (x :: xs) ys:=by rw[mrg,if_pos h]
theorem Zxo{x y:Zaa}(xs ys:Prs)(h:ltP y x=false):mrg (x :: xs) (y :: ys)=x :: mrg xs (y :: ys):=by rw[mrg,if_neg (by simp[h])]
theorem ZzD:∀(n:Nat)(x1 x2 y1 y2:Prs),x1.length+y1.length<=n->(∀y∈y1,∀x∈x2,ltP y x=true)->(∀x∈x1,∀y∈y2,ltP y x=false)->mrg (x1++x2) (y1++y2)=mrg x1 y1++mrg x2 y2:=by
 intro n;induction n with
 |zero=>
  intro x1 x2 y1 y2 h _ _;obtain rfl:=List.eq_nil_of_length_eq_zero (show x1.length=0 by omega);obtain rfl:=List.eq_nil_of_length_eq_zero (show y1.length=0 by omega);simp[Zma]
 |succ n ih=>
  intro x1 x2 y1 y2 h b d;cases x1 with
  |nil=>
   cases y1 with
   |nil=>simp[Zma]
   |cons y y1=>
    cases x2 with
    |nil=>simp[Zma]
    |cons x x2=>
     simp only[List.length_cons,List.length_nil]at h;rw[List.nil_append,List.cons_append,Zxn _ _ (b y (by simp) x (by simp)),Zma];have:=ih [] (x :: x2) y1 y2 (by simp only[List.length_nil];omega) (fun y' dR=>b y' (by simp[dR])) (by simp);rw[List.nil_append,Zma]at this;rw[this];rfl
  |cons x x1=>
   cases y1 with
   |nil=>
    cases y2 with
    |nil=>simp[ZrE]
    |cons y y2=>
     simp only[List.length_cons,List.length_nil]at h;rw[List.nil_append,List.cons_append,Zxo _ _ (d x (by simp) y (by simp)),ZrE];have:=ih x1 x2 [] (y :: y2) (by simp only[List.length_nil];omega) (by simp) (fun x' io=>d x' (by simp[io]));rw[List.nil_append,ZrE]at this;rw[this];rfl
   |cons y y1=>
    simp only[List.length_cons]at h;rw[List.cons_append,List.cons_append];cases e:ltP y x with
    |true=>
     rw[Zxn _ _ e,Zxn _ _ e,<-List.cons_append,ih (x :: x1) x2 y1 y2 (by simp only[List.length_cons];omega) (fun y' dR=>b y' (by simp[dR])) d];rfl
    |false=>
     have:=ih x1 x2 (y :: y1) y2 (by simp only[List.length_cons];omega) b (fun x' io=>d x' (by simp[io]));rw[List.cons_append]at this;rw[Zxo _ _ e,Zxo _ _ e,this];rfl
theorem ZGl:∀(n:Nat)(a b:Prs),a.length+b.length<=n->∀z∈mrg a b,z∈a\/z∈b:=by
 intro n;induction n with
 |zero=>
  intro a b h z hz;obtain rfl:=List.eq_nil_of_length_eq_zero (show a.length=0 by omega);rw[Zma]at hz;exact .inr hz
 |succ n ih=>
  intro a b h z hz;cases a with
  |nil=>rw[Zma]at hz;exact .inr hz
  |cons x a=>
   cases b with
   |nil=>rw[ZrE]at hz;exact .inl hz
   |cons y b=>
    simp only[List.length_cons]at h;cases d:ltP y x with
    |true=>
     rw[Zxn _ _ d]at hz;rcases List.mem_cons.1 hz with hz|hz
     .exact .inr (by simp[hz])
     .rcases ih _ _ (by simp only[List.length_cons];omega) z hz with q|q
      .exact .inl q
      .exact .inr (by simp[q])
    |false=>
     rw[Zxo _ _ d]at hz;rcases List.mem_cons.1 hz with hz|hz
     .exact .inl (by simp[hz])
     .rcases ih _ _ (by simp only[List.length_cons];omega) z hz with q|q
      .exact .inl (by simp[q])
      .exact .inr q
def SrtP(l:Prs):Prop:=l.Pairwise fun x y=>ltP y x=false
theorem ZCX{x y:Zaa}(h:ltP x y=true):ltP y x=false:=by
 rw[Zqk]at h;rw[ZzF];intro b;have:=ZfS.2 b;omega
theorem ZKa:∀(n:Nat)(a b:Prs),a.length+b.length<=n->SrtP a->SrtP b->SrtP (mrg a b):=by
 intro n;induction n with
 |zero=>
  intro a b h e hb;obtain rfl:=List.eq_nil_of_length_eq_zero (show a.length=0 by omega);rw[Zma];exact hb
 |succ n ih=>
  intro a b h e hb;cases a with
  |nil=>rw[Zma];exact hb
  |cons x a=>
   cases b with
   |nil=>rw[ZrE];exact e
   |cons y b=>
    simp only[List.length_cons]at h;have b5:=List.pairwise_cons.1 e;have aF:=List.pairwise_cons.1 hb;cases d:ltP y x with
    |true=>
     rw[Zxn _ _ d];refine List.pairwise_cons.2 ⟨fun z f=>?_,ih _ _ (by simp only[List.length_cons];omega) e aF.2⟩;rcases ZGl _ _ _ (Nat.le_refl _) z f with q|q
     .have:ltP x y=false:=ZCX d;rcases List.mem_cons.1 q with q|q
      .rw[q];exact this
      .exact ZBu (b5.1 z q) this
     .exact aF.1 z q
    |false=>
     rw[Zxo _ _ d];refine List.pairwise_cons.2 ⟨fun z f=>?_,ih _ _ (by simp only[List.length_cons];omega) b5.2 hb⟩;rcases ZGl _ _ _ (Nat.le_refl _) z f with q|q
     .exact b5.1 z q
     .rcases List.mem_cons.1 q with q|q
      .rw[q];exact d
      .exact ZBu (aF.1 z q) d
theorem ZGk{o1 d:Prs}{x:Zaa}(g:∀y∈o1,ltP x y=false)(h:∀y∈d,ltP x y=true):mrg (o1++d) [x]=o1++x :: d:=by
 have a:=ZzD _ o1 d [x] [] (Nat.le_refl _) (fun y e z f=>by rw[List.mem_singleton.1 e];exact h z f) (by simp);have b:=ZzD _ o1 [] [] [x] (Nat.le_refl _) (by simp) (fun z f y e=>by rw[List.mem_singleton.1 e];exact g z f);simp only[List.append_nil,List.nil_append,ZrE,Zma]at a b;rw[a,b];simp
theorem Zyb(o:Prs)(x:Zaa)(g:SrtP o)(hl:o.length<=900000):Zdp o x=some (mrg o [x]):=by
 have j:o.length<=maxLen:=by unfold maxLen;omega
 have ay:∀(fu i:Nat),i<=o.length->o.length-i<fu->(∀y∈o.take i,ltP x y=false)->Zdw o fu (i:Int) x=some (mrg o [x]):=by
  intro fu;induction fu with
  |zero=>intro _ _ h;omega
  |succ fu ih=>
   intro i r t cq;unfold Zdw;have fin:(∀y∈o.drop i,ltP x y=true)->o.take i++[x]++o.drop i=mrg o [x]:=fun h=>by
    have:=ZGk cq h;rw[List.take_append_drop]at this;rw[this];simp
   have lt:(o.take i).length=i:=by simp;omega
   have ld:(o.drop i).length=o.length-i:=by simp
   have n1:(o.take i).length * 80<=140737488355328/\(o.take i).length<=maxLen:=by rw[lt];unfold maxLen;omega
   have n2:(o.take i++[x]).length * 80<=140737488355328/\(o.take i++[x]).length<=maxLen:=by simp only[List.length_append,lt,List.length_singleton,maxLen];omega
   have n3:(o.take i++[x]++o.drop i).length * 80<=140737488355328/\(o.take i++[x]++o.drop i).length<=maxLen:=by simp only[List.length_append,lt,ld,List.length_singleton,maxLen];omega
   simp only[Zah,Int.toNat_natCast,List.nil_append,Zaq n1,Zaq n2,Zaq n3];by_cases h:i<o.length
   .rw[if_pos (by omega),Zaq ⟨by omega,by omega⟩,Zsm,ZaA];have n:Zan (i:Int) 1=((i+1:Nat):Int):=add1 h j;have hd:=Zex o Zaa.d i h;by_cases e:cmpE (o.getD i Zaa.d).fEnd x.fEnd<=0
    .rw[if_pos e,n];refine ih (i+1) (by omega) (by omega) fun y b=>?_;rw[List.take_succ_eq_append_getElem h,<-ZbX o Zaa.d i h]at b;rcases List.mem_append.1 b with q|q
     .exact cq y q
     .rw[List.mem_singleton.1 q,ZzF];intro p;have:=ZfS.2 p;omega
    .rw[if_neg e,Zaq ⟨by omega,by omega⟩,fin];intro y b;have hx:ltP x (o.getD i Zaa.d)=true:=by rw[Zqk];exact ZfS.1 (by omega)
     rw[hd]at b;have f:SrtP (o.drop i):=List.Pairwise.sublist (List.drop_sublist i o) g;rw[hd]at f;rcases List.mem_cons.1 b with q|q
     .rw[q];exact hx
     .exact ZGq hx ((List.pairwise_cons.1 f).1 y q)
   .rw[if_neg (by omega),Zaq ⟨by omega,by omega⟩,fin];intro y b;rw[List.drop_eq_nil_of_le (by omega)]at b;cases b
 unfold Zdp;have:=ay ((((o.length:Nat):Int)-(0:Int)).toNat+2) 0 (by omega) (by omega) (by simp);exact this
def inI(n a b:Int):Bool:=decide (a<=n)&&decide (n<=b)
def nowB(x:Zar):Bool:=inI x.fNow 0 1099511627776
def ZkY(x:Zar):Bool:=if x.fKind=1\/x.fKind=12\/x.fKind=13 then ZjF x.fEnd&&nowB x else if x.fKind=2 then ZjF x.fEnd else if x.fKind=3\/x.fKind=9 then nowB x else if x.fKind=4 then ZjF x.fEnd&&(nowB x&&inI x.fNum 0 1073741824)else if x.fKind=5 then ZjF x.fEnd&&(inI x.fNum 1 5&&nowB x)else if x.fKind=6 then Ziw x.fNet&&(inI x.fNum 1 1099511627776&&nowB x)else if x.fKind=7 then Ziw x.fNet else if x.fKind=8 then Zdc x.fEnd.fAddr&&nowB x else if x.fKind=10 then true else if x.fKind=11 then ZjF x.fEnd&&inI x.fNum 1 1048576 else false
def ZBn(x:Zar)(s:Int×Int)(p:Int):Bool:=if p=0 then ZjF x.fEnd else if p=1 then Ziw x.fNet else if p=2 then Zdc x.fEnd.fAddr else if p=3 then nowB x else if p=4 then inI x.fNum s.1 s.2 else true
theorem ZCo(x:Zar)(hx:x.ok)(s:Int×Int)(d:Zlp x.fKind=some s)(p:Int):ZlT x p=some (ZBn x s p):=by
 have b:x.fEnd.ok:=hx.2.1;have e:x.fNet.ok:=hx.2.2.1;unfold ZlT ZBn;simp only[ZgU,ZtI _ b,ZoO _ e.1,Zki _ b.1,d,Option.bind_some,nowB,inI,Zah]
 repeat' split
 all_goals first|rfl | (simp_all;done) | (simp_all;omega)
theorem ZCp(x:Zar)(hx:x.ok)(s:Int×Int)(b:Zlp x.fKind=some s)(l:List Int)(hl:l.length<=100):ZeP ((((l.length:Nat):Int)-(0:Int)).toNat+2) l (l.length:Int) 0 x=some (l.all (ZBn x s)):=by
 have hL:l.length<=maxLen:=by unfold maxLen;omega
 have ay:∀fu (i:Nat),i<=l.length->l.length-i<fu->ZeP fu l (l.length:Int) (i:Int) x=some ((l.drop i).all (ZBn x s)):=by
  intro fu;induction fu with
  |zero=>intro i _ h;omega
  |succ fu ih=>
   intro i d e;unfold ZeP;simp only[Zah];by_cases h:i<l.length
   .rw[if_pos (by omega),Zaq ⟨by omega,by omega⟩,ZCo x hx s b,Option.bind_some,add1 h hL,Zex l (0:Int) i h,List.all_cons,Int.toNat_natCast];cases ZBn x s (l.getD i 0)with
    |true=>simp only[Bool.not_true,cond_false,Bool.true_and];exact ih (i+1) (by omega) (by omega)
    |false=>rfl
   .rw[if_neg (by omega),List.drop_of_length_le (by omega)];rfl
 exact ay _ 0 (by omega) (by omega)
theorem ZHt(k:Int):∃t,ZmQ k=some t/\((t.toList==(⟨#[]⟩ : ByteArray).toList) = !(decide (1<=k)&&decide (k<=13))):=by
 unfold ZmQ Znw ZsI;simp only[Option.bind_some,Zah];by_cases h0:k<0
 .rw[if_pos h0];refine⟨_,rfl,?_⟩;rw[decide_eq_false (show ¬1<=k by omega)];simp
 .rw[if_neg h0];by_cases b:k>=14
  .have d:k>=(([(⟨#[]⟩ : ByteArray),(⟨#[97,99,99,101,112,116]⟩ : ByteArray),(⟨#[108,101,97,118,101]⟩ : ByteArray),(⟨#[100,105,97,108]⟩ : ByteArray),(⟨#[114,101,115,117,108,116]⟩ : ByteArray),(⟨#[98,108,97,109,101]⟩ : ByteArray),(⟨#[98,97,110]⟩ : ByteArray),(⟨#[117,110,98,97,110]⟩ : ByteArray),(⟨#[98,97,110,110,101,100]⟩ : ByteArray),(⟨#[116,105,99,107]⟩ : ByteArray),(⟨#[108,105,115,116]⟩ : ByteArray),(⟨#[112,111,110,103]⟩ : ByteArray),(⟨#[119,111,114,107]⟩ : ByteArray),(⟨#[108,101,97,114,110]⟩ : ByteArray)]:List ByteArray).length:Int):=b;rw[if_pos d];refine⟨_,rfl,?_⟩;rw[decide_eq_true (show 1<=k by omega),decide_eq_false (show ¬k<=13 by omega)];simp
  .obtain h|h|h|h|h|h|h|h|h|h|h|h|h|h:k=0\/k=1\/k=2\/k=3\/k=4\/k=5\/k=6\/k=7\/k=8\/k=9\/k=10\/k=11\/k=12\/k=13:=by omega
   all_goals subst h;exact⟨_,rfl,by decide +kernel⟩
theorem ZEY(x:Zar)(hx:x.ok):ZlU x=some (ZkY x):=by
 obtain⟨t,d,f⟩:=ZHt x.fKind;unfold ZlU;rw[d,Option.bind_some,f];by_cases b:1<=x.fKind/\x.fKind<=13
 .rw[decide_eq_true b.1,decide_eq_true b.2];simp only[Bool.and_self,Bool.not_true,cond_false];have key:∀(k:Int)(l:List Int)(s:Int×Int),x.fKind=k->Zkh k=some l->Zlp k=some s->l.length<=100->l.all (ZBn x s)=ZkY x->((Zkh x.fKind).bind fun x2=>ZeP ((((x2.length:Nat):Int)-(0:Int)).toNat+2) x2 ((x2.length:Nat):Int) (0:Int) x)=some (ZkY x):=by
   intro k l s e g i j n;rw[e,g,Option.bind_some,ZCp x hx s (by rw[e];exact i) l j,n]
  obtain h|h|h|h|h|h|h|h|h|h|h|h|h:x.fKind=1\/x.fKind=2\/x.fKind=3\/x.fKind=4\/x.fKind=5\/x.fKind=6\/x.fKind=7\/x.fKind=8\/x.fKind=9\/x.fKind=10\/x.fKind=11\/x.fKind=12\/x.fKind=13:=by omega
  all_goals exact key _ _ _ h rfl rfl (by simp) (by simp[ZkY,h,ZBn])
 .have o:(decide (1<=x.fKind)&&decide (x.fKind<=13))=false:=by
   rw[Bool.and_eq_false_iff,decide_eq_false_iff_not,decide_eq_false_iff_not];omega
  rw[o];simp only[Bool.not_false,cond_true];unfold ZkY
  repeat' rw[if_neg (by omega)]
theorem ZEf(x:Zar)(hx:x.ok)(a b:Int)(s:ByteArray)(L:List Int)(hL:L.length=s.size)(h:∀i:Nat,i<s.size->((Zlf s i:Nat):Int)=L.getD i 0)(o:s.size<=100) :
  Zbf a b x ((((s.size:Nat):Int)-(0:Int)).toNat+2) s 0=some (L.all fun c=>if c=101 then ZjF x.fEnd else if c=110 then Ziw x.fNet else if c=97 then Zdc x.fEnd.fAddr else if c=116 then nowB x else if c=107 then inI x.fNum a b else true):=by
 have e:x.fEnd.ok:=hx.2.1;have j:x.fNet.ok:=hx.2.2.1;have ay:∀fu (i:Nat),i<=s.size->s.size-i<fu->Zbf a b x fu s (i:Int)=some ((L.drop i).all fun c=>if c=101 then ZjF x.fEnd else if c=110 then Ziw x.fNet else if c=97 then Zdc x.fEnd.fAddr else if c=116 then nowB x else if c=107 then inI x.fNum a b else true):=by
  intro fu;induction fu with
  |zero=>intro i _ h;omega
  |succ fu ih=>
   intro i d p;unfold Zbf;simp only[Zah,ZgU,ZtU _ e,Ztn _ j.1,ZjG _ e.1,Option.bind_some];by_cases hlt:i<s.size
   .rw[if_pos (by omega),Zaq ⟨by omega,by omega⟩,add1 (n:=s.size) hlt (by unfold maxLen;omega),Zex L (0:Int) i (by omega),List.all_cons,Int.toNat_natCast,h i hlt,ih (i+1) (by omega) (by omega)];generalize r:((L.drop (i+1)).all fun c=>if c=101 then ZjF x.fEnd else if c=110 then Ziw x.fNet else if c=97 then Zdc x.fEnd.fAddr else if c=116 then nowB x else if c=107 then inI x.fNum a b else true)=R;have fF:∀q:Bool,(bif !q then some false else some R)=some (q&&R):=fun q=>by cases q<;>rfl
    simp only[fF];have rng:∀n lo d:Int,(if n<lo then some false else if n>d then some false else some R)=some (inI n lo d&&R):=fun n lo d=>by
     unfold inI;by_cases f:n<lo
     .rw[if_pos f,decide_eq_false (by omega)];rfl
     .rw[if_neg f,decide_eq_true (show lo<=n by omega)];by_cases g:n>d
      .rw[if_pos g,decide_eq_false (by omega)];rfl
      .rw[if_neg g,decide_eq_true (show n<=d by omega)];rfl
    simp only[rng];unfold nowB
    repeat' split
    all_goals first|rfl|omega
   .rw[if_neg (by omega),List.drop_of_length_le (by omega)];rfl
 exact ay _ 0 (by omega) (by omega)
theorem ZBh(x:Zar)(hx:x.ok):Zgj x=some (ZkY x):=by
 unfold Zgj ZcZ;simp only[Zah,ZgU];by_cases d:x.fKind<1
 .rw[if_pos d];unfold ZkY
  repeat' rw[if_neg (by omega)]
 .rw[if_neg d];by_cases f:x.fKind>13
  .rw[if_pos f];unfold ZkY
   repeat' rw[if_neg (by omega)]
  .rw[if_neg f];have key:∀(k a b:Int)(s:ByteArray)(L:List Int),x.fKind=k->Zgi k=some s->L.length=s.size->(∀i:Nat,i<s.size->((Zlf s i:Nat):Int)=L.getD i 0)->s.size<=100 ->
     (L.all fun c=>if c=101 then ZjF x.fEnd else if c=110 then Ziw x.fNet else if c=97 then Zdc x.fEnd.fAddr else if c=116 then nowB x else if c=107 then inI x.fNum a b else true)=ZkY x ->
     ((Zgi x.fKind).bind fun x1=>Zbf a b x ((((x1.size:Nat):Int)-(0:Int)).toNat+2) x1 (0:Int))=some (ZkY x):=by
    intro k a b s L e g j n o p;rw[e,g,Option.bind_some,ZEf x hx a b s L j n o,p]
   obtain h|h|h|h|h|h|h|h|h|h|h|h|h:x.fKind=1\/x.fKind=2\/x.fKind=3\/x.fKind=4\/x.fKind=5\/x.fKind=6\/x.fKind=7\/x.fKind=8\/x.fKind=9\/x.fKind=10\/x.fKind=11\/x.fKind=12\/x.fKind=13:=by omega
   .rw[if_neg (by omega),if_neg (by omega),if_neg (by omega)];exact key 1 _ _ _ [101,116] h rfl rfl (by decide) (by decide) (by simp[ZkY,h])
   .rw[if_neg (by omega),if_neg (by omega),if_neg (by omega)];exact key 2 _ _ _ [101] h rfl rfl (by decide) (by decide) (by simp[ZkY,h])
   .rw[if_neg (by omega),if_neg (by omega),if_neg (by omega)];exact key 3 _ _ _ [116] h rfl rfl (by decide) (by decide) (by simp[ZkY,h])
   .rw[if_neg (by omega),if_neg (by omega),if_neg (by omega)];exact key 4 _ _ _ [101,103,116,107] h rfl rfl (by decide) (by decide) (by simp[ZkY,h])
   .rw[if_pos h];exact key 5 _ _ _ [101,107,116] h rfl rfl (by decide) (by decide) (by simp[ZkY,h])
   .rw[if_neg (by omega),if_pos h];exact key 6 _ _ _ [110,107,116] h rfl rfl (by decide) (by decide) (by simp[ZkY,h])
   .rw[if_neg (by omega),if_neg (by omega),if_neg (by omega)];exact key 7 _ _ _ [110] h rfl rfl (by decide) (by decide) (by simp[ZkY,h])
   .rw[if_neg (by omega),if_neg (by omega),if_neg (by omega)];exact key 8 _ _ _ [97,116] h rfl rfl (by decide) (by decide) (by simp[ZkY,h])
   .rw[if_neg (by omega),if_neg (by omega),if_neg (by omega)];exact key 9 _ _ _ [116] h rfl rfl (by decide) (by decide) (by simp[ZkY,h])
   .rw[if_neg (by omega),if_neg (by omega),if_neg (by omega)];exact key 10 _ _ _ [] h rfl rfl (by decide) (by decide) (by simp[ZkY,h])
   .rw[if_neg (by omega),if_neg (by omega),if_pos h];exact key 11 _ _ _ [101,107] h rfl rfl (by decide) (by decide) (by simp[ZkY,h])
   .rw[if_neg (by omega),if_neg (by omega),if_neg (by omega)];exact key 12 _ _ _ [101,116] h rfl rfl (by decide) (by decide) (by simp[ZkY,h])
   .rw[if_neg (by omega),if_neg (by omega),if_neg (by omega)];exact key 13 _ _ _ [101,116] h rfl rfl (by decide) (by decide) (by simp[ZkY,h])
def Zrq(l:List Zac)(a:Zaf)(ag:Int):Int:=(Zid l a ag).getD 0
theorem Zse(l:List Zac)(a:Zaf)(ag:Int)(hl:l.length<=maxLen)(az:∀b∈l,b.ok)(d:a.ok):Zid l a ag=some (Zrq l a ag)/\Zdj l a ag=some (Zrq l a ag):=by
 obtain⟨r,u1,u2⟩:=ZxN l a ag hl az d;obtain⟨s,u3,u4⟩:=Zvf l a ag hl az d;have lF:r=s:=Zxr u2 u4 fun b=>Iff.rfl;subst lF;unfold Zrq;rw[u1,u3];exact⟨rfl,rfl⟩
end Go.Proofs.YtmnloegcpaahcaaGreat
