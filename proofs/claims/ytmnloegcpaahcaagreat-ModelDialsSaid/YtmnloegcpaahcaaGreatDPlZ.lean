import Derived.Test.YtmnloegcpaahcaaGreatDPlXc
import Derived.Test.YtmnloegcpaahcaaGreatDPlEb
namespace Go.Proofs.YtmnloegcpaahcaaGreat
set_option linter.unusedVariables false
set_option linter.unusedSimpArgs false
def grpP(p:Zaa):Zae:=grp p.fEnd.fAddr
def Zhd(l:List Zaa)(g:Zae):Nat:=(l.filter fun p=>decide (grpP p=g)).length
theorem ZAA{κ ν:Type}[DecidableEq κ](k g:κ)(v z:ν):∀l:List (κ×ν),mget (mput l k v) g z=if k=g then v else mget l g z
 | []=>by
  simp only[mput,mget]
 |p :: r=>by
  simp only[mput]
  by_cases h:p.1=k
  .rw[if_pos h]
   simp only[mget]
   by_cases b:k=g
   .simp[b]
   .rw[if_neg b,if_neg b,if_neg (by rw[h];exact b)]
  .rw[if_neg h]
   simp only[mget]
   rw[ZAA k g v z r]
   by_cases b:p.1=g
   .rw[if_pos b,if_pos b,if_neg (by rintro rfl;exact h b)]
   .rw[if_neg b,if_neg b]
theorem Zyr(l:List Zaa)(i:Nat)(h:i<l.length)(g:Zae):Zhd (l.take (i+1)) g=Zhd (l.take i) g+if grpP l[i]=g then 1 else 0:=by
 unfold Zhd;rw[List.take_succ_eq_append_getElem h,List.filter_append,List.length_append];congr 1;by_cases h:grpP l[i]=g<;>simp[h]
theorem ZEm(l:List Zaa)(g:Zae):Zhd l g<=l.length:=List.length_filter_le ..
theorem ZyY{l:List Zaa}(h:okPs l){i:Nat}(b:i<l.length):(l.getD i Zaa.d).fEnd.fAddr.ok:=by rw[Zcn l _ i b];exact h _ (List.getElem_mem b)
theorem ZCY(l:List Zaa)(hl:l.length<=800)(ho:okPs l):∃m,Zlo l=some m/\∀g,mget m g 0=(Zhd l g:Int):=by
 have aA:∀(k i fu:Nat)(m:List (Zae×Int)),l.length-i=k->i<=l.length->k+1<=fu->(∀g,mget m g 0=(Zhd (l.take i) g:Int))->∃m',Zfj fu l (l.length:Int) (i:Int) m=some m'/\∀g,mget m' g 0=(Zhd l g:Int):=by
  intro k;induction k with
  |zero=>
   intro i fu m e f j b;obtain⟨fu,rfl⟩ : ∃x,fu=x+1:=⟨fu-1,by omega⟩;unfold Zfj;rw[List.take_of_length_le (by omega)]at b;exact⟨m,by rw[Zak,if_neg (by omega)],b⟩
  |succ k ih=>
   intro i fu m e f j b;obtain⟨fu,rfl⟩ : ∃x,fu=x+1:=⟨fu-1,by omega⟩;unfold Zfj;have bt:i<l.length:=by omega
   have o:Zaq (i:Int) 1=((i+1:Nat):Int):=add1 (n:=i+1) (by omega) (by simp only[maxLen];omega);have p:l.getD ((i:Int)).toNat Zaa.d=l[i]:=Zcn l _ i bt;have r:=ZEm (l.take i) (grpP l[i]);simp only[List.length_take]at r;rw[Zak,if_pos (by omega),Zar (by omega),p,ZpB _ (ho _ (List.getElem_mem bt)),ZaF,o];refine ih (i+1) fu _ (by omega) (by omega) (by omega) fun g=>?_;rw[ZAA,Zyr l i bt,b g];have bp:grp l[i].fEnd.fAddr=grpP l[i]:=rfl;rw[bp,b (grpP l[i])];by_cases h:grpP l[i]=g
   .subst h;rw[if_pos rfl,if_pos rfl,Zcm (by omega) (by omega)];omega
   .rw[if_neg h,if_neg h];omega
 unfold Zlo;exact aA l.length 0 _ [] (by omega) (by omega) (by omega) (fun g=>by simp[mget,Zhd])
def gtX(l:List Zaa)(i j:Nat):Int:=orI (cmpI (Zhd l (grpP (l.getD i Zaa.d)):Int) (Zhd l (grpP (l.getD j Zaa.d)):Int)) (orI (cmpI (l.getD i Zaa.d).fSince (l.getD j Zaa.d).fSince) (cmpE (l.getD i Zaa.d).fEnd (l.getD j Zaa.d).fEnd))
theorem Zwn{l:List Zaa}{i j:Nat}:0<gtX l i j↔Zhd l (grpP (l.getD j Zaa.d))<Zhd l (grpP (l.getD i Zaa.d))\/(Zhd l (grpP (l.getD i Zaa.d))=Zhd l (grpP (l.getD j Zaa.d)) /\
  ((l.getD j Zaa.d).fSince<(l.getD i Zaa.d).fSince\/((l.getD i Zaa.d).fSince=(l.getD j Zaa.d).fSince/\0<cmpE (l.getD i Zaa.d).fEnd (l.getD j Zaa.d).fEnd))):=by
 unfold gtX;rw[ZxW,ZxW,ZuA,ZjB,ZuA,ZjB];omega
theorem ZHq{l:List Zaa}{i b k:Nat}(e:0<gtX l i b)(f:¬0<gtX l k b):0<gtX l i k:=by
 rw[Zwn]at *
 obtain⟨I,hI⟩ : ∃x,x=l.getD i Zaa.d:=⟨_,rfl⟩;obtain⟨B,g⟩ : ∃x,x=l.getD b Zaa.d:=⟨_,rfl⟩;obtain⟨K,j⟩ : ∃x,x=l.getD k Zaa.d:=⟨_,rfl⟩;rw[<-hI,<-g]at e;rw[<-j,<-g]at f;rw[<-hI,<-j];by_cases n:Zhd l (grpP K)<Zhd l (grpP I)
 .exact .inl n
 .have o:Zhd l (grpP I)=Zhd l (grpP K)/\Zhd l (grpP B)=Zhd l (grpP K):=by
   rcases e with e|⟨e,_⟩
   .exact absurd (Or.inl (by omega)) f
   .by_cases p:Zhd l (grpP B)<Zhd l (grpP K)
    .exact absurd (Or.inl p) f
    .omega
  refine .inr ⟨o.1,?_⟩;have h1':B.fSince<I.fSince\/(I.fSince=B.fSince/\0<cmpE I.fEnd B.fEnd):=by
   rcases e with e|⟨_,e⟩
   .omega
   .exact e
  have fR:¬(B.fSince<K.fSince\/(K.fSince=B.fSince/\0<cmpE K.fEnd B.fEnd)):=fun h=>f (.inr ⟨by omega,h⟩);by_cases s1:K.fSince<I.fSince
  .exact .inl s1
  .have s2:I.fSince=K.fSince/\I.fSince=B.fSince:=by
    rcases h1' with h|⟨h,_⟩
    .exact absurd (Or.inl (by omega)) fR
    .by_cases s3:B.fSince<K.fSince
     .exact absurd (Or.inl s3) fR
     .omega
   refine .inr ⟨s2.1,?_⟩;have r:0<cmpE I.fEnd B.fEnd:=by
    rcases h1' with h|⟨_,h⟩
    .omega
    .exact h
   have u:¬0<cmpE K.fEnd B.fEnd:=fun h=>fR (.inr ⟨by omega,h⟩);have c2':=ZhH.1 r;rw[ZhH];by_cases t:cmpE K.fEnd B.fEnd=0
   .rw[Zip.1 t];exact c2'
   .exact ZmZ (show cmpE K.fEnd B.fEnd<0 by omega) c2'
theorem ZJD{l:List Zaa}{i k:Nat}(b:0<gtX l i k):¬0<gtX l k i:=by
 intro d;rw[Zwn]at b d;rcases b with h|⟨f,h|⟨g,h⟩⟩<;>rcases d with e|⟨j,e|⟨n,e⟩⟩<;>first|omega|skip
 have:=ZhH.1 h;omega
theorem ZCX(p q:Zaa):Zln p q=some (orI (cmpI p.fSince q.fSince) (cmpE p.fEnd q.fEnd)):=by
 unfold Zln;simp only[ZsK,ZzB,or2,ZaF]
structure TopX (l:List Zaa) (n b:Nat):Prop where
 lt:b<n
 top:∀k,k<n->¬0<gtX l k b
 fst:∀k,k<b->0<gtX l b k
theorem Zys(l:List Zaa)(hl:l.length<=800)(ho:okPs l):∃b:Int,ZkH l=some b/\((l=[]/\b = -1)\/∃n:Nat,b=(n:Int)/\TopX l l.length n):=by
 obtain⟨m,o,j⟩:=ZCY l hl ho;have aA:∀(k i fu:Nat)(b:Int),l.length-i=k->i<=l.length->k+1<=fu->((i=0/\b = -1)\/∃n:Nat,b=(n:Int)/\TopX l i n)->∃z:Int,Zeq l fu b l (l.length:Int) (i:Int) m=some z/\((l.length=0/\z = -1)\/∃n:Nat,z=(n:Int)/\TopX l l.length n):=by
  intro k;induction k with
  |zero=>
   intro i fu b f p r hb;obtain⟨fu,rfl⟩ : ∃x,fu=x+1:=⟨fu-1,by omega⟩;obtain rfl:i=l.length:=by omega
   unfold Zeq;exact⟨b,by rw[Zak,if_neg (by omega)],hb⟩
  |succ k ih=>
   intro i fu b f p r hb;obtain⟨fu,rfl⟩ : ∃x,fu=x+1:=⟨fu-1,by omega⟩;have bt:i<l.length:=by omega
   have t:Zaq (i:Int) 1=((i+1:Nat):Int):=add1 (n:=i+1) (by omega) (by simp only[maxLen];omega);unfold Zeq;rw[Zak,if_pos (by omega),Zar (by omega),Zak,t];rcases hb with⟨h0,rfl⟩|⟨n,rfl,g⟩
   .subst h0;rw[if_pos (by omega)];refine ih 1 fu _ (by omega) (by omega) (by omega) (.inr ⟨0,rfl,by omega,fun k f=>?_,fun k f=>by omega⟩);obtain rfl:k=0:=by omega
    rw[Zwn];rintro (h|⟨_,h|⟨_,h⟩⟩)
    .omega
    .omega
    .rw[Zip.2 rfl]at h;omega
   .have u:=g.lt;rw[if_neg (by omega),ZpB _ (ZyY ho (by omega)),ZaF,Zar (by omega),ZpB _ (ZyY ho (by omega)),ZaF,ZsK,ZaF,ZCX,ZaF,or2,ZaF];have e:orI (cmpI (mget m (grp (l.getD ((i:Int)).toNat Zaa.d).fEnd.fAddr) 0) (mget m (grp (l.getD ((n:Int)).toNat Zaa.d).fEnd.fAddr) 0)) (orI (cmpI (l.getD ((i:Int)).toNat Zaa.d).fSince (l.getD ((n:Int)).toNat Zaa.d).fSince) (cmpE (l.getD ((i:Int)).toNat Zaa.d).fEnd (l.getD ((n:Int)).toNat Zaa.d).fEnd))=gtX l i n:=by
     rw[j,j];rfl
    rw[e,Zak];by_cases h:gtX l i n>0
    .rw[if_pos h];refine ih (i+1) fu _ (by omega) (by omega) (by omega) (.inr ⟨i,rfl,by omega,fun k f=>?_,fun k f=>ZHq h (g.top k f)⟩);by_cases hki:k=i
     .subst hki;rw[Zwn];rintro (h|⟨_,h|⟨_,h⟩⟩)
      .omega
      .omega
      .rw[Zip.2 rfl]at h;omega
     .exact ZJD (ZHq h (g.top k (by omega)))
    .rw[if_neg h];refine ih (i+1) fu _ (by omega) (by omega) (by omega) (.inr ⟨n,rfl,by omega,fun k f=>?_,g.fst⟩);by_cases hki:k=i
     .subst hki;exact h
     .exact g.top k (by omega)
 unfold ZkH;obtain⟨b',h1',fR⟩:=aA l.length 0 ((((l.length:Nat):Int)-(0:Int)).toNat+2) (-1) (by omega) (by omega) (by omega) (.inl ⟨rfl,rfl⟩);refine⟨b',by rw[o,ZaF];exact h1',?_⟩;rcases fR with⟨h,rfl⟩|h
 .exact .inl ⟨List.eq_nil_of_length_eq_zero h,rfl⟩
 .exact .inr h
theorem ZAl(l:List Zaa)(hl:l.length<=800)(ho:okPs l)(i:Nat)(v:i<l.length):Zfb l (i:Int)=some (Zhd l (grpP (l.getD i Zaa.d)):Int):=by
 have aA:∀(k j fu:Nat),l.length-j=k->j<=l.length->k+1<=fu->Zcd l (i:Int) fu (Zhd (l.take j) (grpP (l.getD i Zaa.d)):Int) (j:Int)=some (Zhd l (grpP (l.getD i Zaa.d)):Int):=by
  intro k;induction k with
  |zero=>
   intro j fu b e f;obtain⟨fu,rfl⟩ : ∃x,fu=x+1:=⟨fu-1,by omega⟩;unfold Zcd;rw[Zak,if_neg (by omega),List.take_of_length_le (by omega)]
  |succ k ih=>
   intro j fu b e f;obtain⟨fu,rfl⟩ : ∃x,fu=x+1:=⟨fu-1,by omega⟩;have hj2:j<l.length:=by omega
   have g:Zaq (j:Int) 1=((j+1:Nat):Int):=add1 (n:=j+1) (by omega) (by simp only[maxLen];omega);have o:=ZEm (l.take j) (grpP (l.getD i Zaa.d));simp only[List.length_take]at o;have p:l.getD ((j:Int)).toNat Zaa.d=l[j]:=Zcn l _ j hj2;have bo:=ih (j+1) fu (by omega) (by omega) (by omega);rw[Zyr l j hj2]at bo;unfold Zcd;rw[Zak,if_pos (by omega),Zar (by omega),p,ZDu _ (ho _ (List.getElem_mem hj2)),ZaF,Zar (by omega),ZDu _ (ZyY ho (by omega)),ZaF,Zak,g];have r:grp l[j].fEnd.fAddr=grpP l[j]:=rfl;have t:grp (l.getD ((i:Int)).toNat Zaa.d).fEnd.fAddr=grpP (l.getD i Zaa.d):=rfl;rw[r,t];by_cases h:grpP l[j]=grpP (l.getD i Zaa.d)
   .rw[if_pos h]at bo ⊢;have u:Zaq (Zhd (l.take j) (grpP (l.getD i Zaa.d)):Int) 1=((Zhd (l.take j) (grpP (l.getD i Zaa.d))+1:Nat):Int):=by rw[Zcm (by omega) (by omega)];omega
    rw[u];exact bo
   .rw[if_neg h]at bo ⊢;exact bo
 unfold Zfb;rw[Zak,if_neg (by omega),Zak,if_neg (by omega)];exact aA l.length 0 _ (by omega) (by omega) (by omega)
theorem ZBZ(p q:Zaa):Zfq p q=some (decide (p.fSince>q.fSince\/(p.fSince=q.fSince/\0<cmpE p.fEnd q.fEnd))):=by
 unfold Zfq;rw[ZsW,ZaF];by_cases h:p.fSince=q.fSince
 .have e:(p.fSince != q.fSince)=false:=by rw[h];simp
  rw[e,cond_false];congr 1;rw[decide_eq_decide];omega
 .have e:(p.fSince != q.fSince)=true:=by rw[bne_iff_ne];exact h
  rw[e,cond_true];congr 1;rw[decide_eq_decide];omega
theorem ZvO(l:List Zaa)(hl:l.length<=800)(ho:okPs l)(i:Nat)(p:i<l.length)(e:Int->Option Int):∀(k j fu:Nat),l.length-j=k->j<=l.length->k+1<=fu->∀v:Bool,(v=true↔∀x,x<j->¬0<gtX l x i) ->
  ((∀x,x<l.length->¬0<gtX l x i)->Zbc l (i:Int) e fu v (j:Int)=some (i:Int))/\((∃x,x<l.length/\0<gtX l x i)->Zbc l (i:Int) e fu v (j:Int)=e (Zaq (i:Int) 1)):=by
 intro k;induction k with
 |zero=>
  intro j fu r t u v f;obtain⟨fu,rfl⟩ : ∃x,fu=x+1:=⟨fu-1,by omega⟩;obtain rfl:j=l.length:=by omega
  unfold Zbc;rw[Zak,if_neg (by omega)];refine⟨fun h=>by rw[f.2 h];rfl,fun⟨x,y,z⟩=>?_⟩;cases v with
  |false=>rfl
  |true=>exact absurd z (f.1 rfl x y)
 |succ k ih=>
  intro j fu r t u v f;obtain⟨fu,rfl⟩ : ∃x,fu=x+1:=⟨fu-1,by omega⟩;have A:Zaq (j:Int) 1=((j+1:Nat):Int):=add1 (n:=j+1) (by omega) (by simp only[maxLen];omega);have hb:∀b:Bool,(b=true↔∀x,x<j+1->¬0<gtX l x i)->Zbc l (i:Int) e (fu+1) v (j:Int)=Zbc l (i:Int) e fu b ((j+1:Nat):Int):=by
   intro b hb
   conv=>lhs;unfold Zbc
   rw[Zak,if_pos (by omega),ZAl l hl ho j (by omega),ZaF,ZAl l hl ho i p,ZaF,A];cases v with
   |false=>
    rw[cond_false];have:b=false:=by
     cases b with
     |false=>rfl
     |true=>
      have:=f.2 fun x hx=>hb.1 rfl x (by omega);cases this
    rw[this]
   |true=>
    have cT:=f.1 rfl;rw[cond_true,Zak,Zak];have hgt:=Zwn (l:=l) (i:=j) (j:=i);by_cases g:(Zhd l (grpP (l.getD j Zaa.d)):Int)<=(Zhd l (grpP (l.getD i Zaa.d)):Int)
    .rw[if_pos g];by_cases o:(Zhd l (grpP (l.getD j Zaa.d)):Int)<(Zhd l (grpP (l.getD i Zaa.d)):Int)
     .rw[if_pos o];have:b=true:=hb.2 fun x hx=>by
       by_cases hxj:x=j
       .subst hxj;rw[hgt];omega
       .exact cT x (by omega)
      rw[this]
     .rw[if_neg o,Zar (by omega),Zar (by omega),ZBZ,ZaF];simp only[Int.toNat_natCast];congr 1;rw[Bool.eq_iff_iff,hb,Bool.not_eq_true',decide_eq_false_iff_not];constructor
      .intro h x hx;by_cases hxj:x=j
       .subst hxj;rw[hgt];omega
       .exact cT x (by omega)
      .intro h;have:=h j (by omega);rw[hgt]at this;omega
    .rw[if_neg g];have:b=false:=by
      cases b with
      |false=>rfl
      |true=>
       have:=hb.1 rfl j (by omega);rw[hgt]at this;omega
     rw[this]
  by_cases hd:∀x,x<j+1->¬0<gtX l x i
  .rw[hb true (by simp only[true_iff];exact hd)];exact ih (j+1) fu (by omega) (by omega) (by omega) true (by simp only[true_iff];exact hd)
  .rw[hb false (by simp only[Bool.false_eq_true,false_iff];exact hd)];exact ih (j+1) fu (by omega) (by omega) (by omega) false (by simp only[Bool.false_eq_true,false_iff];exact hd)
theorem ZJe(l:List Zaa)(hl:l.length<=800)(ho:okPs l):ZgV l=ZkH l:=by
 obtain⟨b,hb,e⟩:=Zys l hl ho;rw[hb];rcases e with⟨rfl,rfl⟩|⟨n,rfl,d⟩
 .rfl
 .have f:=d.lt;have aA:∀(k i fu:Nat),n-i=k->i<=n->k+1<=fu->ZbS l fu (i:Int)=some (n:Int):=by
   intro k;induction k with
   |zero=>
    intro i fu g h j;obtain⟨fu,rfl⟩ : ∃x,fu=x+1:=⟨fu-1,by omega⟩;obtain rfl:i=n:=by omega
    unfold ZbS;rw[Zak,if_pos (by omega)];exact(ZvO l hl ho i (by omega) _ l.length 0 ((((l.length:Nat):Int)-(0:Int)).toNat+2) (by omega) (by omega) (by omega) true (by simp)).1 d.top
   |succ k ih=>
    intro i fu g h j;obtain⟨fu,rfl⟩ : ∃x,fu=x+1:=⟨fu-1,by omega⟩;have o:Zaq (i:Int) 1=((i+1:Nat):Int):=add1 (n:=i+1) (by omega) (by simp only[maxLen];omega);unfold ZbS;rw[Zak,if_pos (by omega)];have:=(ZvO l hl ho i (by omega) (ZbS l fu) l.length 0 ((((l.length:Nat):Int)-(0:Int)).toNat+2) (by omega) (by omega) (by omega) true (by simp)).2 ⟨n,f,d.fst i (by omega)⟩;have fI:Zbc l (i:Int) (ZbS l fu) ((((l.length:Nat):Int)-(0:Int)).toNat+2) true 0=_:=this;rw[fI,o];exact ih (i+1) fu (by omega) (by omega) (by omega)
  unfold ZgV;exact aA n 0 _ (by omega) (by omega) (by omega)
theorem ZIs(l:List Zaa)(q:ZaA)(s:Int):(Zsi l q s).length<=l.length:=by
 have b:=ZDO (Zkm l) q s;have d:=ZwV l;unfold Zsi;rw[List.length_map];omega
theorem ZIr(l:List Zaa)(q:ZaA)(s:Int):∀p∈Zsi l q s,p∈l/\p.fIn=true:=fun p b=>by
 obtain⟨i,d,rfl⟩:=List.mem_map.1 b
 have:=ZHh (Zkm l) q s i d
 unfold gP
 rw[Zcn _ _ i.toNat (by omega)]
 have e:=List.mem_filter.1 (List.getElem_mem (l:=Zkm l) (n:=i.toNat) (by omega))
 exact e
theorem ZuJ(l:List Zaa)(q:ZaA)(s:Int)(hl:l.length<=800)(ho:okPs l) :
  ∃r:Zaj×Bool,ZhK l q s=some r/\ZeC l q s=some r/\(r.2=true->∃p∈l,p.fEnd=r.1/\p.fIn=true):=by
 have i:=ZIs l q s;have d:=ZIr l q s;have hoc:okPs (Zsi l q s):=fun p f=>ho p (d p f).1;obtain⟨b,hb,fe⟩:=Zys (Zsi l q s) (by omega) hoc;have bB:=ZJe (Zsi l q s) (by omega) hoc;unfold ZhK ZeC;rw[ZCw l q s hl ho,ZGH l q s hl ho,ZaF,ZaF,bB,hb,ZaF,Zak];rcases fe with⟨j,rfl⟩|⟨n,rfl,g⟩
 .rw[if_pos (by omega)];exact⟨_,rfl,rfl,fun h=>by cases h⟩
 .have e:=g.lt;rw[if_neg (by omega),Zar (by omega)];refine⟨_,rfl,rfl,fun _=>⟨_,(d _ ?_).1,rfl,(d _ ?_).2⟩⟩
  all_goals
   simp only[Int.toNat_natCast];rw[Zcn _ _ n e];exact List.getElem_mem e
set_option linter.unusedSectionVars false
def dW(l:List Zaa):Prop:=l.Pairwise fun p q=>p.fEnd≠q.fEnd
theorem dW.perm{a b:List Zaa}(h:dW a)(d:a.Perm b):dW b:=(List.Perm.pairwise_iff (R:=fun p q:Zaa=>p.fEnd≠q.fEnd) (fun e=>Ne.symm e) d).1 h
theorem dW.filter{l:List Zaa}(h:dW l)(p:Zaa->Bool):dW (l.filter p):=List.Pairwise.filter p h
section
variable {l:List Zaa} (hd:dW l)
include hd
end
def ZoG(h:Int):Int:=if h<1 then 1 else if h>1073741824 then 1073741824 else h
def Ztd(s:Zay)(h ae:Int):Nat:=(fitI ae-fitI s.fAt).toNat / (ZoG h).toNat
def decS(s:Zay)(h ae:Int):Zay:=⟨(((fitI s.fPoints).toNat / 2 ^ Ztd s h ae:Nat):Int),fitI s.fAt+((Ztd s h ae*(ZoG h).toNat:Nat):Int)⟩
theorem ZDl(h:Int):1<=ZoG h/\ZoG h<=1073741824:=by
 unfold ZoG
 repeat' split
 all_goals omega
theorem ZLc(x:Int)(h:x<=1099511627776):fitI x=((x.toNat:Nat):Int):=by
 unfold fitI;split
 .omega
 .rw[if_neg (by omega)];omega
theorem ZFI(h:Nat)(h0:1<=h)(o:h<=1073741824)(t:Int)(r:0<=t/\t<=1099511627776)(b6:Zay):∀(m fu p a:Nat),p<2 ^ m->m+1<=fu->a<=2199023255552->p<=1099511627776 ->
  ZcI (h:Int) b6 fu t ⟨(p:Int),(a:Int)⟩=some ⟨((p / 2 ^ ((t-(a:Int)).toNat / h):Nat):Int),(a:Int)+(((t-(a:Int)).toNat / h*h:Nat):Int)⟩:=by
 intro m;have sub:∀a:Nat,a<=2199023255552->ZaG t (a:Int)=t-(a:Int):=fun a b=>by
  exact ZcO (by omega) (by omega)
 have last:∀(a:Nat),a<=2199023255552->t-(a:Int)>=(h:Int)->ZaG t (Int.tmod (t-(a:Int)) (h:Int))=(a:Int)+(((t-(a:Int)).toNat / h*h:Nat):Int):=fun a b hd=>by
  obtain⟨d,iM⟩ : ∃d:Nat,t-(a:Int)=(d:Int):=⟨(t-(a:Int)).toNat,by omega⟩;have hd4:t=(d:Int)+(a:Int):=by omega
  rw[iM,Int.toNat_natCast,<-Int.ofNat_tmod];have u:d % h<=d:=Nat.mod_le _ _;have hdm:=Nat.div_add_mod d h;rw[Nat.mul_comm]at hdm;have e:ZaG t ((d % h:Nat):Int)=t-((d % h:Nat):Int):=by
   exact ZcO (by omega) (by omega)
  rw[e];generalize d / h*h=q at *
  omega
 induction m with
 |zero=>
  intro fu p a f g b bg;obtain⟨fu,rfl⟩ : ∃x,fu=x+1:=⟨fu-1,by omega⟩;have gD:p=0:=by simpa using f
  subst gD;unfold ZcI;simp only[Zak,sub a b];rw[if_neg (by omega),Nat.zero_div];by_cases hd:t-(a:Int)>=(h:Int)
  .rw[if_pos hd,Zar (by omega),last a b hd]
  .have h0:(t-(a:Int)).toNat / h=0:=Nat.div_eq_of_lt (by omega);rw[if_neg hd,h0];simp
 |succ m ih=>
  intro fu p a f g b bg;obtain⟨fu,rfl⟩ : ∃x,fu=x+1:=⟨fu-1,by omega⟩;unfold ZcI;simp only[Zak,sub a b];by_cases gD:(p:Int)>0
  .rw[if_pos gD];by_cases hd:t-(a:Int)>=(h:Int)
   .rw[if_pos hd];have i:IntKind.wrap .i64 (Int.tdiv (p:Int) 2)=((p / 2:Nat):Int):=by
     have:Int.tdiv (p:Int) 2=((p / 2:Nat):Int):=(Int.ofNat_tdiv p 2).symm;rw[this];exact Zhl (by omega) (by omega)
    have j:Zaq (a:Int) (h:Int)=((a+h:Nat):Int):=by rw[Zcm (by omega) (by omega)];omega
    rw[i,j,ih fu (p / 2) (a+h) (by rw[Nat.pow_succ]at f;omega) (by omega) (by omega) (by omega)];obtain⟨d,iM⟩ : ∃d:Nat,t-(a:Int)=((d+h:Nat):Int):=⟨(t-(a:Int)).toNat-h,by omega⟩;have hd3:t-((a+h:Nat):Int)=(d:Int):=by omega
    have n:(d+h) / h=d / h+1:=Nat.add_div_right d (by omega);rw[iM,hd3,Int.toNat_natCast,Int.toNat_natCast,n,Nat.pow_succ,Nat.mul_comm (2 ^ (d / h)) 2,<-Nat.div_div_eq_div_mul,Nat.add_mul,Nat.one_mul];congr 2;generalize d / h*h=q;omega
   .have h0:(t-(a:Int)).toNat / h=0:=Nat.div_eq_of_lt (by omega);rw[if_neg hd,if_neg hd,h0];simp
  .have gD:p=0:=by omega
   subst gD;rw[if_neg gD,Nat.zero_div];by_cases hd:t-(a:Int)>=(h:Int)
   .rw[if_pos hd,Zar (by omega),last a b hd]
   .rw[if_neg hd,Nat.div_eq_of_lt (by omega)];simp
theorem ZGE(s:Zay)(h ae:Int):Zgz s h ae=some (decS s h ae):=by
 have j:=ZDl h;have n:=ZjA s.fAt;have o:=ZjA s.fPoints;have f:=ZjA ae;obtain⟨k,g⟩ : ∃k:Nat,ZoG h=k:=⟨(ZoG h).toNat,by omega⟩;obtain⟨a,i⟩ : ∃k:Nat,fitI s.fAt=k:=⟨(fitI s.fAt).toNat,by omega⟩;obtain⟨p,eI⟩ : ∃k:Nat,fitI s.fPoints=k:=⟨(fitI s.fPoints).toNat,by omega⟩;have aA:∀b:Zay,ZdS ae s b (ZoG h)=some (decS s h ae):=fun b=>by
  unfold ZdS decS Ztd;simp only[ZkO,Option.bind_some,g,i,eI,Int.toNat_natCast];rw[ZFI k (by omega) (by omega) (fitI ae) f b 41 1000000 p a (by omega) (by omega) (by omega) (by omega)]
 unfold Zgz ZeR;simp only[Zak];by_cases d:h<1
 .rw[if_pos d,if_neg (by omega)];have:=aA ⟨0,0⟩;rwa [show ZoG h=1 by unfold ZoG;rw[if_pos d]]at this
 .rw[if_neg d];by_cases e:h>1073741824
  .rw[if_pos e];have:=aA ⟨0,0⟩;rwa [show ZoG h=1073741824 by unfold ZoG;rw[if_neg d,if_pos e]]at this
  .rw[if_neg e];have:=aA ⟨0,0⟩;rwa [show ZoG h=h by unfold ZoG;rw[if_neg d,if_neg e]]at this
theorem ZFp(s:Zay)(h ae:Int):ZqQ s h ae=some (decS s h ae):=by
 have B:=ZDl h;have g:=ZjA s.fAt;have C:=ZjA s.fPoints;have D:=ZjA ae;unfold ZqQ Zyh ZAO;have r:(if(1073741824:Int)<(if(1:Int)>h then(1:Int)else h)then(1073741824:Int)else(if(1:Int)>h then(1:Int)else h))=ZoG h:=by
  unfold ZoG
  repeat' split
  all_goals omega
 have t:(if(1099511627776:Int)<(if(0:Int)>s.fPoints then(0:Int)else s.fPoints)then(1099511627776:Int)else(if(0:Int)>s.fPoints then(0:Int)else s.fPoints))=fitI s.fPoints:=by
  unfold fitI
  repeat' split
  all_goals omega
 have u:∀n,0<=n->n<=1099511627776->fitI n=n:=fun n i b=>by unfold fitI;rw[if_neg (by omega),if_neg (by omega)]
 have v:ZaG (fitI ae) (fitI s.fAt)=fitI ae-fitI s.fAt:=ZcO (by omega) (by omega);simp only[Zmc,Option.bind_some,r,t,u (fitI s.fAt) g.1 g.2,v];obtain⟨k,e⟩ : ∃k:Nat,ZoG h=k:=⟨(ZoG h).toNat,by omega⟩;obtain⟨a,j⟩ : ∃k:Nat,fitI s.fAt=k:=⟨(fitI s.fAt).toNat,by omega⟩;obtain⟨p,eI⟩ : ∃k:Nat,fitI s.fPoints=k:=⟨(fitI s.fPoints).toNat,by omega⟩;obtain⟨d,hd⟩ : ∃d:Nat,(fitI ae-fitI s.fAt).toNat=d:=⟨_,rfl⟩;have iM:fitI (fitI ae-fitI s.fAt)=(d:Int):=by rw[ZLc _ (by omega),hd]
 have hdk:d / k<=d:=Nat.div_le_self _ _;have y:IntKind.wrap .i64 (Int.tdiv (d:Int) (k:Int))=((d / k:Nat):Int):=by
  rw[<-Int.ofNat_tdiv];exact Zhl (Int.natCast_nonneg _) (by omega)
 have hnn:(0:Int)<=((d / k:Nat):Int):=Int.natCast_nonneg _;rw[iM,e,y,Zar (by omega),Zar (by split<;>omega),eI,j];have hl:Ztd s h ae=d / k:=by unfold Ztd;rw[hd,e,Int.toNat_natCast]
 unfold decS;rw[hl,eI,j,e,Int.toNat_natCast,Int.toNat_natCast];have hdm:d / k*k<=d:=Nat.div_mul_le_self d k;have z:ZiO ((d / k:Nat):Int) (k:Int)=((d / k*k:Nat):Int):=by
  unfold ZiO;rw[<-Int.natCast_mul];exact Zhl (by omega) (by omega)
 have A:Zaq (a:Int) ((d / k*k:Nat):Int)=(a:Int)+((d / k*k:Nat):Int):=Zcm (by omega) (by omega);rw[z,A];congr 2
 -- the points
 have o:∀c:Nat,c<=41->Int.fdiv (p:Int) (2 ^ (min ((c:Nat):Int).toNat (IntKind.bits .i64)))=((p / 2 ^ c:Nat):Int):=fun c f=>by
  have:min ((c:Nat):Int).toNat (IntKind.bits .i64)=c:=by
   rw[Int.toNat_natCast];show min c 64=c;omega
  rw[this];have b:((2:Int) ^ c)=((2 ^ c:Nat):Int):=by simp
  rw[b,Int.fdiv_eq_tdiv_of_nonneg (by omega) (Int.natCast_nonneg _)];exact(Int.ofNat_tdiv p (2 ^ c)).symm
 by_cases f:(41:Int)<((d / k:Nat):Int)
 .rw[if_pos f];have:=o 41 (by omega);rw[show (((41:Nat):Int))=(41:Int)from rfl]at this;rw[this];have i:p / 2 ^ 41=0:=Nat.div_eq_of_lt (by omega);have b:p / 2 ^ (d / k)=0:=Nat.div_eq_of_lt (Nat.lt_of_lt_of_le (show p<2 ^ 41 by omega) (Nat.pow_le_pow_right (by omega) (by omega)));rw[i,b]
 .rw[if_neg f,o (d / k) (by omega)]
theorem ZLm(s:Zay)(h ae:Int):0<=(decS s h ae).fPoints/\(decS s h ae).fPoints<=1099511627776:=by
 have b:=ZjA s.fPoints;unfold decS;have:=Nat.div_le_self (fitI s.fPoints).toNat (2 ^ Ztd s h ae);constructor
 .exact Int.natCast_nonneg _
 .show (((fitI s.fPoints).toNat / 2 ^ Ztd s h ae:Nat):Int)<=_;omega
def ZIF(s:Zay)(points h ae:Int):Zay:=⟨fitI ((decS s h ae).fPoints+points * 65536),(decS s h ae).fAt⟩
theorem ZGq(s:Zay)(points h ae:Int)(h0:0<=points)(f:points<=100):Zng s points h ae=some (ZIF s points h ae)/\ZhB s points h ae=some (ZIF s points h ae):=by
 have hd:=ZLm s h ae;have b:∀n,0<=n->n<=1099511627776->fitI n=n:=fun n f i=>by unfold fitI;rw[if_neg (by omega),if_neg (by omega)]
 have em:ZiO points 65536=points * 65536:=by unfold ZiO;exact Zhl (by omega) (by omega)
 have ea:Zaq (decS s h ae).fPoints (points * 65536)=(decS s h ae).fPoints+points * 65536:=Zcm (by omega) (by omega);constructor
 .unfold Zng ZAP ZoN ZIF;simp only[ZFp,Zmc,Option.bind_some,Zak,b points h0 (by omega),b 65536 (by omega) (by omega),b _ hd.1 hd.2];have j:(Zng s points h ae=Zng s points h ae):=rfl;by_cases d:points>0
  .rw[if_pos d,Zar (by omega)];have g:¬((65536:Int)>IntKind.wrap .i64 (Int.tdiv 1099511627776 points)):=by
    obtain⟨n,rfl⟩ : ∃n:Nat,points=n:=⟨points.toNat,by omega⟩;have e:Int.tdiv (1099511627776:Int) (n:Int)=((1099511627776 / n:Nat):Int):=(Int.ofNat_tdiv 1099511627776 n).symm;have hle:1099511627776 / n<=1099511627776:=Nat.div_le_self _ _;have hge:1099511627776 / 100<=1099511627776 / n:=Nat.div_le_div_left (by omega) (by omega);rw[e,Zhl (by omega) (by omega)];omega
   rw[if_neg g];simp only[Option.bind_some,em,b (points * 65536) (by omega) (by omega),ea]
  .rw[if_neg d];simp only[Option.bind_some,em,b (points * 65536) (by omega) (by omega),ea]
 .unfold ZhB ZIF;simp only[ZGE,ZkO,Option.bind_some,Zak,b points h0 (by omega)];rw[if_neg (by omega),em,ea]
theorem ZBY(s:Zay):∃r,ZmM s=some r/\Zcx s=some r:=by
 unfold ZmM Zcx;simp only[Zak];by_cases h:s.fPoints<0
 .rw[if_pos (by omega),if_pos h];exact⟨_,rfl,rfl⟩
 .rw[if_neg (by omega),if_neg h];exact⟨_,rfl,rfl⟩
def ZGb(s:Zay):Int:=(ZmM s).getD 0
theorem ZIK(s:Zay):ZmM s=some (ZGb s)/\Zcx s=some (ZGb s):=by
 obtain⟨r,b,d⟩:=ZBY s;unfold ZGb;rw[b,d];exact⟨rfl,rfl⟩
def ZAn(s:Zay)(aW:Int):Bool:=decide (s.fPoints>=(if aW<1 then 1 else if aW>16777216 then 16777216 else aW) * 65536)
theorem ZEU(s:Zay)(aW:Int)(h0:0<=s.fPoints)(f:s.fPoints<=1099511627776):ZqL s aW=some (ZAn s aW)/\Zfr s aW=some (ZAn s aW):=by
 obtain⟨p,g⟩ : ∃k:Nat,s.fPoints=k:=⟨s.fPoints.toNat,by omega⟩;have i:Zcx s=some ((p / 65536:Nat):Int):=by
  unfold Zcx;simp only[Zak];have e:Int.tdiv (p:Int) 65536=((p / 65536:Nat):Int):=(Int.ofNat_tdiv p 65536).symm;rw[if_neg (by omega),g,e,Zhl (by omega) (by omega)]
 have key:∀L:Int,1<=L->L<=16777216->decide (((p / 65536:Nat):Int)>=L)=decide (s.fPoints>=L * 65536):=fun L f j=>by
  rw[g];apply decide_eq_decide.2;omega
 have ka:(if(16777216:Int)<(if(1:Int)>aW then(1:Int)else aW)then(16777216:Int)else(if(1:Int)>aW then(1:Int)else aW))=(if aW<1 then 1 else if aW>16777216 then 16777216 else aW):=by
  repeat' split
  all_goals omega
 have h:1<=(if aW<1 then(1:Int)else if aW>16777216 then 16777216 else aW)/\(if aW<1 then(1:Int)else if aW>16777216 then 16777216 else aW)<=16777216:=by
  repeat' split
  all_goals omega
 have em:∀L:Int,1<=L->L<=16777216->ZiO L 65536=L * 65536:=fun L f j=>by unfold ZiO;exact Zhl (by omega) (by omega)
 constructor
 .unfold ZqL ZAn;rw[ka,em _ h.1 h.2]
 .unfold Zfr Zem ZAn;simp only[Zak,i,Option.bind_some];by_cases b:aW<1
  .rw[if_pos b,if_pos b,if_neg (by omega),key 1 (by omega) (by omega)]
  .rw[if_neg b,if_neg b];by_cases d:aW>16777216
   .rw[if_pos d,if_pos d,key 16777216 (by omega) (by omega)]
   .rw[if_neg d,if_neg d,key aW (by omega) (by omega)]
def penI(k:Int):Int:=(ZkY k).getD 0
theorem ZKd(k:Int):ZkY k=some (penI k)/\Zej k=some (penI k)/\0<=penI k/\penI k<=100:=by
 obtain⟨q,b,d,e,f⟩:=ZEZ k;unfold penI;rw[b,d];exact⟨rfl,rfl,e,f⟩
def ZvE(c:Zav)(x:Zas)(p:Zaa):Zaa:=⟨p.fEnd,p.fIn,p.fSince,ZIF p.fScore (penI x.fNum) c.fHalf x.fNow,p.fPing,p.fWork⟩
theorem ZIx(c:Zav)(x:Zas)(p:Zaa):Ztn p (penI x.fNum) c.fHalf x.fNow=some (ZvE c x p)/\ZfW p (penI x.fNum) c.fHalf x.fNow=some (ZvE c x p):=by
 obtain⟨_,_,b,d⟩:=ZKd x.fNum;obtain⟨e,f⟩:=ZGq p.fScore (penI x.fNum) c.fHalf x.fNow b d;unfold Ztn ZfW;rw[e,f];exact⟨rfl,rfl⟩
theorem ZII(c:Zav)(x:Zas)(p:Zaa):0<=(ZvE c x p).fScore.fPoints/\(ZvE c x p).fScore.fPoints<=1099511627776:=ZjA _
def ofP(l:List Zaa)(n:Zae)(b:Bool):List Zaa:=l.filter fun p=>hasS n p.fEnd.fAddr==b
theorem ZDz(l:List Zaa)(n:Zae)(b:Bool)(g:n.fAddr.ok)(hl:l.length<=1000000)(az:∀p∈l,p.fEnd.fAddr.ok):ZgL l n b=some (ofP l n b):=by
 have hL:l.length<=maxLen:=by unfold maxLen;omega
 have aA:∀fu (i:Nat) w,i<=l.length->l.length-i<fu->w=ofP (l.take i) n b->Zdr l b fu (i:Int) w n=some (ofP l n b):=by
  intro fu;induction fu with
  |zero=>intro i w _ h;omega
  |succ fu ih=>
   intro i w o r e;unfold Zdr;simp only[Zak];by_cases h:i<l.length
   .have j:=ZfL l Zaa.d i h;rw[if_pos (by omega),Zar ⟨by omega,by omega⟩,add1 h hL];simp only[Int.toNat_natCast,ZDy n _ g (az _ j),Option.bind_some];have bW:ofP (l.take (i+1)) n b=w++[l.getD i Zaa.d].filter (fun p=>hasS n p.fEnd.fAddr==b):=by
     rw[e];unfold ofP;rw[List.take_succ_eq_append_getElem h,List.filter_append,Zcn l _ i h]
    have hwl:w.length<=1000000:=by
     rw[e];have:=List.length_filter_le (fun p:Zaa=>hasS n p.fEnd.fAddr==b) (l.take i);simp only[List.length_take]at this;unfold ofP;omega
    cases f:hasS n (l.getD i Zaa.d).fEnd.fAddr==b with
    |true=>
     rw[List.filter_cons_of_pos (by rw[f])]at bW;simp only[cond_true];rw[Zar ⟨by simp;omega,by simp[maxLen];omega⟩];exact ih (i+1) _ (by omega) (by omega) bW.symm
    |false=>
     rw[List.filter_cons_of_neg (by rw[f];decide)]at bW;simp only[cond_false];refine ih (i+1) _ (by omega) (by omega) ?_;rw[bW];simp
   .rw[if_neg (by omega),e];have:i=l.length:=by omega
    rw[this,List.take_length]
 exact aA _ 0 [] (by omega) (by omega) rfl
theorem ZGZ(l:List Zaa)(n:Zae)(b:Bool):(ofP l n b).length<=l.length:=List.length_filter_le _ _
def cntP(l:List Zaa)(b:Bool):Int:=((l.countP fun p=>p.fIn==b:Nat):Int)
theorem ZBN(l:List Zaa)(b:Bool)(hl:l.length<=maxLen):Zhr l b=some (cntP l b):=by
 simp only[Zhr];have:=ZrD l Zaa.d (fun p=>p.fIn==b) hl (fun fu n i=>Zet b fu n l (l.length:Int) i) (fun fu i n e=>by
   simp only[Zet,Zak];rw[if_pos (by omega),Zar ⟨by omega,by omega⟩];simp only[Int.toNat_natCast];cases((l.getD i Zaa.d).fIn==b)<;>rfl) (fun fu n=>by
   simp only[Zet,Zak];rw[if_neg (by omega)]) ((((l.length:Nat):Int)-(0:Int)).toNat+2) 0 0 (by omega) (by omega) (by omega)
 simp only[Int.natCast_zero,List.drop_zero]at this;rw[this];unfold cntP;congr 2;omega
theorem ZvQ(l:List Zaa)(b:Bool)(hl:l.length<=maxLen):ZeZ l b=some (cntP l b):=by
 simp only[ZeZ];have:=ZrD l Zaa.d (fun p=>p.fIn==b) hl (fun fu n i=>Zcb l b fu n i) (fun fu i n e=>by
   simp only[Zcb,Zak];rw[if_pos (by omega),Zar ⟨by omega,by omega⟩];simp only[Int.toNat_natCast];cases((l.getD i Zaa.d).fIn==b)<;>rfl) (fun fu n=>by
   simp only[Zcb,Zak];rw[if_neg (by omega)]) ((((l.length:Nat):Int)-(0:Int)).toNat+2) 0 0 (by omega) (by omega) (by omega)
 simp only[Int.natCast_zero,List.drop_zero]at this;rw[this];unfold cntP;congr 2;omega
theorem ZIl(l:List Zaa)(b:Bool):0<=cntP l b/\cntP l b<=(l.length:Int):=by
 unfold cntP;have:=List.countP_le_length (p:=fun p:Zaa=>p.fIn==b) (l:=l);omega
def ZFC(l:List Zaa):List Zaj:=l.map (·.fEnd)
def addT(a b:Int):Int:=fitI (fitI a+fitI b)
theorem ZvH(a b:Int):ZoN a b=some (addT a b)/\Zef a b=some (addT a b):=by
 have d:=ZjA a;have f:=ZjA b;have e:Zaq (fitI a) (fitI b)=fitI a+fitI b:=Zcm (by omega) (by omega);constructor
 .unfold ZoN addT;simp only[Zmc,Option.bind_some,e]
 .unfold Zef addT;simp only[ZkO,Option.bind_some,e]
theorem ZEO{n:Nat}(h:n<=1000000):n<=maxLen:=by simp only[maxLen];omega
theorem ZzO{a:Int}(h : -1000000000000000000<=a)(h':a<=1000000000000000000):IntKind.i64.wrap a=a:=by
 simp only[IntKind.wrap,IntKind.bits,IntKind.signed];simp;omega
abbrev Itm:=Zaf
def cmpH(a b:Itm):Int:=orI (cmpI a.fKey b.fKey) (cmpE a.fEnd b.fEnd)
theorem ZFo(a b:Itm):Zmk a b=some (cmpH a b):=by
 simp only[Zmk,ZsK,ZzB,or2,Option.bind_some,cmpH]
theorem Zyg(a b:Itm):Zml a b=some (decide (cmpH a b<0)):=by
 simp only[Zml,ZFo,Option.bind_some]
theorem ZIo{a b:Itm}:cmpH a b<0↔a.fKey<b.fKey\/(a.fKey=b.fKey/\cmpE a.fEnd b.fEnd<0):=by simp only[cmpH,ZxV,Zuz,ZjB]
theorem ZwS{a b:Itm}:0<cmpH a b↔cmpH b a<0:=by
 simp only[cmpH,ZxV,ZxW,Zuz,ZuA,ZjB,ZhH];constructor<;>rintro (h|⟨d,e⟩)<;>first|exact .inl h|exact .inr ⟨d.symm,e⟩
theorem ZwR{a b:Itm}:cmpH a b=0↔a=b:=by
 simp only[cmpH,Zvm,ZjB,Zip];obtain⟨x,p⟩:=a;obtain⟨y,q⟩:=b;simp
theorem Zyu{a b c:Itm}(d:cmpH a b<0)(e:cmpH b c<0):cmpH a c<0:=by
 rw[ZIo]at *
 rcases d with d|⟨d,f⟩<;>rcases e with e|⟨e,g⟩
 .exact .inl (by omega)
 .exact .inl (by omega)
 .exact .inl (by omega)
 .exact .inr ⟨by omega,ZmZ f g⟩
def leH(a b:Itm):Prop:=¬cmpH b a<0
theorem ZrE(a:Itm):leH a a:=by unfold leH;rw[ZwR.2 rfl];omega
theorem Zwj{a b:Itm}(h:cmpH a b<0):leH a b:=by
 unfold leH;intro d;have:=ZwS.2 d;omega
theorem Zwi{a b c:Itm}(e:leH a b)(d:leH b c):leH a c:=by
 unfold leH at *
 intro h;have f:cmpH a b<=0:=by
  by_cases q:0<cmpH a b
  .exact absurd (ZwS.1 q) e
  .omega
 by_cases q:cmpH a b=0
 .have:=ZwR.1 q;subst this;exact d h
 .exact d (Zyu h (by omega))
theorem Zte{a b:Itm}(h:¬cmpH a b<0):leH b a:=h
abbrev ixH(h:List Itm)(i:Nat):Itm:=h.getD i Zaf.d
def HF(lo:Nat)(h:List Itm):Prop:=∀k,0<k->k<h.length->lo<=(k-1) / 2->leH (ixH h ((k-1) / 2)) (ixH h k)
structure HB (lo i:Nat) (h:List Itm):Prop where
 ge:lo<=i
 up:∀k,0<k->k<h.length->lo<=(k-1) / 2->(k-1) / 2≠i->leH (ixH h ((k-1) / 2)) (ixH h k)
 over:∀k,0<k->k<h.length->(k-1) / 2=i->0<i->lo<=(i-1) / 2->leH (ixH h ((i-1) / 2)) (ixH h k)
def ZzG(h:List Itm)(i b:Nat):Nat:=if 2*i+2<h.length/\cmpH (ixH h (2*i+2)) (ixH h b)<0 then 2*i+2 else b
def Znz(h:List Itm)(i:Nat):Nat:=ZzG h i (if 2*i+1<h.length/\cmpH (ixH h (2*i+1)) (ixH h i)<0 then 2*i+1 else i)
theorem ZBE(h:List Itm)(i:Nat)(e:¬2*i+1<h.length):Znz h i=i:=by
 unfold Znz ZzG;rw[if_neg (fun x:2*i+1<h.length/\_=>e x.1),if_neg (fun x=>by have:=x.1;omega)]
theorem Zxa(h:List Itm)(i:Nat)(o:i<h.length):(Znz h i=i\/(Znz h i=2*i+1\/Znz h i=2*i+2)/\Znz h i<h.length/\cmpH (ixH h (Znz h i)) (ixH h i)<0)/\Znz h i<h.length /\
  ∀k,k<h.length->0<k->(k-1) / 2=i->leH (ixH h (Znz h i)) (ixH h k):=by
 have n:∀k,0<k->(k-1) / 2=i->k=2*i+1\/k=2*i+2:=by intro k d f;omega
 unfold Znz ZzG;by_cases g:2*i+1<h.length/\cmpH (ixH h (2*i+1)) (ixH h i)<0
 .rw[if_pos g];by_cases b:2*i+2<h.length/\cmpH (ixH h (2*i+2)) (ixH h (2*i+1))<0
  .rw[if_pos b];refine⟨.inr ⟨.inr rfl,b.1,Zyu b.2 g.2⟩,b.1,fun k d f j=>?_⟩;rcases n k f j with e|e
   .subst e;exact Zwj b.2
   .subst e;exact ZrE _
  .rw[if_neg b];refine⟨.inr ⟨.inl rfl,g.1,g.2⟩,g.1,fun k d f j=>?_⟩;rcases n k f j with e|e
   .subst e;exact ZrE _
   .subst e;exact Zte fun q=>b ⟨d,q⟩
 .rw[if_neg g];by_cases b:2*i+2<h.length/\cmpH (ixH h (2*i+2)) (ixH h i)<0
  .rw[if_pos b];refine⟨.inr ⟨.inr rfl,b.1,b.2⟩,b.1,fun k d f j=>?_⟩;rcases n k f j with e|e
   .subst e;exact Zwi (Zwj b.2) (Zte fun q=>g ⟨d,q⟩)
   .subst e;exact ZrE _
  .rw[if_neg b];refine⟨.inl rfl,o,fun k d f j=>?_⟩;rcases n k f j with e|e
   .subst e;exact Zte fun q=>g ⟨d,q⟩
   .subst e;exact Zte fun q=>b ⟨d,q⟩
def ZuM(h:List Itm)(i b:Nat):List Itm:=(h.set i (ixH h b)).set b (ixH h i)
theorem ZqB(h:List Itm)(i b:Nat):(ZuM h i b).length=h.length:=by simp[ZuM]
theorem ZsS(h:List Itm)(i b k:Nat)(f:i<h.length)(hb:b<h.length):ixH (ZuM h i b) k=if k=b then ixH h i else if k=i then ixH h b else ixH h k:=by
 simp only[ixH,ZuM,List.getD_eq_getElem?_getD,List.getElem?_set,List.length_set];by_cases d:k=b
 .subst d;simp[hb]
 .rw[if_neg (Ne.symm d),if_neg d];by_cases e:k=i
  .subst e;simp[f]
  .rw[if_neg (Ne.symm e),if_neg e]
theorem ZEK(h:List Itm)(i b:Nat)(d:i<h.length)(hb:b<h.length):(ZuM h i b).Perm h:=by
 rw[List.perm_iff_count];intro a;unfold ZuM;have e:ixH h i=h[i]:=Zcn h _ i d;have f:ixH h b=h[b]:=Zcn h _ b hb;rw[e,f];by_cases hib:i=b
 .subst hib;simp
 .rw[List.count_set (by simpa using hb),List.count_set d,List.getElem_set_ne hib];have m1:(if(h[i]==a)=true then 1 else 0)<=h.count a:=by
   split
   .rename_i q;have:h[i]=a:=by simpa using q
    exact List.one_le_count_iff.2 (this ▸ List.getElem_mem d)
   .omega
  have m2:(if(h[b]==a)=true then 1 else 0)<=h.count a:=by
   split
   .rename_i q;have:h[b]=a:=by simpa using q
    exact List.one_le_count_iff.2 (this ▸ List.getElem_mem hb)
   .omega
  by_cases g:(h[i]==a)=true<;>by_cases j:(h[b]==a)=true<;>simp only[g,j]at m1 m2 ⊢<;>omega
theorem HB.step{lo i:Nat}{h:List Itm}(H:HB lo i h)(f:i<h.length)(hne:Znz h i≠i):HB lo (Znz h i) (ZuM h i (Znz h i)):=by
 obtain⟨c,hb,p⟩:=Zxa h i f;generalize hbe:Znz h i=b at *
 rcases c with c|⟨c,_,hlt⟩
 .exact absurd c hne
 have kb:(b-1) / 2=i:=by omega
 have hib:i<b:=by omega
 refine⟨by have:=H.ge;omega,fun k g d j o=>?_,fun k g d j o r=>?_⟩
 .rw[ZqB]at d;rw[ZsS h i b _ f hb,ZsS h i b _ f hb,if_neg o];by_cases n:(k-1) / 2=i
  .rw[if_pos n];by_cases e:k=b
   .rw[if_pos e];exact Zwj hlt
   .rw[if_neg e,if_neg (by omega)];exact p k d g n
  .rw[if_neg n,if_neg (by omega:k≠b)];by_cases e:k=i
   .rw[if_pos e];subst e;exact H.over b (by omega) hb kb g j
   .rw[if_neg e];exact H.up k g d j n
 .rw[ZqB]at d;rw[ZsS h i b _ f hb,ZsS h i b _ f hb,if_neg (by omega),if_pos kb,if_neg (by omega),if_neg (by omega)];have:=H.up k g d (by have:=H.ge;omega) (by omega);rw[j]at this;exact this
theorem HB.done{lo i:Nat}{h:List Itm}(H:HB lo i h)(g:i<h.length)(j:Znz h i=i):HF lo h:=by
 obtain⟨c,hb,b⟩:=Zxa h i g;intro k d f n;by_cases e:(k-1) / 2=i
 .rw[e];rw[j]at b;exact b k f d e
 .exact H.up k d f n e
theorem mul2{i:Nat}(h:i<=1000000):ZiO (2:Int) (i:Int)=((2*i:Nat):Int):=by
 simp only[ZiO];rw[show (2:Int)*(i:Int)=((2*i:Nat):Int)by omega];exact ZzO (by omega) (by omega)
theorem add2{i k:Nat}(h:i<=3000000)(b:k<=2):Zaq (i:Int) (k:Int)=((i+k:Nat):Int):=by rw[Zcm (by omega) (by omega)];omega
theorem ZLk(i:Nat)(h:List Itm)(f:i<h.length)(hl:h.length<=1000000)(kk:Int->List Itm->Option (List Itm))(fu:Nat)(j:3<=fu) :
  Zdm (i:Int) kk fu (i:Int) ((2*i+1:Nat):Int) h=if Znz h i=i then some h else kk ((Znz h i:Nat):Int) (ZuM h i (Znz h i)):=by
 obtain⟨fu,rfl⟩ : ∃n,fu=n+3:=⟨fu-3,by omega⟩;have fX:Zaq (ZiO (2:Int) (i:Int)) (2:Int)=((2*i+2:Nat):Int):=by rw[mul2 (by omega)];exact add2 (k:=2) (by omega) (by omega)
 have ends:∀b:Nat,b<h.length->(bif((b:Int)==(i:Int))then some h else need (0<=(b:Int)/\(b:Int)<((h.length:Nat):Int))<|need (0<=(i:Int)/\(i:Int)<((h.length:Nat):Int))<|kk (b:Int) ((h.set (i:Int).toNat (h.getD (b:Int).toNat Zaf.d)).set (b:Int).toNat (h.getD (i:Int).toNat Zaf.d))) =
   if b=i then some h else kk ((b:Nat):Int) (ZuM h i b):=by
  intro b hb;by_cases e:b=i
  .subst e;simp
  .rw[show ((b:Int)==(i:Int))=false by rw[beq_eq_false_iff_ne];omega,cond_false,Zar ⟨by omega,by omega⟩,Zar ⟨by omega,by omega⟩,if_neg e];rfl
 -- the b5 one below,or none
 have b5:∀(b fu:Nat),b<h.length->Zdm (i:Int) kk (fu+2) (b:Int) ((2*i+2:Nat):Int) h=if ZzG h i b=i then some h else kk ((ZzG h i b:Nat):Int) (ZuM h i (ZzG h i b)):=by
  intro b fu hb;have gV:∀c:Nat,c<h.length->Zdm (i:Int) kk (fu+1) (c:Int) ((2*i+3:Nat):Int) h=if c=i then some h else kk ((c:Nat):Int) (ZuM h i c):=by
   intro c g;simp only[Zdm,Zak,fX];rw[if_neg (by omega)];exact ends c g
  unfold Zdm;simp only[Zak,fX];rw[if_pos (by omega)];by_cases e:2*i+2<h.length
  .rw[if_pos (by omega),Zar ⟨by omega,by omega⟩,Zar ⟨by omega,by omega⟩,Zyg];simp only[Option.bind_some,Int.toNat_natCast,Zak];rw[show Zaq ((2*i+2:Nat):Int) (1:Int)=((2*i+3:Nat):Int)from add2 (i:=2*i+2) (k:=1) (by omega) (by omega)];by_cases q:cmpH (ixH h (2*i+2)) (ixH h b)<0
   .rw[if_pos q,show ZzG h i b=2*i+2 from if_pos ⟨e,q⟩];exact gV _ e
   .rw[if_neg q,show ZzG h i b=b from if_neg (fun x=>q x.2)];exact gV _ hb
  .rw[if_neg (by omega),show ZzG h i b=b from if_neg (fun x=>e x.1)];exact ends b hb
 unfold Zdm;simp only[Zak,fX];rw[if_pos (by omega)];by_cases e:2*i+1<h.length
 .rw[if_pos (by omega),Zar ⟨by omega,by omega⟩,Zar ⟨by omega,by omega⟩,Zyg];simp only[Option.bind_some,Int.toNat_natCast,Zak];rw[show Zaq ((2*i+1:Nat):Int) (1:Int)=((2*i+2:Nat):Int)from add2 (i:=2*i+1) (k:=1) (by omega) (by omega)];by_cases q:cmpH (ixH h (2*i+1)) (ixH h i)<0
  .rw[if_pos q,b5 _ fu e];unfold Znz;rw[if_pos (show 2*i+1<h.length/\cmpH (ixH h (2*i+1)) (ixH h i)<0 from⟨e,q⟩)]
  .rw[if_neg q,b5 _ fu f];unfold Znz;rw[if_neg (show ¬(2*i+1<h.length/\cmpH (ixH h (2*i+1)) (ixH h i)<0)from fun x=>q x.2)]
 .rw[if_neg (by omega),ends i f,ZBE h i e]
theorem ZHZ:∀fu (lo i:Nat) (h:List Itm),i<h.length->h.length<=1000000->HB lo i h->h.length-i<fu->∃h',ZeI fu (i:Int) h=some h'/\h'.Perm h/\HF lo h':=by
 intro fu;induction fu with
 |zero=>intro _ _ _ _ _ _ h;omega
 |succ fu ih=>
  intro lo i h b hl H r;simp only[ZeI];have d:Zaq (ZiO (2:Int) (i:Int)) (1:Int)=((2*i+1:Nat):Int):=by rw[mul2 (by omega)];exact add2 (k:=1) (by omega) (by omega)
  obtain⟨c,hb,_⟩:=Zxa h i b;rw[d];by_cases f:2*i+1<h.length
  .rw[ZLk i h b hl _ _ (by omega)];by_cases e:Znz h i=i
   .rw[if_pos e];exact⟨h,rfl,List.Perm.refl _,H.done b e⟩
   .rw[if_neg e];obtain⟨h',g,j,o⟩:=ih lo (Znz h i) (ZuM h i (Znz h i)) (by rw[ZqB];exact hb) (by rw[ZqB];exact hl) (H.step b e) (by rw[ZqB];omega);exact⟨h',g,j.trans (ZEK h i _ b hb),o⟩
  .-- no kids: the fuel is small
   have e:=ZBE h i f;refine⟨h,?_,List.Perm.refl _,H.done b e⟩;have fX:Zaq (ZiO (2:Int) (i:Int)) (2:Int)=((2*i+2:Nat):Int):=by rw[mul2 (by omega)];exact add2 (k:=2) (by omega) (by omega)
   obtain⟨n,p⟩ : ∃n,((((h.length:Nat):Int)-((2*i+1:Nat):Int)).toNat+2)=n+1:=⟨_,rfl⟩;rw[p];simp only[Zdm,Zak,fX];rw[if_pos (by omega),if_neg (by omega)];simp
theorem ZAM(lo i:Nat)(h:List Itm)(b:i<h.length)(hl:h.length<=900000)(H:HB lo i h):∃h',Zkw h (i:Int)=some h'/\h'.Perm h/\HF lo h':=
 ZHZ 1000000 lo i h b (by omega) H (by omega)
theorem ZJI:Zkw [] 0=some []:=by
 have:∀fu,ZeI (fu+1) 0 []=some []:=fun fu=>by
  rw[ZeI];rw[show ((((([]:List Itm).length:Nat):Int)-(Zaq (ZiO (2:Int) (0:Int)) (1:Int))).toNat+2)=1+1 from rfl];rfl
 exact this 999999
theorem ZBr(l:List Itm)(h:l.length<=1000000):Zbo l=some l:=by
 unfold Zbo;rw[Zar ⟨by omega,ZEO h⟩]
theorem ZHe:∀fu (i:Nat) (h:List Itm),i<=h.length / 2->h.length<=900000->HF i h->i<fu->∃h',ZhJ fu ((i:Int)-1) h=some h'/\h'.Perm h/\HF 0 h':=by
 intro fu;induction fu with
 |zero=>intro _ _ _ _ _ h;omega
 |succ fu ih=>
  intro i h n hl H o;simp only[ZhJ,Zak];by_cases e:i=0
  .subst e;rw[if_neg (by omega)];exact⟨h,rfl,List.Perm.refl _,H⟩
  .rw[if_pos (by omega)];obtain⟨j,rfl⟩ : ∃j,i=j+1:=⟨i-1,by omega⟩;rw[show ((j+1:Nat):Int)-1=(j:Int)by omega];have HBj:HB j j h:=⟨Nat.le_refl _,fun k b d f g=>H k b d (by omega),fun k b d f g p=>by omega⟩;obtain⟨h',d1,d2,d3⟩:=ZAM j j h (by omega) hl HBj;rw[d1];simp only[Option.bind_some];rw[show ZaG (j:Int) (1:Int)=(j:Int)-1 from ZcO (by omega) (by omega)];obtain⟨h'',m1,m2,m3⟩:=ih j h' (by rw[d2.length_eq];omega) (by rw[d2.length_eq];exact hl) d3 (by omega);exact⟨h'',m1,m2.trans d2,m3⟩
theorem tdiv2(n:Nat)(h:n<=1000000):IntKind.wrap .i64 (Int.tdiv (n:Int) (2:Int))=((n / 2:Nat):Int):=by
 rw[show Int.tdiv (n:Int) (2:Int)=((n / 2:Nat):Int)by rw[Int.tdiv_eq_ediv_of_nonneg (by omega)];omega];exact ZzO (by omega) (by omega)
theorem ZAL(l:List Itm)(hl:l.length<=900000):∃h,Zjs l=some h/\h.Perm l/\HF 0 h:=by
 simp only[Zjs,ZBr l (by omega),Option.bind_some];rw[tdiv2 _ (by omega),show ZaG ((l.length / 2:Nat):Int) (1:Int)=((l.length / 2:Nat):Int)-1 from ZcO (by omega) (by omega)];exact ZHe _ (l.length / 2) l (Nat.le_refl _) hl (fun k b d e=>by omega) (by omega)
theorem ZJA{h:List Itm}(H:HF 0 h):∀n k,k<=n->k<h.length->leH (ixH h 0) (ixH h k):=by
 intro n;induction n with
 |zero=>intro k d b;rw[show k=0 by omega];exact ZrE _
 |succ n ih=>
  intro k d b;by_cases e:k=0
  .rw[e];exact ZrE _
  .exact Zwi (ih ((k-1) / 2) (by omega) (by omega)) (H k (by omega) b (Nat.zero_le _))
theorem ZuG:ZlL []=some (⟨0,⟨⟨false,0,0⟩,0⟩⟩,[],false):=rfl
theorem ZDT(h:List Itm)(hl:h.length<=900000)(H:HF 0 h)(hne:h≠[]):∃x r,ZlL h=some (x,r,true)/\h.Perm (x :: r)/\HF 0 r/\∀y∈h,leH x y:=by
 have iH:0<h.length:=List.length_pos_iff.2 hne;have es:ZaG ((h.length:Nat):Int) (1:Int)=((h.length-1:Nat):Int):=by rw[ZcO (by omega) (by omega)];omega
 -- the rest ahead of sinking
 have hx:∀(l:List Itm),(hlp:0<l.length)->l.Perm (ixH l 0 :: (l.set 0 (ixH l (l.length-1))).take (l.length-1)):=by
  intro l hlp;cases l with
  |nil=>simp at hlp
  |cons a t=>
   simp only[ixH,List.getD_cons_zero,List.length_cons,Nat.add_sub_cancel,List.set_cons_zero];rcases t.eq_nil_or_concat with e|⟨t',z,e⟩
   .subst e;simp
   .subst e;simp only[List.concat_eq_append,List.length_append,List.length_singleton];rw[show ((a :: (t'++[z])).getD (t'.length+1) Zaf.d)=z by simp[List.getD_eq_getElem?_getD]];rw[show List.take (t'.length+1) (z :: (t'++[z]))=z :: t' by simp];refine List.Perm.cons a ?_;exact List.perm_append_comm
 have hin:∀y∈h,leH (ixH h 0) y:=by
  intro y n;obtain⟨k,f,b⟩:=List.getElem_of_mem n;have:=ZJA H k k (Nat.le_refl _) f;rw[show ixH h k=y by rw[<-b];exact Zcn h _ k f]at this;exact this
 let r0:=(h.set 0 (ixH h (h.length-1))).take (h.length-1)
 have iT:r0.length=h.length-1:=by simp[r0]
 have hd:∃r,Zkw r0 (0:Int)=some r/\r.Perm r0/\HF 0 r:=by
  by_cases e:h.length=1
  .have:r0=[]:=List.eq_nil_of_length_eq_zero (by omega);rw[this];exact⟨[],ZJI,List.Perm.refl _,fun k _ b=>by simp at b⟩
  .refine ZAM 0 0 r0 (by omega) (by omega) ⟨Nat.le_refl _,fun k f b g o=>?_,fun k f b g o=>by omega⟩;have i:∀j,0<j->j<r0.length->ixH r0 j=ixH h j:=by
    intro j j1 j2;rw[iT]at j2;simp only[ixH,r0,List.getD_eq_getElem?_getD,List.getElem?_take,if_pos j2,List.getElem?_set,if_neg (show ¬0=j by omega)]
   rw[i k f b,i _ (by omega) (by omega)];exact H k f (by rw[iT]at b;omega) g
 obtain⟨r,d1,d2,d3⟩:=hd;refine⟨ixH h 0,r,?_,(hx h iH).trans (List.Perm.cons _ d2.symm),d3,hin⟩;simp only[ZlL];rw[show (((h.length:Nat):Int)==(0:Int))=false by rw[beq_eq_false_iff_ne];omega,cond_false,ZBr h (by omega)];simp only[Option.bind_some,es,Int.toNat_natCast];rw[Zar ⟨by omega,by omega⟩,Zar ⟨by omega,by omega⟩,Zar ⟨by omega,by omega,by omega⟩,Zar (by simp)];rw[show (h.set ((0:Int).toNat) (h.getD (h.length-1) Zaf.d)).take (h.length-1)=r0 from rfl,d1];simp only[Option.bind_some];rw[Zar ⟨by omega,by omega⟩];rfl
def outP(p:Zaa):Bool:=!p.fIn
def outE(e:Zab):Bool:=e.fState==2
def gsP(l:List Zaa):List Zae:=(l.filter outP).map fun p=>grp p.fEnd.fAddr
def gsE(l:List Zab):List Zae:=(l.filter outE).map fun e=>grp e.fEnd.fAddr
theorem ZGn(n:Nat)(h:n<999999):n * 32<=140737488355328/\n<=maxLen:=⟨by omega,by unfold maxLen;omega⟩
theorem ZHs(l:List Zab):(gsE l).length<=l.length:=by simp only[gsE,List.length_map];exact List.length_filter_le _ _
theorem ZHr(l:List Zaa):(gsP l).length<=l.length:=by simp only[gsP,List.length_map];exact List.length_filter_le _ _
theorem ZDW(l:List Zab)(i:Nat)(h:i<l.length):gsE (l.drop i)=(if outE (l.getD i Zab.d)then[grp (l.getD i Zab.d).fEnd.fAddr]else[])++gsE (l.drop (i+1)):=by
 rw[Zfv l Zab.d i h];unfold gsE;generalize l.getD i Zab.d=e;cases b:outE e<;>simp[b]
theorem ZDV(l:List Zaa)(i:Nat)(h:i<l.length):gsP (l.drop i)=(if outP (l.getD i Zaa.d)then[grp (l.getD i Zaa.d).fEnd.fAddr]else[])++gsP (l.drop (i+1)):=by
 rw[Zfv l Zaa.d i h];unfold gsP;generalize l.getD i Zaa.d=e;cases b:outP e<;>simp[b]
theorem ZIP(es:List Zab)(fL:es.length<=1000)(az:∀e∈es,e.ok)(fY:List Zaa)(j7 v12:Int)(k:List Zaa->Int->Int->List Zae->Option (List Zae)) :
  ∀fu (i:Nat) (w:List Zae),i<=es.length->es.length-i<fu->w.length<=1000+i ->
   Zey es fY j7 v12 k fu es (es.length:Int) (i:Int) w=(ZhI (w++gsE (es.drop i))).bind Zbz:=by
 have b:es.length<=maxLen:=by unfold maxLen;omega
 intro fu;induction fu with
 |zero=>intro _ _ _ h;omega
 |succ fu ih=>
  intro i w g j n;simp only[Zey,Zak];by_cases h:i<es.length
  .rw[if_pos (by omega),Zar ⟨by omega,by omega⟩,ZDW es i h];simp only[Int.toNat_natCast];have cR:=az _ (ZfL es Zab.d i h);cases f:outE (es.getD i Zab.d)
   .have b9:((es.getD i Zab.d).fState==(2:Int))=false:=f;rw[b9,cond_false,add1 h b,ih (i+1) w (by omega) (by omega) (by omega)];simp
   .have b9:((es.getD i Zab.d).fState==(2:Int))=true:=f;rw[b9,cond_true,ZpB _ cR.1.1];simp only[Option.bind_some];rw[Zar (ZGn _ (by simp;omega)),add1 h b,ih (i+1) _ (by omega) (by omega) (by simp;omega)];simp
  .have e:i=es.length:=by omega
   rw[if_neg (by omega),e,List.drop_length];simp[gsE]
theorem ZGg(ps:List Zaa)(es:List Zab)(bN:ps.length<=1000)(fL:es.length<=1000)(di:∀p∈ps,p.ok)(az:∀e∈es,e.ok) :
  ∀fu (i:Nat) (w:List Zae),i<=ps.length->ps.length-i<fu->w.length<=i ->
   ZcU es fu ps (ps.length:Int) (i:Int) w=(ZhI (w++gsP (ps.drop i)++gsE es)).bind Zbz:=by
 have b:ps.length<=maxLen:=by unfold maxLen;omega
 intro fu;induction fu with
 |zero=>intro _ _ _ h;omega
 |succ fu ih=>
  intro i w g j n;simp only[ZcU,Zak];by_cases h:i<ps.length
  .rw[if_pos (by omega),Zar ⟨by omega,by omega⟩,ZDV ps i h];simp only[Int.toNat_natCast];have cR:=di _ (ZfL ps Zaa.d i h);cases f:outP (ps.getD i Zaa.d)
   .have b9:(!(ps.getD i Zaa.d).fIn)=false:=f;rw[b9,cond_false,add1 h b,ih (i+1) w (by omega) (by omega) (by omega)];simp
   .have b9:(!(ps.getD i Zaa.d).fIn)=true:=f;rw[b9,cond_true,ZpB _ cR.1.1];simp only[Option.bind_some];rw[Zar (ZGn _ (by simp;omega)),add1 h b,ih (i+1) _ (by omega) (by omega) (by simp;omega)];simp
  .have e:i=ps.length:=by omega
   rw[if_neg (by omega),e,List.drop_length];have:=ZIP es fL az ps (ps.length:Int) (ps.length:Int) (ZcU es fu) ((((es.length:Nat):Int)-(0:Int)).toNat+2) 0 w (by omega) (by omega) (by omega);simp only[Int.natCast_zero,List.drop_zero]at this;rw[this];simp[gsP]
theorem ZAa(ps:List Zaa)(es:List Zab)(bN:ps.length<=1000)(fL:es.length<=1000)(di:∀p∈ps,p.ok)(az:∀e∈es,e.ok) :
  ∃L,ZiY ps es=some L/\Srt L/\∀x,x∈L↔x∈gsP ps++gsE es:=by
 have h:=ZGg ps es bN fL di az ((((ps.length:Nat):Int)-(0:Int)).toNat+2) 0 [] (by omega) (by omega) (by simp);simp only[Int.natCast_zero,List.drop_zero,List.nil_append]at h;unfold ZiY;rw[h];refine ZIQ _ ?_;have:=ZHs es;have:=ZHr ps;simp only[List.length_append];omega
theorem ZBp(l:List Zae)(e:Zae)(hl:l.length<=maxLen):ZcE l e=some (l.contains e):=by
 simp only[ZcE,Zec];have:=Zua l Zae.d (fun x=>decide (e=x)) hl (fun fu i=>Zbw l fu (l.length:Int) i e) (fun i=>i) (fun fu i n=>by
   simp only[Zbw,Zak];rw[if_pos (by omega),Zar ⟨by omega,by omega⟩];simp) (fun fu=>by
   simp only[Zbw,Zak];rw[if_neg (by omega)]) ((((l.length:Nat):Int)-(0:Int)).toNat+2) 0 (by omega) (by omega)
 simp only[Int.natCast_zero,List.drop_zero]at this;rw[this];simp only[Option.bind_some,Option.some.injEq];rw[Bool.eq_iff_iff,decide_eq_true_eq,List.contains_iff_mem];have f:=ZrG (fun x=>decide (e=x)) l 0;constructor
 .intro h;obtain⟨k,b,_,⟨x,g,j⟩,_⟩:=ZnV _ l 0 h;rw[of_decide_eq_true j];exact List.mem_of_getElem? g
 .intro h;apply Int.not_lt.1;intro b;have:=f.1 b e h;simp at this
theorem ZAy{α:Type}[DecidableEq α]:∀(L l:List α),L.Nodup->(∀x∈L,x∈l)->L.length<=l.length
 | [],_,_,_=>by simp
 |a :: r,l,f,b=>by
  have dE:=List.nodup_cons.1 f
  have d:=b a (by simp)
  have:=ZAy r (l.erase a) dE.2 fun x hx=>(List.mem_erase_of_ne (show x≠a from fun e=>dE.1 (e ▸ hx))).2 (b x (by simp[hx]))
  have:=List.length_erase_of_mem d
  have:=List.length_pos_of_mem d
  simp only[List.length_cons]
  omega
theorem ZKy{L:List Zae}(b:Srt L){l:List Zae}(h:∀x,x∈L↔x∈l):L.length<=l.length:=
 ZAy L l b.nodup fun x hx=>(h x).1 hx
theorem Zsj(ps:List Zaa)(es:List Zab)(a:Zah)(bN:ps.length<=1000)(fL:es.length<=1000)(di:∀p∈ps,p.ok)(az:∀e∈es,e.ok)(b:a.ok) :
  ZkW ps es a=some (Zdj a && !decide (grp a∈gsP ps++gsE es)):=by
 obtain⟨L,f,g,d⟩:=ZAa ps es bN fL di az;have hl:L.length<=2000:=by
  have:=ZKy g d;have:=ZHs es;have:=ZHr ps;simp only[List.length_append]at *
  omega
 simp only[ZkW,ZkK a b,f,ZpB a b,Option.bind_some,ZBp L _ (by unfold maxLen;omega)];cases Zdj a
 .rfl
 .simp only[cond_true,Bool.true_and,Option.some.injEq];congr 1;rw[Bool.eq_iff_iff,decide_eq_true_eq,List.contains_iff_mem,d]
def bitA(a:Zah)(j:Nat):Int:=if a.fV6 then a.fHi / 2 ^ (63-j) % 2 else a.fLo / 2 ^ (31-j) % 2
theorem ZKs(n k:Nat)(h:k<64)(b:n<2 ^ 64):IntKind.i64.wrap (IntKind.u64.wrap (((BitVec.ofInt (IntKind.bits .u64) (Int.fdiv (n:Int) (2 ^ (min (IntKind.u64.wrap (k:Int)).toNat (IntKind.bits .u64))))) &&& (BitVec.ofInt (IntKind.bits .u64) (1:Int))).toNat:Int))=(n:Int) / 2 ^ k % 2:=by
 have d:(IntKind.u64.wrap (k:Int)).toNat=k:=by rw[ZhU (by omega) (by omega)];rfl
 rw[d,show min k (IntKind.bits .u64)=k from Nat.min_eq_left (by simp[IntKind.bits];omega)];have e:Int.fdiv (n:Int) (2 ^ k)=((n / 2 ^ k:Nat):Int):=by
  rw[Int.fdiv_eq_ediv_of_nonneg _ (by have:(0:Int)<2 ^ k:=Int.pow_pos (by omega);omega)];simp
 have f:n / 2 ^ k<2 ^ 64:=Nat.lt_of_le_of_lt (Nat.div_le_self _ _) b;rw[e,show (1:Int)=((1:Nat):Int)from rfl,ZzI _ 1 f (by omega),Nat.and_one_is_mod];have i:n / 2 ^ k % 2<2:=Nat.mod_lt _ (by omega);have g:IntKind.i64.wrap ((n / 2 ^ k % 2:Nat):Int)=((n / 2 ^ k % 2:Nat):Int):=by
  simp only[IntKind.wrap,IntKind.bits,IntKind.signed];simp;omega
 rw[g];simp
theorem ZKr(a:Zah)(h:a.ok)(j:Nat)(b:j<if a.fV6 then 32 else 16):Zbx a (j:Int)=some (bitA a j):=by
 obtain⟨v,o,lo⟩:=a;obtain⟨_,d,f,_⟩:=h;have d:=ZjS d;have f:=ZjS f;simp only at d f;obtain⟨n,g⟩:=ZjX d.1;obtain⟨m,i⟩:=ZjX f.1;subst g i;cases v with
 |false=>
  have b:j<16:=by simpa using b
  have e:ZaG (31:Int) (j:Int)=((31-j:Nat):Int):=by rw[ZcO (by omega) (by omega)];omega
  simp only[Zbx,ZbM,ZcL,Zak,Option.bind_some,cond_false,Bool.not_false,cond_true,e];rw[if_neg (by omega),if_neg (by omega),Zar (by rw[ZhU (by omega) (by omega)];omega),ZKs m (31-j) (by omega) (by omega)];simp[bitA]
 |true=>
  have b:j<32:=by simpa using b
  have et:Int.tmod (j:Int) 64=(j:Int):=by rw[Int.tmod_eq_emod_of_nonneg (by omega)];omega
  have e:ZaG (63:Int) (j:Int)=((63-j:Nat):Int):=by rw[ZcO (by omega) (by omega)];omega
  simp only[Zbx,ZbM,ZcL,Zak,Option.bind_some,cond_false,Bool.not_true,cond_true,et,e];rw[if_neg (by omega),if_neg (by omega),if_pos (by omega),Zar (by rw[ZhU (by omega) (by omega)];omega),ZKs n (63-j) (by omega) (by omega)];simp[bitA]
theorem ZAJ(n m t b:Nat)(hb:b<=t)(d:n<2 ^ t)(f:m<2 ^ t):(∀j,j<b->n / 2 ^ (t-1-j) % 2=m / 2 ^ (t-1-j) % 2)↔n / 2 ^ (t-b)=m / 2 ^ (t-b):=by
 constructor
 .intro h;apply Nat.eq_of_testBit_eq;intro i;rw[Nat.testBit_div_two_pow,Nat.testBit_div_two_pow];by_cases g:i<b
  .have:=h (b-1-i) (by omega);rw[show t-1-(b-1-i)=i+(t-b)by omega]at this;rw[Nat.testBit_eq_decide_div_mod_eq,Nat.testBit_eq_decide_div_mod_eq,this]
  .rw[Nat.testBit_lt_two_pow (Nat.lt_of_lt_of_le d (Nat.pow_le_pow_right (by omega) (by omega))),Nat.testBit_lt_two_pow (Nat.lt_of_lt_of_le f (Nat.pow_le_pow_right (by omega) (by omega)))]
 .intro h j o;have e:2 ^ (t-1-j)=2 ^ (t-b) * 2 ^ (b-1-j):=by rw[<-Nat.pow_add];congr 1;omega
  rw[e,<-Nat.div_div_eq_div_mul,<-Nat.div_div_eq_div_mul,h]
theorem ZGr(a b:Zah)(u:a.ok)(hb:b.ok)(v:a.fV6=b.fV6):∀fu (i:Nat),i<=32->32-i<fu ->
  ∃r,ZbT fu (i:Int) a b=some r/\(r=true↔∀j,i<=j->j<(if a.fV6 then 32 else 16)->bitA a j=bitA b j):=by
 intro fu;induction fu with
 |zero=>intro _ _ h;omega
 |succ fu ih=>
  intro i B C;simp only[ZbT,Zak];by_cases h:i<32
  .rw[if_pos (by omega)];have iW:Zaq (i:Int) 1=((i+1:Nat):Int):=add1 (n:=32) h (by unfold maxLen;omega);rw[iW];obtain⟨r,t,p⟩:=ih (i+1) (by omega) (by omega);by_cases d:i<(if a.fV6 then 32 else 16)
   .have y:=ZKr a u i d;have z:=ZKr b hb i (by rw[<-v];exact d);have step:∃r,((Zbx a (i:Int)).bind fun x3=>(Zbx b (i:Int)).bind fun x4=>bif(x3 != x4)then some false else ZbT fu ((i+1:Nat):Int) a b)=some r/\(r=true↔∀j,i<=j->j<(if a.fV6 then 32 else 16)->bitA a j=bitA b j):=by
     rw[y,z];simp only[Option.bind_some];by_cases g:bitA a i=bitA b i
     .rw[show (bitA a i != bitA b i)=false by simp[g],cond_false];refine⟨r,t,p.trans ⟨fun q j o e=>?_,fun q j o e=>q j (by omega) e⟩⟩;by_cases A:j=i
      .subst A;exact g
      .exact q j (by omega) e
     .rw[show (bitA a i != bitA b i)=true by simp[g],cond_true];exact⟨false,rfl,by simp;exact⟨i,Nat.le_refl _,d,g⟩⟩
    cases f:a.fV6
    .rw[f]at d;have d:i<16:=by simpa using d
     simp only[cond_false];rw[if_pos (by omega)];rw[f]at step;exact step
    .simp only[cond_true];rw[f]at step;exact step
   .cases f:a.fV6
    .rw[f]at d p;have d:16<=i:=by simpa using d
     simp only[cond_false];rw[if_neg (by omega)];refine⟨r,t,p.trans ⟨fun q j o e=>?_,fun q j o e=>q j (by omega) e⟩⟩;have:j<16:=by simpa using e
     omega
    .rw[f]at d;exact absurd h (by simpa using d)
  .rw[if_neg (by omega)];refine⟨true,rfl,by simp;intro j o e;split at e<;>omega⟩
theorem ZDp(a b:Zah)(i:a.ok)(hb:b.ok)(d:Zdj b=true):ZfF a b=some (decide (grp a=grp b)):=by
 have t:=ZGr a b i hb;simp only[ZfF,ZjW a i,ZjW b hb,d,Option.bind_some,Bool.not_true,cond_false];cases hra:Zdj a with
 |false=>
  simp only[Bool.not_false,cond_true,Option.some.injEq];rw[eq_comm,decide_eq_false_iff_not];unfold grp;rw[hra,d];intro e;have:=congrArg Zae.fBits e;simp only[Bool.false_eq_true,if_false,if_true]at this;split at this<;>simp at this
 |true=>
  simp only[Bool.not_true,cond_false];by_cases f:a.fV6=b.fV6
  .rw[show (!(a.fV6==b.fV6))=false by simp[f],cond_false];obtain⟨r,g,o⟩:=t f (((32:Int)-(0:Int)).toNat+2) 0 (by omega) (by omega);have g:ZbT (((32:Int)-(0:Int)).toNat+2) 0 a b=some r:=g;rw[g,Option.some.injEq,Bool.eq_iff_iff,o,decide_eq_true_eq];obtain⟨v,z,lo⟩:=a;obtain⟨v',cw,ku⟩:=b;simp only at f;subst f;have iW:=ZjS i.2.1;have ha2:=ZjS i.2.2.1;have bM:=ZjS hb.2.1;have bB:=ZjS hb.2.2.1;simp only at iW ha2 bM bB;obtain⟨n,u⟩:=ZjX iW.1;obtain⟨m,y⟩:=ZjX ha2.1;obtain⟨n',dE⟩:=ZjX bM.1;obtain⟨m',gc⟩:=ZjX bB.1;subst u y dE gc;cases v with
   |false=>
    have A:(n:Int)=0/\(m:Int)<4294967296:=by simpa[Zdj]using hra
    have B:(n':Int)=0/\(m':Int)<4294967296:=by simpa[Zdj]using d
    have hb:=ZAJ m m' 32 16 (by omega) (by omega) (by omega);simp only[grp,hra,d,if_true,Bool.false_eq_true,if_false,Zae.mk.injEq,Zah.mk.injEq,true_and,and_true];have e:(∀j,0<=j->j<16->bitA ⟨false,n,m⟩ j=bitA ⟨false,n',m'⟩ j)↔∀j,j<16->m / 2 ^ (32-1-j) % 2=m' / 2 ^ (32-1-j) % 2:=by
     constructor
     .intro q j h;have:=q j (by omega) h;simp only[bitA,Bool.false_eq_true,if_false]at this;rw[show 32-1-j=31-j by omega]
      exact_mod_cast this
     .intro q j _ h;have:=q j h;rw[show 32-1-j=31-j by omega]at this;simp only[bitA,Bool.false_eq_true,if_false]
      exact_mod_cast this
    rw[e,hb];rw[show (2:Nat) ^ (32-16)=65536 from rfl];constructor<;>intro q<;>omega
   |true=>
    have hb:=ZAJ n n' 64 32 (by omega) (by omega) (by omega);simp only[grp,hra,d,if_true,Bool.false_eq_true,if_false,Zae.mk.injEq,Zah.mk.injEq,true_and,and_true];have e:(∀j,0<=j->j<32->bitA ⟨true,n,m⟩ j=bitA ⟨true,n',m'⟩ j)↔∀j,j<32->n / 2 ^ (64-1-j) % 2=n' / 2 ^ (64-1-j) % 2:=by
     constructor
     .intro q j h;have:=q j (by omega) h;simp only[bitA,if_true]at this;rw[show 64-1-j=63-j by omega]
      exact_mod_cast this
     .intro q j _ h;have:=q j h;rw[show 64-1-j=63-j by omega]at this;simp only[bitA,if_true]
      exact_mod_cast this
    rw[e,hb];rw[show (2:Nat) ^ (64-32)=4294967296 from rfl];constructor<;>intro q<;>omega
  .rw[show (!(a.fV6==b.fV6))=true by simp[f],cond_true,Option.some.injEq,eq_comm,decide_eq_false_iff_not];unfold grp;rw[hra,d];intro e;have p:=congrArg (fun x:Zae=>x.fAddr.fV6) e;simp only[if_true]at p;apply f;cases g:a.fV6<;>cases o:b.fV6<;>simp[g,o]at p ⊢
theorem ZIV(ps:List Zaa)(es:List Zab)(fL:es.length<=1000)(az:∀e∈es,e.ok)(a:Zah)(j:a.ok)(n:Zdj a=true)(v7:Int)(k:Int->Zah->Option Bool):∀fu (i:Nat),i<=es.length->es.length-i<fu ->
  ZcQ ps es v7 a k fu (i:Int)=some (!decide (grp a∈gsE (es.drop i))):=by
 have o:es.length<=maxLen:=by unfold maxLen;omega
 intro fu;induction fu with
 |zero=>intro _ _ h;omega
 |succ fu ih=>
  intro i p r;simp only[ZcQ,Zak];by_cases h:i<es.length
  .rw[if_pos (by omega),Zar ⟨by omega,by omega⟩,ZDW es i h];simp only[Int.toNat_natCast];have cR:=az _ (ZfL es Zab.d i h);rw[add1 h o,ih (i+1) (by omega) (by omega)];cases f:outE (es.getD i Zab.d)
   .have b9:((es.getD i Zab.d).fState==(2:Int))=false:=f;rw[b9,cond_false];simp
   .have b9:((es.getD i Zab.d).fState==(2:Int))=true:=f;rw[b9,cond_true,ZDp _ _ cR.1.1 j n];simp only[Option.bind_some,Zak,if_true,List.mem_append,List.mem_singleton];generalize grp (es.getD i Zab.d).fEnd.fAddr=g;by_cases b:g=grp a
    .rw[if_pos b];simp[b]
    .rw[if_neg b];simp[Ne.symm b]
  .have e:i=es.length:=by omega
   rw[if_neg (by omega),e,List.drop_length];simp[gsE]
theorem ZGw(ps:List Zaa)(es:List Zab)(bN:ps.length<=1000)(fL:es.length<=1000)(di:∀p∈ps,p.ok)(az:∀e∈es,e.ok)(a:Zah)(f:a.ok)(j:Zdj a=true):∀fu (i:Nat),i<=ps.length->ps.length-i<fu ->
  ZbR ps es fu (i:Int) a=some (!decide (grp a∈gsP (ps.drop i)++gsE es)):=by
 have o:ps.length<=maxLen:=by unfold maxLen;omega
 intro fu;induction fu with
 |zero=>intro _ _ h;omega
 |succ fu ih=>
  intro i r t;simp only[ZbR,Zak];by_cases h:i<ps.length
  .rw[if_pos (by omega),Zar ⟨by omega,by omega⟩,ZDV ps i h];simp only[Int.toNat_natCast];have cR:=di _ (ZfL ps Zaa.d i h);rw[add1 h o,ih (i+1) (by omega) (by omega)];cases n:outP (ps.getD i Zaa.d)
   .have b9:(!(ps.getD i Zaa.d).fIn)=false:=n;rw[b9,cond_false];simp
   .have b9:(!(ps.getD i Zaa.d).fIn)=true:=n;rw[b9,cond_true,ZDp _ _ cR.1.1 f j];simp only[Option.bind_some,Zak,if_true,List.mem_append,List.mem_singleton];generalize grp (ps.getD i Zaa.d).fEnd.fAddr=g;by_cases b:g=grp a
    .rw[if_pos b];simp[b]
    .rw[if_neg b];simp[Ne.symm b]
  .have e:i=ps.length:=by omega
   rw[if_neg (by omega),e,List.drop_length];have:=ZIV ps es fL az a f j (ps.length:Int) (ZbR ps es fu) ((((es.length:Nat):Int)-(0:Int)).toNat+2) 0 (by omega) (by omega);simp only[Int.natCast_zero,List.drop_zero]at this;rw[this];simp[gsP]
theorem ZJg(ps:List Zaa)(es:List Zab)(a:Zah)(bN:ps.length<=1000)(fL:es.length<=1000)(di:∀p∈ps,p.ok)(az:∀e∈es,e.ok)(b:a.ok) :
  ZgU ps es a=some (Zdj a && !decide (grp a∈gsP ps++gsE es)):=by
 simp only[ZgU,ZjW a b,Option.bind_some];cases d:Zdj a
 .rfl
 .have:=ZGw ps es bN fL di az a b d ((((ps.length:Nat):Int)-(0:Int)).toNat+2) 0 (by omega) (by omega);simp only[Int.natCast_zero,List.drop_zero]at this;simp only[Bool.not_true,cond_false,Bool.true_and];exact this
def conn(l:List Zaa)(e:Zaj):Bool:=l.any fun p=>decide (p.fEnd=e)
theorem ZIi(l:List Zaa)(e:Zaj)(hl:l.length<=maxLen):∀fu (i:Nat),i<=l.length->l.length-i<fu->ZcV fu l (l.length:Int) (i:Int) e=some (conn (l.drop i) e):=by
 intro fu;induction fu with
 |zero=>intro _ _ h;omega
 |succ fu ih=>
  intro i b f;simp only[ZcV,Zak];by_cases h:i<l.length
  .rw[if_pos (by omega),Zar ⟨by omega,by omega⟩,Zfv l Zaa.d i h];simp only[Int.toNat_natCast];rw[add1 h hl,ih (i+1) (by omega) (by omega)];rw[show ∀(x:Zaa) r,conn (x :: r) e=(decide (x.fEnd=e)||conn r e)from fun _ _=>rfl];by_cases q:(l.getD i Zaa.d).fEnd=e
   .rw[if_pos q,decide_eq_true q];rfl
   .rw[if_neg q,decide_eq_false q];rfl
  .rw[if_neg (by omega),List.drop_eq_nil_of_le (by omega)];rfl
theorem ZwQ(v:ZaB)(e:Zaj)(hl:v.fPeers.length<=maxLen):ZfZ v e=some (conn v.fPeers e):=by
 have:=ZIi v.fPeers e hl ((((v.fPeers.length:Nat):Int)-(0:Int)).toNat+2) 0 (by omega) (by omega);simpa[ZfZ]using this
structure ZmH (v:ZaB):Prop where
 book:v.fBook.length<=900
 peers:v.fPeers.length<=900
 bans:v.fBans.length<=900
 bookOk:∀e∈v.fBook,e.ok
 peersOk:∀p∈v.fPeers,p.ok
 bansOk:∀b∈v.fBans,b.ok
def ZHE(v:ZaB)(a:Zah):Bool:=Zdj a && !decide (grp a∈gsP v.fPeers++gsE v.fBook)
def ZrQ(v:ZaB)(e:Zaj)(ae:Int):Bool:=(Zdk v e ae).getD false
theorem ZBm{v:ZaB}(h:ZmH v)(e:Zaj)(b:e.ok)(ae:Int):Zdk v e ae=some (ZrQ v e ae) /\
  (ZrQ v e ae=true->conn v.fPeers e=false/\Zxg v.fBans e.fAddr ae 0/\ZHE v e.fAddr=true):=by
 obtain⟨r,u1,u2⟩:=Zyz v.fBans e.fAddr ae (by have:=h.bans;unfold maxLen;omega) h.bansOk b.1;have d:=Zsj v.fPeers v.fBook e.fAddr (by have:=h.peers;omega) (by have:=h.book;omega) h.peersOk h.bookOk b.1;have aA:Zdk v e ae=some (!conn v.fPeers e&&(r==0)&&ZHE v e.fAddr):=by
  simp only[Zdk,ZwQ v e (by have:=h.peers;unfold maxLen;omega),u1,d,Option.bind_some];cases conn v.fPeers e
  .simp only[Bool.not_false,cond_true,Bool.true_and];cases(r==(0:Int))
   .rfl
   .simp only[cond_true,Bool.true_and];rfl
  .rfl
 refine⟨by unfold ZrQ;rw[aA];rfl,fun ho=>?_⟩;unfold ZrQ at ho;rw[aA]at ho;simp only[Option.getD_some,Bool.and_eq_true,Bool.not_eq_true',beq_iff_eq]at ho;refine⟨ho.1.1,?_,ho.2⟩;rw[<-ho.1.2];exact u2
def dueS(e:Zab)(ae:Int):Bool:=(e.fState==1)&&decide (e.fNext<=ae)
theorem ZBj(e:Zab)(ae:Int):ZlM e ae=some (dueS e ae):=by
 simp only[ZlM,dueS];cases(e.fState==(1:Int))<;>rfl
theorem ZKK(e:Zab)(ae:Int):ZhA e ae=some (dueS e ae):=by
 simp only[ZhA,dueS];cases(e.fState==(1:Int))<;>rfl
theorem ZEh{v:ZaB}(h:ZmH v)(e:Zab)(b:e.ok)(ae:Int):ZkG v e ae=some (ZmD e&&dueS e ae&&ZrQ v e.fEnd ae):=by
 simp only[ZkG,ZsI e b,ZBj,(ZBm h e.fEnd b.1 ae).1,Option.bind_some];cases ZmD e<;>cases dueS e ae<;>rfl
def ZDH(ae:Int)(e:Zab):Bool:=ZmD e&&dueS e ae
def ZiQ(e:Zab):Itm:=⟨e.fNext,e.fEnd⟩
def ZmE(l:List Zab)(ae:Int):List Itm:=(l.filter (ZDH ae)).map ZiQ
theorem ZFj(l:List Zab)(ae:Int)(hl:l.length<=900)(az:∀e∈l,e.ok):∀fu (i:Nat) (w:List Itm),i<=l.length->l.length-i<fu->w.length<=i ->
  ZbY ae fu l (l.length:Int) (i:Int) w=(Zjs (w++ZmE (l.drop i) ae)).bind fun x=>some x:=by
 have b:l.length<=maxLen:=by unfold maxLen;omega
 intro fu;induction fu with
 |zero=>intro _ _ _ h;omega
 |succ fu ih=>
  intro i w g j n;simp only[ZbY,Zak];by_cases h:i<l.length
  .rw[if_pos (by omega),Zar ⟨by omega,by omega⟩,Zfv l Zab.d i h];simp only[Int.toNat_natCast];have cR:=az _ (ZfL l Zab.d i h);rw[add1 h b,ih (i+1) w (by omega) (by omega) (by omega),ZsI _ cR];simp only[Option.bind_some,ZmP,ZBj];rw[Zar ⟨by simp;omega,by unfold maxLen;simp;omega⟩,ih (i+1) _ (by omega) (by omega) (by simp;omega)];generalize l.getD i Zab.d=e;have f:ZmE (e :: l.drop (i+1)) ae=(if ZDH ae e then[ZiQ e]else[])++ZmE (l.drop (i+1)) ae:=by
    unfold ZmE;cases q:ZDH ae e<;>simp[q]
   rw[f];unfold ZDH;cases ZmD e
   .simp
   .cases dueS e ae
    .simp
    .simp[ZiQ]
  .rw[if_neg (by omega),List.drop_eq_nil_of_le (by omega)];simp[ZmE]
theorem ZFG{v:ZaB}(h:ZmH v)(ae:Int):∃L,ZeE v ae=some L/\L.Perm (ZmE v.fBook ae)/\HF 0 L:=by
 have:=ZFj v.fBook ae h.book h.bookOk ((((v.fBook.length:Nat):Int)-(0:Int)).toNat+2) 0 [] (by omega) (by omega) (by simp);simp only[Int.natCast_zero,List.drop_zero,List.nil_append]at this;unfold ZeE;rw[this];obtain⟨L,b,d,e⟩:=ZAL (ZmE v.fBook ae) (by
  have:(ZmE v.fBook ae).length<=v.fBook.length:=by simp only[ZmE,List.length_map];exact List.length_filter_le _ _
  have:=h.book;omega)
 exact⟨L,by rw[b];rfl,d,e⟩
def zE:Zaj:=⟨⟨false,0,0⟩,0⟩
def Zyx(v:ZaB)(ae:Int)(L:List Itm)(e:Zaj)(ok:Bool):Prop:=(ok=true/\∃x∈L,x.fEnd=e/\ZrQ v e ae=true/\∀y∈L,ZrQ v y.fEnd ae=true->leH x y)\/(ok=false/\e=zE/\∀y∈L,ZrQ v y.fEnd ae=false)
theorem Zyx.perm{v:ZaB}{ae:Int}{L L':List Itm}{e:Zaj}{ok:Bool}(h:Zyx v ae L e ok)(b:∀x,x∈L'↔x∈L):Zyx v ae L' e ok:=by
 rcases h with⟨d,x,f,g,j,n⟩|⟨d,f,g⟩
 .exact .inl ⟨d,x,(b x).2 f,g,j,fun y i=>n y ((b y).1 i)⟩
 .exact .inr ⟨d,f,fun y i=>g y ((b y).1 i)⟩
theorem ZGR{v:ZaB}(h:ZmH v)(ae:Int)(z:Zaj):∀fu (L:List Itm),L.length<fu->L.length<=900->HF 0 L->(∀x∈L,x.fEnd.ok)->∃e ok,ZhN ae fu L v z=some (e,ok)/\Zyx v ae L e ok:=by
 intro fu;induction fu with
 |zero=>intro _ h;omega
 |succ fu ih=>
  intro L B hl H az;simp only[ZhN];by_cases n:L=[]
  .subst n;rw[ZuG];exact⟨zE,false,rfl,.inr ⟨rfl,rfl,by simp⟩⟩
  .obtain⟨x,r,p1,p2,p3,p4⟩:=ZDT L (by omega) H n;rw[p1];simp only[Option.bind_some,Bool.not_true,cond_false];have hx:x∈L:=p2.mem_iff.2 (by simp);have hlr:L.length=r.length+1:=by simpa using p2.length_eq
   rw[(ZBm h x.fEnd (az x hx) ae).1];simp only[Option.bind_some];cases ho:ZrQ v x.fEnd ae with
   |true=>
    simp only[cond_true];exact⟨x.fEnd,true,rfl,.inl ⟨rfl,x,hx,rfl,ho,fun y b _=>p4 y b⟩⟩
   |false=>
    simp only[cond_false];obtain⟨e,ok,o,p⟩:=ih r (by omega) (by omega) p3 fun y b=>az y (p2.mem_iff.2 (by simp[b]));refine⟨e,ok,o,?_⟩;have d:∀y,y∈L↔y=x\/y∈r:=fun y=>by rw[p2.mem_iff];simp
    rcases p with⟨f,y,g,i,u,A⟩|⟨f,g,i⟩
    .refine .inl ⟨f,y,(d y).2 (.inr g),i,u,fun t j l8=>?_⟩;rcases(d t).1 j with e1|e1
     .subst e1;rw[ho]at l8;cases l8
     .exact A t e1 l8
    .refine .inr ⟨f,g,fun t j=>?_⟩;rcases(d t).1 j with e1|e1
     .subst e1;exact ho
     .exact i t e1
theorem ZBl{v:ZaB}(h:ZmH v)(ae:Int):∃e ok,Zjx v ae=some (e,ok)/\Zyx v ae (ZmE v.fBook ae) e ok:=by
 obtain⟨L,l1,l2,l3⟩:=ZFG h ae;have hlen:(ZmE v.fBook ae).length<=v.fBook.length:=by simp only[ZmE,List.length_map];exact List.length_filter_le _ _
 have hb:=h.book;obtain⟨e,ok,b,d⟩:=ZGR h ae zE 1000000 L (by rw[l2.length_eq];omega) (by rw[l2.length_eq];omega) l3 fun x hx=>by
  have:=l2.mem_iff.1 hx;simp only[ZmE,List.mem_map,List.mem_filter]at this;obtain⟨a,⟨f,_⟩,rfl⟩:=this;exact(h.bookOk a f).1
 refine⟨e,ok,?_,d.perm fun x=>l2.mem_iff.symm⟩;simp only[Zjx,l1,Option.bind_some];rw[show (Zaj.mk (Zah.mk false (0:Int) (0:Int)) (0:Int))=zE from rfl];exact b
def mayS(v:ZaB)(ae:Int)(x:Zab):Bool:=ZmD x&&dueS x ae&&ZrQ v x.fEnd ae
def dblN:Nat->Int->Int|0,x=>x|k+1,x=>dblN k (fitI (2*x))
theorem ZBo:∀k,dblN k 0=0
 | 0=>rfl
 |k+1=>by show dblN k (fitI (2 * 0))=0;exact ZBo k
theorem ZEk:∀k,dblN k 1099511627776=1099511627776
 | 0=>rfl
 |k+1=>by show dblN k (fitI (2 * 1099511627776))=_;exact ZEk k
theorem ZLd{x:Int}(h0:0<=x)(b:x<=1099511627776):fitI x=x:=by
 unfold fitI;rw[if_neg (by omega),if_neg (by omega)]
theorem ZyH:∀(j:Nat)(x:Int)(n fu:Nat),n<=1000000->0<=x->x<=1099511627776->(x=0\/1099511627776<=x * 2 ^ j)->(1099511627776-x).toNat+1<=fu->Zkf fu x (n:Int)=some (dblN (min n j) x):=by
 intro j;induction j with
 |zero=>
  intro x n fu _ h0 d h2 e;obtain⟨fu,rfl⟩ : ∃y,fu=y+1:=⟨fu-1,by omega⟩;unfold Zkf;simp only[Zak];rw[Nat.min_zero];have fR:x=0\/1099511627776<=x:=by simpa using h2
  split
  .split
   .rw[if_neg (by omega)];rfl
   .rfl
  .rfl
 |succ j ih=>
  intro x n fu g h0 d h2 e;obtain⟨fu,rfl⟩ : ∃y,fu=y+1:=⟨fu-1,by omega⟩;unfold Zkf;simp only[Zak];cases n with
  |zero=>rw[if_neg (by omega),Nat.zero_min];rfl
  |succ n=>
   rw[if_pos (by omega)];have db:min (n+1) (j+1)=min n j+1:=by omega
   rw[db];by_cases hx:x>0
   .rw[if_pos hx];by_cases b:x<1099511627776
    .rw[if_pos b,Zvn (by omega) (by omega),Zmc,ZaF,ZLB (by omega)];have hle:=ZjA (2*x);have hge:x+1<=fitI (2*x):=by
      unfold fitI;repeat' split
      all_goals omega
     have fR:fitI (2*x)=0\/1099511627776<=fitI (2*x) * 2 ^ j:=by
      right;have kp:(1:Int)<=2 ^ j:=Int.pow_pos (by omega);rcases h2 with h2|h2
      .omega
      .have f:x * 2 ^ (j+1)=2*x * 2 ^ j:=by
        rw[Int.pow_succ,<-Int.mul_assoc,Int.mul_right_comm,Int.mul_comm x 2]
       rw[f]at h2;unfold fitI;rw[if_neg (by omega)];split
       .have:=Int.mul_le_mul_of_nonneg_left kp (show (0:Int)<=1099511627776 by omega);omega
       .exact h2
     exact ih (fitI (2*x)) n fu (by omega) hle.1 hle.2 fR (by omega)
    .have:x=1099511627776:=by omega
     rw[if_neg b,this,ZEk]
   .have:x=0:=by omega
    rw[if_neg hx,this,ZBo]
theorem ZyS(n:Nat):∀(k i:Nat)(x:Int)(fu:Nat),min n 41-i=k->i<=41->0<=x->x<=1099511627776->k+1<=fu->ZcM (n:Int) fu x (i:Int)=some (dblN k x):=by
 intro k;induction k with
 |zero=>
  intro i x fu d e h0 b f;obtain⟨fu,rfl⟩ : ∃y,fu=y+1:=⟨fu-1,by omega⟩;unfold ZcM;simp only[Zak];split
  .rw[if_neg (by omega)];rfl
  .rfl
 |succ k ih=>
  intro i x fu d e h0 b f;obtain⟨fu,rfl⟩ : ∃y,fu=y+1:=⟨fu-1,by omega⟩;unfold ZcM;simp only[Zak];have g:Zaq (i:Int) 1=((i+1:Nat):Int):=add1 (n:=i+1) (by omega) (by simp only[maxLen];omega);have h:addT x x=fitI (2*x):=by
   unfold addT;rw[ZLd h0 b];congr 1;omega
  have hle:=ZjA (2*x);rw[if_pos (by omega),if_pos (by omega),(ZvH _ _).2,ZaF,g,h];exact ih (i+1) _ fu (by omega) (by omega) hle.1 hle.2 (by omega)
theorem ZDj(a:Int)(n:Nat)(b:n<=1000000):Zsx a (n:Int)=some (dblN (min n 41) (fitI a))/\ZgC a (n:Int)=some (dblN (min n 41) (fitI a)):=by
 have h:=ZjA a;constructor
 .unfold Zsx;rw[Zmc,ZaF];exact ZyH 41 _ n _ b h.1 h.2 (by omega) (by omega)
 .unfold ZgC;rw[ZkO,ZaF];exact ZyS n _ 0 _ _ rfl (by omega) h.1 h.2 (by omega)
theorem ZJK(c:Zav)(n:Nat)(d:n<=1000000):∃t,Znu c (n:Int)=some t/\Zgx c (n:Int)=some t:=by
 unfold Znu Zgx;simp only[Zak];cases n with
 |zero=>exact⟨0,rfl,rfl⟩
 |succ n=>
  rw[if_neg (by omega),if_neg (by omega),ZLB (by omega),Zmc,ZkO,(ZDj _ n (by omega)).1,(ZDj _ n (by omega)).2];simp only[ZaF];generalize dblN (min n 41) (fitI c.fBase)=a;generalize fitI c.fCap=b;refine⟨if a<b then a else b,rfl,?_⟩;split<;>split<;>first|rfl|omega | (congr 1;omega)
theorem ZHj(c:Zav)(r:Int):∃t,ZmB c r=some t/\ZfU c r=some t:=by
 unfold ZmB ZfU;simp only[Zak];by_cases h:c.fJitter<1
 .rw[if_pos h];exact⟨_,rfl,rfl⟩
 .rw[if_neg h,Zar (by omega)];split<;>exact⟨_,rfl,rfl⟩
theorem ZKP(c:Zav)(n:Nat)(b:n<=1000000)(ae r:Int):∃t,ZlX c (n:Int) ae r=some t/\Zew c (n:Int) ae r=some t:=by
 obtain⟨t,d,e⟩:=ZJK c n b;obtain⟨u,f,g⟩:=ZHj c r;unfold ZlX Zew;rw[d,e,f,g];simp only[ZaF,(ZvH _ _).1,(ZvH _ _).2];exact⟨_,rfl,rfl⟩
def ZAU(c:Zav)(e:Zab)(ae r:Int):Zab:=(ZkE c e ae r).getD e
theorem ZHG(c:Zav)(e:Zab)(ae r:Int):ZkE c e ae r=some (ZAU c e ae r)/\ZdF c e ae r=some (ZAU c e ae r):=by
 have aA:∀n:Nat,n<=1000->Zaq (if(999:Int)<(if(0:Int)>e.fFails then(0:Int)else e.fFails)then(999:Int)else(if(0:Int)>e.fFails then(0:Int)else e.fFails)) (1:Int)=(n:Int) ->
   ZdF c e ae r=((Zew c (n:Int) ae r).bind fun x=>some (Zab.mk e.fEnd 1 (n:Int) x))->ZkE c e ae r=some (ZAU c e ae r)/\ZdF c e ae r=some (ZAU c e ae r):=by
  intro n f b h;obtain⟨t,i,j⟩:=ZKP c n (by omega) ae r;have g:ZkE c e ae r=some ⟨e.fEnd,1,(n:Int),t⟩:=by
   unfold ZkE;rw[b,i];rfl
  have o:ZAU c e ae r=⟨e.fEnd,1,(n:Int),t⟩:=by unfold ZAU;rw[g];rfl
  rw[o,g,h,j];exact⟨rfl,rfl⟩
 unfold ZdF Zei at aA ⊢;simp only[Zak]at aA ⊢;by_cases h0:e.fFails>0
 .by_cases b:e.fFails<1000
  .obtain⟨n,f⟩ : ∃n:Nat,e.fFails=(n:Int):=⟨e.fFails.toNat,by omega⟩;have d:Zaq e.fFails 1=((n+1:Nat):Int):=by rw[f];exact add1 (n:=n+1) (by omega) (by simp only[maxLen];omega)
   refine aA (n+1) (by omega) ?_ ?_
   .rw[if_neg (show ¬(0:Int)>e.fFails by omega),if_neg (by omega),d]
   .rw[if_pos h0,if_pos b,if_neg (show ¬e.fFails>=1000 by omega),d]
  .refine aA 1000 (by omega) ?_ ?_
   .rw[if_neg (show ¬(0:Int)>e.fFails by omega),if_pos (by omega)];exact Zcm (by omega) (by omega)
   .rw[if_pos h0,if_neg b,if_pos (show e.fFails>=1000 by omega)];rfl
 .refine aA 1 (by omega) ?_ ?_
  .have d:(if(0:Int)>e.fFails then(0:Int)else e.fFails)=0:=by split<;>omega
   rw[d,if_neg (by omega)];exact Zcm (by omega) (by omega)
  .rw[if_neg h0,if_neg (show ¬e.fFails>=1000 by omega)];rfl
theorem ZKW(l:List Zaa)(e:Zaj):ZmC l e<0↔conn l e=false:=by
 unfold ZmC conn;rw[ZrG,List.any_eq_false];simp
theorem ZKI{v:ZaB}(h:ZmH v)(e:Zab)(d:e.ok)(ae:Int):Zhw v.fBook v.fPeers v.fBans e ae=some (mayS v ae e):=by
 obtain⟨r,u1,u2⟩:=Zyz v.fBans e.fEnd.fAddr ae (by have:=h.bans;unfold maxLen;omega) h.bansOk d.1.1;obtain⟨s,u3,u4⟩:=ZvP v.fBans e.fEnd.fAddr ae (by have:=h.bans;unfold maxLen;omega) h.bansOk d.1.1;have l9:r=s:=Zye u2 u4 fun b=>Iff.rfl;subst l9;have i:=Zsj v.fPeers v.fBook e.fEnd.fAddr (by have:=h.peers;omega) (by have:=h.book;omega) h.peersOk h.bookOk d.1.1;have hf2:=ZJg v.fPeers v.fBook e.fEnd.fAddr (by have:=h.peers;omega) (by have:=h.book;omega) h.peersOk h.bookOk d.1.1;have g:v.fPeers.length<=maxLen:=by have:=h.peers;unfold maxLen;omega
 have aA:ZrQ v e.fEnd ae=(!conn v.fPeers e.fEnd&&(r==0)&&ZHE v e.fEnd.fAddr):=by
  unfold ZrQ;simp only[Zdk,ZwQ v e.fEnd g,u1,i,Option.bind_some];cases conn v.fPeers e.fEnd
  .simp only[Bool.not_false,cond_true,Bool.true_and];cases(r==(0:Int))
   .rfl
   .simp only[cond_true,Bool.true_and];rfl
  .rfl
 unfold Zhw mayS;rw[Zob e d,ZaF,ZKK,ZaF,u3,ZaF,Zna _ _ g,ZaF,hf2,ZaF,aA,Zak];have kc:=ZKW v.fPeers e.fEnd;unfold ZHE;cases ZmD e
 .rfl
 .cases dueS e ae
  .rfl
  .simp only[cond_true,Bool.true_and];cases(r==(0:Int))
   .simp
   .simp only[cond_true,Bool.and_true];by_cases f:ZmC v.fPeers e.fEnd<0
    .rw[if_pos f,kc.1 f];rfl
    .rw[if_neg f];cases j:conn v.fPeers e.fEnd
     .exact absurd (kc.2 j) f
     .rfl
def Zrs(v:ZaB)(ae:Int)(e:Zaj)(ok:Bool):Prop:=(ok=true/\∃x∈v.fBook,x.fEnd=e/\mayS v ae x=true/\∀y∈v.fBook,mayS v ae y=true->leH (ZiQ x) (ZiQ y))\/(ok=false/\e=zE/\∀y∈v.fBook,mayS v ae y=false)
theorem ZxU{v:ZaB}{ae:Int}{e:Zaj}{ok:Bool}(h:Zyx v ae (ZmE v.fBook ae) e ok):Zrs v ae e ok:=by
 have d:∀y∈v.fBook,mayS v ae y=true->ZiQ y∈ZmE v.fBook ae/\ZrQ v (ZiQ y).fEnd ae=true:=fun y b hmy=>by
  unfold mayS at hmy;rw[Bool.and_eq_true]at hmy;exact⟨List.mem_map.2 ⟨y,List.mem_filter.2 ⟨b,hmy.1⟩,rfl⟩,hmy.2⟩
 rcases h with⟨g,x,i,f,n,o⟩|⟨g,i,f⟩
 .have hx:=i;simp only[ZmE,List.mem_map,List.mem_filter]at hx;obtain⟨a,⟨p,r⟩,rfl⟩:=hx;refine .inl ⟨g,a,p,f,?_,fun y b hmy=>o _ (d y b hmy).1 (d y b hmy).2⟩;unfold mayS;rw[show (ZmD a&&dueS a ae)=true from r,show a.fEnd=e from f,n];rfl
 .refine .inr ⟨g,i,fun y b=>?_⟩;cases j:mayS v ae y with
  |false=>rfl
  |true=>exact absurd (d y b j).2 (by rw[f _ (d y b j).1];simp)
theorem Zrs.one{v:ZaB}{ae:Int}{e e':Zaj}{ok jG:Bool}(h:Zrs v ae e ok)(h':Zrs v ae e' jG):(e,ok)=(e',jG):=by
 rcases h with⟨j,x,g,n,o,r⟩|⟨j,g,n⟩
 .rcases h' with⟨d,y,b,f,i,p⟩|⟨d,b,f⟩
  .have l1:=r y b i;have l2:=p x g o;have t:cmpH (ZiQ x) (ZiQ y)=0:=by
    unfold leH at l1 l2;rcases Int.lt_trichotomy (cmpH (ZiQ x) (ZiQ y)) 0 with q|q|q
    .exact absurd q l2
    .exact q
    .exact absurd (ZwS.1 q) l1
   have:=ZwR.1 t;simp only[ZiQ,Zaf.mk.injEq]at this;rw[j,d,<-n,<-f,this.2]
  .rw[f x g]at o;cases o
 .rcases h' with⟨d,y,b,f,i,p⟩|⟨d,b,f⟩
  .rw[n y b]at i;cases i
  .rw[j,g,d,b]
theorem ZrF{x y:Zab}:leH (ZiQ x) (ZiQ y)↔x.fNext<y.fNext\/(x.fNext=y.fNext/\cmpE x.fEnd y.fEnd<=0):=by
 unfold leH;rw[ZIo];simp only[ZiQ];have e:=@ZhH y.fEnd x.fEnd;have b:=@ZhH x.fEnd y.fEnd;omega
theorem ZEQ{v:ZaB}(h:ZmH v)(ae:Int)(z:Zaj):∀(fu i:Nat)(b:Int),i<=v.fBook.length->v.fBook.length-i<fu->b<(i:Int)->-1<=b ->
  (b<0->∀y∈v.fBook.take i,mayS v ae y=false)->(0<=b->mayS v ae (v.fBook.getD b.toNat Zab.d)=true/\∀y∈v.fBook.take i,mayS v ae y=true->leH (ZiQ (v.fBook.getD b.toNat Zab.d)) (ZiQ y)) ->
  ∃e ok,Zbm v.fBook v.fPeers v.fBans ae fu b (i:Int) z=some (e,ok)/\Zrs v ae e ok:=by
 have p:v.fBook.length<=maxLen:=by have:=h.book;unfold maxLen;omega
 intro fu;induction fu with
 |zero=>intro _ _ _ h;omega
 |succ fu ih=>
  intro i b r t hb bM g f;unfold Zbm;simp only[Zak];by_cases hlt:i<v.fBook.length
  .rw[if_pos (by omega),Zar ⟨by omega,by omega⟩];simp only[Int.toNat_natCast];have dR:=ZfL v.fBook Zab.d i hlt;have du:v.fBook.take (i+1)=v.fBook.take i++[v.fBook.getD i Zab.d]:=by rw[List.take_succ_eq_append_getElem hlt,Zcn v.fBook _ i hlt]
   have gW:∀y,y∈v.fBook.take (i+1)->y∈v.fBook.take i\/y=v.fBook.getD i Zab.d:=fun y f=>by
    rw[du]at f;rcases List.mem_append.1 f with q|q
    .exact .inl q
    .exact .inr (List.mem_singleton.1 q)
   rw[ZKI h _ (h.bookOk _ dR),ZaF,add1 hlt p];have keep:mayS v ae (v.fBook.getD i Zab.d)=false\/(0<=b/\leH (ZiQ (v.fBook.getD b.toNat Zab.d)) (ZiQ (v.fBook.getD i Zab.d)))->∃e ok,Zbm v.fBook v.fPeers v.fBans ae fu b ((i+1:Nat):Int) z=some (e,ok)/\Zrs v ae e ok:=fun hk=>by
    refine ih (i+1) b (by omega) (by omega) (by omega) bM (fun br y dC=>?_) (fun br=>⟨(f br).1,fun y dC hmy=>?_⟩)
    .rcases gW y dC with q|q
     .exact g br y q
     .rw[q];rcases hk with hk|hk
      .exact hk
      .omega
    .rcases gW y dC with q|q
     .exact(f br).2 y q hmy
     .rcases hk with hk|hk
      .rw[q,hk]at hmy;cases hmy
      .rw[q];exact hk.2
   have move:mayS v ae (v.fBook.getD i Zab.d)=true->(0<=b->leH (ZiQ (v.fBook.getD i Zab.d)) (ZiQ (v.fBook.getD b.toNat Zab.d)))->∃e ok,Zbm v.fBook v.fPeers v.fBans ae fu (i:Int) ((i+1:Nat):Int) z=some (e,ok)/\Zrs v ae e ok:=fun hk hle=>by
    refine ih (i+1) (i:Int) (by omega) (by omega) (by omega) (by omega) (fun br=>by omega) (fun _=>⟨by rw[Int.toNat_natCast];exact hk,fun y dC hmy=>?_⟩);rw[Int.toNat_natCast];rcases gW y dC with q|q
    .by_cases br:b<0
     .rw[g br y q]at hmy;cases hmy
     .exact Zwi (hle (by omega)) ((f (by omega)).2 y q hmy)
    .rw[q];exact ZrE _
   cases hk:mayS v ae (v.fBook.getD i Zab.d)with
   |false=>rw[Bool.not_false,cond_true];exact keep (.inl hk)
   |true=>
    rw[Bool.not_true,cond_false];by_cases br:b<0
    .rw[if_pos br];exact move hk (fun q=>by omega)
    .rw[if_neg br,Zar ⟨by omega,by omega⟩];by_cases n:(v.fBook.getD i Zab.d).fNext<(v.fBook.getD b.toNat Zab.d).fNext
     .rw[if_pos n];exact move hk fun _=>ZrF.2 (.inl n)
     .rw[if_neg n,Zhe,ZsW,ZaF];by_cases j:(v.fBook.getD i Zab.d).fNext=(v.fBook.getD b.toNat Zab.d).fNext
      .rw[if_pos j];by_cases o:cmpE (v.fBook.getD i Zab.d).fEnd (v.fBook.getD b.toNat Zab.d).fEnd<0
       .rw[if_pos o];exact move hk fun _=>ZrF.2 (.inr ⟨j,by omega⟩)
       .rw[if_neg o];refine keep (.inr ⟨by omega,ZrF.2 (.inr ⟨j.symm,?_⟩)⟩);have:=@ZhH (v.fBook.getD b.toNat Zab.d).fEnd (v.fBook.getD i Zab.d).fEnd;omega
      .rw[if_neg j];exact keep (.inr ⟨by omega,ZrF.2 (.inl (by omega))⟩)
  .rw[if_neg (by omega)];have et:v.fBook.take i=v.fBook:=List.take_of_length_le (by omega);rw[et]at g f;by_cases br:b<0
   .rw[if_pos br];exact⟨_,_,rfl,.inr ⟨rfl,rfl,g br⟩⟩
   .rw[if_neg br,Zar ⟨by omega,by omega⟩];exact⟨_,_,rfl,.inl ⟨rfl,_,ZfL v.fBook Zab.d b.toNat (by omega),rfl,(f (by omega)).1,(f (by omega)).2⟩⟩
def Zes(v:ZaB)(ae:Int):Zaj×Bool:=(Zjx v ae).getD (zE,false)
theorem ZGS{v:ZaB}(h:ZmH v)(ae:Int):Zjx v ae=some (Zes v ae)/\ZfC v.fBook v.fPeers v.fBans ae=some (Zes v ae)/\((Zes v ae).2=true->0<=Zjl v.fBook (Zes v ae).1):=by
 obtain⟨e,ok,d,g⟩:=ZBl h ae;have f:=ZxU g;obtain⟨e',jG,i,j⟩:=ZEQ h ae ⟨⟨false,0,0⟩,0⟩ ((((v.fBook.length:Nat):Int)-(0:Int)).toNat+2) 0 (-1) (by omega) (by omega) (by omega) (by omega) (fun _=>by simp) (fun q=>by omega);have n:=Zrs.one f j;have b:Zes v ae=(e,ok):=by unfold Zes;rw[d];rfl
 refine⟨by rw[b,d],?_,fun az=>?_⟩
 .unfold ZfC;rw[b,n];exact i
 .rw[b]at az ⊢;rcases f with⟨_,x,x1,x2,_⟩|⟨q,_⟩
  .have hx:¬Zjl v.fBook e<0:=fun q=>ZwC.1 q x x1 x2;exact Int.not_lt.1 hx
  .rw[show ok=true from az]at q;cases q
def Zpy(ae:Int)(e:Zab):Bool:=ZmD e&&((e.fState==1)&&decide (e.fNext>ae))
def Zzi(l:List Zab)(ae:Int):List Itm:=(l.filter (Zpy ae)).map ZiQ
theorem ZIL(e:Zab)(ae:Int):Zlm e ae=some ((e.fState==1)&&decide (e.fNext>ae)):=by
 simp only[Zlm];cases(e.fState==(1:Int))<;>rfl
theorem ZHi(l:List Zab)(ae:Int)(hl:l.length<=900)(az:∀e∈l,e.ok):∀fu (i:Nat) (w:List Itm),i<=l.length->l.length-i<fu->w.length<=i ->
  ZbX ae fu l (l.length:Int) (i:Int) w=(Zjs (w++Zzi (l.drop i) ae)).bind fun x=>some x:=by
 have b:l.length<=maxLen:=by unfold maxLen;omega
 intro fu;induction fu with
 |zero=>intro _ _ _ h;omega
 |succ fu ih=>
  intro i w g j n;simp only[ZbX,Zak];by_cases h:i<l.length
  .rw[if_pos (by omega),Zar ⟨by omega,by omega⟩,Zfv l Zab.d i h];simp only[Int.toNat_natCast];have cR:=az _ (ZfL l Zab.d i h);rw[add1 h b,ih (i+1) w (by omega) (by omega) (by omega),ZsI _ cR];simp only[Option.bind_some,ZIL];rw[Zar ⟨by simp;omega,by unfold maxLen;simp;omega⟩,ih (i+1) _ (by omega) (by omega) (by simp;omega)];generalize l.getD i Zab.d=e;have f:Zzi (e :: l.drop (i+1)) ae=(if Zpy ae e then[ZiQ e]else[])++Zzi (l.drop (i+1)) ae:=by
    unfold Zzi;cases q:Zpy ae e<;>simp[q]
   rw[f];unfold Zpy;cases ZmD e
   .simp
   .cases((e.fState==(1:Int))&&decide (e.fNext>ae))
    .simp
    .simp[ZiQ]
  .rw[if_neg (by omega),List.drop_eq_nil_of_le (by omega)];simp[Zzi]
def ZsN(S:Zab->Prop)(r:Int):Prop:=((∀y,¬S y)/\r=0)\/∃x,S x/\r=x.fNext/\∀y,S y->r<=y.fNext
theorem ZsN.one{S:Zab->Prop}{r s:Int}(h:ZsN S r)(g:ZsN S s):r=s:=by
 rcases h with⟨d,i⟩|⟨x,d,i,j⟩
 .rcases g with⟨b,e⟩|⟨y,b,e,f⟩
  .omega
  .exact absurd b (d y)
 .rcases g with⟨b,e⟩|⟨y,b,e,f⟩
  .exact absurd d (b x)
  .have:=j y b;have:=f x d;omega
theorem ZId{v:ZaB}(h:ZmH v)(ae:Int):∃r,Zjw v ae=some r/\ZsN (fun y=>y∈v.fBook/\Zpy ae y=true) r:=by
 have hlen:(Zzi v.fBook ae).length<=v.fBook.length:=by simp only[Zzi,List.length_map];exact List.length_filter_le _ _
 have hb:=h.book;have hl:=ZHi v.fBook ae h.book h.bookOk ((((v.fBook.length:Nat):Int)-(0:Int)).toNat+2) 0 [] (by omega) (by omega) (by simp);simp only[Int.natCast_zero,List.drop_zero,List.nil_append]at hl;obtain⟨L,f,d,g⟩:=ZAL (Zzi v.fBook ae) (by omega);have hin:∀y,y∈v.fBook/\Zpy ae y=true->ZiQ y∈L:=fun y b=>d.mem_iff.2 (List.mem_map.2 ⟨y,List.mem_filter.2 b,rfl⟩);unfold Zjw ZfY;rw[hl,f,ZaF,ZaF];by_cases e:L=[]
 .subst e;rw[ZuG,ZaF];exact⟨0,rfl,.inl ⟨fun y b=>by have:=hin y b;simp at this,rfl⟩⟩
 .obtain⟨x,r,p1,p2,p3,p4⟩:=ZDT L (by rw[d.length_eq];omega) g e;rw[p1,ZaF];have hx:x∈L:=p2.mem_iff.2 (by simp);have dm:=d.mem_iff.1 hx;simp only[Zzi,List.mem_map,List.mem_filter]at dm;obtain⟨a,i,rfl⟩:=dm;refine⟨_,rfl,.inr ⟨a,i,rfl,fun y b=>?_⟩⟩;have:=ZrF.1 (p4 _ (hin y b));show a.fNext<=y.fNext;omega
theorem ZEP{l:List Zab}(hl:l.length<=900)(az:∀e∈l,e.ok)(ae:Int):∀(fu i:Nat)(r:Int)(any:Bool),i<=l.length->l.length-i<fu ->
  (any=false->r=0/\∀y∈l.take i,Zpy ae y=false)->(any=true->∃x,(x∈l/\Zpy ae x=true)/\r=x.fNext/\∀y∈l.take i,Zpy ae y=true->r<=y.fNext) ->
  ∃r',Zbl l ae fu r any (i:Int)=some r'/\ZsN (fun y=>y∈l/\Zpy ae y=true) r':=by
 have t:l.length<=maxLen:=by unfold maxLen;omega
 intro fu;induction fu with
 |zero=>intro _ _ _ _ h;omega
 |succ fu ih=>
  intro i r any u v j f;unfold Zbl;simp only[Zak,Zhe];by_cases hlt:i<l.length
  .rw[if_pos (by omega),Zar ⟨by omega,by omega⟩];simp only[Int.toNat_natCast];have dR:=ZfL l Zab.d i hlt;have du:l.take (i+1)=l.take i++[l.getD i Zab.d]:=by rw[List.take_succ_eq_append_getElem hlt,Zcn l _ i hlt]
   have gW:∀y,y∈l.take (i+1)->y∈l.take i\/y=l.getD i Zab.d:=fun y f=>by
    rw[du]at f;rcases List.mem_append.1 f with q|q
    .exact .inl q
    .exact .inr (List.mem_singleton.1 q)
   rw[Zob _ (az _ dR),ZaF,add1 hlt t];generalize l.getD i Zab.d=e at dR du gW ⊢;have keep:Zpy ae e=false\/(any=true/\r<=e.fNext)->∃r',Zbl l ae fu r any ((i+1:Nat):Int)=some r'/\ZsN (fun y=>y∈l/\Zpy ae y=true) r':=fun hk=>by
    refine ih (i+1) r any (by omega) (by omega) (fun b=>⟨(j b).1,fun y dC=>?_⟩) (fun b=>?_)
    .rcases gW y dC with q|q
     .exact(j b).2 y q
     .rw[q];rcases hk with hk|hk
      .exact hk
      .rw[b]at hk;exact absurd hk.1 (by decide)
    .obtain⟨x,x1,x2,x3⟩:=f b;refine⟨x,x1,x2,fun y dC hmy=>?_⟩;rcases gW y dC with q|q
     .exact x3 y q hmy
     .rcases hk with hk|hk
      .rw[q,hk]at hmy;cases hmy
      .rw[q];exact hk.2
   have move:Zpy ae e=true->(any=true->e.fNext<=r)->∃r',Zbl l ae fu e.fNext true ((i+1:Nat):Int)=some r'/\ZsN (fun y=>y∈l/\Zpy ae y=true) r':=fun hk hle=>by
    refine ih (i+1) _ true (by omega) (by omega) (fun b=>by cases b) (fun _=>⟨e,⟨dR,hk⟩,rfl,fun y dC hmy=>?_⟩);rcases gW y dC with q|q
    .cases b:any with
     |false=>rw[(j b).2 y q]at hmy;cases hmy
     |true=>
      obtain⟨x,x1,x2,x3⟩:=f b;have:=x3 y q hmy;have:=hle b;omega
    .rw[q];exact Int.le_refl _
   cases o:ZmD e with
   |false=>rw[cond_false];exact keep (.inl (by simp[Zpy,o]))
   |true=>
    rw[cond_true];by_cases g:e.fState=1
    .rw[if_pos g];by_cases n:e.fNext>ae
     .rw[if_pos n];have hk:Zpy ae e=true:=by unfold Zpy;rw[o,g,decide_eq_true n];rfl
      cases b:any with
      |false=>rw[Bool.not_false,cond_true];exact move hk fun q=>by rw[b]at q;cases q
      |true=>
       rw[Bool.not_true,cond_false];by_cases p:e.fNext<r
       .rw[if_pos p];exact move hk fun _=>by omega
       .rw[if_neg p];have hk2:=keep (.inr ⟨b,by omega⟩);rw[b]at hk2;exact hk2
     .rw[if_neg n];exact keep (.inl (by unfold Zpy;rw[decide_eq_false n];simp))
    .rw[if_neg g];exact keep (.inl (by simp[Zpy,g]))
  .rw[if_neg (by omega)];have et:l.take i=l:=List.take_of_length_le (by omega);rw[et]at j f;refine⟨r,rfl,?_⟩;cases b:any with
   |false=>exact .inl ⟨fun y dC=>(by have g:=dC.2;rw[(j b).2 y dC.1]at g;cases g),(j b).1⟩
   |true=>
    obtain⟨x,x1,x2,x3⟩:=f b;exact .inr ⟨x,x1,x2,fun y dC=>x3 y dC.1 dC.2⟩
def ZED(v:ZaB)(ae:Int):Int:=(Zjw v ae).getD 0
theorem ZGc{v:ZaB}(h:ZmH v)(ae:Int):Zjw v ae=some (ZED v ae)/\ZfB v.fBook ae=some (ZED v ae):=by
 obtain⟨r,b,e⟩:=ZId h ae;obtain⟨s,f,g⟩:=ZEP h.book h.bookOk ae ((((v.fBook.length:Nat):Int)-(0:Int)).toNat+2) 0 0 false (by omega) (by omega) (fun _=>⟨rfl,by simp⟩) (fun q=>by cases q);have d:ZED v ae=r:=by unfold ZED;rw[b];rfl
 refine⟨by rw[d,b],?_⟩;unfold ZfB;rw[d,e.one g];exact f
abbrev Prs:=List Zaa
def ltP(x y:Zaa):Bool:=decide (cmpE x.fEnd y.fEnd<0)
theorem Zso{x y:Zaa}:ltP x y=true↔cmpE x.fEnd y.fEnd<0:=by unfold ltP;simp
theorem ZDI{x y:Zaa}:ltP x y=false↔¬cmpE x.fEnd y.fEnd<0:=by unfold ltP;simp
theorem ZCn{x y z:Zaa}(d:ltP x y=false)(b:ltP y z=false):ltP x z=false:=by
 rw[ZDI]at *
 intro h;have e:cmpE x.fEnd y.fEnd=0\/0<cmpE x.fEnd y.fEnd:=by omega
 rcases e with e|e
 .rw[Zip.1 e]at h;exact b h
 .exact b (ZmZ (ZhH.1 e) h)
theorem ZKU{x y z:Zaa}(b:ltP z x=true)(d:ltP y x=false):ltP z y=true:=by
 cases h:ltP z y with
 |true=>rfl
 |false=>rw[ZCn h d]at b;cases b
def mrg:Prs->Prs->Prs | [],ys=>ys|x :: xs,[]=>x :: xs|x :: xs,y :: ys=>if ltP y x=true then y :: mrg (x :: xs) ys else x :: mrg xs (y :: ys)
termination_by xs ys=>xs.length+ys.length
theorem Zsn(xs:Prs):mrg xs []=xs:=by cases xs<;>simp[mrg]
theorem Zmy(xs:Prs):mrg [] xs=xs:=by simp[mrg]
theorem Zya{x y:Zaa}(xs ys:Prs)(h:ltP y x=true):mrg (x :: xs) (y :: ys)=y :: mrg (x :: xs) ys:=by rw[mrg,if_pos h]
theorem Zyb{x y:Zaa}(xs ys:Prs)(h:ltP y x=false):mrg (x :: xs) (y :: ys)=x :: mrg xs (y :: ys):=by rw[mrg,if_neg (by simp[h])]
theorem ZAz:∀(n:Nat)(x1 x2 y1 y2:Prs),x1.length+y1.length<=n->(∀y∈y1,∀x∈x2,ltP y x=true)->(∀x∈x1,∀y∈y2,ltP y x=false)->mrg (x1++x2) (y1++y2)=mrg x1 y1++mrg x2 y2:=by
 intro n;induction n with
 |zero=>
  intro x1 x2 y1 y2 h _ _;obtain rfl:=List.eq_nil_of_length_eq_zero (show x1.length=0 by omega);obtain rfl:=List.eq_nil_of_length_eq_zero (show y1.length=0 by omega);simp[Zmy]
 |succ n ih=>
  intro x1 x2 y1 y2 h b d;cases x1 with
  |nil=>
   cases y1 with
   |nil=>simp[Zmy]
   |cons y y1=>
    cases x2 with
    |nil=>simp[Zmy]
    |cons x x2=>
     simp only[List.length_cons,List.length_nil]at h;rw[List.nil_append,List.cons_append,Zya _ _ (b y (by simp) x (by simp)),Zmy];have:=ih [] (x :: x2) y1 y2 (by simp only[List.length_nil];omega) (fun y' er=>b y' (by simp[er])) (by simp);rw[List.nil_append,Zmy]at this;rw[this];rfl
  |cons x x1=>
   cases y1 with
   |nil=>
    cases y2 with
    |nil=>simp[Zsn]
    |cons y y2=>
     simp only[List.length_cons,List.length_nil]at h;rw[List.nil_append,List.cons_append,Zyb _ _ (d x (by simp) y (by simp)),Zsn];have:=ih x1 x2 [] (y :: y2) (by simp only[List.length_nil];omega) (by simp) (fun x' iJ=>d x' (by simp[iJ]));rw[List.nil_append,Zsn]at this;rw[this];rfl
   |cons y y1=>
    simp only[List.length_cons]at h;rw[List.cons_append,List.cons_append];cases e:ltP y x with
    |true=>
     rw[Zya _ _ e,Zya _ _ e,<-List.cons_append,ih (x :: x1) x2 y1 y2 (by simp only[List.length_cons];omega) (fun y' er=>b y' (by simp[er])) d];rfl
    |false=>
     have:=ih x1 x2 (y :: y1) y2 (by simp only[List.length_cons];omega) b (fun x' iJ=>d x' (by simp[iJ]));rw[List.cons_append]at this;rw[Zyb _ _ e,Zyb _ _ e,this];rfl
theorem ZHb:∀(n:Nat)(a b:Prs),a.length+b.length<=n->∀z∈mrg a b,z∈a\/z∈b:=by
 intro n;induction n with
 |zero=>
  intro a b h z hz;obtain rfl:=List.eq_nil_of_length_eq_zero (show a.length=0 by omega);rw[Zmy]at hz;exact .inr hz
 |succ n ih=>
  intro a b h z hz;cases a with
  |nil=>rw[Zmy]at hz;exact .inr hz
  |cons x a=>
   cases b with
   |nil=>rw[Zsn]at hz;exact .inl hz
   |cons y b=>
    simp only[List.length_cons]at h;cases d:ltP y x with
    |true=>
     rw[Zya _ _ d]at hz;rcases List.mem_cons.1 hz with hz|hz
     .exact .inr (by simp[hz])
     .rcases ih _ _ (by simp only[List.length_cons];omega) z hz with q|q
      .exact .inl q
      .exact .inr (by simp[q])
    |false=>
     rw[Zyb _ _ d]at hz;rcases List.mem_cons.1 hz with hz|hz
     .exact .inl (by simp[hz])
     .rcases ih _ _ (by simp only[List.length_cons];omega) z hz with q|q
      .exact .inl (by simp[q])
      .exact .inr q
def SrtP(l:Prs):Prop:=l.Pairwise fun x y=>ltP y x=false
theorem ZDJ{x y:Zaa}(h:ltP x y=true):ltP y x=false:=by
 rw[Zso]at h;rw[ZDI];intro b;have:=ZhH.2 b;omega
theorem ZKQ:∀(n:Nat)(a b:Prs),a.length+b.length<=n->SrtP a->SrtP b->SrtP (mrg a b):=by
 intro n;induction n with
 |zero=>
  intro a b h e hb;obtain rfl:=List.eq_nil_of_length_eq_zero (show a.length=0 by omega);rw[Zmy];exact hb
 |succ n ih=>
  intro a b h e hb;cases a with
  |nil=>rw[Zmy];exact hb
  |cons x a=>
   cases b with
   |nil=>rw[Zsn];exact e
   |cons y b=>
    simp only[List.length_cons]at h;have cm:=List.pairwise_cons.1 e;have aL:=List.pairwise_cons.1 hb;cases d:ltP y x with
    |true=>
     rw[Zya _ _ d];refine List.pairwise_cons.2 ⟨fun z f=>?_,ih _ _ (by simp only[List.length_cons];omega) e aL.2⟩;rcases ZHb _ _ _ (Nat.le_refl _) z f with q|q
     .have:ltP x y=false:=ZDJ d;rcases List.mem_cons.1 q with q|q
      .rw[q];exact this
      .exact ZCn (cm.1 z q) this
     .exact aL.1 z q
    |false=>
     rw[Zyb _ _ d];refine List.pairwise_cons.2 ⟨fun z f=>?_,ih _ _ (by simp only[List.length_cons];omega) cm.2 hb⟩;rcases ZHb _ _ _ (Nat.le_refl _) z f with q|q
     .exact cm.1 z q
     .rcases List.mem_cons.1 q with q|q
      .rw[q];exact d
      .exact ZCn (aL.1 z q) d
theorem ZKR{o1 d:Prs}{x:Zaa}(g:∀y∈o1,ltP x y=false)(h:∀y∈d,ltP x y=true):mrg (o1++d) [x]=o1++x :: d:=by
 have a:=ZAz _ o1 d [x] [] (Nat.le_refl _) (fun y e z f=>by rw[List.mem_singleton.1 e];exact h z f) (by simp);have b:=ZAz _ o1 [] [] [x] (Nat.le_refl _) (by simp) (fun z f y e=>by rw[List.mem_singleton.1 e];exact g z f);simp only[List.append_nil,List.nil_append,Zsn,Zmy]at a b;rw[a,b];simp
theorem ZyQ(o:Prs)(x:Zaa)(g:SrtP o)(hl:o.length<=900000):Zdw o x=some (mrg o [x]):=by
 have j:o.length<=maxLen:=by unfold maxLen;omega
 have aA:∀(fu i:Nat),i<=o.length->o.length-i<fu->(∀y∈o.take i,ltP x y=false)->ZdC o fu (i:Int) x=some (mrg o [x]):=by
  intro fu;induction fu with
  |zero=>intro _ _ h;omega
  |succ fu ih=>
   intro i r t cJ;unfold ZdC;have fin:(∀y∈o.drop i,ltP x y=true)->o.take i++[x]++o.drop i=mrg o [x]:=fun h=>by
    have:=ZKR cJ h;rw[List.take_append_drop]at this;rw[this];simp
   have lt:(o.take i).length=i:=by simp;omega
   have ld:(o.drop i).length=o.length-i:=by simp
   have n1:(o.take i).length * 80<=140737488355328/\(o.take i).length<=maxLen:=by rw[lt];unfold maxLen;omega
   have n2:(o.take i++[x]).length * 80<=140737488355328/\(o.take i++[x]).length<=maxLen:=by simp only[List.length_append,lt,List.length_singleton,maxLen];omega
   have n3:(o.take i++[x]++o.drop i).length * 80<=140737488355328/\(o.take i++[x]++o.drop i).length<=maxLen:=by simp only[List.length_append,lt,ld,List.length_singleton,maxLen];omega
   simp only[Zak,Int.toNat_natCast,List.nil_append,Zar n1,Zar n2,Zar n3];by_cases h:i<o.length
   .rw[if_pos (by omega),Zar ⟨by omega,by omega⟩,ZsW,ZaF];have n:Zaq (i:Int) 1=((i+1:Nat):Int):=add1 h j;have hd:=Zfv o Zaa.d i h;by_cases e:cmpE (o.getD i Zaa.d).fEnd x.fEnd<=0
    .rw[if_pos e,n];refine ih (i+1) (by omega) (by omega) fun y b=>?_;rw[List.take_succ_eq_append_getElem h,<-Zcn o Zaa.d i h]at b;rcases List.mem_append.1 b with q|q
     .exact cJ y q
     .rw[List.mem_singleton.1 q,ZDI];intro p;have:=ZhH.2 p;omega
    .rw[if_neg e,Zar ⟨by omega,by omega⟩,fin];intro y b;have hx:ltP x (o.getD i Zaa.d)=true:=by rw[Zso];exact ZhH.1 (by omega)
     rw[hd]at b;have f:SrtP (o.drop i):=List.Pairwise.sublist (List.drop_sublist i o) g;rw[hd]at f;rcases List.mem_cons.1 b with q|q
     .rw[q];exact hx
     .exact ZKU hx ((List.pairwise_cons.1 f).1 y q)
   .rw[if_neg (by omega),Zar ⟨by omega,by omega⟩,fin];intro y b;rw[List.drop_eq_nil_of_le (by omega)]at b;cases b
 unfold Zdw;have:=aA ((((o.length:Nat):Int)-(0:Int)).toNat+2) 0 (by omega) (by omega) (by simp);exact this
def inI(n a b:Int):Bool:=decide (a<=n)&&decide (n<=b)
def nowB(x:Zas):Bool:=inI x.fNow 0 1099511627776
def ZlS(x:Zas):Bool:=if x.fKind=1\/x.fKind=12\/x.fKind=13 then Zme x.fEnd&&nowB x else if x.fKind=2 then Zme x.fEnd else if x.fKind=3\/x.fKind=9 then nowB x else if x.fKind=4 then Zme x.fEnd&&(nowB x&&inI x.fNum 0 1073741824)else if x.fKind=5 then Zme x.fEnd&&(inI x.fNum 1 5&&nowB x)else if x.fKind=6 then ZiN x.fNet&&(inI x.fNum 1 1099511627776&&nowB x)else if x.fKind=7 then ZiN x.fNet else if x.fKind=8 then Zdj x.fEnd.fAddr&&nowB x else if x.fKind=10 then true else if x.fKind=11 then Zme x.fEnd&&inI x.fNum 1 1048576 else false
def ZCf(x:Zas)(s:Int×Int)(p:Int):Bool:=if p=0 then Zme x.fEnd else if p=1 then ZiN x.fNet else if p=2 then Zdj x.fEnd.fAddr else if p=3 then nowB x else if p=4 then inI x.fNum s.1 s.2 else true
theorem ZDc(x:Zas)(hx:x.ok)(s:Int×Int)(d:ZlQ x.fKind=some s)(p:Int):Zmt x p=some (ZCf x s p):=by
 have b:x.fEnd.ok:=hx.2.1;have e:x.fNet.ok:=hx.2.2.1;unfold Zmt ZCf;simp only[Zhe,Zyp _ b,Zpr _ e.1,ZkK _ b.1,d,Option.bind_some,nowB,inI,Zak]
 repeat' split
 all_goals first|rfl | (simp_all;done) | (simp_all;omega)
theorem ZDd(x:Zas)(hx:x.ok)(s:Int×Int)(b:ZlQ x.fKind=some s)(l:List Int)(hl:l.length<=100):ZeV ((((l.length:Nat):Int)-(0:Int)).toNat+2) l (l.length:Int) 0 x=some (l.all (ZCf x s)):=by
 have hL:l.length<=maxLen:=by unfold maxLen;omega
 have aA:∀fu (i:Nat),i<=l.length->l.length-i<fu->ZeV fu l (l.length:Int) (i:Int) x=some ((l.drop i).all (ZCf x s)):=by
  intro fu;induction fu with
  |zero=>intro i _ h;omega
  |succ fu ih=>
   intro i d e;unfold ZeV;simp only[Zak];by_cases h:i<l.length
   .rw[if_pos (by omega),Zar ⟨by omega,by omega⟩,ZDc x hx s b,Option.bind_some,add1 h hL,Zfv l (0:Int) i h,List.all_cons,Int.toNat_natCast];cases ZCf x s (l.getD i 0)with
    |true=>simp only[Bool.not_true,cond_false,Bool.true_and];exact ih (i+1) (by omega) (by omega)
    |false=>rfl
   .rw[if_neg (by omega),List.drop_of_length_le (by omega)];rfl
 exact aA _ 0 (by omega) (by omega)
theorem ZIk(k:Int):∃t,Zns k=some t/\((t.toList==(⟨#[]⟩ : ByteArray).toList) = !(decide (1<=k)&&decide (k<=13))):=by
 unfold Zns ZnX Ztt;simp only[Option.bind_some,Zak];by_cases h0:k<0
 .rw[if_pos h0];refine⟨_,rfl,?_⟩;rw[decide_eq_false (show ¬1<=k by omega)];simp
 .rw[if_neg h0];by_cases b:k>=14
  .have d:k>=(([(⟨#[]⟩ : ByteArray),(⟨#[97,99,99,101,112,116]⟩ : ByteArray),(⟨#[108,101,97,118,101]⟩ : ByteArray),(⟨#[100,105,97,108]⟩ : ByteArray),(⟨#[114,101,115,117,108,116]⟩ : ByteArray),(⟨#[98,108,97,109,101]⟩ : ByteArray),(⟨#[98,97,110]⟩ : ByteArray),(⟨#[117,110,98,97,110]⟩ : ByteArray),(⟨#[98,97,110,110,101,100]⟩ : ByteArray),(⟨#[116,105,99,107]⟩ : ByteArray),(⟨#[108,105,115,116]⟩ : ByteArray),(⟨#[112,111,110,103]⟩ : ByteArray),(⟨#[119,111,114,107]⟩ : ByteArray),(⟨#[108,101,97,114,110]⟩ : ByteArray)]:List ByteArray).length:Int):=b;rw[if_pos d];refine⟨_,rfl,?_⟩;rw[decide_eq_true (show 1<=k by omega),decide_eq_false (show ¬k<=13 by omega)];simp
  .obtain h|h|h|h|h|h|h|h|h|h|h|h|h|h:k=0\/k=1\/k=2\/k=3\/k=4\/k=5\/k=6\/k=7\/k=8\/k=9\/k=10\/k=11\/k=12\/k=13:=by omega
   all_goals subst h;exact⟨_,rfl,by decide +kernel⟩
theorem ZFN(x:Zas)(hx:x.ok):Zmu x=some (ZlS x):=by
 obtain⟨t,d,f⟩:=ZIk x.fKind;unfold Zmu;rw[d,Option.bind_some,f];by_cases b:1<=x.fKind/\x.fKind<=13
 .rw[decide_eq_true b.1,decide_eq_true b.2];simp only[Bool.and_self,Bool.not_true,cond_false];have key:∀(k:Int)(l:List Int)(s:Int×Int),x.fKind=k->ZkI k=some l->ZlQ k=some s->l.length<=100->l.all (ZCf x s)=ZlS x->((ZkI x.fKind).bind fun x2=>ZeV ((((x2.length:Nat):Int)-(0:Int)).toNat+2) x2 ((x2.length:Nat):Int) (0:Int) x)=some (ZlS x):=by
   intro k l s e g i j n;rw[e,g,Option.bind_some,ZDd x hx s (by rw[e];exact i) l j,n]
  obtain h|h|h|h|h|h|h|h|h|h|h|h|h:x.fKind=1\/x.fKind=2\/x.fKind=3\/x.fKind=4\/x.fKind=5\/x.fKind=6\/x.fKind=7\/x.fKind=8\/x.fKind=9\/x.fKind=10\/x.fKind=11\/x.fKind=12\/x.fKind=13:=by omega
  all_goals exact key _ _ _ h rfl rfl (by simp) (by simp[ZlS,h,ZCf])
 .have o:(decide (1<=x.fKind)&&decide (x.fKind<=13))=false:=by
   rw[Bool.and_eq_false_iff,decide_eq_false_iff_not,decide_eq_false_iff_not];omega
  rw[o];simp only[Bool.not_false,cond_true];unfold ZlS
  repeat' rw[if_neg (by omega)]
theorem ZET(x:Zas)(hx:x.ok)(a b:Int)(s:ByteArray)(L:List Int)(hL:L.length=s.size)(h:∀i:Nat,i<s.size->((ZlD s i:Nat):Int)=L.getD i 0)(o:s.size<=100) :
  Zbe a b x ((((s.size:Nat):Int)-(0:Int)).toNat+2) s 0=some (L.all fun c=>if c=101 then Zme x.fEnd else if c=110 then ZiN x.fNet else if c=97 then Zdj x.fEnd.fAddr else if c=116 then nowB x else if c=107 then inI x.fNum a b else true):=by
 have e:x.fEnd.ok:=hx.2.1;have j:x.fNet.ok:=hx.2.2.1;have aA:∀fu (i:Nat),i<=s.size->s.size-i<fu->Zbe a b x fu s (i:Int)=some ((L.drop i).all fun c=>if c=101 then Zme x.fEnd else if c=110 then ZiN x.fNet else if c=97 then Zdj x.fEnd.fAddr else if c=116 then nowB x else if c=107 then inI x.fNum a b else true):=by
  intro fu;induction fu with
  |zero=>intro i _ h;omega
  |succ fu ih=>
   intro i d p;unfold Zbe;simp only[Zak,Zhe,ZuE _ e,ZtV _ j.1,ZjW _ e.1,Option.bind_some];by_cases hlt:i<s.size
   .rw[if_pos (by omega),Zar ⟨by omega,by omega⟩,add1 (n:=s.size) hlt (by unfold maxLen;omega),Zfv L (0:Int) i (by omega),List.all_cons,Int.toNat_natCast,h i hlt,ih (i+1) (by omega) (by omega)];generalize r:((L.drop (i+1)).all fun c=>if c=101 then Zme x.fEnd else if c=110 then ZiN x.fNet else if c=97 then Zdj x.fEnd.fAddr else if c=116 then nowB x else if c=107 then inI x.fNum a b else true)=R;have fX:∀q:Bool,(bif !q then some false else some R)=some (q&&R):=fun q=>by cases q<;>rfl
    simp only[fX];have rng:∀n lo d:Int,(if n<lo then some false else if n>d then some false else some R)=some (inI n lo d&&R):=fun n lo d=>by
     unfold inI;by_cases f:n<lo
     .rw[if_pos f,decide_eq_false (by omega)];rfl
     .rw[if_neg f,decide_eq_true (show lo<=n by omega)];by_cases g:n>d
      .rw[if_pos g,decide_eq_false (by omega)];rfl
      .rw[if_neg g,decide_eq_true (show n<=d by omega)];rfl
    simp only[rng];unfold nowB
    repeat' split
    all_goals first|rfl|omega
   .rw[if_neg (by omega),List.drop_of_length_le (by omega)];rfl
 exact aA _ 0 (by omega) (by omega)
theorem ZCa(x:Zas)(hx:x.ok):Zgu x=some (ZlS x):=by
 unfold Zgu Zdf;simp only[Zak,Zhe];by_cases d:x.fKind<1
 .rw[if_pos d];unfold ZlS
  repeat' rw[if_neg (by omega)]
 .rw[if_neg d];by_cases f:x.fKind>13
  .rw[if_pos f];unfold ZlS
   repeat' rw[if_neg (by omega)]
  .rw[if_neg f];have key:∀(k a b:Int)(s:ByteArray)(L:List Int),x.fKind=k->Zgt k=some s->L.length=s.size->(∀i:Nat,i<s.size->((ZlD s i:Nat):Int)=L.getD i 0)->s.size<=100 ->
     (L.all fun c=>if c=101 then Zme x.fEnd else if c=110 then ZiN x.fNet else if c=97 then Zdj x.fEnd.fAddr else if c=116 then nowB x else if c=107 then inI x.fNum a b else true)=ZlS x ->
     ((Zgt x.fKind).bind fun x1=>Zbe a b x ((((x1.size:Nat):Int)-(0:Int)).toNat+2) x1 (0:Int))=some (ZlS x):=by
    intro k a b s L e g j n o p;rw[e,g,Option.bind_some,ZET x hx a b s L j n o,p]
   obtain h|h|h|h|h|h|h|h|h|h|h|h|h:x.fKind=1\/x.fKind=2\/x.fKind=3\/x.fKind=4\/x.fKind=5\/x.fKind=6\/x.fKind=7\/x.fKind=8\/x.fKind=9\/x.fKind=10\/x.fKind=11\/x.fKind=12\/x.fKind=13:=by omega
   .rw[if_neg (by omega),if_neg (by omega),if_neg (by omega)];exact key 1 _ _ _ [101,116] h rfl rfl (by decide) (by decide) (by simp[ZlS,h])
   .rw[if_neg (by omega),if_neg (by omega),if_neg (by omega)];exact key 2 _ _ _ [101] h rfl rfl (by decide) (by decide) (by simp[ZlS,h])
   .rw[if_neg (by omega),if_neg (by omega),if_neg (by omega)];exact key 3 _ _ _ [116] h rfl rfl (by decide) (by decide) (by simp[ZlS,h])
   .rw[if_neg (by omega),if_neg (by omega),if_neg (by omega)];exact key 4 _ _ _ [101,103,116,107] h rfl rfl (by decide) (by decide) (by simp[ZlS,h])
   .rw[if_pos h];exact key 5 _ _ _ [101,107,116] h rfl rfl (by decide) (by decide) (by simp[ZlS,h])
   .rw[if_neg (by omega),if_pos h];exact key 6 _ _ _ [110,107,116] h rfl rfl (by decide) (by decide) (by simp[ZlS,h])
   .rw[if_neg (by omega),if_neg (by omega),if_neg (by omega)];exact key 7 _ _ _ [110] h rfl rfl (by decide) (by decide) (by simp[ZlS,h])
   .rw[if_neg (by omega),if_neg (by omega),if_neg (by omega)];exact key 8 _ _ _ [97,116] h rfl rfl (by decide) (by decide) (by simp[ZlS,h])
   .rw[if_neg (by omega),if_neg (by omega),if_neg (by omega)];exact key 9 _ _ _ [116] h rfl rfl (by decide) (by decide) (by simp[ZlS,h])
   .rw[if_neg (by omega),if_neg (by omega),if_neg (by omega)];exact key 10 _ _ _ [] h rfl rfl (by decide) (by decide) (by simp[ZlS,h])
   .rw[if_neg (by omega),if_neg (by omega),if_pos h];exact key 11 _ _ _ [101,107] h rfl rfl (by decide) (by decide) (by simp[ZlS,h])
   .rw[if_neg (by omega),if_neg (by omega),if_neg (by omega)];exact key 12 _ _ _ [101,116] h rfl rfl (by decide) (by decide) (by simp[ZlS,h])
   .rw[if_neg (by omega),if_neg (by omega),if_neg (by omega)];exact key 13 _ _ _ [101,116] h rfl rfl (by decide) (by decide) (by simp[ZlS,h])
def Zsa(l:List Zac)(a:Zah)(ae:Int):Int:=(Zit l a ae).getD 0
theorem ZqA(l:List Zac)(a:Zah)(ae:Int)(hl:l.length<=maxLen)(az:∀b∈l,b.ok)(d:a.ok):Zit l a ae=some (Zsa l a ae)/\Zcy l a ae=some (Zsa l a ae):=by
 obtain⟨r,u1,u2⟩:=Zyz l a ae hl az d;obtain⟨s,u3,u4⟩:=ZvP l a ae hl az d;have l9:r=s:=Zye u2 u4 fun b=>Iff.rfl;subst l9;unfold Zsa;rw[u1,u3];exact⟨rfl,rfl⟩
def Zvi(k:Int):Zap:=⟨k,endZ,0,0,[]⟩
def ZEX(p:Zaa)(ms:Int):Zaa:=(Znk p ms).getD p
theorem ZJm(p:Zaa)(ms:Int):Znk p ms=some (ZEX p ms)/\ZfE p ms=some (ZEX p ms):=by
 obtain⟨q,b,d⟩:=ZKM p ms;unfold ZEX;rw[b,d];exact⟨rfl,rfl⟩
def ZEC(p:Zaa)(ae:Int):Zaa:=(Zlb p ae).getD p
theorem ZIJ(p:Zaa)(ae:Int):Zlb p ae=some (ZEC p ae)/\ZeD p ae=some (ZEC p ae):=by
 obtain⟨q,b,d⟩:=ZFZ p ae;unfold ZEC;rw[b,d];exact⟨rfl,rfl⟩
theorem ZIE(a b:Int):okI .i64 (addT a b):=by
 have:=ZjA (fitI a+fitI b);unfold addT;simp only[okI,Lit.wf,IntKind.min,IntKind.max,IntKind.bits,IntKind.signed];simp;omega
theorem ZDZ(a:Zah)(h:a.ok):(Zxy a).ok:=by
 unfold Zxy;split
 .refine⟨h,?_,trivial⟩;have:wid a<=128:=ZuC a;simp only[okI,Lit.wf,IntKind.min,IntKind.max,IntKind.bits,IntKind.signed];simp;omega
 .exact⟨⟨trivial,rfl,rfl,trivial⟩,rfl,trivial⟩
def stE(e:Zab)(s:Int):Zab:=⟨e.fEnd,s,e.fFails,e.fNext⟩
def ZLQ(e:Zab):Zab:=⟨e.fEnd,3,0,e.fNext⟩
def newE(x:Zas):Zab:=⟨x.fEnd,1,0,fitI x.fNow⟩
def ZJq(x:Zas):Zaa:=⟨x.fEnd,false,fitI x.fNow,⟨0,fitI x.fNow⟩,0,0⟩
def entA(l:List Zab)(e:Zaj):Zab:=l.getD (Zjl l e).toNat Zab.d
def StrP(l:Prs):Prop:=l.Pairwise fun x y=>ltP x y=true
theorem Zzb:∀(n:Nat)(a b:Prs),a.length+b.length<=n->(mrg a b).Perm (a++b)
 | 0,a,b,h=>by
  obtain rfl:=List.eq_nil_of_length_eq_zero (show a.length=0 by omega)
  rw[Zmy];exact List.Perm.refl _
 |n+1,[],b,h=>by rw[Zmy];exact List.Perm.refl _
 |n+1,x :: a,[],h=>by rw[Zsn,List.append_nil]
 |n+1,x :: a,y :: b,h=>by
  simp only[List.length_cons]at h
  cases d:ltP y x with
  |true=>
   rw[Zya _ _ d]
   refine((Zzb n (x :: a) b (by simp only[List.length_cons];omega)).cons y).trans ?_
   exact List.perm_middle.symm
  |false=>
   rw[Zyb _ _ d]
   exact(Zzb n a (y :: b) (by simp only[List.length_cons];omega)).cons x
theorem StrP.filter{l:Prs}(h:StrP l)(p:Zaa->Bool):StrP (l.filter p):=List.Pairwise.filter p h
theorem StrP.inj{l:Prs}(h:StrP l){x y:Zaa}(hx:x∈l)(d:y∈l)(e:x.fEnd=y.fEnd):x=y:=by
 induction l with
 |nil=>cases hx
 |cons z l ih=>
  have b:=List.pairwise_cons.1 h;have key:∀{w},w∈l->w.fEnd≠z.fEnd:=fun{w} f ew=>by
   have:=Zso.1 (b.1 w f);rw[Zip.2 ew.symm]at this;omega
  rcases List.mem_cons.1 hx with h1|h1<;>rcases List.mem_cons.1 d with h2|h2
  .rw[h1,h2]
  .exact absurd (by rw[<-e,h1]) (key h2)
  .exact absurd (by rw[e,h2]) (key h1)
  .exact ih b.2 h1 h2
theorem ZuL(s:Zan)(b:s.fPeers.length<=1000)(d:s.fBook.length<=1000):Zeg s=some (cntP s.fPeers false+Zny s.fBook 2):=by
 have e:=ZIl s.fPeers false;have hb:0<=Zny s.fBook 2/\Zny s.fBook 2<=1000:=by
  unfold Zny;have:=List.countP_le_length (p:=fun x:Zab=>decide (x.fState=2)) (l:=s.fBook);omega
 unfold Zeg;rw[ZvQ _ _ (by unfold maxLen;omega),ZaF,ZGG _ _ (by unfold maxLen;omega),ZaF,Zcm (by omega) (by omega)]
theorem Zzq{l:Prs}{e:Zaj}:ZmC l e<0↔∀p∈l,p.fEnd≠e:=by
 unfold ZmC;rw[ZrG];simp
theorem Zzr{l:Prs}{e:Zaj}(h:0<=ZmC l e):∃k:Nat,k<l.length/\ZmC l e=(k:Int)/\(l.getD k Zaa.d).fEnd=e/\∀j,j<k->(l.getD j Zaa.d).fEnd≠e:=by
 obtain⟨k,b,f,⟨x,g,i⟩,n⟩:=ZnV (fun x:Zaa=>decide (x.fEnd=e)) l 0 h;refine⟨k,b,by unfold ZmC;rw[f,Nat.zero_add],?_,fun j o=>?_⟩
 .have:l.getD k Zaa.d=x:=by rw[List.getD_eq_getElem?_getD,g];rfl
  rw[this];exact of_decide_eq_true i
 .have:=n j o;obtain⟨y,p,r⟩:=this;have t:l.getD j Zaa.d=y:=by rw[List.getD_eq_getElem?_getD,p];rfl
  rw[t];exact of_decide_eq_false r
def butK(l:Prs)(k:Nat):Prs:=l.take k++l.drop (k+1)
theorem ZwX{l:Prs}{k:Nat}(b:k<l.length):l.Perm (l.getD k Zaa.d :: butK l k):=by
 have e:l=l.take k++l.getD k Zaa.d :: l.drop (k+1):=by rw[<-Zfv l _ k b,List.take_append_drop]
 conv=>lhs;rw[e]
 exact List.perm_middle
theorem ZIS{α:Type}(l:List α)(d:α){i:Nat}(b:i<l.length)(x:α):(l.set i x).getD i d=x:=by simp[List.getD_eq_getElem?_getD,b]
theorem ZvF{l:Prs}(h:StrP l)(k:Nat):StrP (butK l k):=by
 have e:(butK l k).Sublist l:=by
  unfold butK
  conv=>rhs;rw[<-List.take_append_drop k l]
  refine List.Sublist.append (List.Sublist.refl _) ?_;have:l.drop (k+1)=(l.drop k).drop 1:=by rw[List.drop_drop]
  rw[this];exact List.drop_sublist 1 _
 exact List.Pairwise.sublist e h
theorem StrP.set{l:Prs}(h:StrP l){k:Nat}(p:k<l.length){y:Zaa}(b:y.fEnd=(l.getD k Zaa.d).fEnd):StrP (l.set k y):=by
 unfold StrP at h ⊢;rw[List.pairwise_iff_getElem]at h ⊢;intro i j n o hij;simp only[List.length_set]at n o;have e:=Zso.1 (h i j n o hij);rw[Zcn l _ k p]at b;rw[Zso];simp only[List.getElem_set];by_cases f:k=i<;>by_cases g:k=j
 .omega
 .subst f;rw[if_pos rfl,if_neg g,b];exact e
 .subst g;rw[if_neg f,if_pos rfl,b];exact e
 .rw[if_neg f,if_neg g];exact e
theorem ZGN(l:List Zab)(e:Zab):(putS l e).Perm (e :: l):=by
 unfold putS;have h:=List.takeWhile_append_dropWhile (p:=fun x:Zab=>!decide (0<cmpE x.fEnd e.fEnd)) (l:=l)
 conv=>rhs;rw[<-h]
 rw[List.append_assoc];exact List.perm_middle
theorem ZLK{x y:Zaa}(b:ltP y x=false)(d:x.fEnd≠y.fEnd):ltP x y=true:=by
 rw[ZDI]at b;rw[Zso];have e:cmpE x.fEnd y.fEnd≠0:=fun h=>d (Zip.1 h);have f:¬0<cmpE x.fEnd y.fEnd:=fun h=>b (ZhH.1 h);omega
theorem ZLL{x y:Zaa}(h:ltP x y=true):x.fEnd≠y.fEnd:=fun e=>by
 rw[Zso,Zip.2 e]at h
 exact absurd h (by decide)
theorem ZyD{l:Prs}(h:StrP l):SrtP l:=h.imp fun h=>ZDJ h
theorem ZGi{l:Prs}(h:StrP l){p:Zaa}(d:∀q∈l,q.fEnd≠p.fEnd):StrP (mrg l [p])/\(mrg l [p]).Perm (p :: l):=by
 have b:(mrg l [p]).Perm (p :: l):=(Zzb _ l [p] (Nat.le_refl _)).trans (List.perm_append_singleton p l);have hd:(p :: l).Pairwise fun x y=>x.fEnd≠y.fEnd:=List.pairwise_cons.2 ⟨fun q e=>(d q e).symm,h.imp fun h=>ZLL h⟩;have iM:(mrg l [p]).Pairwise fun x y=>x.fEnd≠y.fEnd:=hd.perm b.symm fun h=>h.symm;have f:SrtP (mrg l [p]):=ZKQ _ l [p] (Nat.le_refl _) (ZyD h) (List.pairwise_singleton _ _);exact⟨(f.and iM).imp fun h=>ZLK h.1 h.2,b⟩
theorem ZJH{l:List Zab}{e:Zaj}(h:0<=Zjl l e):(entA l e).fEnd=e/\entA l e∈l:=by
 obtain⟨k,j,d,⟨y,b,f⟩,_⟩:=ZnV _ l 0 h;have g:(Zjl l e).toNat=k:=by unfold Zjl;rw[d];omega
 have i:entA l e=y:=by unfold entA;rw[g,List.getD_eq_getElem?_getD,b];rfl
 rw[i];exact⟨of_decide_eq_true f,List.mem_of_getElem? b⟩
theorem no35(k:Int):Zby k=some (Zvi k):=rfl
theorem ZLZ(l:Prs)(hl:l.length<=1000000):ZgR l=some (ZFC l):=by
 have hL:l.length<=maxLen:=by unfold maxLen;omega
 have aA:∀fu (i:Nat) w,i<=l.length->l.length-i<fu->w=ZFC (l.take i)->Zds l fu (i:Int) w=some (ZFC l):=by
  intro fu;induction fu with
  |zero=>intro i w _ h;omega
  |succ fu ih=>
   intro i w d e b;unfold Zds;simp only[Zak];by_cases h:i<l.length
   .have hwl:w.length<=1000000:=by rw[b];unfold ZFC;simp;omega
    rw[if_pos (by omega),Zar ⟨by omega,by omega⟩,add1 h hL,Zar ⟨by simp;omega,by simp[maxLen];omega⟩];refine ih (i+1) _ (by omega) (by omega) ?_;rw[b];unfold ZFC;rw[List.take_succ_eq_append_getElem h,List.map_append,Int.toNat_natCast,Zcn l _ i h];rfl
   .rw[if_neg (by omega),b];have:i=l.length:=by omega
    rw[this,List.take_length]
 exact aA _ 0 [] (by omega) (by omega) rfl
theorem ZvY{n:Int}(b : -9223372036854775808<=n)(d:n<=9223372036854775807):okI .i64 n:=by
 simp only[okI,Lit.wf,IntKind.min,IntKind.max,IntKind.bits,IntKind.signed];simp;omega
theorem okZ:okI .i64 0:=by rfl
def ZtM(x:Zas):Zaa:=⟨x.fEnd,true,fitI x.fNow,⟨0,fitI x.fNow⟩,0,0⟩
theorem Zxh(s:Zan)(b:s.fBans.length<=1000000)(d:s.fBook.length<=1000000)(e:s.fPeers.length<=1000000):Zfz s s=some true:=by
 unfold Zfz;rw[ZyK _ b,ZaF,cond_true,ZyJ _ d,ZaF,cond_true,Zxi _ e];rfl
theorem ZKY(n a b:Int):Zbq n a b=some (decide (n>=a)&&decide (n<=b)):=by
 unfold Zbq;cases decide (n>=a)<;>rfl
theorem ZLg{α:Type}{c:Bool}{x y:Option α}(d:∃b,x=some b)(e:∃b,y=some b):∃b,(bif c then x else y)=some b:=by
 cases c
 .exact e
 .exact d
theorem ZKG(c:Zav):∃b,Zgv c=some b:=by
 unfold Zgv;simp only[ZcF,Zdg,ZKY,ZaF]
 repeat' first|exact⟨_,rfl⟩|apply ZLg
theorem ZKV{x b:Zac}(hx:x.ok)(hb:b.ok):(ZJw x b).ok:=by
 refine⟨hx.1,?_,trivial⟩;unfold ZJw;simp only;split
 .exact hb.2.1
 .exact hx.2.1
end Go.Proofs.YtmnloegcpaahcaaGreat
