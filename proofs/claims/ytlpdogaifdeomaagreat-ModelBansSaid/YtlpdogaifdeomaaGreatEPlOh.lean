import Derived.Test.YtlpdogaifdeomaaGreatEPlOg
namespace Go.Proofs.YtlpdogaifdeomaaGreat
set_option linter.unusedVariables false
set_option linter.unusedSimpArgs false
set_option linter.unusedSectionVars false
theorem ZxG:ZcD=some true:=by decide +kernel
def ZsX(l:List Zac)(b:Zac):Prop:=∃d∈l,d.fNet=b.fNet/\b.fUntil<=d.fUntil
theorem ZFM{l:List Zac}{b:Zac}(h:ZsX l b){a:Zaf}{af:Int}(hl:l.length<=maxLen)(aL:∀b∈l,b.ok)(f:a.ok)(h0:0<=af)(i:af<b.fUntil)(g:hasS b.fNet a=true):Zkw l a af>0:=by
 obtain⟨r,u1,u2⟩:=ZsY l a af hl aL f;have e:Zkw l a af=r:=by unfold Zkw;rw[u1];rfl
 obtain⟨d,d1,d2,d3⟩:=h;have hd:Zmn l a af d:=⟨d1,by omega,by rw[d2];exact g⟩;rw[e];rcases u2 with⟨_,q⟩|⟨z,z1,z2,z3⟩
 .exact absurd hd (q d)
 .have:=z3 d hd;omega
theorem ZNu{l:List Zac}{n:Zac}{bi:Int}(h:(addB l n bi).2=0):ZsX (addB l n bi).1 n:=by
 unfold addB at h ⊢;split at h
 .rename_i e;rw[if_pos e];split at h
  .rename_i b;rw[if_pos b];obtain⟨f,g⟩:=Zpi l n.fNet b;refine⟨Zvp (l.getD (Zhy l n.fNet).toNat Zac.d) n,List.mem_set f _,g,?_⟩;unfold Zvp;simp only;split<;>omega
  .rename_i b;rw[if_neg b];split at h
   .cases h
   .rename_i i;rw[if_neg i];refine⟨n,?_,rfl,Int.le_refl _⟩;unfold putB;simp
 .cases h
theorem ZLs{l:List Zac}{n b:Zac}{bi:Int}(h:(addB l n bi).2=0)(hb:ZsX l b):ZsX (addB l n bi).1 b:=by
 obtain⟨d,d1,d2,d3⟩:=hb;unfold addB at h ⊢;split at h
 .rename_i i;rw[if_pos i];split at h
  .rename_i f;rw[if_pos f];obtain⟨o,t⟩:=Zpi l n.fNet f;obtain⟨j,g,rfl⟩:=List.getElem_of_mem d1;by_cases e:(Zhy l n.fNet).toNat=j
   .refine⟨Zvp (l.getD (Zhy l n.fNet).toNat Zac.d) n,List.mem_set o _,?_,?_⟩
    .show (l.getD (Zhy l n.fNet).toNat Zac.d).fNet=b.fNet;rw[e,ZbL l _ j g];exact d2
    .unfold Zvp;simp only;rw[e,ZbL l _ j g];split<;>omega
   .refine⟨l[j],?_,d2,d3⟩;have:(l.set (Zhy l n.fNet).toNat (Zvp (l.getD (Zhy l n.fNet).toNat Zac.d) n))[j]?=some l[j]:=by
     rw[List.getElem?_set_ne e,List.getElem?_eq_getElem g]
    exact List.mem_of_getElem? this
  .rename_i f;rw[if_neg f];split at h
   .cases h
   .rename_i r;rw[if_neg r];refine⟨d,?_,d2,d3⟩;have bI:=List.takeWhile_append_dropWhile (p:=fun x:Zac=>!decide (0<cmpN x.fNet n.fNet)) (l:=l);rw[<-bI]at d1;unfold putB;rcases List.mem_append.1 d1 with q|q
    .exact List.mem_append.2 (.inl (List.mem_append.2 (.inl q)))
    .exact List.mem_append.2 (.inr q)
 .cases h
theorem ZLt{l:List Zac}{cF:Zae}{b:Zac}(g:cF≠b.fNet)(h:(ZrO l cF).2=0)(hb:ZsX l b):ZsX (ZrO l cF).1 b:=by
 obtain⟨d,d1,d2,d3⟩:=hb;unfold ZrO at h ⊢;split at h
 .cases h
 .rename_i i;rw[if_neg i];obtain⟨n,f⟩:=Zpi l cF (by omega);obtain⟨j,e,rfl⟩:=List.getElem_of_mem d1;refine⟨l[j],?_,d2,d3⟩;have hne:j≠(Zhy l cF).toNat:=by
   rintro rfl;rw[ZbL l _ _ e]at f;exact g (f.symm.trans d2)
  by_cases hlt:j<(Zhy l cF).toNat
  .refine List.mem_append.2 (.inl ?_);have:(l.take (Zhy l cF).toNat)[j]?=some l[j]:=by rw[List.getElem?_take_of_lt hlt,List.getElem?_eq_getElem e]
   exact List.mem_of_getElem? this
  .refine List.mem_append.2 (.inr ?_);have:(l.drop ((Zhy l cF).toNat+1))[j-((Zhy l cF).toNat+1)]?=some l[j]:=by
    rw[List.getElem?_drop,show (Zhy l cF).toNat+1+(j-((Zhy l cF).toNat+1))=j by omega,List.getElem?_eq_getElem e]
   exact List.mem_of_getElem? this
theorem ZLq{c:Zar}{x:Zam}{b:Zac}{l m:List Zac}(h:ZOj c x l m)(g:x.fKind=7->x.fNet≠b.fNet)(i:x.fKind=9->x.fNow<b.fUntil)(hb:ZsX l b):ZsX m b:=by
 rcases h with h|⟨n,_,f,e⟩|⟨k,f,e⟩|⟨k,e⟩
 .rw[h];exact hb
 .rw[e];exact ZLs f hb
 .rw[e];exact ZLt (g k) f hb
 .rw[e];obtain⟨d,d1,d2,d3⟩:=hb;have:=i k;exact⟨d,List.mem_filter.2 ⟨d1,decide_eq_true (by omega)⟩,d2,d3⟩
section
variable {c:Zar} {s:Zak} {x:Zam} {N:Nat} (hx:x.ok) (hI:cA N s) (hN:N<=100)
include hx hI hN
theorem ZNN(b:Zjs x=true)(d:x.fKind=1\/x.fKind=3\/x.fKind=4):0<=x.fNow:=by
 unfold Zjs nowB inI at b;rcases d with h|h|h
 .rw[if_pos (.inl h)]at b;simp only[Bool.and_eq_true,decide_eq_true_eq]at b;exact b.2.1
 .rw[if_neg (by omega),if_neg (by omega),if_pos (.inl h)]at b;simp only[Bool.and_eq_true,decide_eq_true_eq]at b;exact b.1
 .rw[if_neg (by omega),if_neg (by omega),if_neg (by omega),if_pos h]at b;simp only[Bool.and_eq_true,decide_eq_true_eq]at b;exact b.2.1.1
theorem ZGS{y:Zak×Zal}(b:Zcp c s x=some y)(h0:y.2.fCode=0)(t:x.fKind=1\/x.fKind=3\/(x.fKind=4/\x.fGood=true)) :
  0<=x.fNow/\∃a:Zaf,a=(if x.fKind=3 then y.2.fEnd.fAddr else x.fEnd.fAddr)/\a.ok/\¬Zkw s.fBans a x.fNow>0:=by
 have n1:=hI.n1;have n2:=hI.n2;have n3:=hI.n3;cases g:Zjs x with
 |false=>
  exfalso;unfold Zcp at b;rw[Zlg x hx,Zao,g,Bool.not_false,cond_true,no35,Zao]at b;rw[<-Option.some.inj b]at h0;cases h0
 |true=>
  refine⟨ZNN hx hI hN g (by omega),_,rfl,?_⟩;unfold Zcp at b;rw[Zlg x hx,Zao,g,Bool.not_true,cond_false]at b;rcases t with h|h|⟨h,u⟩
  .have e:(x.fKind==1)=true:=beq_iff_eq.2 h;rw[e,cond_true,ZsF hx hI hN,Zao]at b;rw[if_neg (by omega)];refine⟨hx.2.1.1,fun f=>?_⟩;rw[<-Option.some.inj b]at h0;unfold ZmT at h0;rw[if_pos f]at h0;cases h0
  .have e:(x.fKind==1)=false:=beq_false_of_ne (by omega);have i:(x.fKind==3)=true:=beq_iff_eq.2 h;obtain⟨z,z1,z2⟩:=ZzF hx hI hN (c:=c);have z3:z=ZBX c s x.fNow:=by
    rw[ZzG hx hI hN]at z2;unfold dk at z2;have:=Option.some.inj z2;simp only[Prod.mk.injEq,Zap.mk.injEq]at this;exact(Prod.ext this.2.2.1 this.1).symm
   rw[e,cond_false,i,cond_true,z1,z3,Zao]at b;have o:ZmU (vwO s):=ZwZ hx hI hN;rw[<-Option.some.inj b]at h0 ⊢;rw[if_pos h];unfold ZBX at h0 ⊢;by_cases ho:cntP s.fPeers false+ZlW s.fBook 2>=c.fMaxOut
   .rw[if_pos ho]at h0;cases h0
   rw[if_neg ho]at h0 ⊢;rcases ZMD o hI.srt x.fNow with⟨j,C,v,A,n,_⟩|⟨j,_⟩
   .rw[if_pos j];have aL:=hI.book _ A;have dH:Zqk (vwO s) (entA s.fBook (Zhu (vwO s) x.fNow).1).fEnd x.fNow=true:=by
     unfold mayS at n;rw[Bool.and_eq_true]at n;exact n.2
    have f:=ZEh o _ aL.1 x.fNow dH;have q3':(entA s.fBook (Zhu (vwO s) x.fNow).1).fEnd=(Zhu (vwO s) x.fNow).1:=v;show (Zhu (vwO s) x.fNow).1.fAddr.ok/\¬Zkw s.fBans (Zhu (vwO s) x.fNow).1.fAddr x.fNow>0;rw[<-q3'];refine⟨aL.1.1,fun D=>?_⟩;have hu':Zkw s.fBans (entA s.fBook (Zhu (vwO s) x.fNow).1).fEnd.fAddr x.fNow=0:=f;omega
   .rw[if_neg (by rw[j];decide)]at h0;cases h0
  .have e:(x.fKind==1)=false:=beq_false_of_ne (by omega);have i:(x.fKind==3)=false:=beq_false_of_ne (by omega);have B:(x.fKind==4)=true:=beq_iff_eq.2 h;rw[e,cond_false,i,cond_false,B,cond_true]at b;rw[if_neg (by omega)];refine⟨hx.2.1.1,fun f=>?_⟩;have hlt:=Zph s.fBook x.fEnd;unfold ZdW at b;rw[Zoa _ _ (by unfold maxLen;omega),Zao,Zad]at b;by_cases p:ZfD s.fBook x.fEnd<0
   .rw[if_pos p,no35,Zao,Zao]at b;rw[<-Option.some.inj b]at h0;cases h0
   rw[if_neg p,Zai ⟨by omega,hlt⟩]at b;cases r:((s.fBook.getD (ZfD s.fBook x.fEnd).toNat Zab.d).fState != 2)with
   |true=>
    rw[r,cond_true,no35,Zao,Zao]at b;rw[<-Option.some.inj b]at h0;cases h0
   |false=>
    rw[r,cond_false,(ZjG s.fBans x.fEnd.fAddr x.fNow (by unfold maxLen;omega) hI.bans hx.2.1.1).2,Zao,u,Bool.not_true,cond_false,Zad,if_pos f,(ZuA c _ x.fNow x.fNum).2,Zao,Zmv _ _ (by omega),Zao,cond_true,Zao]at b;rw[<-Option.some.inj b]at h0;cases h0
end
theorem ZGb(c:Zar)(l:List Zam)(hl:l.length<=60)(ho:∀x∈l,x.ok):∃y:Zak×List Zal,ZmD c ⟨[],[],[]⟩ l=some y/\cA l.length y.1/\y.2.length=l.length:=by
 have aM:∀(k i fu:Nat)(s s0:Zak)(w:List Zal),l.length-i=k->i<=l.length->k+1<=fu->cA i s->w.length=i->∃y:Zak×List Zal,Zil fu l (l.length:Int) (i:Int) w c s s0=some y/\cA l.length y.1/\y.2.length=l.length:=by
  intro k;induction k with
  |zero=>
   intro i fu s s0 w e f g hI b;obtain⟨fu,rfl⟩ : ∃x,fu=x+1:=⟨fu-1,by omega⟩;obtain rfl:i=l.length:=by omega
   unfold Zil;exact⟨(s,w),by rw[Zad,if_neg (by omega)],hI,b⟩
  |succ k ih=>
   intro i fu s s0 w e f g hI b;obtain⟨fu,rfl⟩ : ∃x,fu=x+1:=⟨fu-1,by omega⟩;have h:Zan (i:Int) 1=((i+1:Nat):Int):=add1 (n:=i+1) (by omega) (by simp only[maxLen];omega);have bC:i<l.length:=by omega
   have hx:=ho _ (ZdM l Zam.d i bC);obtain⟨y,j,iy,_⟩:=Zxy (c:=c) hx hI (by omega);have hlen:(w++[y.2]).length=i+1:=by simp;omega
   unfold Zil;rw[Zad,if_pos (by omega),Zai (by omega),Int.toNat_natCast,ZBU hx hI (by omega),j,Zao,Zai ⟨by rw[hlen];omega,by rw[hlen];unfold maxLen;omega⟩,h];exact ih (i+1) fu y.1 s0 (w++[y.2]) (by omega) (by omega) (by omega) iy hlen
 unfold ZmD;exact aM l.length 0 _ _ _ [] (by omega) (by omega) (by omega) ZKu rfl
theorem ZMY(b:Zac)(hb:b.ok)(a:Zaf)(d:a.ok)(af:Int):Zcl b a af=some (decide (b.fUntil>af)&&hasS b.fNet a):=by
 unfold Zcl;rw[Zad,Zte _ _ hb.1.1 d,Zao];by_cases h:b.fUntil>af
 .rw[if_pos h,decide_eq_true h,Bool.true_and]
 .rw[if_neg h,decide_eq_false h,Bool.false_and]
def ZKj(x:Zam)(b:Zac):Bool:=(decide (x.fKind=7)&&decide (x.fNet=b.fNet))||(decide (x.fKind=9)&&decide (x.fNow>=b.fUntil))
theorem ZME(x:Zam)(b:Zac):Zic x b=some (ZKj x b):=by
 unfold Zic ZKj;rw[ZcR,ZcR];by_cases e:x.fKind=7
 .have d:¬x.fKind=9:=by omega
  rw[if_pos e,if_neg d,decide_eq_true e,decide_eq_false d,Bool.true_and,Bool.false_and,Bool.or_false];cases decide (x.fNet=b.fNet)<;>rfl
 .rw[if_neg e,decide_eq_false e,Bool.false_and,Bool.false_or];by_cases d:x.fKind=9
  .rw[if_pos d,decide_eq_true d,Bool.true_and]
  .rw[if_neg d,decide_eq_false d,Bool.false_and]
section
variable {c:Zar} {st:Zaw} (bL:st.ok) (hA:st.fAfter.length<=40)
include bL hA
theorem ZFn(v8:Int)(kg:Int->Zar->Zaw->Zak->Option Bool):∀(k i fu:Nat)(s:Zak),st.fAfter.length-i=k->i<=st.fAfter.length->k+1<=fu->cA (50+i) s->ZsX s.fBans st.fBan ->
  ZbY v8 c st kg fu (i:Int) s=some true:=by
 have fR:st.fBan.ok:=bL.2.1;intro k;induction k with
 |zero=>
  intro i fu s e o p hI hb;obtain⟨fu,rfl⟩ : ∃x,fu=x+1:=⟨fu-1,by omega⟩;unfold ZbY;rw[Zad,if_neg (by omega),ZxG];rfl
 |succ k ih=>
  intro i fu s e o p hI hb;obtain⟨fu,rfl⟩ : ∃x,fu=x+1:=⟨fu-1,by omega⟩;have r:Zan (i:Int) 1=((i+1:Nat):Int):=add1 (n:=i+1) (by omega) (by simp only[maxLen];omega);have bC:i<st.fAfter.length:=by omega
  have hx:=bL.2.2.1.2 _ (ZdM st.fAfter Zam.d i bC);unfold ZbY;rw[Zad,if_pos (by omega),Zai (by omega),Int.toNat_natCast,ZME,Zao,ZxG];obtain⟨x,hxd⟩ : ∃x,x=st.fAfter.getD i Zam.d:=⟨_,rfl⟩;rw[<-hxd]at hx ⊢;cases hov:ZKj x st.fBan with
  |true=>rw[cond_true];rfl
  |false=>
   obtain⟨y,f,iy,sy⟩:=Zxy (c:=c) hx hI (by omega);have n1:=hI.n1;unfold ZKj at hov;simp only[Bool.or_eq_false_iff,Bool.and_eq_false_iff,decide_eq_false_iff_not]at hov;have bK:ZsX y.1.fBans st.fBan:=ZLq sy (fun t=>hov.1.resolve_left fun q=>q t) (fun u=>by have:=hov.2.resolve_left fun q=>q u;omega) hb;have go:ZbY v8 c st kg fu ((i+1:Nat):Int) y.1=some true:=ih (i+1) fu y.1 (by omega) (by omega) (by omega) iy bK;have mz:y.2.fCode=0->x.fKind=1\/x.fKind=3\/(x.fKind=4/\x.fGood=true)->Zcl st.fBan (if x.fKind=3 then y.2.fEnd.fAddr else x.fEnd.fAddr) x.fNow=some false:=fun h0 e=>by
    obtain⟨v,a,A,g,B⟩:=ZGS hx hI (by omega) f h0 e;rw[<-A,ZMY _ fR a g];congr 1;rw[Bool.and_eq_false_iff,decide_eq_false_iff_not];by_cases h:st.fBan.fUntil>x.fNow
    .right;cases C:hasS st.fBan.fNet a with
     |false=>rfl
     |true=>exact absurd (ZFM hb (by unfold maxLen;omega) hI.bans g v h C) B
    .exact .inl h
   have j:∀(v9:Int)(kf:Int->Zak->Option Bool)(a:Zaf),v9=(i:Int)->kf ((i+1:Nat):Int) y.1=some true->a=(if x.fKind=3 then y.2.fEnd.fAddr else x.fEnd.fAddr)->Zdk v8 c st v9 kg kf y.1 x y.2 a=some true:=fun v9 kf a D iE E=>by
    subst D;have fr:y.2.fCode=0->x.fKind=1\/x.fKind=3\/(x.fKind=4/\x.fGood=true)->Zcl st.fBan a x.fNow=some false:=fun h0 e=>by rw[E];exact mz h0 e
    unfold Zdk;rw[r];simp only[ZcR];split
    .rename_i F;split
     .rename_i h0;rw[fr h0 (.inl F),Zao,cond_false];exact iE
     .exact iE
    split
    .rename_i b;split
     .rename_i h0;rw[fr h0 (.inr (.inl b)),Zao,cond_false];exact iE
     .exact iE
    split
    .rename_i G;cases H:x.fGood with
     |false=>rw[cond_false];exact iE
     |true=>
      rw[cond_true];split
      .rename_i h0;rw[fr h0 (.inr (.inr ⟨G,H⟩)),Zao,cond_false];exact iE
      .exact iE
    .exact iE
   rw[cond_false,ZBU hx hI (by omega),f,Zao,ZcR];by_cases b:x.fKind=3
   .rw[if_pos b];exact j _ _ _ rfl go (by rw[if_pos b])
   .rw[if_neg b];exact j _ _ _ rfl go (by rw[if_neg b])
theorem ZFk{s:Zak}(hI:cA 50 s)(hb:ZsX s.fBans st.fBan)(e:∀p∈s.fPeers,hasS st.fBan.fNet p.fEnd.fAddr=false):∀(k i fu:Nat),s.fPeers.length-i=k->i<=s.fPeers.length->k+1<=fu->Zcm fu (i:Int) c st s=some true:=by
 have n3:=hI.n3;intro k;induction k with
 |zero=>
  intro i fu f g h;obtain⟨fu,rfl⟩ : ∃x,fu=x+1:=⟨fu-1,by omega⟩;unfold Zcm;rw[Zad,if_neg (by omega)];exact ZFn bL hA _ _ st.fAfter.length 0 1000000 s (by omega) (by omega) (by omega) hI hb
 |succ k ih=>
  intro i fu f g h;obtain⟨fu,rfl⟩ : ∃x,fu=x+1:=⟨fu-1,by omega⟩;have j:Zan (i:Int) 1=((i+1:Nat):Int):=add1 (n:=i+1) (by omega) (by simp only[maxLen];omega);have bC:i<s.fPeers.length:=by omega
  have b:=ZdM s.fPeers Zaa.d i bC;unfold Zcm;rw[Zad,if_pos (by omega),Zai (by omega),Int.toNat_natCast,Zte _ _ bL.2.1.1.1 (hI.peers _ b).1.1,Zao,e _ b,cond_false,j];exact ih (i+1) fu (by omega) (by omega) (by omega)
end
theorem cA.le{N M:Nat}{s:Zak}(h:cA N s)(hle:N<=M):cA M s:=⟨h.bans,h.book,h.peers,h.str,by have:=h.n1;omega,by have:=h.n2;omega,by have:=h.n3;omega,h.srt⟩
theorem Zvg(c:Zar)(st:Zaw)(v:c.ok)(bL:st.ok):Zhs c st=some true:=by
 unfold Zhs;rw[Zad,Zad,ZxG,Zao];split
 .rfl
 rename_i h40;split
 .rfl
 rename_i h41;obtain⟨b,hb⟩:=ZMx c;rw[hb,Zao];cases b with
 |false=>rfl
 |true=>
  have fR:st.fBan.ok:=bL.2.1;rw[Bool.not_true,cond_false,ZtQ _ fR,Zao];cases f:ZlX st.fBan with
  |false=>rfl
  |true=>
   obtain⟨y,g,hI,_⟩:=ZGb c st.fBefore (by omega) bL.1.2;have jB:cA 49 y.1:=hI.le (by omega);have n1:=jB.n1;have n2:=jB.n2;have n3:=jB.n3;have eE:=f;unfold ZlX at eE;simp only[Bool.and_eq_true,decide_eq_true_eq]at eE;obtain⟨⟨h,i⟩,j⟩:=eE;have hx:(Zam.mk 6 (Zah.mk (Zaf.mk false 0 0) 0) st.fBan.fNet 0 st.fBan.fUntil false).ok:=⟨rfl,⟨⟨trivial,rfl,rfl,trivial⟩,rfl,trivial⟩,fR.1,rfl,fR.2.1,trivial,trivial⟩;have n:Zjs (Zam.mk 6 (Zah.mk (Zaf.mk false 0 0) 0) st.fBan.fNet 0 st.fBan.fUntil false)=true:=by
    unfold Zjs nowB inI;simp[h,i,j]
   have aL:∀p∈y.1.fPeers,p.fEnd.fAddr.ok:=fun p d=>(jB.peers p d).1.1;have A:=Zua y.1.fPeers st.fBan.fNet true;obtain⟨z,o,iz,sz⟩:=Zxy (c:=c) hx jB (by omega);rw[Bool.not_true,cond_false,g,Zao,ZBU hx jB (by omega)];have hdo:Zcp c y.1 (Zam.mk 6 (Zah.mk (Zaf.mk false 0 0) 0) st.fBan.fNet 0 st.fBan.fUntil false)=some (if(addB y.1.fBans ⟨st.fBan.fNet,st.fBan.fUntil⟩ c.fMaxBans).2=0 then(⟨(addB y.1.fBans ⟨st.fBan.fNet,st.fBan.fUntil⟩ c.fMaxBans).1,y.1.fBook.map (ZpW (ZoI (ofP y.1.fPeers st.fBan.fNet true))),ofP y.1.fPeers st.fBan.fNet false⟩,⟨0,endZ,((ofP y.1.fPeers st.fBan.fNet true).length:Int),0,[]⟩)else(y.1,ZqZ (addB y.1.fBans ⟨st.fBan.fNet,st.fBan.fUntil⟩ c.fMaxBans).2)):=by
    unfold Zcp;rw[Zlg _ hx,Zao,n,Bool.not_true,cond_false];show (Zbv 6 true c y.1 (Zam.mk 6 (Zah.mk (Zaf.mk false 0 0) 0) st.fBan.fNet 0 st.fBan.fUntil false) ⟨[],[],[]⟩ repZ)=_;unfold Zbv Zcw;rw[cond_true];show ((bif decide (st.fBan.fUntil<=0)then _ else _:Option (Zak×Zal)).bind fun x7=>some (x7.1,x7.2))=_;rw[decide_eq_false (by omega),cond_false,Zrc _ _ _ (by omega) ⟨fR.1,fR.2.1,trivial⟩,Zao];by_cases h0:(addB y.1.fBans ⟨st.fBan.fNet,st.fBan.fUntil⟩ c.fMaxBans).2=0
    .have e:((addB y.1.fBans ⟨st.fBan.fNet,st.fBan.fUntil⟩ c.fMaxBans).2 != 0)=false:=by rw[h0];rfl
     rw[e,cond_false,if_pos h0];unfold Zcx;dsimp only;rw[Zpw _ _ _ fR.1.1 (by omega) aL,Zao,Zpw _ _ _ fR.1.1 (by omega) aL,Zao,ZIk _ (by omega),Zao,Zra _ _ (by omega) (by simp[ZoI,maxLen];omega),Zao];rfl
    .have e:((addB y.1.fBans ⟨st.fBan.fNet,st.fBan.fUntil⟩ c.fMaxBans).2 != 0)=true:=by rw[bne_iff_ne];exact h0
     rw[e,cond_true,if_neg h0];rfl
   have cg:=Option.some.inj (o.symm.trans hdo);rw[hdo,Zao];have ebn:(⟨st.fBan.fNet,st.fBan.fUntil⟩ : Zac)=st.fBan:=rfl;by_cases h0:(addB y.1.fBans ⟨st.fBan.fNet,st.fBan.fUntil⟩ c.fMaxBans).2=0
   .rw[if_pos h0]at cg ⊢;show (bif((0:Int) != 0)then _ else _)=_;rw[show ((0:Int) != 0)=false from rfl,cond_false];rw[cg]at iz;have g5:ZsX (addB y.1.fBans ⟨st.fBan.fNet,st.fBan.fUntil⟩ c.fMaxBans).1 st.fBan:=ZNu h0;exact ZFk bL (by omega) (iz.le (by omega)) g5 (fun p d=>by
     have:=(List.mem_filter.1 d).2;simpa using this) _ 0 1000000 rfl (by omega) (by show (ofP y.1.fPeers st.fBan.fNet false).length-0+1<=1000000;have:=Zua y.1.fPeers st.fBan.fNet false;omega)
   .have r:(addB y.1.fBans ⟨st.fBan.fNet,st.fBan.fUntil⟩ c.fMaxBans).2=5:=by
     unfold addB at h0 ⊢;rw[ebn,f,if_pos rfl]at h0 ⊢;split at h0
     .exact absurd rfl h0
     .rename_i t;rw[if_neg t];split at h0
      .rename_i u;rw[if_pos u]
      .exact absurd rfl h0
    rw[if_neg h0,r];rfl
end Go.Proofs.YtlpdogaifdeomaaGreat
