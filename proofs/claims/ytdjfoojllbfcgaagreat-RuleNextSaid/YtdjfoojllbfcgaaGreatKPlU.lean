import Derived.Test.YtdjfoojllbfcgaaGreatKRulA3
import Derived.Test.YtdjfoojllbfcgaaGreatKPlA
namespace Go.Proofs.YtdjfoojllbfcgaaGreat
set_option linter.unusedVariables false
set_option linter.unusedSimpArgs false
def ZlW:Zaa:=⟨⟨⟨false,0,0⟩,0⟩,false,0,⟨0,0⟩,0,0⟩
def valZ:Zae:=⟨0,ZlW,[],[]⟩
def locZ:Zap:=⟨0,0,0⟩
def opZ:Zas:=⟨0,0,locZ,0,0,valZ,false⟩
def endZ:Zah:=⟨⟨false,0,0⟩,0⟩
def repZ:Zao:=⟨0,endZ,0,0,[]⟩
def locN(l:Zap):Zap:=if l.fKind=1∨l.fKind=2∨l.fKind=3∨l.fKind=4 then⟨l.fKind,0,0⟩else if l.fKind=5 then⟨l.fKind,l.fShard,0⟩else if l.fKind=6 then l else locZ
def valN(k:Int)(v:Zae):Zae:=if k=1∨k=2∨k=5 then⟨v.fN,ZlW,[],[]⟩else if k=3 then⟨0,ZlW,v.fBans,[]⟩else if k=4 then⟨0,ZlW,[],v.fBook⟩else if k=6 then⟨0,v.fPeer,[],[]⟩else valZ
def opN(o:Zas):Zas:=if o.fKind=1∨o.fKind=2∨o.fKind=3∨o.fKind=4 then⟨o.fKind,o.fLock,locZ,0,0,valZ,o.fMark⟩else if o.fKind=5 then⟨o.fKind,0,locN o.fLoc,0,0,valZ,o.fMark⟩else if o.fKind=6 then⟨o.fKind,0,locN o.fLoc,0,0,valN o.fLoc.fKind o.fVal,o.fMark⟩else if o.fKind=7 then⟨o.fKind,0,locN o.fLoc,o.fOld,o.fNew,valZ,o.fMark⟩else if o.fKind=8 then⟨o.fKind,0,locZ,0,0,valZ,o.fMark⟩else opZ
theorem Zhh(a b:Int){α:Type}(x y:α):(bif a==b then x else y)=if a=b then x else y:=by
 by_cases h:a=b
 ·subst h;simp
 ·rw[if_neg h,beq_false_of_ne h];rfl
theorem ZzA(l:Zap):ZjM l=some (locN l):=by
 obtain⟨k,s,t⟩:=l;unfold ZjM Zhc locN;simp only[Zhh]
 repeat' split
 all_goals first|rfl | (simp_all [locZ];done) | (exfalso;omega)
theorem Zzl(k:Int)(v:Zae):Zmx k v=some (valN k v):=by
 unfold Zmx Zig valN;simp only[Zhh]
 repeat' split
 all_goals first|rfl | (simp_all [valZ,ZlW];done) | (exfalso;omega)
theorem ZAc(o:Zas):Zmy o=some (opN o):=by
 unfold Zmy Zhd opN;simp only[Zhh,ZzA,Zzl,Option.bind_some]
 repeat' split
 all_goals first|rfl | (simp_all [opZ,locZ,valZ,ZlW];done) | (exfalso;omega)
theorem Zxj(l:Zap):Zgn l=some (locN l):=by
 obtain⟨k,s,t⟩:=l;unfold Zgn ZeV locN;simp only[Zal]
 repeat' split
 all_goals first|rfl | (simp_all [locZ];done) | (exfalso;omega) | (simp only[Option.some.injEq,Zap.mk.injEq,locZ];omega)
theorem Zuv(k:Int)(v:Zae):Zfm k v=some (valN k v):=by
 unfold Zfm ZcO Zed Zec valN;simp only[Zhh]
 repeat' split
 all_goals first|rfl | (simp_all [valZ,ZlW];done) | (exfalso;omega)
theorem Zux(o:Zas):Zfn o=some (opN o):=by
 unfold Zfn Zef Zdv Zee opN;simp only[Zal,Zhh,Zxj,Zuv,Option.bind_some]
 repeat' split
 all_goals first|rfl | (exfalso;omega)
def okV(v:Zae):Prop:=v.fBans.length≤1000000∧v.fBook.length≤1000000
theorem ZuF:okV valZ:=⟨by simp[valZ],by simp[valZ]⟩
theorem okV_N{k:Int}{v:Zae}(h:okV v):okV (valN k v):=by
 unfold valN
 repeat' split
 all_goals first|exact ZuF|exact⟨Nat.zero_le _,Nat.zero_le _⟩|exact⟨h.1,Nat.zero_le _⟩|exact⟨Nat.zero_le _,h.2⟩
theorem ZtP{o:Zas}(h:okV o.fVal):okV (opN o).fVal:=by
 unfold opN
 repeat' split
 all_goals first|exact ZuF|exact okV_N h
theorem ZaP{α β:Type}(x:α)(f:α→Option β):(some x).bind f=f x:=by simp
def wk(got:List Zae)(a:Nat):Zac:=⟨got,(a:Int),opZ,false⟩
def wt(got:List Zae)(o:Zas):Zac:=⟨got,(got.length:Int),o,true⟩
theorem ZCh(o:Zas):Zca ⟨[]⟩ o=some (.pan (opN o)):=by
 simp[Zca,ZAc]
theorem Zzd(v:Zae)(r:List Zae)(o:Zas):Zca ⟨v :: r⟩ o=some (.ret v ⟨r⟩):=by
 have h:(((v :: r).length:Nat):Int)≠0:=by simp only[List.length_cons];omega
 unfold Zca;simp only[Zhh,if_neg h];rw[Zax (by simp only[List.length_cons];omega),Zax (by simp only[List.length_cons];omega)];rfl
theorem ZwO(got:List Zae)(a:Nat)(o:Zas):Zca ⟨got.drop a⟩ o=some (if a<got.length then .ret (got.getD a Zae.d) ⟨got.drop (a+1)⟩else .pan (opN o)):=by
 split
 ·rename_i h;rw[ZeB got Zae.d a h,Zzd]
 ·rename_i h;rw[List.drop_eq_nil_of_le (by omega),ZCh]
theorem ZkV(got:List Zae)(a:Nat)(o:Zas)(hL:got.length≤1000000)(ha:a≤got.length):Zco (wk got a) o=some (if a<got.length then(wk got (a+1),got.getD a Zae.d)else(wt got (opN o),valZ)):=by
 unfold Zco wk;simp only[cond_false,Zal,Zux,Option.bind_some];by_cases h:a<got.length
 ·rw[if_pos (by omega),if_pos h];have e1:Zaw (a:Int) 1=((a+1:Nat):Int):=add1 (n:=got.length) h (by simp only[maxLen];omega);have e2:ZaR ((a+1:Nat):Int) 1=(a:Int):=by
   unfold ZaR;have:IntKind.i64.wrap (((a+1:Nat):Int)-1)=((a+1:Nat):Int)-1:=ZkJ (by omega) (by omega);exact this.trans (by omega)
  rw[e1,e2,Zax (by omega)];rfl
 ·rw[if_neg (by omega),if_neg h];have:a=got.length:=by omega
  subst this;rfl
theorem ZmV(got:List Zae)(q o:Zas):Zco (wt got q) o=some (wt got q,valZ):=by
 unfold Zco wt;simp only[cond_true];rfl
def Lka{α β:Type}(got:List Zae)(a0:Nat)(P:α→β→Prop)(W:β→Prop)(t:Option (Tout α))(r:Option (Zac×β)):Prop:=(∃v b a,t=some (.ret v ⟨got.drop a⟩)∧r=some (wk got a,b)∧a0≤a∧a≤got.length∧P v b)∨∃q b,t=some (.pan q)∧r=some (wt got q,b)∧okV q.fVal∧W b
def eqP{α:Type}:α→α→Prop:=fun x y=>x=y
def anyP{α β:Type}:α→β→Prop:=fun _ _=>True
def anyW{β:Type}:β→Prop:=fun _=>True
theorem Lka.weak{α β:Type}{got:List Zae}{a0 a1:Nat}{P:α→β→Prop}{W:β→Prop}{t:Option (Tout α)}{r:Option (Zac×β)}(h:Lka got a1 P W t r)(ha:a0≤a1):Lka got a0 P W t r:=by
 rcases h with⟨v,b,a,h1,h2,h3,h4,h5⟩|h
 ·exact .inl ⟨v,b,a,h1,h2,by omega,h4,h5⟩
 ·exact .inr h
section
variable {got:List Zae} (hL:got.length≤1000000) {a:Nat} (ha:a≤got.length)
include hL ha
theorem Zyh(l:Zap)(hl:True):Lka got (a+1) eqP anyW (ZcT ⟨got.drop a⟩ l false) (ZaY (wk got a) l):=by
 unfold ZcT ZaY;rw[ZwO,ZkV _ _ _ hL ha];by_cases h:a<got.length
 ·simp only[if_pos h,Option.bind_some];exact .inl ⟨_,_,a+1,rfl,rfl,Nat.le_refl _,h,rfl⟩
 ·simp only[if_neg h,Option.bind_some];exact .inr ⟨_,_,rfl,rfl,ZtP ZuF,trivial⟩
theorem ZEQ(k old now:Int)(mark:Bool):Lka got (a+1) eqP anyW (ZfV ⟨got.drop a⟩ ⟨k,0,0⟩ old now mark) (ZdU (wk got a) k old now mark):=by
 unfold ZfV ZdU;rw[ZwO,ZkV _ _ _ hL ha];by_cases h:a<got.length
 ·simp only[if_pos h,Option.bind_some];exact .inl ⟨_,_,a+1,rfl,rfl,Nat.le_refl _,h,rfl⟩
 ·simp only[if_neg h,Option.bind_some];exact .inr ⟨_,_,rfl,rfl,ZtP ZuF,trivial⟩
theorem Zzg(l:Zap)(v:Zae)(mark:Bool)(hv:okV v):Lka got (a+1) anyP anyW (Zcc ⟨got.drop a⟩ l v mark) ((Zbe (wk got a) l v mark).map fun w=>(w,())):=by
 unfold Zcc Zbe;rw[ZwO,ZkV _ _ _ hL ha];by_cases h:a<got.length
 ·simp only[if_pos h,Option.bind_some,Option.map_some];exact .inl ⟨_,_,a+1,rfl,rfl,Nat.le_refl _,h,trivial⟩
 ·simp only[if_neg h,Option.bind_some,Option.map_some];exact .inr ⟨_,_,rfl,rfl,ZtP hv,trivial⟩
theorem ZEU(k:Int)(mark:Bool):Lka got (a+1) anyP anyW (ZcS ⟨got.drop a⟩ k mark) ((Zaz (wk got a) 1 k mark).map fun w=>(w,())):=by
 unfold ZcS Zaz;rw[ZwO,ZkV _ _ _ hL ha];by_cases h:a<got.length
 ·simp only[if_pos h,Option.bind_some,Option.map_some];exact .inl ⟨_,_,a+1,rfl,rfl,Nat.le_refl _,h,trivial⟩
 ·simp only[if_neg h,Option.bind_some,Option.map_some];exact .inr ⟨_,_,rfl,rfl,ZtP ZuF,trivial⟩
theorem ZEV(k:Int)(mark:Bool):Lka got (a+1) anyP anyW (ZbP ⟨got.drop a⟩ k mark) ((Zaz (wk got a) 3 k mark).map fun w=>(w,())):=by
 unfold ZbP Zaz;rw[ZwO,ZkV _ _ _ hL ha];by_cases h:a<got.length
 ·simp only[if_pos h,Option.bind_some,Option.map_some];exact .inl ⟨_,_,a+1,rfl,rfl,Nat.le_refl _,h,trivial⟩
 ·simp only[if_neg h,Option.bind_some,Option.map_some];exact .inr ⟨_,_,rfl,rfl,ZtP ZuF,trivial⟩
end
theorem Zhw(got:List Zae)(q:Zas)(l:Zap):ZaY (wt got q) l=some (wt got q,valZ):=by
 unfold ZaY;rw[ZmV];rfl
theorem ZCp(got:List Zae)(q:Zas)(k old now:Int)(mark:Bool):ZdU (wt got q) k old now mark=some (wt got q,false):=by
 unfold ZdU;rw[ZmV];rfl
theorem ZiX(got:List Zae)(q:Zas)(l:Zap)(v:Zae)(mark:Bool):Zbe (wt got q) l v mark=some (wt got q):=by
 unfold Zbe;rw[ZmV];rfl
theorem Zhj(got:List Zae)(q:Zas)(k l:Int)(mark:Bool):Zaz (wt got q) k l mark=some (wt got q):=by
 unfold Zaz;rw[ZmV];rfl
theorem ZlK{r:Option Zac}{w:Zac}{b:Unit}(h:r.map (fun w=>(w,()))=some (w,b)):r=some w:=by
 cases r with
 |none=>cases h
 |some x=>simp at h;rw[h]
theorem ZmS(got:List Zae)(q:Zas):(wt got q).fWait=true:=rfl
theorem ZrL(got:List Zae)(a:Nat):(wk got a).fWait=false:=rfl
theorem ZCr{got:List Zae}(hL:got.length≤1000000)(part n:Int)(b4:Zac)(b7:Zae)(hn:∀i:Nat,(i:Int)<n↔(i:Int)<b7.fN):∀(k a i:Nat)(w:List Zaa)(fu F:Nat),got.length-a=k→a≤got.length→i≤a→w.length=i →
  (n-(i:Int)).toNat+1≤fu→k+3≤F→Lka got a (fun x y=>x=y∧x.length≤got.length) (fun b=>b.length≤got.length+1) (ZdV part fu n i w ⟨got.drop a⟩) (ZbW part F i w b4 (wk got a) b7):=by
 intro k;induction k using Nat.strongRecOn with
 |ind k ih=>
  intro a i w fu F hk ha hi hw hfu hF;obtain⟨fu,rfl⟩ : ∃x,fu=x+1:=⟨fu-1,by omega⟩;obtain⟨F,rfl⟩ : ∃x,F=x+1:=⟨F-1,by omega⟩;unfold ZdV ZbW;simp only[Zal,ZrL,Bool.not_false,cond_true];by_cases h:(i:Int)<n
  ·rw[if_pos h,if_pos ((hn i).1 h)];have e:ZhP part i=some ⟨6,part,i⟩:=rfl;simp only[e,Option.bind_some];have hlen:∀p:Zaa,(w++[p]).length * 80≤140737488355328∧(w++[p]).length≤maxLen:=fun p=>by simp only[List.length_append,List.length_singleton,maxLen];omega
   have e1:Zaw (i:Int) 1=((i+1:Nat):Int):=add1 (n:=i+1) (by omega) (by simp only[maxLen];omega);rcases Zyh hL ha ⟨6,part,i⟩ trivial with⟨v,b,a',h1,h2,h3,h4,rfl⟩|⟨q,b,h1,h2,hq,hW⟩
   ·simp only[h1,h2,Option.bind_some];rw[Zax (hlen _),Zax (hlen _),e1];rcases ih (got.length-a') (by omega) a' (i+1) (w++[v.fPeer]) fu F rfl h4 (by omega) (by simp[hw]) (by omega) (by omega)with⟨x,y,a2,q1,q2,q3,q4,q5⟩|hq
    ·exact .inl ⟨x,y,a2,q1,q2,by omega,q4,q5⟩
    ·exact .inr hq
   ·simp only[h1,h2,Option.bind_some];rw[Zax (hlen _),e1];obtain⟨F,rfl⟩ : ∃x,F=x+1:=⟨F-1,by omega⟩;unfold ZbW;simp only[Zal,ZmS,Bool.not_true,cond_false];refine .inr ⟨q,w++[b.fPeer],rfl,?_,hq,by simp only[List.length_append,List.length_singleton];omega⟩;split<;>rfl
  ·rw[if_neg h,if_neg (fun h'=>h ((hn i).2 h'))];exact .inl ⟨w,w,a,rfl,rfl,Nat.le_refl _,ha,rfl,by omega⟩
theorem Zra(got:List Zae)(q:Zas)(part i:Int)(w:List Zaa)(b4:Zac)(b7:Zae)(F:Nat)(hF:1≤F):ZbW part F i w b4 (wt got q) b7=some (wt got q,w):=by
 obtain⟨F,rfl⟩ : ∃x,F=x+1:=⟨F-1,by omega⟩;unfold ZbW;simp only[Zal,ZmS,Bool.not_true,cond_false];split<;>rfl
theorem ZER{got:List Zae}(hL:got.length≤900000){a:Nat}(ha:a≤got.length)(part:Int):Lka got a (fun x y=>x=y∧x.length≤got.length) (fun b=>b.length≤got.length+1) (ZiM ⟨got.drop a⟩ part) (Zdk (wk got a) part):=by
 unfold ZiM Zdk;have e:ZhQ part=some ⟨5,part,0⟩:=rfl;simp only[e,ZaP];rcases Zyh (by omega) ha ⟨5,part,0⟩ trivial with⟨v,b,a',h1,h2,h3,h4,rfl⟩|⟨q,b,h1,h2,hq,hW⟩
 ·simp only[h1,h2,ZaP];rcases ZCr (by omega) part (if(0:Int)>v.fN then 0 else v.fN) ⟨[],0,⟨0,0,⟨0,0,0⟩,0,0,⟨0,⟨⟨⟨false,0,0⟩,0⟩,false,0,⟨0,0⟩,0,0⟩,[],[]⟩,false⟩,false⟩ v (fun i=>by split<;>omega) (got.length-a') a' 0 [] _ 1000000 rfl h4 (by omega) rfl (Nat.le_succ _) (by omega)with⟨x,y,a2,q1,q2,q3,q4,q5⟩|hq
  ·exact .inl ⟨x,y,a2,q1,q2,by omega,q4,q5⟩
  ·exact .inr hq
 ·simp only[h1,h2,ZaP];have hb:b=valZ:=by
   unfold ZaY at h2;rw[ZkV _ _ _ (by omega) ha]at h2;by_cases h:a<got.length
   ·simp only[if_pos h,ZaP,Option.some.injEq,Prod.mk.injEq]at h2;exact absurd h2.1 (by simp[wk,wt])
   ·simp only[if_neg h,ZaP,Option.some.injEq,Prod.mk.injEq]at h2;exact h2.2.symm
  subst hb;exact .inr ⟨q,[],rfl,Zra got q part 0 [] _ valZ 1000000 (by omega),hq,Nat.zero_le _⟩
theorem ZCq(got:List Zae)(q:Zas)(part:Int):Zdk (wt got q) part=some (wt got q,[]):=by
 unfold Zdk;simp only[Zhw,ZaP];exact Zra got q part 0 [] _ valZ 1000000 (by omega)
theorem Zyd(was now:List Zaa)(hn:now.length≤1000000):∀(k i:Nat)(w:List Int)(f g:Nat),now.length-i=k→i≤now.length→w.length≤i→(∀x∈w,0≤x∧x<(now.length:Int))→k+1≤f→k+1≤g →
  ∃l:List Int,Zce was f now (now.length:Int) i w=some l∧ZbJ was now g i w=some l∧l.length≤now.length∧∀x∈l,0≤x∧x<(now.length:Int):=by
 intro k;induction k with
 |zero=>
  intro i w f g hk hi hw hx hf hg;obtain⟨f,rfl⟩ : ∃x,f=x+1:=⟨f-1,by omega⟩;obtain⟨g,rfl⟩ : ∃x,g=x+1:=⟨g-1,by omega⟩;unfold Zce ZbJ;simp only[Zal];rw[if_neg (by omega),if_neg (by omega)];exact⟨w,rfl,rfl,by omega,hx⟩
 |succ k ih=>
  intro i w f g hk hi hw hx hf hg;obtain⟨f,rfl⟩ : ∃x,f=x+1:=⟨f-1,by omega⟩;obtain⟨g,rfl⟩ : ∃x,g=x+1:=⟨g-1,by omega⟩;unfold Zce ZbJ;simp only[Zal];have c1:(i:Int)<(now.length:Int):=by omega
  rw[if_pos c1,if_pos c1,Zax (by omega)];have e1:Zaw (i:Int) 1=((i+1:Nat):Int):=add1 (n:=i+1) (by omega) (by simp only[maxLen];omega);have hlen:(w++[(i:Int)]).length * 8≤140737488355328∧(w++[(i:Int)]).length≤maxLen:=by simp only[List.length_append,List.length_singleton,maxLen];omega
  have hx2:∀x∈w++[(i:Int)],0≤x∧x<(now.length:Int):=fun x hm=>by
   rcases List.mem_append.1 hm with hm|hm
   ·exact hx x hm
   ·simp only[List.mem_singleton]at hm;omega
  have hadd:=ih (i+1) (w++[(i:Int)]) f g (by omega) (by omega) (by simp only[List.length_append,List.length_singleton];omega) hx2 (by omega) (by omega);have hsame:=ih (i+1) w f g (by omega) (by omega) (by omega) hx (by omega) (by omega);by_cases h:(i:Int)≥(was.length:Int)
  ·rw[if_pos h,if_pos h,Zax hlen,e1,Zax hlen];exact hadd
  ·rw[if_neg h,if_neg h,Zax (show 0≤(i:Int)∧(i:Int)<(was.length:Int)by omega),Zax (show 0≤(i:Int)∧(i:Int)<(was.length:Int)by omega),Zax (show 0≤(i:Int)∧(i:Int)<(now.length:Int)by omega)];by_cases h2:was.getD ((i:Int)).toNat Zaa.d=now.getD ((i:Int)).toNat Zaa.d
   ·simp only[h2,decide_true,Bool.not_true,cond_false,e1];exact hsame
   ·simp only[h2,decide_false,Bool.not_false,cond_true];rw[Zax hlen,Zax hlen,e1];exact hadd
theorem ZwR(was now:List Zaa)(hn:now.length≤1000000):∃l:List Int,Zhy was now=some l∧ZeW was now=some l∧l.length≤now.length∧∀x∈l,0≤x∧x<(now.length:Int):=
 Zyd was now hn now.length 0 [] _ _ (by omega) (by omega) (by simp) (by simp) (by omega) (by omega)
theorem ZAi(got:List Zae)(q:Zas)(part:Int)(was now:List Zaa)(hn:now.length≤1000000):ZcX (wt got q) part was now=some (wt got q):=by
 obtain⟨l,-,h2,h3,h4⟩:=ZwR was now hn;unfold ZcX;rw[h2];simp only[Option.bind_some];generalize hb:(Zac.mk _ _ _ _)=b8;have main:∀(k i f:Nat),l.length-i=k→i≤l.length→k+1≤f→Zbk part was now f l i (wt got q) b8=some (wt got q):=by
  intro k;induction k with
  |zero=>
   intro i f hk hi hf;obtain⟨f,rfl⟩ : ∃x,f=x+1:=⟨f-1,by omega⟩;unfold Zbk;simp only[Zal,ZiX,Option.bind_some];rw[if_neg (by omega)];simp
  |succ k ih=>
   intro i f hk hi hf;obtain⟨f,rfl⟩ : ∃x,f=x+1:=⟨f-1,by omega⟩;unfold Zbk;simp only[Zal,ZiX,Option.bind_some];have e1:Zaw (i:Int) 1=((i+1:Nat):Int):=add1 (n:=i+1) (by omega) (by simp only[maxLen];omega);have hm:=h4 _ (ZiE l (0:Int) i (by omega));rw[if_pos (by omega),Zax (by omega),Zax (by simpa using hm),e1];exact ih (i+1) f (by omega) (by omega) (by omega)
 exact main l.length 0 _ (by omega) (by omega) (by omega)
theorem ZDz{got:List Zae}(hL:got.length≤1000000){a:Nat}(ha:a≤got.length)(part:Int)(was now:List Zaa)(hn:now.length≤1000000) :
  Lka got a anyP anyW (ZhS ⟨got.drop a⟩ part was now) ((ZcX (wk got a) part was now).map fun w=>(w,())):=by
 obtain⟨l,h1,h2,h3,h4⟩:=ZwR was now hn;unfold ZhS ZcX;rw[h1,h2];simp only[Option.bind_some];generalize hb:(Zac.mk _ _ _ _)=b8;have main:∀(k i f g a:Nat),a≤got.length→l.length-i=k→i≤l.length→k+1≤f→k+1≤g →
   Lka got a anyP anyW (Zdf part was now f l (l.length:Int) i ⟨got.drop a⟩) ((Zbk part was now g l i (wk got a) b8).map fun w=>(w,())):=by
  intro k;induction k with
  |zero=>
   intro i f g a ha hk hi hf hg;obtain⟨f,rfl⟩ : ∃x,f=x+1:=⟨f-1,by omega⟩;obtain⟨g,rfl⟩ : ∃x,g=x+1:=⟨g-1,by omega⟩;unfold Zdf Zbk;simp only[Zal];rw[if_neg (by omega),if_neg (by omega)];have e:ZhQ part=some ⟨5,part,0⟩:=rfl;simp only[e,Option.bind_some];cases hc:(((was.length:Nat):Int) != ((now.length:Nat):Int))with
   |false=>
    simp only[cond_false];exact .inl ⟨(),(),a,rfl,rfl,Nat.le_refl _,ha,trivial⟩
   |true=>
    simp only[cond_true];rcases Zzg hL ha ⟨5,part,0⟩ ⟨(now.length:Int),ZlW,[],[]⟩ false ⟨Nat.zero_le _,Nat.zero_le _⟩with⟨v,b,a',q1,q2,q3,q4,-⟩|⟨q,b,q1,q2,hq,hW⟩
    ·have q2:=ZlK q2;have q1':Zcc ⟨got.drop a⟩ ⟨5,part,0⟩ ⟨(now.length:Int),⟨⟨⟨false,0,0⟩,0⟩,false,0,⟨0,0⟩,0,0⟩,[],[]⟩ false=_:=q1;have q2':Zbe (wk got a) ⟨5,part,0⟩ ⟨(now.length:Int),⟨⟨⟨false,0,0⟩,0⟩,false,0,⟨0,0⟩,0,0⟩,[],[]⟩ false=_:=q2;simp only[q1',q2',Option.bind_some,Option.map_some];exact .inl ⟨(),(),a',rfl,rfl,by omega,q4,trivial⟩
    ·have q2:=ZlK q2;have q1':Zcc ⟨got.drop a⟩ ⟨5,part,0⟩ ⟨(now.length:Int),⟨⟨⟨false,0,0⟩,0⟩,false,0,⟨0,0⟩,0,0⟩,[],[]⟩ false=_:=q1;have q2':Zbe (wk got a) ⟨5,part,0⟩ ⟨(now.length:Int),⟨⟨⟨false,0,0⟩,0⟩,false,0,⟨0,0⟩,0,0⟩,[],[]⟩ false=_:=q2;simp only[q1',q2',Option.bind_some,Option.map_some];exact .inr ⟨q,(),rfl,rfl,hq,trivial⟩
  |succ k ih=>
   intro i f g a ha hk hi hf hg;obtain⟨f,rfl⟩ : ∃x,f=x+1:=⟨f-1,by omega⟩;obtain⟨g,rfl⟩ : ∃x,g=x+1:=⟨g-1,by omega⟩;unfold Zdf Zbk;simp only[Zal];have e1:Zaw (i:Int) 1=((i+1:Nat):Int):=add1 (n:=i+1) (by omega) (by simp only[maxLen];omega);have hm:=h4 _ (ZiE l (0:Int) i (by omega));have hm':0≤l.getD ((i:Int)).toNat (0:Int)∧l.getD ((i:Int)).toNat (0:Int)<(now.length:Int):=by simpa using hm
   have e:∀x,ZhP part x=some ⟨6,part,x⟩:=fun _=>rfl;rw[if_pos (by omega),if_pos (by omega),Zax (by omega),Zax (by omega)];simp only[e,Option.bind_some];rw[Zax hm',Zax hm'];rcases Zzg hL ha ⟨6,part,l.getD ((i:Int)).toNat (0:Int)⟩ ⟨0,now.getD (l.getD ((i:Int)).toNat (0:Int)).toNat Zaa.d,[],[]⟩ false ⟨Nat.zero_le _,Nat.zero_le _⟩with⟨v,b,a',q1,q2,q3,q4,-⟩|⟨q,b,q1,q2,hq,hW⟩
   ·have q2:=ZlK q2;simp only[q1,q2,Option.bind_some,e1];rcases ih (i+1) f g a' q4 (by omega) (by omega) (by omega) (by omega)with⟨x,y,a2,r1,r2,r3,r4,r5⟩|hq
    ·exact .inl ⟨x,y,a2,r1,r2,by omega,r4,r5⟩
    ·exact .inr hq
   ·have q2:=ZlK q2;simp only[q1,q2,Option.bind_some,e1];have hw:∀(k i f:Nat),l.length-i=k→i≤l.length→k+1≤f→Zbk part was now f l i (wt got q) b8=some (wt got q):=by
     intro k;induction k with
     |zero=>
      intro i f hk hi hf;obtain⟨f,rfl⟩ : ∃x,f=x+1:=⟨f-1,by omega⟩;unfold Zbk;simp only[Zal,ZiX,Option.bind_some];rw[if_neg (by omega)];simp
     |succ k ih=>
      intro i f hk hi hf;obtain⟨f,rfl⟩ : ∃x,f=x+1:=⟨f-1,by omega⟩;unfold Zbk;simp only[Zal,ZiX,Option.bind_some];have e1:Zaw (i:Int) 1=((i+1:Nat):Int):=add1 (n:=i+1) (by omega) (by simp only[maxLen];omega);have hm:=h4 _ (ZiE l (0:Int) i (by omega));rw[if_pos (by omega),Zax (by omega),Zax (by simpa using hm),e1];exact ih (i+1) f (by omega) (by omega) (by omega)
    rw[hw k (i+1) g (by omega) (by omega) (by omega)];exact .inr ⟨q,(),rfl,rfl,hq,trivial⟩
 exact main l.length 0 _ _ a ha (by omega) (by omega) (by omega) (by omega)
def Zda(p:Int):Nat:=if p<1 then 1 else if p>8 then 8 else p.toNat
theorem ZjX(p:Int):1≤Zda p∧Zda p≤8:=by unfold Zda;split<;>(try split)<;>omega
theorem ZkS(p:Int):ZhR p=some (Zda p:Int):=by
 unfold ZhR Zda;congr 1
 repeat' split
 all_goals omega
theorem ZkO(p:Int):Zek p=some (Zda p:Int):=by
 unfold Zek Zda;simp only[Zal]
 repeat' split
 all_goals first|rfl | (congr 1;omega)|omega
theorem Zrb{got:List Zae}(hL:got.length≤1000000)(p:Int)(b:Zac):∀(k i a f g:Nat),Zda p-i=k→i≤Zda p→a≤got.length→k+1≤f→k+1≤g →
  Lka got a anyP anyW (Zcy f (Zda p:Int) i ⟨got.drop a⟩) ((Zbx p g i (wk got a) b).map fun w=>(w,()))∧∀q,Zbx p g i (wt got q) b=some (wt got q):=by
 have h8:=(ZjX p).2;intro k;induction k with
 |zero=>
  intro i a f g hk hi ha hf hg;obtain⟨f,rfl⟩ : ∃x,f=x+1:=⟨f-1,by omega⟩;obtain⟨g,rfl⟩ : ∃x,g=x+1:=⟨g-1,by omega⟩;have hc:¬((i:Int)<(Zda p:Int)):=by omega
  refine⟨?_,fun q=>?_⟩
  ·unfold Zcy Zbx;simp only[Zal,ZkO,ZaP,if_neg hc];exact .inl ⟨(),(),a,rfl,rfl,Nat.le_refl _,ha,trivial⟩
  ·unfold Zbx;simp only[Zal,ZkO,ZaP,if_neg hc]
 |succ k ih=>
  intro i a f g hk hi ha hf hg;obtain⟨f,rfl⟩ : ∃x,f=x+1:=⟨f-1,by omega⟩;obtain⟨g,rfl⟩ : ∃x,g=x+1:=⟨g-1,by omega⟩;have hc:(i:Int)<(Zda p:Int):=by omega
  have e1:Zaw (i:Int) 1=((i+1:Nat):Int):=add1 (n:=i+1) (by omega) (by simp only[maxLen];omega);refine⟨?_,fun q=>?_⟩
  ·unfold Zcy Zbx;simp only[Zal,ZkO,ZaP,if_pos hc,e1];rcases ZEU hL ha (Zaw 2 (i:Int)) false with⟨v,b',a',q1,q2,q3,q4,-⟩|⟨q,b',q1,q2,hq,hW⟩
   ·have q2:=ZlK q2;simp only[q1,q2,ZaP];rcases(ih (i+1) a' f g (by omega) (by omega) q4 (by omega) (by omega)).1 with⟨x,y,a2,r1,r2,r3,r4,r5⟩|hq
    ·exact .inl ⟨x,y,a2,r1,r2,by omega,r4,r5⟩
    ·exact .inr hq
   ·have q2:=ZlK q2;simp only[q1,q2,ZaP];rw[(ih (i+1) a f g (by omega) (by omega) ha (by omega) (by omega)).2 q];exact .inr ⟨q,(),rfl,rfl,hq,trivial⟩
  ·unfold Zbx;simp only[Zal,ZkO,ZaP,if_pos hc,e1,Zhj];exact(ih (i+1) a f g (by omega) (by omega) ha (by omega) (by omega)).2 q
theorem ZAl{got:List Zae}(hL:got.length≤1000000){a:Nat}(ha:a≤got.length)(p:Int):Lka got a anyP anyW (Zfu ⟨got.drop a⟩ p) ((Zcj (wk got a) p).map fun w=>(w,())):=by
 have h8:=(ZjX p).2;unfold Zfu Zcj;rw[ZkS,ZaP];exact(Zrb hL p _ (Zda p) 0 a _ 1000000 (by omega) (by omega) ha (by omega) (by omega)).1
theorem ZlS(got:List Zae)(hL:got.length≤1000000)(q:Zas)(p:Int):Zcj (wt got q) p=some (wt got q):=by
 have h8:=(ZjX p).2;unfold Zcj;exact(Zrb hL p _ (Zda p) 0 0 (Zda p+1) 1000000 (by omega) (by omega) (by omega) (by omega) (by omega)).2 q
theorem Zov(got:List Zae)(q:Zas)(k by_:Int)(mark:Bool)(b8:Zac)(g:Nat)(hg:1≤g):Zci k by_ mark g (wt got q) b8=some (wt got q):=by
 obtain⟨g,rfl⟩ : ∃x,g=x+1:=⟨g-1,by omega⟩;unfold Zci;simp only[ZmS,Bool.not_true,cond_false]
theorem Ztc(got:List Zae)(q:Zas)(k by_:Int)(mark:Bool):ZcN (wt got q) k by_ mark=some (wt got q):=by
 unfold ZcN;exact Zov got q k by_ mark _ 1000000 (by omega)
theorem ZCt{got:List Zae}(hL:got.length≤900000)(kind by_:Int)(mark:Bool)(b8:Zac):∀(k a f g:Nat),got.length-a=k→a≤got.length→k+1≤f→k+2≤g →
  Lka got a anyP anyW (ZeN by_ mark f ⟨got.drop a⟩ ⟨kind,0,0⟩) ((Zci kind by_ mark g (wk got a) b8).map fun w=>(w,())):=by
 intro k;induction k using Nat.strongRecOn with
 |ind k ih=>
  intro a f g hk ha hf hg;obtain⟨f,rfl⟩ : ∃x,f=x+1:=⟨f-1,by omega⟩;obtain⟨g,rfl⟩ : ∃x,g=x+1:=⟨g-1,by omega⟩;unfold ZeN Zci;simp only[ZrL,Bool.not_false,cond_true];rcases Zyh (by omega) ha ⟨kind,0,0⟩ trivial with⟨v,b,a',h1,h2,h3,h4,rfl⟩|⟨q,b,h1,h2,hq,hW⟩
  ·simp only[h1,h2,ZaP];rcases ZEQ (by omega) h4 kind v.fN (Zaw v.fN by_) mark with⟨v2,b2,a2,r1,r2,r3,r4,rfl⟩|⟨q,b2,r1,r2,hq,hW⟩
   ·simp only[r1,r2,ZaP];cases v2 with
    |true=>exact .inl ⟨(),(),a2,rfl,rfl,by omega,r4,trivial⟩
    |false=>
     simp only[cond_false];rcases ih (got.length-a2) (by omega) a2 f g rfl r4 (by omega) (by omega)with⟨x,y,a3,s1,s2,s3,s4,s5⟩|hq
     ·exact .inl ⟨x,y,a3,s1,s2,by omega,s4,s5⟩
     ·exact .inr hq
   ·simp only[r1,r2,ZaP];cases b2 with
    |true=>exact .inr ⟨q,(),rfl,rfl,hq,trivial⟩
    |false=>
     simp only[cond_false];rw[Zov got q kind by_ mark b8 g (by omega)];exact .inr ⟨q,(),rfl,rfl,hq,trivial⟩
  ·simp only[h1,h2,ZaP,ZCp,cond_false];rw[Zov got q kind by_ mark b8 g (by omega)];exact .inr ⟨q,(),rfl,rfl,hq,trivial⟩
theorem ZES{got:List Zae}(hL:got.length≤900000){a:Nat}(ha:a≤got.length)(kind by_:Int)(mark:Bool):Lka got a anyP anyW (ZhT ⟨got.drop a⟩ kind by_ mark) ((ZcN (wk got a) kind by_ mark).map fun w=>(w,())):=by
 unfold ZhT ZcN;exact ZCt hL kind by_ mark _ _ a 1000000 1000000 rfl ha (by omega) (by omega)
theorem ZwZ{i:Nat}(h:i≤1000000):ZaR ((i+1:Nat):Int) 1=(i:Int):=by
 unfold ZaR;have:IntKind.i64.wrap (((i+1:Nat):Int)-1)=((i+1:Nat):Int)-1:=ZkJ (by omega) (by omega);exact this.trans (by omega)
theorem sub0:ZaR 0 1 = -1:=by decide
theorem Zrd {got : List Zae} (hL : got.length ≤ 1000000) (p : Int) (mark : Bool) (b6 : Zac) : ∀ (n a f g : Nat) (m : Bool), n ≤ Zda p → a ≤ got.length → n + 1 ≤ f → n + 1 ≤ g → (0 < n → m = (mark && decide (n = Zda p))) →
    Lka got a anyP anyW (ZbU p mark f ((n:Int) - 1) ⟨got.drop a⟩) ((Zbo g m ((n:Int) - 1) (wk got a) b6).map fun w =>(w,()))∧∀ q m,Zbo g m ((n:Int) - 1) (wt got q) b6 = some (wt got q):=by
  have h8:=ZjX p
  intro n
  induction n with
  | zero =>
    intro a f g m hn ha hf hg hm
    obtain ⟨f,rfl⟩ : ∃ x,f = x + 1:=⟨f - 1,by omega⟩
    obtain ⟨g,rfl⟩ : ∃ x,g = x + 1:=⟨g - 1,by omega⟩
    have hc : ¬ (((0:Nat):Int) - 1 ≥ 0):=by omega
    refine ⟨?_,fun q m =>?_⟩
    · unfold ZbU Zbo
      simp only [Zal,if_neg hc]
      exact .inl ⟨(),(),a,rfl,rfl,Nat.le_refl _,ha,trivial⟩
    · unfold Zbo
      simp only [Zal,if_neg hc]
  | succ n ih =>
    intro a f g m hn ha hf hg hm
    obtain ⟨f,rfl⟩ : ∃ x,f = x + 1:=⟨f - 1,by omega⟩
    obtain ⟨g,rfl⟩ : ∃ x,g = x + 1:=⟨g - 1,by omega⟩
    have hm:=hm (by omega)
    have hc:(n:Int) ≥ 0:=by omega
    have e0:(((n + 1:Nat):Int) - 1) = (n:Int):=by omega
    have e1:ZaR (n:Int) 1 = ((n:Int) - 1):=by
      cases n with
      | zero =>exact sub0
      | succ n =>rw [ZwZ (by omega)]; omega
    rw [e0]
    refine ⟨?_,fun q m =>?_⟩
    · unfold ZbU Zbo
      simp only [Zal,if_pos hc,e1]
      have hp : ∃ c:Nat,Zda p = c + 1:=⟨Zda p - 1,by omega⟩
      obtain ⟨c,hcp⟩:=hp
      have hk : ∀ (v : Unit) (k : Bool), m = k → Lka got a anyP anyW
          ((ZbP ⟨got.drop a⟩ (Zaw 2 (n:Int)) k).bind fun x3 =>match x3 with
            | .ret x3v x3g =>ZbU p mark f ((n:Int) - 1) x3g
            | .pan x3o =>some (Tout.pan x3o)
            | .bad x3s =>some (Tout.bad x3s))
          (Option.map (fun w =>(w,())) ((Zaz (wk got a) 3 (Zaw 2 (n:Int)) m).bind fun x2 =>Zbo g false ((n:Int) - 1) x2 b6)):=by
        rintro v k rfl
        rcases ZEV hL ha (Zaw 2 (n:Int)) m with ⟨v,b',a',q1,q2,q3,q4,-⟩ | ⟨q,b',q1,q2,hq,hW⟩
        · have q2:=ZlK q2
          simp only [q1,q2,ZaP]
          rcases (ih a' f g false (by omega) q4 (by omega) (by omega) (fun _ =>by simp [show ¬ n = Zda p by omega])).1 with ⟨x,y,a2,r1,r2,r3,r4,r5⟩ | hq
          · exact .inl ⟨x,y,a2,r1,r2,by omega,r4,r5⟩
          · exact .inr hq
        · have q2:=ZlK q2
          simp only [q1,q2,ZaP]
          rw [(ih a f g false (by omega) ha (by omega) (by omega) (fun _ =>by simp [show ¬ n = Zda p by omega])).2 q false]
          exact .inr ⟨q,(),rfl,rfl,hq,trivial⟩
      cases mark with
      | true =>
        simp only [cond_true,ZkS,ZaP]
        refine hk () _ ?_
        rw [hm,hcp,ZwZ (by omega)]
        by_cases h:n = c
        · subst h; simp
        · have h1 : ¬ (n + 1 = c + 1):=by omega
          have h2:((n:Int) == (c:Int)) = false:=beq_false_of_ne (by omega)
          simp [h,h2]
      | false =>
        simp only [cond_false]
        exact hk () _ (by rw [hm]; rfl)
    · unfold Zbo
      simp only [Zal,if_pos hc,e1,Zhj,ZaP]
      exact (ih 0 (n + 1) g (mark && decide (n = Zda p)) (by omega) (by omega) (by omega) (by omega) (fun _ =>rfl)).2 q false
theorem ZAm{got:List Zae}(hL:got.length≤1000000){a:Nat}(ha:a≤got.length)(p:Int)(mark:Bool):Lka got a anyP anyW (Zfv ⟨got.drop a⟩ p mark) ((ZbY (wk got a) p mark).map fun w=>(w,())):=by
 have h8:=ZjX p;unfold Zfv ZbY;rw[ZkS,ZkO,ZaP,ZaP];have e:ZaR (Zda p:Int) 1=(Zda p:Int)-1:=by
  obtain⟨c,hc⟩ : ∃c:Nat,Zda p=c+1:=⟨Zda p-1,by omega⟩;rw[hc,ZwZ (by omega)];omega
 rw[e];exact(Zrd hL p mark _ (Zda p) a _ _ mark (by omega) ha (by omega) (by omega) (fun _=>by simp)).1
theorem Zrc(got:List Zae)(hL:got.length≤1000000)(q:Zas)(p:Int)(mark:Bool):ZbY (wt got q) p mark=some (wt got q):=by
 have h8:=ZjX p;unfold ZbY;rw[ZkO,ZaP];have e:ZaR (Zda p:Int) 1=(Zda p:Int)-1:=by
  obtain⟨c,hc⟩ : ∃c:Nat,Zda p=c+1:=⟨Zda p-1,by omega⟩;rw[hc,ZwZ (by omega)];omega
 rw[e];exact(Zrd hL p mark _ (Zda p) 0 (Zda p+1) _ mark (by omega) (by omega) (by omega) (by omega) (fun _=>by simp)).2 q mark
theorem Zuo(l:List Zab)(h:l.length≤1000000):Zgk l l=some true:=by
 have main:∀(k i f:Nat),l.length-i=k→i≤l.length→k+1≤f→ZcE l l f i=some true:=by
  intro k;induction k with
  |zero=>
   intro i f hk hi hf;obtain⟨f,rfl⟩ : ∃x,f=x+1:=⟨f-1,by omega⟩;have hc:¬((i:Int)<(l.length:Int)):=by omega
   unfold ZcE;simp only[Zal,if_neg hc]
  |succ k ih=>
   intro i f hk hi hf;obtain⟨f,rfl⟩ : ∃x,f=x+1:=⟨f-1,by omega⟩;have hc:(i:Int)<(l.length:Int):=by omega
   have e1:Zaw (i:Int) 1=((i+1:Nat):Int):=add1 (n:=i+1) (by omega) (by simp only[maxLen];omega);unfold ZcE;simp only[Zal,if_pos hc,e1,decide_true,Bool.not_true,cond_false];rw[Zax (by omega),Zax (by omega)];exact ih (i+1) f (by omega) (by omega) (by omega)
 unfold Zgk;simp only[bne_self_eq_false,cond_false];exact main l.length 0 _ (by omega) (by omega) (by omega)
theorem Zun(l:List Zad)(h:l.length≤1000000):Zgj l l=some true:=by
 have main:∀(k i f:Nat),l.length-i=k→i≤l.length→k+1≤f→ZcD l l f i=some true:=by
  intro k;induction k with
  |zero=>
   intro i f hk hi hf;obtain⟨f,rfl⟩ : ∃x,f=x+1:=⟨f-1,by omega⟩;have hc:¬((i:Int)<(l.length:Int)):=by omega
   unfold ZcD;simp only[Zal,if_neg hc]
  |succ k ih=>
   intro i f hk hi hf;obtain⟨f,rfl⟩ : ∃x,f=x+1:=⟨f-1,by omega⟩;have hc:(i:Int)<(l.length:Int):=by omega
   have e1:Zaw (i:Int) 1=((i+1:Nat):Int):=add1 (n:=i+1) (by omega) (by simp only[maxLen];omega);unfold ZcD;simp only[Zal,if_pos hc,e1,decide_true,Bool.not_true,cond_false];rw[Zax (by omega),Zax (by omega)];exact ih (i+1) f (by omega) (by omega) (by omega)
 unfold Zgj;simp only[bne_self_eq_false,cond_false];exact main l.length 0 _ (by omega) (by omega) (by omega)
theorem Ztf(l:List Zaa)(h:l.length≤1000000):ZfF l l=some true:=by
 have main:∀(k i f:Nat),l.length-i=k→i≤l.length→k+1≤f→Zcu l l f i=some true:=by
  intro k;induction k with
  |zero=>
   intro i f hk hi hf;obtain⟨f,rfl⟩ : ∃x,f=x+1:=⟨f-1,by omega⟩;have hc:¬((i:Int)<(l.length:Int)):=by omega
   unfold Zcu;simp only[Zal,if_neg hc]
  |succ k ih=>
   intro i f hk hi hf;obtain⟨f,rfl⟩ : ∃x,f=x+1:=⟨f-1,by omega⟩;have hc:(i:Int)<(l.length:Int):=by omega
   have e1:Zaw (i:Int) 1=((i+1:Nat):Int):=add1 (n:=i+1) (by omega) (by simp only[maxLen];omega);unfold Zcu;simp only[Zal,if_pos hc,e1,decide_true,Bool.not_true,cond_false];rw[Zax (by omega),Zax (by omega)];exact ih (i+1) f (by omega) (by omega) (by omega)
 unfold ZfF;simp only[bne_self_eq_false,cond_false];exact main l.length 0 _ (by omega) (by omega) (by omega)
theorem Zte(v:Zae)(h:okV v):ZfE v v=some true:=by
 unfold ZfE;simp only[beq_self_eq_true,decide_true,cond_true,Zuo _ h.1,Zun _ h.2,ZaP]
theorem ZrP(o:Zas)(h:okV o.fVal):ZdO o o=some true:=by
 unfold ZdO;simp only[beq_self_eq_true,decide_true,cond_true,Zte _ h,ZaP]
theorem ZoY(r:Zao)(h:r.fPeers.length≤1000000):ZdR r r=some true:=by
 unfold ZdR;simp only[beq_self_eq_true,decide_true,cond_true,Ztf _ h,ZaP]
inductive Pr (α:Type) where
 |ret (x:α)
 |ask (o:Zas) (k:Zae→Pr α)
 |no
def Pr.bind{α β:Type}:Pr α→(α→Pr β)→Pr β | .ret x,f=>f x | .ask o k,f=>.ask o fun v=>(k v).bind f | .no,_=>.no
theorem Pr.bind_ret{α β:Type}(x:α)(f:α→Pr β):(Pr.ret x).bind f=f x:=rfl
theorem Pr.bind_ask{α β:Type}(o:Zas)(k:Zae→Pr α)(f:α→Pr β):(Pr.ask o k).bind f=.ask o fun v=>(k v).bind f:=rfl
theorem Pr.bind_assoc{α β γ:Type}(p:Pr α)(f:α→Pr β)(g:β→Pr γ):(p.bind f).bind g=p.bind fun x=>(f x).bind g:=by
 induction p with
 |ret x=>rfl
 |ask o k ih=>simp only[Pr.bind_ask,ih]
 |no=>rfl
def runT{α:Type}:Pr α→List Zae→Option (Tout α) | .ret x,l=>some (.ret x ⟨l⟩) | .ask o _,[]=>some (.pan (opN o)) | .ask _ k,v :: l=>runT (k v) l | .no,_=>none
theorem ZCG{α:Type}(p:Pr α):∀(l:List Zae)(s:ByteArray),runT p l≠some (.bad s):=by
 induction p with
 |ret x=>intro l s h;simp[runT]at h
 |ask o k ih=>
  intro l s;cases l with
  |nil=>simp[runT]
  |cons v l=>exact ih v l s
 |no=>intro l s h;simp[runT]at h
theorem ZvE{α:Type}(p:Pr α):∀(l:List Zae)(x:α)(g:Zak),runT p l=some (.ret x g)→∃a,a≤l.length∧g=⟨l.drop a⟩:=by
 induction p with
 |ret y=>intro l x g h;simp[runT]at h;exact⟨0,Nat.zero_le _,by rw[←h.2];rfl⟩
 |ask o k ih=>
  intro l x g h;cases l with
  |nil=>simp[runT]at h
  |cons v l=>
   obtain⟨a,h1,h2⟩:=ih v l x g h;exact⟨a+1,by simp only[List.length_cons];omega,h2⟩
 |no=>intro l x g h;simp[runT]at h
theorem ZbD{α β:Type}{p:Pr α}{f:α→Pr β}{l:List Zae}{F:Tout α→Option (Tout β)}(h1:∀x a,a≤l.length→runT p l=some (.ret x ⟨l.drop a⟩)→F (.ret x ⟨l.drop a⟩)=runT (f x) (l.drop a))(h2:∀o,F (.pan o)=some (.pan o)) :
  (runT p l).bind F=runT (p.bind f) l:=by
 induction p generalizing l with
 |ret x=>
  have:=h1 x 0 (Nat.zero_le _) rfl;simpa[runT,Pr.bind]using this
 |ask o k ih=>
  cases l with
  |nil=>simp only[runT,Pr.bind,Option.bind_some,h2]
  |cons v l=>
   simp only[runT,Pr.bind];refine ih v fun x a ha h=>?_;exact h1 x (a+1) (by simp only[List.length_cons];omega) h
 |no=>rfl
theorem Zja{α:Type}{p:Pr α}{l:List Zae}{F:Tout α→Option (Tout α)}(h1:∀x g,F (.ret x g)=some (.ret x g))(h2:∀o,F (.pan o)=some (.pan o)):(runT p l).bind F=runT p l:=by
 cases h:runT p l with
 |none=>rfl
 |some t=>
  cases t with
  |ret x g=>exact h1 x g
  |pan o=>exact h2 o
  |bad s=>exact absurd h (ZCG p l s)
abbrev Wlk{α β:Type}(got:List Zae)(a:Nat)(P:α→β→Prop)(W:β→Prop)(p:Pr α)(r:Option (Zac×β)):Prop:=Lka got a P W (runT p (got.drop a)) r
theorem Wlk.seq{α β γ δ:Type}{got:List Zae}{a:Nat}{P:α→β→Prop}{W:β→Prop}{p:Pr α}{r:Option (Zac×β)}(h:Wlk got a P W p r){f:α→Pr γ}{P':γ→δ→Prop}{W':δ→Prop}{K:Zac→β→Option (Zac×δ)}
  (h1:∀x b a',a≤a'→a'≤got.length→P x b→Wlk got a' P' W' (f x) (K (wk got a') b)) (h2:∀q b,W b→∃d,K (wt got q) b=some (wt got q,d)∧W' d) :
  Wlk got a P' W' (p.bind f) (r.bind fun x=>K x.1 x.2):=by
 unfold Wlk;rw[←ZbD (p:=p) (f:=f) (l:=got.drop a) (F:=fun t=>match t with | .ret x g=>runT (f x) g.fgot | .pan o=>some (.pan o) | .bad s=>some (.bad s)) (fun x a _ _=>rfl) (fun o=>rfl)]
 rcases h with⟨v,b,a',e1,e2,e3,e4,e5⟩|⟨q,b,e1,e2,e3,e4⟩
 ·rw[e1,e2];exact(h1 v b a' e3 e4 e5).weak e3
 ·rw[e1,e2];obtain⟨d,e5,e6⟩:=h2 q b e4;simp only[Option.bind_some,e5];exact .inr ⟨q,d,rfl,rfl,e3,e6⟩
def ZoN(l:Zap):Pr Zae:=.ask ⟨5,0,l,0,0,valZ,false⟩ .ret
def ZlF(l:Zap)(v:Zae)(mark:Bool):Pr Unit:=.ask ⟨6,0,l,0,0,v,mark⟩ fun _=>.ret ()
def keyP(k lock:Int)(mark:Bool):Pr Unit:=.ask ⟨k,lock,locZ,0,0,valZ,mark⟩ fun _=>.ret ()
def ZFd(k old now:Int)(mark:Bool):Pr Bool:=.ask ⟨7,0,⟨k,0,0⟩,old,now,valZ,mark⟩ fun v=>.ret (v.fN==1)
theorem Zou{α:Type}(f:Zae→α)(o:Zas)(l:List Zae):((Zca ⟨l⟩ o).bind fun x=>match x with | .ret v g=>some (Tout.ret (f v) g) | .pan q=>some (.pan q) | .bad s=>some (.bad s))=runT (.ask o fun v=>.ret (f v)) l:=by
 cases l with
 |nil=>rw[ZCh];rfl
 |cons v r=>rw[Zzd];rfl
theorem ZoM(l:List Zae)(c:Zap):ZcT ⟨l⟩ c false=runT (ZoN c) l:=Zou id _ l
theorem ZmP(l:List Zae)(c:Zap)(v:Zae)(mark:Bool):Zcc ⟨l⟩ c v mark=runT (ZlF c v mark) l:=Zou (fun _=>()) _ l
theorem ZDB(l:List Zae)(k old now:Int)(mark:Bool):ZfV ⟨l⟩ ⟨k,0,0⟩ old now mark=runT (ZFd k old now mark) l:=Zou (fun v=>v.fN==1) _ l
theorem ZoL(l:List Zae)(k:Int)(mark:Bool):ZcS ⟨l⟩ k mark=runT (keyP 1 k mark) l:=Zou (fun _=>()) _ l
theorem ZwT(l:List Zae)(k:Int)(mark:Bool):ZgK ⟨l⟩ k mark=runT (keyP 2 k mark) l:=Zou (fun _=>()) _ l
theorem ZlT(l:List Zae)(k:Int)(mark:Bool):ZbP ⟨l⟩ k mark=runT (keyP 3 k mark) l:=Zou (fun _=>()) _ l
theorem Zzj(l:List Zae)(k:Int)(mark:Bool):Zhp ⟨l⟩ k mark=runT (keyP 4 k mark) l:=Zou (fun _=>()) _ l
theorem Zzi(l:List Zae)(mark:Bool):Zho ⟨l⟩ mark=runT (keyP 8 0 mark) l:=Zou (fun _=>()) _ l
theorem ZuQ{c:Zap}{l:List Zae}{x:Zae}{g:Zak}(h:runT (ZoN c) l=some (.ret x g)):∃r,l=x :: r∧g=⟨r⟩:=by
 cases l with
 |nil=>simp[runT,ZoN]at h
 |cons v r=>
  simp only[runT,ZoN,Option.some.injEq,Tout.ret.injEq]at h;exact⟨r,by rw[h.1],h.2.symm⟩
def ZpJ(part:Int):Nat→Nat→List Zaa→Pr (List Zaa)|0,_,w=>.ret w|k+1,i,w=>(ZoN ⟨6,part,i⟩).bind fun v=>ZpJ part k (i+1) (w++[v.fPeer])
def Zxm(part:Int):Pr (List Zaa):=(ZoN ⟨5,part,0⟩).bind fun v=>ZpJ part v.fN.toNat 0 []
theorem ZAO(part n:Int):∀(k:Nat)(w:List Zaa)(l:List Zae)(fu:Nat),(n-(w.length:Int)).toNat=k→w.length+l.length≤900000→k+1≤fu→ZdV part fu n (w.length:Int) w ⟨l⟩=runT (ZpJ part k w.length w) l:=by
 intro k;induction k with
 |zero=>
  intro w l fu hk hl hf;obtain⟨fu,rfl⟩ : ∃x,fu=x+1:=⟨fu-1,by omega⟩;unfold ZdV;simp only[Zal];rw[if_neg (by omega)];rfl
 |succ k ih=>
  intro w l fu hk hl hf;obtain⟨fu,rfl⟩ : ∃x,fu=x+1:=⟨fu-1,by omega⟩;unfold ZdV;simp only[Zal];have e:ZhP part (w.length:Int)=some ⟨6,part,(w.length:Int)⟩:=rfl;rw[if_pos (by omega),e,ZaP,ZoM];refine ZbD (fun x a ha h=>?_) (fun o=>rfl);obtain⟨r,rfl,h2⟩:=ZuQ h;simp only[Zak.mk.injEq]at h2;rw[h2];simp only[List.length_cons]at hl;dsimp only;rw[Zax (by simp only[List.length_append,List.length_singleton,maxLen];omega)];have e1:Zaw (w.length:Int) 1=(((w++[x.fPeer]).length:Nat):Int):=by
   rw[add1 (n:=w.length+1) (by omega) (by simp only[maxLen];omega)];simp
  have e2:w.length+1=(w++[x.fPeer]).length:=by simp
  rw[e1,e2];exact ih (w++[x.fPeer]) r fu (by simp only[List.length_append,List.length_singleton];omega) (by simp only[List.length_append,List.length_singleton];omega) (by omega)
theorem Zzh(part:Int)(l:List Zae)(hl:l.length≤900000):ZiM ⟨l⟩ part=runT (Zxm part) l:=by
 unfold ZiM;have e:ZhQ part=some ⟨5,part,0⟩:=rfl;rw[e,ZaP,ZoM];refine ZbD (fun x a ha h=>?_) (fun o=>rfl);obtain⟨r,rfl,h2⟩:=ZuQ h;simp only[Zak.mk.injEq]at h2;rw[h2];simp only[List.length_cons]at hl;dsimp only;have:=ZAO part (if(0:Int)>x.fN then 0 else x.fN) x.fN.toNat [] r ((((if(0:Int)>x.fN then 0 else x.fN))-(0:Int)).toNat+2) (by simp only[List.length_nil];split<;>omega) (by simp only[List.length_nil];omega) (by split<;>omega);exact this
theorem ZvP(part:Int):∀(k i:Nat)(w:List Zaa)(l:List Zae)(x:List Zaa)(g:Zak),runT (ZpJ part k i w) l=some (.ret x g)→x.length+g.fgot.length=w.length+l.length
 | 0,i,w,l,x,g,h=>by simp[ZpJ,runT]at h;rw[←h.1,←h.2]
 |k+1,i,w,[],x,g,h=>by simp[ZpJ,runT,ZoN,Pr.bind]at h
 |k+1,i,w,v :: l,x,g,h=>by
  have:=ZvP part k (i+1) (w++[v.fPeer]) l x g h
  simp only[List.length_append,List.length_cons,List.length_nil]at this ⊢
  omega
theorem ZvO(part:Int)(Q:Zaa→Prop):∀(k i:Nat)(w:List Zaa)(l:List Zae)(x:List Zaa)(g:Zak),runT (ZpJ part k i w) l=some (.ret x g)→(∀p∈w,Q p)→(∀v∈l,Q v.fPeer)→∀p∈x,Q p
 | 0,i,w,l,x,g,h,hw,hl=>by simp[ZpJ,runT]at h;rw[←h.1];exact hw
 |k+1,i,w,[],x,g,h,hw,hl=>by simp[ZpJ,runT,ZoN,Pr.bind]at h
 |k+1,i,w,v :: l,x,g,h,hw,hl=>by
  refine ZvO part Q k (i+1) (w++[v.fPeer]) l x g h (fun p hp=>?_) (fun v' hv=>hl v' (List.mem_cons_of_mem _ hv))
  rcases List.mem_append.1 hp with hp|hp
  ·exact hw p hp
  ·rw[List.mem_singleton.1 hp];exact hl v (by simp)
theorem Zyw{part:Int}{Q:Zaa→Prop}{l:List Zae}{x:List Zaa}{g:Zak}(h:runT (Zxm part) l=some (.ret x g))(hl:∀v∈l,Q v.fPeer):∀p∈x,Q p:=by
 cases l with
 |nil=>simp[Zxm,runT,ZoN,Pr.bind]at h
 |cons v l=>exact ZvO part Q _ _ _ l x g h (by simp) fun v' hv=>hl v' (List.mem_cons_of_mem _ hv)
def wrB(was now:List Zaa)(i:Nat):Bool:=decide (was.length≤i) || !decide (was.getD i Zaa.d=now.getD i Zaa.d)
def wrL(was now:List Zaa):List Int:=((List.range now.length).filter (wrB was now)).map fun(i:Nat)=>(i:Int)
theorem Zyc(was now:List Zaa)(hn:now.length≤1000000):Zhy was now=some (wrL was now):=by
 have main:∀(k i f:Nat),now.length-i=k→i≤now.length→k+1≤f→Zce was f now (now.length:Int) i (((List.range i).filter (wrB was now)).map fun(i:Nat)=>(i:Int))=some (wrL was now):=by
  intro k;induction k with
  |zero=>
   intro i f hk hi hf;obtain⟨f,rfl⟩ : ∃x,f=x+1:=⟨f-1,by omega⟩;unfold Zce;simp only[Zal];rw[if_neg (by omega)];have:i=now.length:=by omega
   rw[this];rfl
  |succ k ih=>
   intro i f hk hi hf;obtain⟨f,rfl⟩ : ∃x,f=x+1:=⟨f-1,by omega⟩;unfold Zce;simp only[Zal];have e1:Zaw (i:Int) 1=((i+1:Nat):Int):=add1 (n:=i+1) (by omega) (by simp only[maxLen];omega);have hl:((List.range i).filter (wrB was now)).length≤i:=by
    have:=List.length_filter_le (wrB was now) (List.range i);rw[List.length_range]at this;exact this
   have hlen:((((List.range i).filter (wrB was now)).map fun(i:Nat)=>(i:Int))++[(i:Int)]).length * 8≤140737488355328∧((((List.range i).filter (wrB was now)).map fun(i:Nat)=>(i:Int))++[(i:Int)]).length≤maxLen:=by
    simp only[List.length_append,List.length_singleton,List.length_map,maxLen];omega
   have hadd:wrB was now i=true→(((List.range i).filter (wrB was now)).map fun(i:Nat)=>(i:Int))++[(i:Int)]=((List.range (i+1)).filter (wrB was now)).map fun(i:Nat)=>(i:Int):=fun h=>by
    rw[List.range_succ,List.filter_append,List.map_append,List.filter_cons_of_pos (by rw[h])];rfl
   have hsame:wrB was now i=false→(((List.range i).filter (wrB was now)).map fun(i:Nat)=>(i:Int))=((List.range (i+1)).filter (wrB was now)).map fun(i:Nat)=>(i:Int):=fun h=>by
    rw[List.range_succ,List.filter_append,List.map_append,List.filter_cons_of_neg (by rw[h];decide)];simp
   have ih':=ih (i+1) f (by omega) (by omega) (by omega);rw[if_pos (by omega),Zax (by omega)];by_cases h:(i:Int)≥(was.length:Int)
   ·have hb:wrB was now i=true:=by unfold wrB;rw[decide_eq_true (show was.length≤i by omega)];rfl
    rw[if_pos h,Zax hlen,e1,hadd hb];exact ih'
   ·rw[if_neg h,Zax (show 0≤(i:Int)∧(i:Int)<(was.length:Int)by omega)];have h0:decide (was.length≤i)=false:=decide_eq_false (by omega);by_cases h2:was.getD ((i:Int)).toNat Zaa.d=now.getD ((i:Int)).toNat Zaa.d
    ·have hb:wrB was now i=false:=by
      unfold wrB;rw[h0,Bool.false_or];simp only[Int.toNat_natCast]at h2;rw[decide_eq_true h2];rfl
     simp only[h2,decide_true,Bool.not_true,cond_false,e1];rw[hsame hb];exact ih'
    ·have hb:wrB was now i=true:=by
      unfold wrB;rw[h0,Bool.false_or];simp only[Int.toNat_natCast]at h2;rw[decide_eq_false h2];rfl
     simp only[h2,decide_false,Bool.not_false,cond_true];rw[Zax hlen,e1,hadd hb];exact ih'
 exact main now.length 0 _ (by omega) (by omega) (by omega)
theorem ZEa{was now:List Zaa}{x:Int}(h:x∈wrL was now):0≤x∧x<(now.length:Int):=by
 unfold wrL at h;obtain⟨i,h1,rfl⟩:=List.mem_map.1 h;have:=List.mem_range.1 (List.mem_filter.1 h1).1;omega
theorem ZEb(was now:List Zaa):(wrL was now).length≤now.length:=by
 unfold wrL;rw[List.length_map];have:=List.length_filter_le (wrB was now) (List.range now.length);rw[List.length_range]at this;exact this
def ZrJ(part:Int)(now:List Zaa):List Int→Pr Unit | []=>.ret ()|i :: r=>(ZlF ⟨6,part,i⟩ ⟨0,now.getD i.toNat Zaa.d,[],[]⟩ false).bind fun _=>ZrJ part now r
def ZAr(part:Int)(was now:List Zaa):Pr Unit:=(ZrJ part now (wrL was now)).bind fun _=>if was.length=now.length then .ret ()else ZlF ⟨5,part,0⟩ ⟨(now.length:Int),ZlW,[],[]⟩ false
theorem ZwS(part:Int)(was now:List Zaa)(l:List Zae)(hn:now.length≤1000000):ZhS ⟨l⟩ part was now=runT (ZAr part was now) l:=by
 unfold ZhS;rw[Zyc was now hn,ZaP];have hlen:=ZEb was now;have main:∀(k i f:Nat)(l:List Zae),(wrL was now).length-i=k→i≤(wrL was now).length→k+1≤f→Zdf part was now f (wrL was now) ((wrL was now).length:Int) i ⟨l⟩=runT ((ZrJ part now ((wrL was now).drop i)).bind fun _=>if was.length=now.length then .ret ()else ZlF ⟨5,part,0⟩ ⟨(now.length:Int),ZlW,[],[]⟩ false) l:=by
  intro k;induction k with
  |zero=>
   intro i f l hk hi hf;obtain⟨f,rfl⟩ : ∃x,f=x+1:=⟨f-1,by omega⟩;unfold Zdf;simp only[Zal];rw[if_neg (by omega),List.drop_of_length_le (by omega)];have e:ZhQ part=some ⟨5,part,0⟩:=rfl;simp only[e,Option.bind_some,ZrJ,Pr.bind_ret];by_cases hc:was.length=now.length
   ·have e2:(((was.length:Nat):Int) != ((now.length:Nat):Int))=false:=by simp[hc]
    rw[if_pos hc,e2,cond_false];rfl
   ·have e2:(((was.length:Nat):Int) != ((now.length:Nat):Int))=true:=by
     rw[bne_iff_ne];omega
    rw[if_neg hc,e2,cond_true,ZmP];exact Zja (p:=ZlF ⟨5,part,0⟩ ⟨(now.length:Int),ZlW,[],[]⟩ false) (fun _ _=>rfl) (fun _=>rfl)
  |succ k ih=>
   intro i f l hk hi hf;obtain⟨f,rfl⟩ : ∃x,f=x+1:=⟨f-1,by omega⟩;unfold Zdf;simp only[Zal];have e1:Zaw (i:Int) 1=((i+1:Nat):Int):=add1 (n:=i+1) (by omega) (by simp only[maxLen];omega);have hm:=ZEa (ZiE (wrL was now) (0:Int) i (by omega));have hm':0≤(wrL was now).getD ((i:Int)).toNat (0:Int)∧(wrL was now).getD ((i:Int)).toNat (0:Int)<(now.length:Int):=by simpa using hm
   have e:∀x,ZhP part x=some ⟨6,part,x⟩:=fun _=>rfl;rw[if_pos (by omega),Zax (by omega)];simp only[e,Option.bind_some];rw[Zax hm',ZeB (wrL was now) (0:Int) i (by omega)];simp only[ZrJ,Pr.bind_assoc,Int.toNat_natCast,ZmP];refine ZbD (fun x a ha h=>?_) (fun o=>rfl);dsimp only;rw[e1];exact ih (i+1) f _ (by omega) (by omega) (by omega)
 have:=main (wrL was now).length 0 ((((wrL was now).length:Int)-(0:Int)).toNat+2) l (by omega) (by omega) (by omega);rw[List.drop_zero]at this;exact this
def ZzI(k by_:Int)(mark:Bool):Nat→Pr Unit|0=>.no|n+1=>(ZoN ⟨k,0,0⟩).bind fun v=>(ZFd k v.fN (Zaw v.fN by_) mark).bind fun b=>bif b then .ret ()else ZzI k by_ mark n
theorem Zyg(k by_:Int)(mark:Bool):∀(f:Nat)(l:List Zae),ZeN by_ mark f ⟨l⟩ ⟨k,0,0⟩=runT (ZzI k by_ mark f) l:=by
 intro f;induction f with
 |zero=>intro l;rfl
 |succ f ih=>
  intro l;unfold ZeN;rw[ZoM];refine ZbD (fun x a ha h=>?_) (fun o=>rfl);dsimp only;rw[ZDB];refine ZbD (fun b a ha h=>?_) (fun o=>rfl);dsimp only;cases b with
  |true=>rfl
  |false=>exact ih _
theorem Zvq(k by_:Int)(mark:Bool)(l:List Zae):ZhT ⟨l⟩ k by_ mark=runT (ZzI k by_ mark 1000000) l:=by
 unfold ZhT;exact Zyg k by_ mark 1000000 l
def ZBf:Nat→Nat→Pr Unit|_,0=>.ret ()|i,k+1=>(keyP 1 (2+(i:Int)) false).bind fun _=>ZBf (i+1) k
def Zrx(p:Int):Pr Unit:=ZBf 0 (Zda p)
theorem ZFc{i:Nat}(h:i≤1000):Zaw 2 (i:Int)=2+(i:Int):=ZdP (by omega) (by omega)
theorem ZpC(p:Int)(l:List Zae):Zfu ⟨l⟩ p=runT (Zrx p) l:=by
 have h8:=(ZjX p).2;unfold Zfu;rw[ZkS,ZaP];have main:∀(k i f:Nat)(l:List Zae),Zda p-i=k→i≤Zda p→k+1≤f→Zcy f (Zda p:Int) i ⟨l⟩=runT (ZBf i k) l:=by
  intro k;induction k with
  |zero=>
   intro i f l hk hi hf;obtain⟨f,rfl⟩ : ∃x,f=x+1:=⟨f-1,by omega⟩;unfold Zcy;simp only[Zal];rw[if_neg (by omega)];rfl
  |succ k ih=>
   intro i f l hk hi hf;obtain⟨f,rfl⟩ : ∃x,f=x+1:=⟨f-1,by omega⟩;unfold Zcy;simp only[Zal];have e1:Zaw (i:Int) 1=((i+1:Nat):Int):=add1 (n:=i+1) (by omega) (by simp only[maxLen];omega);rw[if_pos (by omega),ZFc (by omega),ZoL];refine ZbD (fun x a ha h=>?_) (fun o=>rfl);dsimp only;rw[e1];exact ih (i+1) f _ (by omega) (by omega) (by omega)
 exact main (Zda p) 0 _ l (by omega) (by omega) (by omega)
def ZyQ(mark:Bool)(m:Nat):Nat→Pr Unit|0=>.ret ()|n+1=>(keyP 3 (2+(n:Int)) (mark&&decide (n+1=m))).bind fun _=>ZyQ mark m n
def Znt(p:Int)(mark:Bool):Pr Unit:=ZyQ mark (Zda p) (Zda p)
theorem ZpD(p:Int)(mark:Bool)(l:List Zae):Zfv ⟨l⟩ p mark=runT (Znt p mark) l:=by
 have h8:=ZjX p;unfold Zfv;rw[ZkS,ZaP];obtain⟨c,hc⟩ : ∃c:Nat,Zda p=c+1:=⟨Zda p-1,by omega⟩;have main:∀(n f:Nat)(l:List Zae),n≤Zda p→n+1≤f→ZbU p mark f ((n:Int)-1) ⟨l⟩=runT (ZyQ mark (Zda p) n) l:=by
  intro n;induction n with
  |zero=>
   intro f l hn hf;obtain⟨f,rfl⟩ : ∃x,f=x+1:=⟨f-1,by omega⟩;unfold ZbU;simp only[Zal];rw[if_neg (by omega)];rfl
  |succ n ih=>
   intro f l hn hf;obtain⟨f,rfl⟩ : ∃x,f=x+1:=⟨f-1,by omega⟩;unfold ZbU;simp only[Zal];have e0:(((n+1:Nat):Int)-1)=(n:Int):=by omega
   have e1:ZaR (n:Int) 1=((n:Int)-1):=by
    cases n with
    |zero=>exact sub0
    |succ n=>rw[ZwZ (by omega)];omega
   rw[e0,if_pos (by omega),ZFc (by omega),ZkS];simp only[ZaP,e1];have hm:∀m:Bool,m=(mark&&decide (n+1=Zda p))→((ZbP ⟨l⟩ (2+(n:Int)) m).bind fun x3=>match x3 with
      | .ret x3v x3g=>ZbU p mark f ((n:Int)-1) x3g
      | .pan x3o=>some (Tout.pan x3o)
      | .bad x3s=>some (Tout.bad x3s))=runT (ZyQ mark (Zda p) (n+1)) l:=by
    rintro m rfl;rw[ZlT];refine ZbD (fun x a ha h=>?_) (fun o=>rfl);exact ih f _ (by omega) (by omega)
   cases mark with
   |true=>
    simp only[cond_true];refine hm _ ?_;rw[hc,ZwZ (by omega)];by_cases h:n=c
    ·subst h;simp
    ·have h2:((n:Int)==(c:Int))=false:=beq_false_of_ne (by omega);simp[h,h2]
   |false=>
    simp only[cond_false];exact hm _ rfl
 have e:ZaR (Zda p:Int) 1=(Zda p:Int)-1:=by rw[hc,ZwZ (by omega)];omega
 rw[e];exact main (Zda p) _ l (Nat.le_refl _) (by omega)
theorem Wlk.ret{α β:Type}{got:List Zae}{a:Nat}(ha:a≤got.length){P:α→β→Prop}{W:β→Prop}{x:α}{b:β}(h:P x b):Wlk got a P W (.ret x) (some (wk got a,b)):=
 .inl ⟨x,b,a,rfl,rfl,Nat.le_refl _,ha,h⟩
theorem Wlk.mono{α β:Type}{got:List Zae}{a:Nat}{P P':α→β→Prop}{W W':β→Prop}{p:Pr α}{r:Option (Zac×β)}(h:Wlk got a P W p r)(h1:∀x b,P x b→P' x b)(h2:∀b,W b→W' b):Wlk got a P' W' p r:=by
 rcases h with⟨v,b,a',e1,e2,e3,e4,e5⟩|⟨q,b,e1,e2,e3,e4⟩
 ·exact .inl ⟨v,b,a',e1,e2,e3,e4,h1 _ _ e5⟩
 ·exact .inr ⟨q,b,e1,e2,e3,h2 _ e4⟩
theorem Wlk.seqP{α β γ δ:Type}{got:List Zae}{a:Nat}{P:α→β→Prop}{W:β→Prop}{p:Pr α}{r:Option (Zac×β)}(h:Wlk got a P W p r){f:α→Pr γ}{P':γ→δ→Prop}{W':δ→Prop}{K:Zac×β→Option (Zac×δ)}
  (h1:∀x b a',a≤a'→a'≤got.length→P x b→Wlk got a' P' W' (f x) (K (wk got a',b))) (h2:∀q b,W b→∃d,K (wt got q,b)=some (wt got q,d)∧W' d):Wlk got a P' W' (p.bind f) (r.bind K):=by
 have:=Wlk.seq h (f:=f) (K:=fun w b=>K (w,b)) h1 h2;cases r with
 |none=>exact this
 |some x=>exact this
theorem Wlk.seqU{α γ δ:Type}{got:List Zae}{a:Nat}{P:α→Unit→Prop}{W:Unit→Prop}{p:Pr α}{r:Option Zac}(h:Wlk got a P W p (r.map fun w=>(w,()))){f:α→Pr γ}{P':γ→δ→Prop}{W':δ→Prop}{K:Zac→Option (Zac×δ)}
  (h1:∀x a',a≤a'→a'≤got.length→P x ()→Wlk got a' P' W' (f x) (K (wk got a'))) (h2:∀q,∃d,K (wt got q)=some (wt got q,d)∧W' d):Wlk got a P' W' (p.bind f) (r.bind K):=by
 have:=Wlk.seq h (f:=f) (K:=fun w _=>K w) (fun x b=>h1 x) (fun q b _=>h2 q);cases r with
 |none=>exact this
 |some x=>exact this
theorem Wlk.seqUU{α γ:Type}{got:List Zae}{a:Nat}{P:α→Unit→Prop}{W:Unit→Prop}{p:Pr α}{r:Option Zac}(h:Wlk got a P W p (r.map fun w=>(w,()))){f:α→Pr γ}{P':γ→Unit→Prop}{W':Unit→Prop}{K:Zac→Option Zac}
  (h1:∀x a',a≤a'→a'≤got.length→P x ()→Wlk got a' P' W' (f x) ((K (wk got a')).map fun w=>(w,()))) (h2:∀q,K (wt got q)=some (wt got q)) (hW:W' ()):Wlk got a P' W' (p.bind f) ((r.bind K).map fun w=>(w,())):=by
 have:=Wlk.seqU h (f:=f) (K:=fun w=>(K w).map fun w=>(w,())) h1 (fun q=>⟨(),by rw[h2 q];rfl,hW⟩);cases r with
 |none=>exact this
 |some x=>exact this
theorem Wlk.seqPU{α β γ:Type}{got:List Zae}{a:Nat}{P:α→β→Prop}{W:β→Prop}{p:Pr α}{r:Option (Zac×β)}(h:Wlk got a P W p r){f:α→Pr γ}{P':γ→Unit→Prop}{W':Unit→Prop}{K:Zac×β→Option Zac}
  (h1:∀x b a',a≤a'→a'≤got.length→P x b→Wlk got a' P' W' (f x) ((K (wk got a',b)).map fun w=>(w,()))) (h2:∀q b,W b→K (wt got q,b)=some (wt got q)) (hW:W' ()):Wlk got a P' W' (p.bind f) ((r.bind K).map fun w=>(w,())):=by
 have:=Wlk.seqP h (f:=f) (K:=fun w=>(K w).map fun w=>(w,())) h1 (fun q b hb=>⟨(),by rw[h2 q b hb];rfl,hW⟩);cases r with
 |none=>exact this
 |some x=>exact this
theorem ZrF{α:Type}(r:Option α):(r.bind fun x=>some x)=r:=by cases r<;>rfl
section
variable {got:List Zae} (hL:got.length≤900000) {a:Nat} (ha:a≤got.length)
include hL ha
theorem ZEW(o:Zas)(ho:okV o.fVal):Wlk got a (fun x b=>x=b∧x∈got) (fun b=>b=valZ) (.ask o .ret) (Zco (wk got a) o):=by
 unfold Wlk;rw[ZkV _ _ _ (by omega) ha];by_cases h:a<got.length
 ·rw[if_pos h,ZeB got Zae.d a h];exact .inl ⟨_,_,a+1,rfl,rfl,by omega,h,rfl,ZiE got Zae.d a h⟩
 ·rw[if_neg h,List.drop_eq_nil_of_le (by omega)];exact .inr ⟨_,_,rfl,rfl,ZtP ho,rfl⟩
theorem Ztd(c:Zap):Wlk got a (fun x b=>x=b∧x∈got) (fun b=>b=valZ) (ZoN c) (ZaY (wk got a) c):=by
 unfold ZaY;have:=ZEW hL ha ⟨5,0,c,0,0,valZ,false⟩ ZuF;have e:∀r:Option (Zac×Zae),(r.bind fun x=>some (x.1,x.2))=r:=fun r=>by cases r<;>rfl
 exact(e _).symm ▸ this
theorem Ztx(k lock:Int)(mark:Bool):Wlk got a anyP anyW (keyP k lock mark) ((Zaz (wk got a) k lock mark).map fun w=>(w,())):=by
 unfold Zaz;exact Wlk.seqPU (p:=.ask ⟨k,lock,locZ,0,0,valZ,mark⟩ .ret) (ZEW hL ha ⟨k,lock,locZ,0,0,valZ,mark⟩ ZuF) (f:=fun _=>.ret ()) (fun x b a' h1 h2 h3=>Wlk.ret h2 trivial) (fun q b _=>rfl) trivial
theorem Zvp(c:Zap)(v:Zae)(mark:Bool)(hv:okV v):Wlk got a anyP anyW (ZlF c v mark) ((Zbe (wk got a) c v mark).map fun w=>(w,())):=by
 unfold Zbe;exact Wlk.seqPU (p:=.ask ⟨6,0,c,0,0,v,mark⟩ .ret) (ZEW hL ha ⟨6,0,c,0,0,v,mark⟩ hv) (f:=fun _=>.ret ()) (fun x b a' h1 h2 h3=>Wlk.ret h2 trivial) (fun q b _=>rfl) trivial
theorem ZFx(n:Int):Wlk got a (fun x b=>x=b∧x.length≤got.length∧∀Q:Zaa→Prop,(∀v∈got,Q v.fPeer)→∀p∈x,Q p) (fun b=>b.length≤got.length+1) (Zxm n) (Zdk (wk got a) n):=by
 have h:=ZER hL ha n;rw[Zzh n (got.drop a) (by simp;omega)]at h;rcases h with⟨v,b,a',e1,e2,e3,e4,e5⟩|⟨q,b,e1,e2,e3,e4⟩
 ·exact .inl ⟨v,b,a',e1,e2,e3,e4,e5.1,e5.2,fun Q hQ=>Zyw e1 fun v hv=>hQ v (List.mem_of_mem_drop hv)⟩
 ·exact .inr ⟨q,b,e1,e2,e3,e4⟩
theorem ZEP(n:Int)(was now:List Zaa)(hn:now.length≤1000000):Wlk got a anyP anyW (ZAr n was now) ((ZcX (wk got a) n was now).map fun w=>(w,())):=by
 have h:=ZDz (by omega) ha n was now hn;rw[ZwS n was now (got.drop a) hn]at h;exact h
theorem ZDX(k b:Int)(mark:Bool):Wlk got a anyP anyW (ZzI k b mark 1000000) ((ZcN (wk got a) k b mark).map fun w=>(w,())):=by
 have h:=ZES hL ha k b mark;rw[Zvq k b mark (got.drop a)]at h;exact h
theorem ZwU(p:Int):Wlk got a anyP anyW (Zrx p) ((Zcj (wk got a) p).map fun w=>(w,())):=by
 have h:=ZAl (by omega) ha p;rw[ZpC p (got.drop a)]at h;exact h
theorem ZwW(p:Int)(mark:Bool):Wlk got a anyP anyW (Znt p mark) ((ZbY (wk got a) p mark).map fun w=>(w,())):=by
 have h:=ZAm (by omega) ha p mark;rw[ZpD p mark (got.drop a)]at h;exact h
end
structure Gl (l:List Zae):Prop where
 len:l.length≤800
 val:∀v∈l,v.ok∧v.fBans.length≤800∧v.fBook.length≤800
theorem Gl.drop{l:List Zae}(h:Gl l)(a:Nat):Gl (l.drop a):=⟨by have:=h.len;simp;omega,fun v hv=>h.val v (List.mem_of_mem_drop hv)⟩
theorem ZBg{c:Zap}{l:List Zae}{x:Zae}{g:Zak}(h:runT (ZoN c) l=some (.ret x g))(hl:Gl l):x.ok∧x.fBans.length≤800∧x.fBook.length≤800:=by
 obtain⟨r,rfl,_⟩:=ZuQ h;exact hl.val x (by simp)
theorem Zxh{α β:Type}{p:Pr α}{f:α→Pr β}:∀{l:List Zae}{y:β}{g:Zak},runT (p.bind f) l=some (.ret y g)→∃x g1,runT p l=some (.ret x g1)∧runT (f x) g1.fgot=some (.ret y g):=by
 induction p with
 |ret x=>intro l y g h;exact⟨x,⟨l⟩,rfl,h⟩
 |ask o k ih=>
  intro l y g h;cases l with
  |nil=>simp[Pr.bind,runT]at h
  |cons v l=>exact ih v h
 |no=>intro l y g h;simp[Pr.bind,runT]at h
theorem ZAP{part:Int}{l:List Zae}{x:List Zaa}{g:Zak}(h:runT (Zxm part) l=some (.ret x g)):x.length+g.fgot.length≤l.length:=by
 cases l with
 |nil=>simp[Zxm,runT,ZoN,Pr.bind]at h
 |cons v l=>
  have:=ZvP part _ _ _ l x g h;simp only[List.length_cons,List.length_nil]at this ⊢;omega
theorem Wlk.run{α β:Type}{got:List Zae}{a:Nat}{P:α→β→Prop}{W:β→Prop}{p:Pr α}{r:Option (Zac×β)}(h:Wlk got a P W p r):Wlk got a (fun x b=>P x b∧∃g,runT p (got.drop a)=some (.ret x g)) W p r:=by
 rcases h with⟨v,b,a',e1,e2,e3,e4,e5⟩|⟨q,b,e1,e2,e3,e4⟩
 ·exact .inl ⟨v,b,a',e1,e2,e3,e4,e5,_,e1⟩
 ·exact .inr ⟨q,b,e1,e2,e3,e4⟩
theorem ZqO(ls:List (List Zaa))(h1:ls.length≤1000)(h2:ls.flatten.length≤900000):Zdj ls=some ls.flatten:=by
 have main:∀(k i fu:Nat),ls.length-i=k→i≤ls.length→k+1≤fu→Zcw ls fu (i:Int) (ls.take i).flatten=some ls.flatten:=by
  intro k;induction k with
  |zero=>
   intro i fu hk hi hf;obtain⟨fu,rfl⟩ : ∃x,fu=x+1:=⟨fu-1,by omega⟩;unfold Zcw;rw[Zal,if_neg (by omega),List.take_of_length_le (by omega)]
  |succ k ih=>
   intro i fu hk hi hf;obtain⟨fu,rfl⟩ : ∃x,fu=x+1:=⟨fu-1,by omega⟩;unfold Zcw;have e1:Zaw (i:Int) 1=((i+1:Nat):Int):=add1 (n:=i+1) (by omega) (by simp only[maxLen];omega);have e2:(ls.take i).flatten++ls.getD i []=(ls.take (i+1)).flatten:=by
    rw[List.take_succ_eq_append_getElem (show i<ls.length by omega),List.flatten_append,ZgI ls _ i (by omega)];simp
   have e3:ls.flatten=(ls.take (i+1)).flatten++(ls.drop (i+1)).flatten:=by rw[←List.flatten_append,List.take_append_drop]
   have hle:(ls.take (i+1)).flatten.length≤ls.flatten.length:=by
    rw[e3,List.length_append];omega
   rw[Zal,if_pos (by omega),Zax ⟨by omega,by omega⟩];simp only[Int.toNat_natCast,e2];rw[Zax ⟨by omega,by unfold maxLen;omega⟩,e1];exact ih (i+1) fu (by omega) (by omega) (by omega)
 exact main ls.length 0 _ (by omega) (by omega) (by omega)
section
variable {c:ZaB} {x:Zay} (hx:x.ok) (hs0:0≤c.fShards) (hs:c.fShards≤1000) {got:List Zae} (hG:Gl got) {a:Nat} (ha:a≤got.length)
include hs0 hs hG
include ha in
end
section
variable {got:List Zae} (hG:Gl got) {a:Nat} (ha:a≤got.length)
include hG ha
theorem ZpK(k l:Int)(m:Bool){β:Type}(v:β):Wlk got a eqP anyW ((keyP k l m).bind fun _=>.ret v) ((Zaz (wk got a) k l m).bind fun y=>some (y,v)):=by
 have hL:=hG.len;exact Wlk.seqU (Ztx (by omega) ha k l m) (fun _ a' h1 h2 _=>Wlk.ret h2 rfl) (fun q=>⟨_,rfl,trivial⟩)
end
def Zrn:Nat→Nat→List (List Zaa)→Pr (List (List Zaa))|0,_,w=>.ret w|k+1,i,w=>(Zxm (i:Int)).bind fun x=>Zrn k (i+1) (w++[x])
theorem Zlv:∀(k i:Nat)(w:List (List Zaa))(l:List Zae)(x:List (List Zaa))(g:Zak),runT (Zrn k i w) l=some (.ret x g)→x.length=w.length+k∧x.flatten.length+g.fgot.length≤w.flatten.length+l.length∧∀Q:Zaa→Prop,(∀p∈w.flatten,Q p)→(∀v∈l,Q v.fPeer)→∀p∈x.flatten,Q p
 | 0,i,w,l,x,g,h=>by
  simp only[Zrn,runT,Option.some.injEq,Tout.ret.injEq]at h
  obtain⟨rfl,rfl⟩:=h
  exact⟨rfl,Nat.le_refl _,fun Q hw _=>hw⟩
 |k+1,i,w,l,x,g,h=>by
  obtain⟨y,g1,h1,h2⟩:=Zxh h
  have h3:=ZAP h1
  obtain⟨h0,h4,h5⟩:=Zlv k (i+1) (w++[y]) g1.fgot x g h2
  obtain⟨a,ha,rfl⟩:=ZvE _ _ _ _ h1
  simp only at h3 h4
  refine⟨by rw[h0];simp;omega,by simp only[List.flatten_append,List.length_append,List.flatten_cons,List.flatten_nil,List.append_nil]at h4;omega,fun Q hw hl=>h5 Q (fun p hp=>?_) (fun v hv=>hl v (List.mem_of_mem_drop hv))⟩
  simp only[List.flatten_append,List.flatten_cons,List.flatten_nil,List.append_nil,List.mem_append]at hp
  rcases hp with hp|hp
  ·exact hw p hp
  ·exact Zyw h1 hl p hp
theorem ZtF(c:ZaB)(x:Zay)(hs0:0≤c.fShards)(hs:c.fShards≤1000)(l:List Zae)(hl:l.length≤800):ZfB ⟨c,x⟩ ⟨l⟩=runT (Zrn c.fShards.toNat 0 []) l:=by
 obtain⟨n,hn⟩ : ∃n:Nat,c.fShards=(n:Int):=⟨c.fShards.toNat,by omega⟩;have main:∀(k i fu:Nat)(w:List (List Zaa))(l:List Zae),n-i=k→i≤n→k+1≤fu→w.length=i→l.length≤800 →
   ZcW fu (n:Int) (i:Int) (w++List.replicate k []) ⟨l⟩=runT (Zrn k i w) l:=by
  intro k;induction k with
  |zero=>
   intro i fu w l hk hi hf hw hl;obtain⟨fu,rfl⟩ : ∃x,fu=x+1:=⟨fu-1,by omega⟩;unfold ZcW;rw[Zal,if_neg (by omega)];simp[Zrn,runT]
  |succ k ih=>
   intro i fu w l hk hi hf hw hl;obtain⟨fu,rfl⟩ : ∃x,fu=x+1:=⟨fu-1,by omega⟩;unfold ZcW Zrn;have e1:Zaw (i:Int) 1=((i+1:Nat):Int):=add1 (n:=i+1) (by omega) (by simp only[maxLen];omega);rw[Zal,if_pos (by omega),Zzh _ _ (by omega)];refine ZbD (fun y a ha h=>?_) (fun _=>rfl);dsimp only;have es:(w++List.replicate (k+1) []).set (i:Int).toNat y=w++[y]++List.replicate k []:=by
    rw[Int.toNat_natCast,←hw,List.replicate_succ,List.set_append_right _ _ (Nat.le_refl _)];simp
   rw[Zax ⟨by omega,by simp;omega⟩,e1,es];exact ih (i+1) fu (w++[y]) (l.drop a) (by omega) (by omega) (by omega) (by simp;omega) (by simp;omega)
 unfold ZfB;simp only[hn,Int.toNat_natCast];rw[Zax ⟨by omega,by omega,by omega,by omega⟩];have:=main n 0 (((n:Int)-(0:Int)).toNat+2) [] l (by omega) (by omega) (by omega) rfl hl;rw[List.nil_append]at this;exact this
theorem Zmq{a:Int}(h:0≤a):∃n:Nat,a=n:=⟨a.toNat,by omega⟩
def ZeR(a:Zag):Bool:=if a.fV6 then !(decide (a.fHi=0)&&decide (a.fLo / 4294967296=65535))else decide (a.fHi=0)&&decide (a.fLo<4294967296)
theorem ZFk(n:Nat)(h:n≤18446744073709551615):IntKind.u32.wrap (IntKind.u64.wrap (((BitVec.ofInt (IntKind.bits .u64) (n:Int)) &&& (BitVec.ofInt (IntKind.bits .u64) (4294967295:Int))).toNat:Int))=((n % 4294967296:Nat):Int):=by
 have:=ZCk n 4294967295 (by omega) (by omega);rw[show ((4294967295:Nat):Int)=(4294967295:Int)from rfl]at this;rw[this,show (4294967295:Nat)=2 ^ 32-1 from rfl,Nat.and_two_pow_sub_one_eq_mod];rw[show (2:Nat) ^ 32=4294967296 from rfl];have h1:n % 4294967296<4294967296:=Nat.mod_lt _ (by omega);rw[Zox (by omega) (by omega)];simp only[IntKind.wrap,IntKind.bits,IntKind.signed];simp
theorem ZEX(n:Nat)(h:n<4294967296):ZmM ((n:Nat):Int)=some ⟨false,0,n⟩:=by
 unfold ZmM;rw[Zox (by omega) (by omega)]
theorem ZkT(a:Zag)(h:a.ok):ZeY a=some (ZeR a):=by
 obtain⟨v,hi,lo⟩:=a;obtain⟨_,h1,h2,_⟩:=h;have h1:=ZqB h1;have h2:=ZqB h2;simp only at h1 h2;obtain⟨n,rfl⟩:=Zmq h2.1;have hm:=ZFk n (by omega);have hlt:n % 4294967296<4294967296:=Nat.mod_lt _ (by omega);have hd:Int.fdiv (n:Int) (2 ^ (min (32:Int).toNat (IntKind.bits .u64)))=(n:Int) / 4294967296:=by
  rw[show (2:Int) ^ (min (32:Int).toNat (IntKind.bits .u64))=4294967296 from rfl,Int.fdiv_eq_ediv_of_nonneg _ (by omega)]
 cases v with
 |true=>
  simp only[ZeY,Zqh,ZeR,cond_true,hd,hm];have hb:∀(p q:Int),(p==q)=decide (p=q):=fun p q=>by rw[Bool.eq_iff_iff];simp
  have hv:=ZEX _ hlt;by_cases h3:hi=0
  ·by_cases h4:(n:Int) / 4294967296=65535
   ·rw[hb,hb,decide_eq_true h3,decide_eq_true h4,cond_true,cond_true,hv];simp
   ·rw[hb,hb,decide_eq_true h3,decide_eq_false h4,cond_true,cond_false];simp
  ·rw[hb,decide_eq_false h3,cond_false];simp
 |false=>
  simp only[ZeY,ZeR,cond_false,hm,ZEX _ hlt,Option.bind_some];congr 1;rw[Bool.eq_iff_iff];simp;constructor
  ·rintro ⟨h5,h6⟩;exact⟨h5.symm,by omega⟩
  ·rintro ⟨h5,h6⟩;exact⟨h5.symm,by omega⟩
theorem ZpI(a:Zag)(h:a.ok):Zcx a=some (ZeR a):=by
 obtain⟨v,hi,lo⟩:=a;obtain⟨_,h1,h2,_⟩:=h;have h1:=ZqB h1;have h2:=ZqB h2;simp only at h1 h2;have hd:IntKind.u64.wrap (Int.tdiv lo 4294967296)=lo / 4294967296:=by
  rw[Int.tdiv_eq_ediv_of_nonneg h2.1];exact Zox (by omega) (by omega)
 cases v with
 |true=>
  simp only[Zcx,ZeR,hd,Bool.not_true,cond_false,if_true];generalize lo / 4294967296=q;simp only[Bool.cond_eq_ite,beq_iff_eq,bne_iff_ne,ne_eq,decide_eq_true_eq,Bool.not_eq_true',Bool.not_eq_false',decide_eq_false_iff_not]
  repeat' split
  all_goals first|rfl | (rw[Option.some.injEq,Bool.eq_iff_iff];simp only[Bool.and_eq_true,Bool.not_eq_true',Bool.not_eq_false',Bool.and_eq_false_iff,decide_eq_true_eq,decide_eq_false_iff_not,beq_iff_eq,bne_iff_ne,ne_eq,iff_true,iff_false,true_iff,false_iff,Bool.false_eq_true,Bool.true_eq_false,not_true_eq_false,not_false_eq_true];omega)
 |false=>
  simp only[Zcx,ZeR,Bool.not_false,cond_true,Bool.false_eq_true,if_false];simp only[Bool.cond_eq_ite,beq_iff_eq,bne_iff_ne,ne_eq,decide_eq_true_eq,Bool.not_eq_true',Bool.not_eq_false',decide_eq_false_iff_not]
  repeat' split
  all_goals first|rfl | (rw[Option.some.injEq,Bool.eq_iff_iff];simp only[Bool.and_eq_true,Bool.not_eq_true',Bool.not_eq_false',Bool.and_eq_false_iff,decide_eq_true_eq,decide_eq_false_iff_not,beq_iff_eq,bne_iff_ne,ne_eq,iff_true,iff_false,true_iff,false_iff,Bool.false_eq_true,Bool.true_eq_false,not_true_eq_false,not_false_eq_true];omega)
theorem Zyu(a b:Zag):ZdH a b=some (cmpA a b):=by
 obtain⟨v,hi,lo⟩:=a;obtain⟨v',hi',lo'⟩:=b;simp only[ZdH,ZdL,ZdK,cmpA,famA,cmpI,orI,Zag.mk.injEq];simp only[Bool.cond_eq_ite,bne_iff_ne,ne_eq,ite_not,decide_eq_true_eq,Bool.not_eq_true',beq_eq_false_iff_ne];cases v<;>cases v'<;>simp only[true_and,Bool.false_eq_true,Bool.true_eq_false,false_and,not_true_eq_false,not_false_eq_true,if_true,if_false,ite_true,ite_false,Bool.not_true,Bool.not_false]
 all_goals (repeat' split)<;>first|rfl|omega | (congr 1;omega)|simp_all
theorem ZCR(a b:Zaq):ZeA a b=some (cmpN a b):=by
 simp only[ZeA,Zyu,Option.bind_some,cmpN,orI,cmpI];simp only[Bool.cond_eq_ite,bne_iff_ne,ne_eq,ite_not,decide_eq_true_eq,beq_iff_eq];generalize cmpA a.fAddr b.fAddr=c
 (repeat' split)<;>first|rfl|omega | (congr 1;omega)|simp_all
def wid(a:Zag):Nat:=if a.fV6 then 128 else 32
def num(a:Zag):Nat:=if a.fV6 then 2 ^ 64*a.fHi.toNat+a.fLo.toNat else a.fLo.toNat
def bitN(a:Zag)(i:Nat):Bool:=(num a).testBit (wid a-1-i)
structure Fits (a:Zag):Prop where
 hi0:0≤a.fHi
 hi1:a.fHi≤18446744073709551615
 lo0:0≤a.fLo
 lo1:a.fLo≤18446744073709551615
 v4:a.fV6=false→a.fHi=0∧a.fLo<4294967296
theorem Zps{a:Zag}(h:a.ok)(hr:ZeR a=true):Fits a:=by
 have h1:=ZqB h.2.1;have h2:=ZqB h.2.2.1;refine⟨h1.1,h1.2,h2.1,h2.2,fun hv=>?_⟩;unfold ZeR at hr;rw[hv]at hr;simpa using hr
theorem Fits.ok{a:Zag}(h:Fits a):a.ok:=by
 refine⟨trivial,?_,?_,trivial⟩
 ·have:=h.hi0;have:=h.hi1;simp only[okI,Lit.wf,IntKind.min,IntKind.max,IntKind.bits,IntKind.signed];simp;omega
 ·have:=h.lo0;have:=h.lo1;simp only[okI,Lit.wf,IntKind.min,IntKind.max,IntKind.bits,IntKind.signed];simp;omega
theorem ZDM{a:Zag}(h:Fits a):num a<2 ^ wid a:=by
 have:=h.hi0;have:=h.hi1;have:=h.lo0;have:=h.lo1;unfold num wid;cases hv:a.fV6
 ·have:=h.v4 hv;simp only[Bool.false_eq_true,if_false];omega
 ·simp only[if_true];omega
theorem ZrG{a b:Zag}(ha:Fits a)(hb:Fits b)(hv:a.fV6=b.fV6)(h:∀i,i<wid a→bitN a i=bitN b i):a=b:=by
 have hn:num a=num b:=by
  apply Nat.eq_of_testBit_eq;intro j;have hw:wid a=wid b:=by unfold wid;rw[hv]
  by_cases hj:j<wid a
  ·have:=h (wid a-1-j) (by omega);unfold bitN at this;rw[←hw]at this;rw[show wid a-1-(wid a-1-j)=j by omega]at this;exact this
  ·rw[Nat.testBit_lt_two_pow (Nat.lt_of_lt_of_le (ZDM ha) (Nat.pow_le_pow_right (by omega) (by omega))),Nat.testBit_lt_two_pow (Nat.lt_of_lt_of_le (ZDM hb) (Nat.pow_le_pow_right (by omega) (by omega)))]
 have:=ha.hi0;have:=ha.hi1;have:=ha.lo0;have:=ha.lo1;have:=hb.hi0;have:=hb.hi1;have:=hb.lo0;have:=hb.lo1;obtain⟨v,hi,lo⟩:=a;obtain⟨v',hi',lo'⟩:=b;simp only at hv;subst hv;simp only[num]at hn;simp only[Zag.mk.injEq,true_and];cases v
 ·have:=ha.v4 rfl;have:=hb.v4 rfl;simp only[Bool.false_eq_true,if_false]at *
  omega
 ·simp only[if_true]at *
  omega
theorem Zvn(n k T:Nat)(hk:k≤T)(h:n<2 ^ T):n &&& (2 ^ T-2 ^ k)=n-n % 2 ^ k:=by
 have h1:n-n % 2 ^ k=2 ^ k*(n / 2 ^ k):=by have:=Nat.div_add_mod n (2 ^ k);omega
 rw[h1];apply Nat.eq_of_testBit_eq;intro i;have h2:2 ^ T-2 ^ k=2 ^ k*(2 ^ (T-k)-1):=by
  rw[Nat.mul_sub,←Nat.pow_add,Nat.mul_one];congr 2;omega
 rw[Nat.testBit_and,h2,Nat.testBit_two_pow_mul,Nat.testBit_two_pow_mul,Nat.testBit_two_pow_sub_one,Nat.testBit_div_two_pow];by_cases hi:k≤i
 ·by_cases h3:i<T
  ·simp[hi,show i-k<T-k by omega,show i-k+k=i by omega]
  ·have:n.testBit i=false:=Nat.testBit_lt_two_pow (Nat.lt_of_lt_of_le h (Nat.pow_le_pow_right (by omega) (by omega)));simp[hi,this,show i-k+k=i by omega]
 ·simp[hi]
theorem ZxV(n k j:Nat):(n-n % 2 ^ k).testBit j=(decide (k≤j)&&n.testBit j):=by
 have h1:n-n % 2 ^ k=2 ^ k*(n / 2 ^ k):=by have:=Nat.div_add_mod n (2 ^ k);omega
 rw[h1,Nat.testBit_two_pow_mul,Nat.testBit_div_two_pow];by_cases h:k≤j
 ·simp[h,show j-k+k=j by omega]
 ·simp[h]
theorem ZoK(a b:Nat)(ha:a<2 ^ 64)(hb:b<2 ^ 64):IntKind.u64.wrap (((BitVec.ofInt (IntKind.bits .u64) (a:Int)) &&& (BitVec.ofInt (IntKind.bits .u64) (b:Int))).toNat:Int)=((a &&& b:Nat):Int):=by
 rw[ZCk a b ha hb];have:a &&& b<2 ^ 64:=Nat.and_lt_two_pow _ hb;exact Zox (by omega) (by omega)
theorem ZFa:∀n:Fin 65,ZfX ((n.val:Nat):Int)=some (((2 ^ 64-2 ^ (64-n.val):Nat)):Int):=by decide +kernel
theorem Zvw(n:Nat)(h:n≤64):ZfX ((n:Nat):Int)=some (((2 ^ 64-2 ^ (64-n):Nat)):Int):=ZFa ⟨n,by omega⟩
theorem Zvx(n:Int):ZfX n=ZfX (if(64:Int)<(if(0:Int)>n then(0:Int)else n)then(64:Int)else(if(0:Int)>n then(0:Int)else n)):=by
 unfold ZfX;have e:∀m:Int,0≤m→m≤64→(if(64:Int)<(if(0:Int)>m then(0:Int)else m)then(64:Int)else(if(0:Int)>m then(0:Int)else m))=m:=fun m h1 h2=>by
  repeat' split
  all_goals omega
 rw[e (if(64:Int)<(if(0:Int)>n then(0:Int)else n)then(64:Int)else(if(0:Int)>n then(0:Int)else n)) (by repeat' split<;>omega) (by repeat' split<;>omega)]
theorem ZEe(n:Int)(h:n≤0):ZfX n=some 0:=by
 rw[Zvx,show (if(64:Int)<(if(0:Int)>n then(0:Int)else n)then(64:Int)else(if(0:Int)>n then(0:Int)else n))=((0:Nat):Int)by repeat' split<;>omega,Zvw 0 (by omega)]
 rfl
theorem ZCB(n:Int)(h:64≤n):ZfX n=some 18446744073709551615:=by
 rw[Zvx,show (if(64:Int)<(if(0:Int)>n then(0:Int)else n)then(64:Int)else(if(0:Int)>n then(0:Int)else n))=((64:Nat):Int)by repeat' split<;>omega,Zvw 64 (by omega)]
 rfl
def Zje(a:Zag)(n:Nat):Zag:=if a.fV6 then(if n≤64 then⟨true,((a.fHi.toNat-a.fHi.toNat % 2 ^ (64-n):Nat):Int),0⟩else⟨true,a.fHi,((a.fLo.toNat-a.fLo.toNat % 2 ^ (128-n):Nat):Int)⟩)else⟨false,a.fHi,((a.fLo.toNat-a.fLo.toNat % 2 ^ (32-n):Nat):Int)⟩
theorem ZBc{a:Zag}(h:a.ok)(hr:ZeR a=true)(n:Nat)(hn:n≤wid a):ZiP a (n:Int)=some (Zje a n):=by
 have hf:=Zps h hr;have hright:=ZkT a h;have hA:=hf.hi0;have hB:=hf.hi1;have hC:=hf.lo0;have hD:=hf.lo1;obtain⟨v,hi,lo⟩:=a;obtain⟨p,hp⟩:=Zmq hf.hi0;obtain⟨q,hq⟩:=Zmq hf.lo0;simp only at hp hq hA hB hC hD;subst hp hq;cases v with
 |false=>
  have hv:=hf.v4 rfl;simp only at hv;have hn:n≤32:=hn;have hmin:(if(32:Int)<(if(0:Int)>(n:Int)then(0:Int)else(n:Int))then(32:Int)else(if(0:Int)>(n:Int)then(0:Int)else(n:Int)))=(n:Int):=by repeat' split<;>omega
  simp only[ZiP,hright,hr,Option.bind_some,Bool.not_true,cond_false,ZeJ,Bool.not_false,cond_true,hmin,Zvw n (by omega)];have hp:(2:Nat) ^ (64-n)=2 ^ 32 * 2 ^ (32-n):=by rw[←Nat.pow_add];congr 1;omega
  have hp1:(2:Nat) ^ (32-n)≤2 ^ 32:=Nat.pow_le_pow_right (by omega) (by omega);have hp0:0<(2:Nat) ^ (32-n):=Nat.pow_pos (by omega);have hd:(2 ^ 64-2 ^ (64-n):Nat) / 4294967296=2 ^ 32-2 ^ (32-n):=by
   rw[hp];generalize (2:Nat) ^ (32-n)=z at *
   omega
  have e3:Int.fdiv ((2 ^ 64-2 ^ (64-n):Nat):Int) (2 ^ (min (32:Int).toNat (IntKind.bits .u64)))=((2 ^ 32-2 ^ (32-n):Nat):Int):=by
   rw[show (2:Int) ^ (min (32:Int).toNat (IntKind.bits .u64))=4294967296 from rfl,Int.fdiv_eq_ediv_of_nonneg _ (by omega),←hd];rfl
  rw[e3,ZoK q _ (by omega) (by generalize (2:Nat) ^ (32-n)=z at *;omega),Zvn q (32-n) 32 (by omega) (by omega)];simp[Zje]
 |true=>
  have hn:n≤128:=hn;have hmin:(if(128:Int)<(if(0:Int)>(n:Int)then(0:Int)else(n:Int))then(128:Int)else(if(0:Int)>(n:Int)then(0:Int)else(n:Int)))=(n:Int):=by repeat' split<;>omega
  simp only[ZiP,hright,hr,Option.bind_some,Bool.not_true,cond_false,ZeJ,cond_true,hmin,ZkE];have hs:ZaR (n:Int) 64=(n:Int)-64:=Zds (by omega) (by omega);rw[hs];by_cases h64:n≤64
  ·rw[Zvw n h64,ZEe _ (by omega)];simp only[Option.bind_some];rw[ZoK p _ (by omega) (by have:=Nat.pow_pos (a:=2) (n:=64-n) (by omega);omega),Zvn p (64-n) 64 (by omega) (by omega)];have:=ZoK q 0 (by omega) (by omega);rw[Nat.and_zero]at this;rw[show (0:Int)=((0:Nat):Int)from rfl,this];simp[Zje,h64]
  ·rw[ZCB _ (by omega),show (n:Int)-64=((n-64:Nat):Int)by omega,Zvw (n-64) (by omega)];simp only[Option.bind_some];have e1:=ZoK p 18446744073709551615 (by omega) (by omega);have e2:=Zvn p 0 64 (by omega) (by omega);rw[show (2:Nat) ^ 64-2 ^ 0=18446744073709551615 from rfl,Nat.pow_zero,Nat.mod_one,Nat.sub_zero]at e2;rw[e2]at e1;rw[show (18446744073709551615:Int)=((18446744073709551615:Nat):Int)from rfl,e1];rw[show 64-(n-64)=128-n by omega,ZoK q _ (by omega) (by have:=Nat.pow_pos (a:=2) (n:=128-n) (by omega);omega),Zvn q (128-n) 64 (by omega) (by omega)];simp[Zje,h64]
theorem Zjd(a:Zag)(n:Nat):(Zje a n).fV6=a.fV6:=by
 unfold Zje;cases h:a.fV6
 ·rfl
 ·simp only[if_true];split<;>rfl
theorem ZjK{a:Zag}(h:Fits a)(n:Nat):Fits (Zje a n):=by
 have:=h.hi0;have:=h.hi1;have:=h.lo0;have:=h.lo1;have l:∀x y:Nat,x-x % y≤x:=fun x y=>Nat.sub_le _ _;have l1:=l a.fHi.toNat (2 ^ (64-n));have l2:=l a.fLo.toNat (2 ^ (128-n));have l3:=l a.fLo.toNat (2 ^ (32-n));unfold Zje;cases hv:a.fV6
 ·have:=h.v4 hv;simp only[Bool.false_eq_true,if_false];exact⟨by simp only;omega,by simp only;omega,by simp only;omega,by simp only;omega,fun _=>⟨this.1,by simp only;omega⟩⟩
 ·simp only[if_true];split
  ·exact⟨by simp only;omega,by simp only;omega,by simp only;omega,by simp only;omega,fun h=>by simp at h⟩
  ·exact⟨by simp only;omega,by simp only;omega,by simp only;omega,by simp only;omega,fun h=>by simp at h⟩
theorem Zna{hi lo j:Nat}(hl:lo<2 ^ 64):(2 ^ 64*hi+lo).testBit j=if j<64 then lo.testBit j else hi.testBit (j-64):=Nat.testBit_two_pow_mul_add hi hl j
theorem ZkI{a:Zag}(h:Fits a)(n i:Nat)(hn:n≤wid a)(hi:i<wid a):bitN (Zje a n) i=(decide (i<n)&&bitN a i):=by
 have h1:=h.hi0;have h2:=h.hi1;have h3:=h.lo0;have h4:=h.lo1;unfold bitN;have hw:wid (Zje a n)=wid a:=by unfold wid;rw[Zjd]
 rw[hw];unfold wid at hn hi ⊢;unfold num Zje;cases hv:a.fV6
 ·simp only[hv,Bool.false_eq_true,if_false]at *
  rw[Int.toNat_natCast,ZxV];congr 1;rw[decide_eq_decide];omega
 ·simp only[hv,if_true]at *
  have hlo:a.fLo.toNat<2 ^ 64:=by omega
  by_cases h64:n≤64
  ·simp only[h64,if_true,Int.toNat_natCast];rw[Zna (by simp),Zna hlo];by_cases hj:128-1-i<64
   ·simp only[hj,if_true];rw[show (decide (i<n))=false by rw[decide_eq_false_iff_not];omega];simp
   ·simp only[hj,if_false];rw[ZxV];congr 1;rw[decide_eq_decide];omega
  ·simp only[h64,if_false,if_true,Int.toNat_natCast];rw[Zna (Nat.lt_of_le_of_lt (Nat.sub_le _ _) hlo),Zna hlo];by_cases hj:128-1-i<64
   ·simp only[hj,if_true];rw[ZxV];congr 1;rw[decide_eq_decide];omega
   ·simp only[hj,if_false];rw[show (decide (i<n))=true by rw[decide_eq_true_eq];omega];simp
theorem ZzJ{a:Zag}(h:Fits a)(hr:ZeR a=true)(n:Nat):ZeR (Zje a n)=true:=by
 have h1:=h.hi0;have h2:=h.hi1;have h3:=h.lo0;have h4:=h.lo1;unfold Zje;cases hv:a.fV6
 ·have:=h.v4 hv;have l3:a.fLo.toNat-a.fLo.toNat % 2 ^ (32-n)≤a.fLo.toNat:=Nat.sub_le _ _;simp[ZeR,this.1];omega
 ·simp only[if_true];split
  ·simp[ZeR]
  ·rename_i h64;unfold ZeR at hr ⊢;rw[hv]at hr;simp only[if_true,Bool.not_eq_true',Bool.and_eq_false_iff,decide_eq_false_iff_not]at hr ⊢;rcases hr with hr|hr
   ·exact .inl hr
   ·refine .inr fun e=>hr ?_;have e':(a.fLo.toNat-a.fLo.toNat % 2 ^ (128-n)) / 4294967296=65535:=by omega
    have hx:a.fLo.toNat-a.fLo.toNat % 2 ^ (128-n)=2 ^ (128-n)*(a.fLo.toNat / 2 ^ (128-n)):=by have:=Nat.div_add_mod a.fLo.toNat (2 ^ (128-n));omega
    rw[hx]at e';by_cases hk:128-n≤32
    ·have hp:(4294967296:Nat)=2 ^ (128-n) * 2 ^ (32-(128-n)):=by
      rw[←Nat.pow_add,show 128-n+(32-(128-n))=32 by omega]
     rw[hp,Nat.mul_div_mul_left _ _ (Nat.pow_pos (by omega)),Nat.div_div_eq_div_mul,←hp]at e';omega
    ·have hp:(2:Nat) ^ (128-n)=4294967296*(2 * 2 ^ (128-n-33)):=by
      rw[show (4294967296:Nat)*(2 * 2 ^ (128-n-33))=2 ^ 33 * 2 ^ (128-n-33)by omega,←Nat.pow_add];congr 1;omega
     rw[hp,Nat.mul_assoc,Nat.mul_div_cancel_left _ (by omega),Nat.mul_assoc]at e';omega
def ZgD(p:Zaq):Bool:=ZeR p.fAddr&&decide (0≤p.fBits)&&decide (p.fBits≤(wid p.fAddr:Int))&&decide (Zje p.fAddr p.fBits.toNat=p.fAddr)
structure RN (p:Zaq):Prop where
 ok:p.fAddr.ok
 right:ZeR p.fAddr=true
 nn:0≤p.fBits
 le:p.fBits≤(wid p.fAddr:Int)
 cut:Zje p.fAddr p.fBits.toNat=p.fAddr
theorem RN.fits{p:Zaq}(h:RN p):Fits p.fAddr:=Zps h.ok h.right
theorem ZrU{p:Zaq}(h:p.fAddr.ok):ZgD p=true↔RN p:=by
 unfold ZgD;simp only[Bool.and_eq_true,decide_eq_true_eq];exact⟨fun⟨⟨⟨a,b⟩,c⟩,d⟩=>⟨h,a,b,c,d⟩,fun⟨_,a,b,c,d⟩=>⟨⟨⟨a,b⟩,c⟩,d⟩⟩
theorem ZCd(a:Zag):ZeJ a=some (wid a:Int):=by
 unfold ZeJ wid;cases a.fV6<;>rfl
theorem ZBd(a:Zag)(h:a.ok)(n:Int):ZiQ a n=some (if ZeR a=true∧0≤n∧n≤(wid a:Int)then(⟨Zje a n.toNat,n⟩,true)else(⟨⟨false,0,0⟩,0⟩,false)):=by
 simp only[ZiQ,ZkT a h,ZCd,Option.bind_some,Zal];cases hr:ZeR a
 ·simp
 ·simp only[Bool.not_true,cond_false,true_and];by_cases h0:n<0
  ·rw[if_pos h0,if_neg (by omega)]
  ·rw[if_neg h0];by_cases h1:n>(wid a:Int)
   ·rw[if_pos h1,if_neg (by omega)]
   ·rw[if_neg h1,if_pos (by omega)];have:=ZBc h hr n.toNat (by omega);rw[Int.toNat_of_nonneg (by omega)]at this;rw[this];rfl
theorem ZjR(p:Zaq)(h:p.fAddr.ok):Zgt p=some (ZgD p):=by
 simp only[Zgt,ZBd _ h,Option.bind_some];unfold ZgD;split
 ·rename_i hh;simp only[cond_true,hh.1,hh.2.1,hh.2.2,decide_true,Bool.true_and,Option.some.injEq];rw[decide_eq_decide];obtain⟨x,n⟩:=p;simp
 ·rename_i hh;simp only[cond_false,Option.some.injEq];rw[eq_comm,Bool.eq_false_iff];intro hq;simp only[Bool.and_eq_true,decide_eq_true_eq]at hq;exact hh ⟨hq.1.1.1,hq.1.1.2,hq.1.2⟩
def bs(p:Zaq):List Bool:=(List.range p.fBits.toNat).map (bitN p.fAddr)
theorem ZDV(p:Zaq):(bs p).length=p.fBits.toNat:=by simp[bs]
theorem ZDW(p:Zaq)(i:Nat)(h:i<p.fBits.toNat):(bs p)[i]?=some (bitN p.fAddr i):=by simp[bs,h]
theorem ZAH{p:Zaq}(h:RN p)(i:Nat)(hi:i<wid p.fAddr)(hn:p.fBits.toNat≤i):bitN p.fAddr i=false:=by
 have h1:=ZkI h.fits p.fBits.toNat i (by have:=h.le;omega) hi;rw[h.cut]at h1;rw[h1];rw[show decide (i<p.fBits.toNat)=false by rw[decide_eq_false_iff_not];omega];rfl
theorem ZFg{p q:Zaq}(hp:RN p)(hq:RN q)(hv:p.fAddr.fV6=q.fAddr.fV6)(hb:bs p=bs q):p=q:=by
 have hw:wid p.fAddr=wid q.fAddr:=by unfold wid;rw[hv]
 have hn:p.fBits=q.fBits:=by
  have:=congrArg List.length hb;rw[ZDV,ZDV]at this;have:=hp.nn;have:=hq.nn;omega
 have ha:p.fAddr=q.fAddr:=by
  refine ZrG hp.fits hq.fits hv fun i hi=>?_;by_cases h:i<p.fBits.toNat
  ·have h1:=ZDW p i h;rw[hb,ZDW q i (by omega)]at h1;exact(Option.some.inj h1).symm
  ·rw[ZAH hp i hi (by omega),ZAH hq i (by omega) (by omega)]
 obtain⟨x,n⟩:=p;obtain⟨y,m⟩:=q;simp only at hn ha;rw[hn,ha]
theorem ZEl{a:Zag}(h:a.ok)(hr:ZeR a=true)(n:Nat)(hn:n≤wid a):RN ⟨Zje a n,(n:Int)⟩∧bs ⟨Zje a n,(n:Int)⟩=(List.range n).map (bitN a):=by
 have hf:=Zps h hr;have hw:wid (Zje a n)=wid a:=by unfold wid;rw[Zjd]
 refine⟨⟨(ZjK hf n).ok,ZzJ hf hr n,by simp only;omega,by simp only;omega,?_⟩,?_⟩
 ·simp only[Int.toNat_natCast];refine ZrG (ZjK (ZjK hf n) n) (ZjK hf n) (Zjd _ _) fun i hi=>?_;have hi:i<wid a:=by unfold wid at hi ⊢;rwa [Zjd,Zjd]at hi
  rw[ZkI (ZjK hf n) n i (by omega) (by omega),ZkI hf n i hn hi];cases decide (i<n)<;>simp
 ·unfold bs;simp only[Int.toNat_natCast];apply List.map_congr_left;intro i hi;have hi:i<n:=by simpa using hi
  rw[ZkI hf n i hn (by omega),show decide (i<n)=true by rw[decide_eq_true_eq];exact hi];rfl
theorem ZDQ(p:Zaq)(a:Zag)(hp:RN p)(ha:a.ok):ZiV p a=some (ZeR a&&decide (p.fAddr.fV6=a.fV6)&&decide (∀i,i<p.fBits.toNat→bitN a i=bitN p.fAddr i)):=by
 have hrc:=(ZrU hp.ok).2 hp;simp only[ZiV,ZjR p hp.ok,hrc,ZkT a ha,Option.bind_some,cond_true];cases hr:ZeR a
 ·rfl
 ·simp only[cond_true,Bool.true_and];by_cases hv:p.fAddr.fV6=a.fV6
  ·have hw:wid p.fAddr=wid a:=by unfold wid;rw[hv]
   have hm:=ZBc ha hr p.fBits.toNat (by have:=hp.le;omega);rw[Int.toNat_of_nonneg hp.nn]at hm;have hf:=Zps ha hr;rw[show (p.fAddr.fV6==a.fV6)=true by simp[hv],cond_true,hm,decide_eq_true hv];simp only[Option.bind_some,Bool.true_and,Option.some.injEq];rw[decide_eq_decide];have hle:p.fBits.toNat≤wid a:=by have:=hp.le;omega
   constructor
   ·intro e i hi;have h1:=ZkI hf p.fBits.toNat i hle (by omega);rw[e,decide_eq_true hi]at h1;simpa using h1.symm
   ·intro h;refine ZrG (ZjK hf _) hp.fits (by rw[Zjd];exact hv.symm) fun i hi=>?_;have hi:i<wid a:=by unfold wid at hi ⊢;rwa [Zjd]at hi
    rw[ZkI hf p.fBits.toNat i hle hi];by_cases hb:i<p.fBits.toNat
    ·rw[decide_eq_true hb,h i hb];rfl
    ·rw[decide_eq_false hb,ZAH hp i (by omega) (by omega)];rfl
  ·rw[show (p.fAddr.fV6==a.fV6)=false by simp[hv],cond_false,decide_eq_false hv];rfl
theorem ZqT(n k:Nat)(hk:k<64)(hn:n<2 ^ 64):IntKind.i64.wrap (IntKind.u64.wrap (((BitVec.ofInt (IntKind.bits .u64) (Int.fdiv (n:Int) (2 ^ (min ((k:Nat):Int).toNat (IntKind.bits .u64))))) &&& (BitVec.ofInt (IntKind.bits .u64) (1:Int))).toNat:Int))=if n.testBit k then 1 else 0:=by
 rw[Int.toNat_natCast,show min k (IntKind.bits .u64)=k from Nat.min_eq_left (by simp[IntKind.bits];omega)];have e:Int.fdiv (n:Int) (2 ^ k)=((n / 2 ^ k:Nat):Int):=by
  rw[Int.fdiv_eq_ediv_of_nonneg _ (by have:(0:Int)<2 ^ k:=Int.pow_pos (by omega);omega)];simp
 have h1:n / 2 ^ k<2 ^ 64:=Nat.lt_of_le_of_lt (Nat.div_le_self _ _) hn;rw[e,show (1:Int)=((1:Nat):Int)from rfl,ZoK _ 1 h1 (by omega),Nat.and_one_is_mod,Nat.testBit_eq_decide_div_mod_eq];have h2:n / 2 ^ k % 2<2:=Nat.mod_lt _ (by omega);have h3:IntKind.i64.wrap ((n / 2 ^ k % 2:Nat):Int)=((n / 2 ^ k % 2:Nat):Int):=by
  simp only[IntKind.wrap,IntKind.bits,IntKind.signed];simp;omega
 rw[h3];simp only[decide_eq_true_eq];split<;>omega
theorem ZCn{a:Zag}(h:Fits a)(i:Nat)(hi:i<wid a):ZgR a (i:Int)=some (if bitN a i then 1 else 0):=by
 have h1:=h.hi0;have h2:=h.hi1;have h3:=h.lo0;have h4:=h.lo1;obtain⟨v,hi',lo⟩:=a;obtain⟨p,hp⟩:=Zmq h.hi0;obtain⟨q,hq⟩:=Zmq h.lo0;simp only at hp hq h1 h2 h3 h4;subst hp hq;cases v with
 |false=>
  have hi:i<32:=hi;have hv:=h.v4 rfl;simp only at hv;have e:ZaR (ZaR (32:Int) 1) (i:Int)=((31-i:Nat):Int):=by rw[show ZaR (32:Int) 1=31 from rfl,Zds (by omega) (by omega)];omega
  simp only[ZgR,ZeJ,cond_false,Option.bind_some,Zal,e];rw[if_neg (by omega),if_neg (by omega),if_neg (by omega),Zax (by omega),ZqT q _ (by omega) (by omega)];rfl
 |true=>
  have hi:i<128:=hi;have e:ZaR (ZaR (128:Int) 1) (i:Int)=((127-i:Nat):Int):=by rw[show ZaR (128:Int) 1=127 from rfl,Zds (by omega) (by omega)];omega
  simp only[ZgR,ZeJ,cond_true,Option.bind_some,Zal,e];rw[if_neg (by omega),if_neg (by omega)];have hb:bitN ⟨true,(p:Int),(q:Int)⟩ i=if 127-i<64 then q.testBit (127-i)else p.testBit (127-i-64):=by
   unfold bitN num wid;simp only[if_true,Int.toNat_natCast];rw[Zna (by omega)]
  rw[hb];by_cases h64:i<64
  ·have e2:ZaR ((127-i:Nat):Int) 64=((127-i-64:Nat):Int):=by rw[Zds (by omega) (by omega)];omega
   rw[if_pos (by omega),e2,Zax (by omega),ZqT p _ (by omega) (by omega),if_neg (show ¬127-i<64 by omega)]
  ·rw[if_neg (by omega),Zax (by omega),ZqT q _ (by omega) (by omega),if_pos (show 127-i<64 by omega)]
theorem Zum{p:Zaq}(h:RN p)(i:Nat)(hi:i<wid p.fAddr):Zhx p (i:Int)=some (if bitN p.fAddr i then 1 else 0):=by
 simp only[Zhx,ZCn h.fits i hi,Option.bind_some]
def Len(z r:Nat):Prop:=z<2 ^ r∧(0<r→2 ^ (r-1)≤z)
theorem Zsr{z r:Nat}(k:Nat)(hz:2 ^ k≤z)(h:Len (z / 2 ^ k) r):Len z (r+k)∧0<r:=by
 have hk:0<2 ^ k:=Nat.pow_pos (by omega);have h1:1≤z / 2 ^ k:=(Nat.le_div_iff_mul_le hk).2 (by omega);have hr:0<r:=by
  rcases Nat.eq_zero_or_pos r with e|e
  ·subst e;have:=h.1;simp at this;omega
  ·exact e
 refine⟨⟨?_,fun _=>?_⟩,hr⟩
 ·rw[Nat.pow_add];exact(Nat.div_lt_iff_lt_mul hk).1 h.1
 ·have:=(Nat.le_div_iff_mul_le hk).1 (h.2 hr);rw[←Nat.pow_add]at this;rwa [show r+k-1=r-1+k by omega]
set_option maxRecDepth 100000 in
theorem ZFl:∃T:ByteArray,T.size=256∧(∀i:Fin 256,i.val<2 ^ ZjH T i.val∧(0<ZjH T i.val→2 ^ (ZjH T i.val-1)≤i.val)∧ZjH T i.val≤8)∧∀v0 v2:Int,Zei v0 v2 =
  bif(decide (v0≥(256:Int)))then
   need (0≤(IntKind.wrap .u8 (Int.fdiv v0 (2 ^ (min (8:Int).toNat (IntKind.bits .u64)))))∧(IntKind.wrap .u8 (Int.fdiv v0 (2 ^ (min (8:Int).toNat (IntKind.bits .u64)))))<((T.size:Nat):Int)) <|
   some (Zaw (Zaw v2 (8:Int)) (IntKind.wrap .i64 ((ZjH T (IntKind.wrap .u8 (Int.fdiv v0 (2 ^ (min (8:Int).toNat (IntKind.bits .u64))))).toNat:Nat):Int)))
  else
   need (0≤(IntKind.wrap .u8 v0)∧(IntKind.wrap .u8 v0)<((T.size:Nat):Int)) <|
   some (Zaw v2 (IntKind.wrap .i64 ((ZjH T (IntKind.wrap .u8 v0).toNat:Nat):Int))):=by
 refine⟨_,?_,?_,fun v0 v2=>rfl⟩
 ·rfl
 ·decide +kernel
theorem ZAs{a:Int}(h:0≤a)(h':a<256):IntKind.u8.wrap a=a:=by
 simp only[IntKind.wrap,IntKind.bits,IntKind.signed];simp;omega
theorem Zvt{a:Int}(h:0≤a)(h':a<256):IntKind.i64.wrap a=a:=by
 simp only[IntKind.wrap,IntKind.bits,IntKind.signed];simp;omega
theorem ZFn(z v:Nat)(hz:z<65536)(hv:v≤1000):∃r,Len z r∧r≤16∧Zei (z:Int) (v:Int)=some ((v+r:Nat):Int):=by
 obtain⟨T,hT,hi,he⟩:=ZFl;rw[he,Zal,hT];by_cases h:256≤z
 ·rw[if_pos (by omega)];have e:Int.fdiv (z:Int) (2 ^ (min (8:Int).toNat (IntKind.bits .u64)))=((z / 256:Nat):Int):=by
   rw[show (2:Int) ^ (min (8:Int).toNat (IntKind.bits .u64))=256 from rfl,Int.fdiv_eq_ediv_of_nonneg _ (by omega)];rfl
  obtain⟨h1,h2,h3⟩:=hi ⟨z / 256,by omega⟩;simp only at h1 h2 h3;rw[e,ZAs (by omega) (by omega),Zax (by omega),Int.toNat_natCast,Zvt (by omega) (by omega)];obtain⟨h4,h5⟩:=Zsr (z:=z) (r:=ZjH T (z / 256)) 8 (by omega) ⟨by rw[show (2:Nat) ^ 8=256 from rfl];exact h1,by rw[show (2:Nat) ^ 8=256 from rfl];exact h2⟩;refine⟨_,h4,by omega,?_⟩;rw[ZdP (a:=(v:Int)) (by omega) (by omega),ZdP (by omega) (by omega)];congr 1;omega
 ·rw[if_neg (by omega)];obtain⟨h1,h2,h3⟩:=hi ⟨z,by omega⟩;simp only at h1 h2 h3;rw[ZAs (by omega) (by omega),Zax (by omega),Int.toNat_natCast,Zvt (by omega) (by omega)];refine⟨_,⟨h1,h2⟩,by omega,?_⟩;rw[ZdP (by omega) (by omega)];congr 1
theorem ZFm(z v:Nat)(hz:z<4294967296)(hv:v≤900):∃r,Len z r∧r≤32∧Zej (z:Int) (v:Int)=some ((v+r:Nat):Int):=by
 simp only[Zej,Zal];by_cases h:65536≤z
 ·rw[if_pos (by omega)];have e:Int.fdiv (z:Int) (2 ^ (min (16:Int).toNat (IntKind.bits .u64)))=((z / 65536:Nat):Int):=by
   rw[show (2:Int) ^ (min (16:Int).toNat (IntKind.bits .u64))=65536 from rfl,Int.fdiv_eq_ediv_of_nonneg _ (by omega)];rfl
  rw[e,show Zaw (v:Int) 16=((v+16:Nat):Int)by rw[ZdP (by omega) (by omega)];omega];obtain⟨r,h1,h2,h3⟩:=ZFn (z / 65536) (v+16) (by omega) (by omega);obtain⟨h4,_⟩:=Zsr (z:=z) 16 (by omega) (by rw[show (2:Nat) ^ 16=65536 from rfl];exact h1);exact⟨r+16,h4,by omega,by rw[h3];congr 2;omega⟩
 ·rw[if_neg (by omega)];obtain⟨r,h1,h2,h3⟩:=ZFn z v (by omega) (by omega);exact⟨r,h1,by omega,h3⟩
theorem len64(z:Nat)(hz:z<2 ^ 64):∃r,Len z r∧r≤64∧ZgP (z:Int)=some ((r:Nat):Int):=by
 simp only[ZgP,Zal];by_cases h:4294967296≤z
 ·rw[if_pos (by omega)];have e:Int.fdiv (z:Int) (2 ^ (min (32:Int).toNat (IntKind.bits .u64)))=((z / 4294967296:Nat):Int):=by
   rw[show (2:Int) ^ (min (32:Int).toNat (IntKind.bits .u64))=4294967296 from rfl,Int.fdiv_eq_ediv_of_nonneg _ (by omega)];rfl
  rw[e];obtain⟨r,h1,h2,h3⟩:=ZFm (z / 4294967296) 32 (by omega) (by omega);obtain⟨h4,_⟩:=Zsr (z:=z) 32 (by omega) (by rw[show (2:Nat) ^ 32=4294967296 from rfl];exact h1);exact⟨r+32,h4,by omega,by rw[show (32:Int)=((32:Nat):Int)from rfl,h3];congr 2;omega⟩
 ·rw[if_neg (by omega)];obtain⟨r,h1,h2,h3⟩:=ZFm z 0 (by omega) (by omega);exact⟨r,h1,by omega,by rw[show (0:Int)=((0:Nat):Int)from rfl,h3];congr 2;omega⟩
theorem ZAq(a b:Nat)(ha:a<2 ^ 64)(hb:b<2 ^ 64):IntKind.u64.wrap (((BitVec.ofInt (IntKind.bits .u64) (a:Int)) ^^^ (BitVec.ofInt (IntKind.bits .u64) (b:Int))).toNat:Int)=((a ^^^ b:Nat):Int):=by
 have h1:∀c:Nat,c<2 ^ 64→(BitVec.ofInt 64 (c:Int)).toNat=c:=fun c hc=>by
  rw[BitVec.ofInt_natCast,BitVec.toNat_ofNat];exact Nat.mod_eq_of_lt hc
 have h2:((BitVec.ofInt (IntKind.bits .u64) (a:Int)) ^^^ (BitVec.ofInt (IntKind.bits .u64) (b:Int))).toNat=a ^^^ b:=by
  show (BitVec.ofInt 64 (a:Int) ^^^ BitVec.ofInt 64 (b:Int)).toNat=a ^^^ b;rw[BitVec.toNat_xor,h1 a ha,h1 b hb]
 rw[h2];have:a ^^^ b<2 ^ 64:=Nat.xor_lt_two_pow ha hb;exact Zox (by omega) (by omega)
theorem lead(a b:Nat)(ha:a<2 ^ 64)(hb:b<2 ^ 64):∃k,k≤64∧ZcI ((a ^^^ b:Nat):Int)=some ((k:Nat):Int)∧(∀j,64-k≤j→a.testBit j=b.testBit j)∧(k<64→a.testBit (63-k)≠b.testBit (63-k))∧(k=64↔a ^^^ b=0):=by
 have hx:a ^^^ b<2 ^ 64:=Nat.xor_lt_two_pow ha hb;obtain⟨r,h1,h2,h3⟩:=len64 (a ^^^ b) hx;refine⟨64-r,by omega,?_,fun j hj=>?_,fun hk=>?_,?_⟩
 ·simp only[ZcI,h3,Option.bind_some];rw[Zds (by omega) (by omega)];congr 1;omega
 ·have h4:(a ^^^ b).testBit j=false:=Nat.testBit_lt_two_pow (Nat.lt_of_lt_of_le h1.1 (Nat.pow_le_pow_right (by omega) (by omega)));rw[Nat.testBit_xor]at h4
  revert h4
  cases a.testBit j<;>cases b.testBit j<;>simp
 ·have h4:(a ^^^ b).testBit (r-1)=true:=by
   have h5:=h1.2 (by omega);have h6:a ^^^ b<2 ^ (r-1) * 2:=by rw[←Nat.pow_succ,show (r-1).succ=r by omega];exact h1.1
   rw[Nat.testBit_eq_decide_div_mod_eq,decide_eq_true_eq];have h7:(a ^^^ b) / 2 ^ (r-1)=1:=by
    have hp:0<2 ^ (r-1):=Nat.pow_pos (by omega);have:=(Nat.le_div_iff_mul_le hp).2 (show 1 * 2 ^ (r-1)≤a ^^^ b by omega);have:=(Nat.div_lt_iff_lt_mul hp).2 (show a ^^^ b<2 * 2 ^ (r-1)by omega);omega
   rw[h7]
  rw[show 63-(64-r)=r-1 by omega];rw[Nat.testBit_xor]at h4
  revert h4
  cases a.testBit (r-1)<;>cases b.testBit (r-1)<;>simp
 ·constructor
  ·intro e;have:r=0:=by omega
   subst this;have:=h1.1;simpa using this
  ·intro e;rw[e]at h1;rcases Nat.eq_zero_or_pos r with h|h
   ·omega
   ·have:=h1.2 h;have:0<2 ^ (r-1):=Nat.pow_pos (by omega);omega
theorem ZBO{p q:Zaq}(hp:RN p)(hq:RN q)(hv:p.fAddr.fV6=q.fAddr.fV6) :
  ∃k:Nat,Zjf p q=some (k:Int)∧k≤p.fBits.toNat∧k≤q.fBits.toNat∧(∀i,i<k→bitN p.fAddr i=bitN q.fAddr i)∧(k<p.fBits.toNat→k<q.fBits.toNat→bitN p.fAddr k≠bitN q.fAddr k):=by
 have fp:=hp.fits;have fq:=hq.fits;have a1:=fp.hi0;have a2:=fp.hi1;have a3:=fp.lo0;have a4:=fp.lo1;have b1:=fq.hi0;have b2:=fq.hi1;have b3:=fq.lo0;have b4:=fq.lo1;have n1:=hp.nn;have n2:=hq.nn;have l1:=hp.le;have l2:=hq.le;have v4p:=fp.v4;have v4q:=fq.v4;clear hp hq fp fq;obtain⟨⟨v,hi,lo⟩,n⟩:=p;obtain⟨⟨v',hi',lo'⟩,n'⟩:=q;simp only at hv a1 a2 a3 a4 b1 b2 b3 b4 n1 n2 v4p v4q;subst hv;obtain⟨x,rfl⟩:=Zmq a1;obtain⟨y,rfl⟩:=Zmq a3;obtain⟨x',rfl⟩:=Zmq b1;obtain⟨y',rfl⟩:=Zmq b3;obtain⟨n,rfl⟩:=Zmq n1;obtain⟨n',rfl⟩:=Zmq n2;have hmin:(if(n':Int)<(n:Int)then(n':Int)else(n:Int))=((min n n':Nat):Int):=by split<;>omega
 have hmn:∀k:Nat,(if((min n n':Nat):Int)<(k:Int)then((min n n':Nat):Int)else(k:Int))=((min k (min n n'):Nat):Int):=fun k=>by split<;>omega
 obtain⟨k1,c1,c2,c3,c4,c5⟩:=lead x x' (by omega) (by omega);obtain⟨k2,d1,d2,d3,d4,d5⟩:=lead y y' (by omega) (by omega);simp only[Zjf,ZAq x x' (by omega) (by omega),ZAq y y' (by omega) (by omega),c2,d2,Option.bind_some,hmin]
 -- what is to be shown of a number
 have fin:∀k:Nat,(∀i,i<k→i<wid ⟨v,x,y⟩→bitN ⟨v,x,y⟩ i=bitN ⟨v,x',y'⟩ i)→(k<wid ⟨v,x,y⟩→bitN ⟨v,x,y⟩ k≠bitN ⟨v,x',y'⟩ k) →
   (min k (min n n'))≤n∧(min k (min n n'))≤n'∧(∀i,i<min k (min n n')→bitN ⟨v,x,y⟩ i=bitN ⟨v,x',y'⟩ i)∧((min k (min n n'))<n→(min k (min n n'))<n'→bitN ⟨v,x,y⟩ (min k (min n n'))≠bitN ⟨v,x',y'⟩ (min k (min n n'))):=by
  intro k h1 h2;simp only at l1 l2;refine⟨by omega,by omega,fun i hi=>h1 i (by omega) (by omega),fun h3 h4=>?_⟩;have e:min k (min n n')=k:=by omega
  rw[e];exact h2 (by omega)
 cases v with
 |false=>
  have e1:=(v4p rfl).1;have e2:=(v4q rfl).1;have e3:=(v4p rfl).2;have e4:=(v4q rfl).2;have hx0:x ^^^ x'=0:=by rw[show x=x' by omega,Nat.xor_self]
  have hk2:32≤k2:=by
   rcases Nat.lt_or_ge k2 32 with h|h
   ·exfalso;apply d4 (by omega);rw[Nat.testBit_lt_two_pow (Nat.lt_of_lt_of_le (show y<2 ^ 32 by omega) (Nat.pow_le_pow_right (by omega) (by omega))),Nat.testBit_lt_two_pow (Nat.lt_of_lt_of_le (show y'<2 ^ 32 by omega) (Nat.pow_le_pow_right (by omega) (by omega)))]
   ·exact h
  rw[hx0,show (((0:Nat):Int)==0)=true from rfl,cond_true];have e5:ZaR (Zaw 64 (k2:Int)) (ZaR 128 32)=((k2-32:Nat):Int):=by
   rw[ZdP (by omega) (by omega),show ZaR (128:Int) 32=96 from rfl,Zds (by omega) (by omega)];omega
  simp only[Zfg,Bool.not_false,cond_true,ZeJ,cond_false,Option.bind_some,e5,hmn];refine⟨_,rfl,?_⟩;refine fin (k2-32) (fun i h1 h2=>?_) (fun h=>?_)
  ·have h2:i<32:=h2;show (y.testBit (32-1-i))=(y'.testBit (32-1-i));exact d3 _ (by omega)
  ·have h:k2-32<32:=h;show (y.testBit (32-1-(k2-32)))≠(y'.testBit (32-1-(k2-32)));rw[show 32-1-(k2-32)=63-k2 by omega];exact d4 (by omega)
 |true=>
  have hb:∀(x y:Nat),y<2 ^ 64→∀i,bitN ⟨true,(x:Int),(y:Int)⟩ i=if 127-i<64 then y.testBit (127-i)else x.testBit (127-i-64):=fun x y hy i=>by
   unfold bitN num wid;simp only[if_true,Int.toNat_natCast];rw[Zna (by omega)]
  by_cases hx:x ^^^ x'=0
  ·rw[hx,show (((0:Nat):Int)==0)=true from rfl,cond_true];have hxx:x=x':=by
    apply Nat.eq_of_testBit_eq;intro j;exact c3 j (by have:=c5.2 hx;omega)
   have e5:Zaw 64 (k2:Int)=((64+k2:Nat):Int):=by rw[ZdP (by omega) (by omega)];omega
   simp only[Zfg,Bool.not_true,cond_false,e5,hmn];refine⟨_,rfl,?_⟩;refine fin (64+k2) (fun i h1 h2=>?_) (fun h=>?_)
   ·have h2:i<128:=h2;rw[hb x y (by omega),hb x' y' (by omega),hxx];split
    ·exact d3 _ (by omega)
    ·rfl
   ·have h:64+k2<128:=h;rw[hb x y (by omega),hb x' y' (by omega),if_pos (by omega),if_pos (by omega)];rw[show 127-(64+k2)=63-k2 by omega];exact d4 (by omega)
  ·have hk:k1<64:=by
    rcases Nat.lt_or_ge k1 64 with h|h
    ·exact h
    ·exact absurd (c5.1 (by omega)) hx
   have hne:(((x ^^^ x':Nat):Int)==0)=false:=by
    rw[beq_eq_false_iff_ne];intro e;exact hx (by omega)
   rw[hne,cond_false];simp only[Zfg,Bool.not_true,cond_false,hmn];refine⟨_,rfl,?_⟩;refine fin k1 (fun i h1 h2=>?_) (fun h=>?_)
   ·rw[hb x y (by omega),hb x' y' (by omega),if_neg (by omega),if_neg (by omega)];exact c3 _ (by omega)
   ·rw[hb x y (by omega),hb x' y' (by omega),if_neg (by omega),if_neg (by omega)];rw[show 127-k1-64=63-k1 by omega];exact c4 hk
def Bel'(n:Nat)(f:Nat→Bool)(p:Zaq):Prop:=n≤p.fBits.toNat∧∀i,i<n→bitN p.fAddr i=f i
def ext'(p:Zaq)(b:Bool):Nat→Bool:=fun i=>if i<p.fBits.toNat then bitN p.fAddr i else b
theorem ZiR{p q:Zaq}{b:Bool}:Bel' (p.fBits.toNat+1) (ext' p b) q↔p.fBits.toNat<q.fBits.toNat∧(∀i,i<p.fBits.toNat→bitN q.fAddr i=bitN p.fAddr i)∧bitN q.fAddr p.fBits.toNat=b:=by
 unfold Bel' ext';constructor
 ·rintro ⟨h1,h2⟩;refine⟨by omega,fun i hi=>?_,?_⟩
  ·have:=h2 i (by omega);rwa [if_pos hi]at this
  ·have:=h2 p.fBits.toNat (by omega);rwa [if_neg (by omega)]at this
 ·rintro ⟨h1,h2,h3⟩;refine⟨by omega,fun i hi=>?_⟩;by_cases h:i<p.fBits.toNat
  ·rw[if_pos h];exact h2 i h
  ·rw[if_neg h,show i=p.fBits.toNat by omega];exact h3
def ZmQ(v:Bool):Zat→Nat→(Nat→Bool)→Prop | .nil,_,_=>True | .mk h has k0 k1,n,f=>RN h.fNet∧h.fNet.fAddr.fV6=v∧Bel' n f h.fNet∧ZmQ v k0 (h.fNet.fBits.toNat+1) (ext' h.fNet false)∧ZmQ v k1 (h.fNet.fBits.toNat+1) (ext' h.fNet true)
def Zbv:Zat→List Zau | .nil=>[] | .mk h has k0 k1=>(if has then[h]else[])++Zbv k0++Zbv k1
theorem ZbI{v:Bool}:∀{nd:Zat}{n:Nat}{f:Nat→Bool},ZmQ v nd n f→∀x∈Zbv nd,RN x.fNet∧x.fNet.fAddr.fV6=v∧Bel' n f x.fNet
 | .nil,_,_,_,x,hx=>by simp[Zbv]at hx
 | .mk h has k0 k1,n,f,hg,x,hx=>by
  obtain⟨g1,g2,g3,g4,g5⟩:=hg
  have kid:∀b,Bel' (h.fNet.fBits.toNat+1) (ext' h.fNet b) x.fNet→Bel' n f x.fNet:=fun b hb=>by
   obtain⟨b1,b2,_⟩:=ZiR.1 hb
   have:=g3.1
   exact⟨by omega,fun i hi=>by rw[b2 i (by omega)];exact g3.2 i hi⟩
  simp only[Zbv,List.mem_append]at hx
  rcases hx with (hx|hx)|hx
  ·split at hx
   ·rw[List.mem_singleton]at hx;rw[hx];exact⟨g1,g2,g3⟩
   ·simp at hx
  ·obtain⟨h1,h2,h3⟩:=ZbI g4 x hx
   exact⟨h1,h2,kid _ h3⟩
  ·obtain⟨h1,h2,h3⟩:=ZbI g5 x hx
   exact⟨h1,h2,kid _ h3⟩
theorem ZmQ.rebase{v:Bool}{nd:Zat}{n m:Nat}{f g:Nat→Bool}(h:ZmQ v nd n f)(hb:∀x has k0 k1,nd=.mk x has k0 k1→Bel' m g x.fNet):ZmQ v nd m g:=by
 cases nd with
 |nil=>trivial
 |mk x has k0 k1=>exact⟨h.1,h.2.1,hb x has k0 k1 rfl,h.2.2.2⟩
def ZkA(l:List Zau)(n:Zaq):Int×Bool:=match l.find? (fun x=>decide (x.fNet=n))with
 |some x=>(x.fV,true)
 |none=>(0,false)
theorem Zkl{l:List Zau}{n:Zaq}(h:∀x∈l,x.fNet≠n):l.find? (fun x=>decide (x.fNet=n))=none:=by
 rw[List.find?_eq_none];intro x hx;simpa using h x hx
theorem ZyO{v:Bool}{n:Zaq}(hn:RN n)(hv:n.fAddr.fV6=v):∀fu (nd:Zat) (m:Nat) (f:Nat→Bool),ZmQ v nd m f→n.fBits.toNat+1<fu+m →
  Zdc fu nd n=some (ZkA (Zbv nd) n)∨(n.fBits.toNat<m∧fu=0):=by
 intro fu;induction fu with
 |zero=>intro nd m f _ h;exact .inr ⟨by omega,rfl⟩
 |succ fu ih=>
  intro nd m f hg hf;refine .inl ?_;cases nd with
  |nil=>rfl
  |mk h has k0 k1=>
   obtain⟨g1,g2,g3,g4,g5⟩:=hg;have hw:wid h.fNet.fAddr=wid n.fAddr:=by unfold wid;rw[g2,hv]
   have b0:=fun x hx=>ZiR.1 (ZbI g4 x hx).2.2;have b1:=fun x hx=>ZiR.1 (ZbI g5 x hx).2.2;have hnn:=g1.nn;have hnn':=hn.nn;simp only[Zdc,Zal];by_cases hlt:h.fNet.fBits<n.fBits
   ·rw[if_pos hlt];have ht:=Zum hn h.fNet.fBits.toNat (by have:=hn.le;omega);rw[Int.toNat_of_nonneg hnn]at ht;rw[ht];have hh:∀x∈(if has then[h]else[]),x.fNet≠n:=fun x hx e=>by
     split at hx
     ·rw[List.mem_singleton]at hx;subst hx;rw[e]at hlt;omega
     ·simp at hx
    have gm:=g3.1;cases hb:bitN n.fAddr h.fNet.fBits.toNat with
    |false=>
     simp only[Bool.false_eq_true,if_false,Option.bind_some];rw[Zax (by omega)];have he:ZkA (Zbv (.mk h has k0 k1)) n=ZkA (Zbv k0) n:=by
      unfold ZkA;simp only[Zbv];rw[List.find?_append,List.find?_append,Zkl hh,Zkl (l:=Zbv k1) fun x hx e=>by have:=(b1 x hx).2.2;rw[e,hb]at this;cases this];simp
     rw[he];rcases ih k0 _ _ g4 (by omega)with h|h
     ·exact h
     ·omega
    |true=>
     simp only[if_true,Option.bind_some];rw[Zax (by omega)];have he:ZkA (Zbv (.mk h has k0 k1)) n=ZkA (Zbv k1) n:=by
      unfold ZkA;simp only[Zbv];rw[List.find?_append,List.find?_append,Zkl hh,Zkl (l:=Zbv k0) fun x hx e=>by have:=(b0 x hx).2.2;rw[e,hb]at this;cases this];simp
     rw[he];rcases ih k1 _ _ g5 (by omega)with h|h
     ·exact h
     ·omega
   ·rw[if_neg hlt];have he:ZkA (Zbv (.mk h has k0 k1)) n=ZkA (if has then[h]else[]) n:=by
     unfold ZkA;simp only[Zbv];rw[List.find?_append,List.find?_append,Zkl (l:=Zbv k0) fun x hx e=>by have:=(b0 x hx).1;rw[e]at this;omega,Zkl (l:=Zbv k1) fun x hx e=>by have:=(b1 x hx).1;rw[e]at this;omega];simp
    rw[he];cases has with
    |false=>rfl
    |true=>
     by_cases e:h.fNet=n
     ·simp[ZkA,e]
     ·simp[ZkA,e]
theorem Zvu{v:Bool}{hit:Zau}(hn:RN hit.fNet)(hv:hit.fNet.fAddr.fV6=v):∀fu (nd:Zat) (m:Nat) (f:Nat→Bool),ZmQ v nd m f→Bel' m f hit.fNet→hit.fNet.fBits.toNat+1<fu+m →
  ∃nd',ZeD fu nd hit=some nd'∧ZmQ v nd' m f∧∀x,x∈Zbv nd'↔x=hit∨(x∈Zbv nd∧x.fNet≠hit.fNet):=by
 intro fu;induction fu with
 |zero=>intro nd m f _ hb h;have:=hb.1;omega
 |succ fu ih=>
  intro nd m f hg hbel hf;cases nd with
  |nil=>exact⟨_,rfl,⟨hn,hv,hbel,trivial,trivial⟩,fun x=>by simp[Zbv]⟩
  |mk h has k0 k1=>
   have hg0:=hg;obtain⟨g1,g2,g3,g4,g5⟩:=hg;have hwd:wid h.fNet.fAddr=wid hit.fNet.fAddr:=by unfold wid;rw[g2,hv]
   have b0:=fun x hx=>ZiR.1 (ZbI g4 x hx).2.2;have b1:=fun x hx=>ZiR.1 (ZbI g5 x hx).2.2;have ball:∀x∈Zbv (.mk h has k0 k1),h.fNet.fBits.toNat≤x.fNet.fBits.toNat∧∀i,i<h.fNet.fBits.toNat→bitN x.fNet.fAddr i=bitN h.fNet.fAddr i:=fun x hx=>by
    simp only[Zbv,List.mem_append]at hx;rcases hx with (hx|hx)|hx
    ·split at hx
     ·rw[List.mem_singleton]at hx;rw[hx];exact⟨Nat.le_refl _,fun _ _=>rfl⟩
     ·simp at hx
    ·obtain⟨x1,x2,_⟩:=b0 x hx;exact⟨by omega,x2⟩
    ·obtain⟨x1,x2,_⟩:=b1 x hx;exact⟨by omega,x2⟩
   have n1:=g1.nn;have n2:=hn.nn;have l1:=g1.le;have l2:=hn.le;obtain⟨k,c1,c2,c3,c4,c5⟩:=ZBO g1 hn (g2.trans hv.symm);simp only[ZeD,c1,Option.bind_some,Zal];by_cases hk:k<h.fNet.fBits.toNat
   ·rw[if_pos (by omega)];have hbit:=Zum g1 k (by omega);by_cases hkh:k=hit.fNet.fBits.toNat
    ·-- the new one stands above
     have e:((k:Int)==hit.fNet.fBits)=true:=by rw[beq_iff_eq];omega
     have hne:∀x∈Zbv (.mk h has k0 k1),x.fNet≠hit.fNet:=fun x hx e=>by have:=(ball x hx).1;rw[e]at this;omega
     have hB:Bel' (hit.fNet.fBits.toNat+1) (ext' hit.fNet (bitN h.fNet.fAddr k)) h.fNet:=ZiR.2 ⟨by omega,fun i hi=>c4 i (by omega),by rw[←hkh]⟩;have hG:ZmQ v (.mk h has k0 k1) (hit.fNet.fBits.toNat+1) (ext' hit.fNet (bitN h.fNet.fAddr k)):=hg0.rebase fun x _ _ _ e=>by cases e;exact hB
     simp only[Zjg,e,cond_true,hbit,Option.bind_some];cases hb:bitN h.fNet.fAddr k with
     |false=>
      rw[hb]at hG;simp only[Bool.false_eq_true,if_false];rw[Zax (by omega)];refine⟨_,rfl,⟨hn,hv,hbel,hG,trivial⟩,fun x=>?_⟩;have:Zbv (.mk hit true (.mk h has k0 k1) .nil)=[hit]++Zbv (.mk h has k0 k1):=by simp[Zbv]
      rw[this,List.mem_append,List.mem_singleton];exact or_congr Iff.rfl ⟨fun hx=>⟨hx,hne x hx⟩,fun hx=>hx.1⟩
     |true=>
      rw[hb]at hG;simp only[if_true];rw[Zax (by omega)];refine⟨_,rfl,⟨hn,hv,hbel,trivial,hG⟩,fun x=>?_⟩;have:Zbv (.mk hit true .nil (.mk h has k0 k1))=[hit]++Zbv (.mk h has k0 k1):=by simp[Zbv]
      rw[this,List.mem_append,List.mem_singleton];exact or_congr Iff.rfl ⟨fun hx=>⟨hx,hne x hx⟩,fun hx=>hx.1⟩
    ·-- they part
     have hk2:k<hit.fNet.fBits.toNat:=by omega
     have e:((k:Int)==hit.fNet.fBits)=false:=by rw[beq_eq_false_iff_ne];omega
     have hdiff:=c5 hk hk2;have hne:∀x∈Zbv (.mk h has k0 k1),x.fNet≠hit.fNet:=fun x hx e=>hdiff (by rw[←(ball x hx).2 k hk,e]);obtain⟨r1,r2⟩:=ZEl hn.ok hn.right k (by omega);have hmk:ZiQ hit.fNet.fAddr (k:Int)=some (⟨Zje hit.fNet.fAddr k,(k:Int)⟩,true):=by
      rw[ZBd _ hn.ok,if_pos ⟨hn.right,by omega,by omega⟩,Int.toNat_natCast]
     have hkb:(⟨Zje hit.fNet.fAddr k,(k:Int)⟩ : Zaq).fBits.toNat=k:=Int.toNat_natCast k;have hpb:∀i,i<k→bitN (Zje hit.fNet.fAddr k) i=bitN hit.fNet.fAddr i:=fun i hi=>by
      rw[ZkI hn.fits k i (by omega) (by omega),decide_eq_true hi];rfl
     have hm:m≤k:=by
      rcases Nat.lt_or_ge k m with hh|hh
      ·exact absurd ((g3.2 k hh).trans (hbel.2 k hh).symm) hdiff
      ·exact hh
     have hP:Bel' m f ⟨Zje hit.fNet.fAddr k,(k:Int)⟩:=⟨by rw[hkb];exact hm,fun i hi=>by rw[hpb i (by omega)];exact hbel.2 i hi⟩;have hO:ZmQ v (.mk h has k0 k1) ((⟨Zje hit.fNet.fAddr k,(k:Int)⟩ : Zaq).fBits.toNat+1) (ext' ⟨Zje hit.fNet.fAddr k,(k:Int)⟩ (bitN h.fNet.fAddr k)):=hg0.rebase fun x _ _ _ e=>by
      cases e;exact ZiR.2 ⟨by rw[hkb];exact hk,fun i hi=>by rw[hkb]at hi;rw[hpb i hi];exact c4 i hi,by rw[hkb]⟩
     have hL:ZmQ v (.mk hit true .nil .nil) ((⟨Zje hit.fNet.fAddr k,(k:Int)⟩ : Zaq).fBits.toNat+1) (ext' ⟨Zje hit.fNet.fAddr k,(k:Int)⟩ (bitN hit.fNet.fAddr k)):=
      ⟨hn,hv,ZiR.2 ⟨by rw[hkb];exact hk2,fun i hi=>by rw[hkb]at hi;rw[hpb i hi],by rw[hkb]⟩,trivial,trivial⟩
     have hb2:=Zum hn k (by omega);simp only[Zjg,e,cond_false,hmk,hbit,hb2,Option.bind_some];cases hb:bitN h.fNet.fAddr k with
     |false=>
      have hb':bitN hit.fNet.fAddr k=true:=by
       cases hq:bitN hit.fNet.fAddr k
       ·rw[hb,hq]at hdiff;exact absurd rfl hdiff
       ·rfl
      rw[hb]at hO;rw[hb']at hL;simp only[hb',Bool.false_eq_true,if_false,if_true];rw[Zax (by omega)];have e1:∀(A B:Option Zat),ix2 0 A B=A:=fun _ _=>rfl;have e2:∀(A B:Option Zat),ix2 1 A B=B:=fun _ _=>rfl;rw[e1,Zax (by omega),e2];refine⟨_,rfl,⟨r1,by simp only[Zjd];exact hv,hP,hO,hL⟩,fun x=>?_⟩;have:Zbv (.mk ⟨⟨Zje hit.fNet.fAddr k,(k:Int)⟩,0⟩ false (.mk h has k0 k1) (.mk hit true .nil .nil))=Zbv (.mk h has k0 k1)++[hit]:=by simp[Zbv]
      rw[this,List.mem_append,List.mem_singleton,or_comm];exact or_congr Iff.rfl ⟨fun hx=>⟨hx,hne x hx⟩,fun hx=>hx.1⟩
     |true=>
      have hb':bitN hit.fNet.fAddr k=false:=by
       cases hq:bitN hit.fNet.fAddr k
       ·rfl
       ·rw[hb,hq]at hdiff;exact absurd rfl hdiff
      rw[hb]at hO;rw[hb']at hL;simp only[hb',Bool.false_eq_true,if_false,if_true];rw[Zax (by omega)];have e1:∀(A B:Option Zat),ix2 0 A B=A:=fun _ _=>rfl;have e2:∀(A B:Option Zat),ix2 1 A B=B:=fun _ _=>rfl;rw[e2,Zax (by omega),e1];refine⟨_,rfl,⟨r1,by simp only[Zjd];exact hv,hP,hL,hO⟩,fun x=>?_⟩;have:Zbv (.mk ⟨⟨Zje hit.fNet.fAddr k,(k:Int)⟩,0⟩ false (.mk hit true .nil .nil) (.mk h has k0 k1))=[hit]++Zbv (.mk h has k0 k1):=by simp[Zbv]
      rw[this,List.mem_append,List.mem_singleton];exact or_congr Iff.rfl ⟨fun hx=>⟨hx,hne x hx⟩,fun hx=>hx.1⟩
   ·rw[if_neg (by omega)];have hkh:k=h.fNet.fBits.toNat:=by omega
    by_cases hke:k=hit.fNet.fBits.toNat
    ·-- it is there
     have e:((k:Int)==hit.fNet.fBits)=true:=by rw[beq_iff_eq];omega
     have hpq:h.fNet=hit.fNet:=ZFg g1 hn (g2.trans hv.symm) (by
      unfold bs;rw[←hkh,←hke];apply List.map_congr_left;intro i hi;exact c4 i (by simpa using hi))
     rw[e,cond_true];refine⟨_,rfl,⟨hn,hv,hbel,by rw[←hpq];exact g4,by rw[←hpq];exact g5⟩,fun x=>?_⟩;have n0:x∈Zbv k0→x.fNet≠hit.fNet:=fun hx e=>by have:=(b0 x hx).1;rw[e]at this;omega
     have n1:x∈Zbv k1→x.fNet≠hit.fNet:=fun hx e=>by have:=(b1 x hx).1;rw[e]at this;omega
     simp only[Zbv,List.mem_append,if_true,List.mem_singleton];constructor
     ·rintro ((hx|hx)|hx)
      ·exact .inl hx
      ·exact .inr ⟨.inl (.inr hx),n0 hx⟩
      ·exact .inr ⟨.inr hx,n1 hx⟩
     ·rintro (hx|⟨(hx|hx)|hx,hne⟩)
      ·exact .inl (.inl hx)
      ·split at hx
       ·rw[List.mem_singleton]at hx;rw[hx]at hne;exact absurd hpq hne
       ·simp at hx
      ·exact .inl (.inr hx)
      ·exact .inr hx
    ·have e:((k:Int)==hit.fNet.fBits)=false:=by rw[beq_eq_false_iff_ne];omega
     have hbit:=Zum hn k (by omega);have hB:Bel' (h.fNet.fBits.toNat+1) (ext' h.fNet (bitN hit.fNet.fAddr k)) hit.fNet:=ZiR.2 ⟨by omega,fun i hi=>(c4 i (by omega)).symm,by rw[←hkh]⟩;have nh:∀x∈(if has then[h]else[]),x.fNet≠hit.fNet:=fun x hx e=>by
      split at hx
      ·rw[List.mem_singleton]at hx;rw[hx]at e;rw[e]at hkh;omega
      ·simp at hx
     have gm:=g3.1;simp only[e,cond_false,hbit,Option.bind_some];cases hb:bitN hit.fNet.fAddr k with
     |false=>
      rw[hb]at hB;simp only[Bool.false_eq_true,if_false];rw[Zax (by omega)];obtain⟨nd',w1,w2,w3⟩:=ih k0 _ _ g4 hB (by omega);have e1:∀(A B:Option Zat),ix2 0 A B=A:=fun _ _=>rfl;rw[e1,w1];refine⟨_,rfl,⟨g1,g2,g3,w2,g5⟩,fun x=>?_⟩;have n1:x∈Zbv k1→x.fNet≠hit.fNet:=fun hx e=>by have:=(b1 x hx).2.2;rw[e,←hkh,hb]at this;cases this
      simp only[Zbv,List.mem_append,w3];constructor
      ·rintro ((hx|hx|hx)|hx)
       ·exact .inr ⟨.inl (.inl hx),nh x hx⟩
       ·exact .inl hx
       ·exact .inr ⟨.inl (.inr hx.1),hx.2⟩
       ·exact .inr ⟨.inr hx,n1 hx⟩
      ·rintro (hx|⟨(hx|hx)|hx,hne⟩)
       ·exact .inl (.inr (.inl hx))
       ·exact .inl (.inl hx)
       ·exact .inl (.inr (.inr ⟨hx,hne⟩))
       ·exact .inr hx
     |true=>
      rw[hb]at hB;simp only[if_true];rw[Zax (by omega)];obtain⟨nd',w1,w2,w3⟩:=ih k1 _ _ g5 hB (by omega);have e2:∀(A B:Option Zat),ix2 1 A B=B:=fun _ _=>rfl;rw[e2,w1];refine⟨_,rfl,⟨g1,g2,g3,g4,w2⟩,fun x=>?_⟩;have n1:x∈Zbv k0→x.fNet≠hit.fNet:=fun hx e=>by have:=(b0 x hx).2.2;rw[e,←hkh,hb]at this;cases this
      simp only[Zbv,List.mem_append,w3];constructor
      ·rintro ((hx|hx)|hx|hx)
       ·exact .inr ⟨.inl (.inl hx),nh x hx⟩
       ·exact .inr ⟨.inl (.inr hx),n1 hx⟩
       ·exact .inl hx
       ·exact .inr ⟨.inr hx.1,hx.2⟩
      ·rintro (hx|⟨(hx|hx)|hx,hne⟩)
       ·exact .inr (.inl hx)
       ·exact .inl (.inl hx)
       ·exact .inl (.inr hx)
       ·exact .inr (.inr ⟨hx,hne⟩)
def cov(a:Zag)(x:Zau):Bool:=decide (∀i,i<x.fNet.fBits.toNat→bitN a i=bitN x.fNet.fAddr i)
theorem Zlp{α:Type}{p:α→Bool}{l:List α}(h:∀x∈l,p x=false):l.filter p=[]:=by
 rw[List.filter_eq_nil_iff];intro x hx;rw[h x hx];simp
theorem Zuf{v:Bool}{a:Zag}(ha:a.ok)(hr:ZeR a=true)(hv:a.fV6=v):∀fu (nd:Zat) (m:Nat) (f:Nat→Bool) (w:List Zau),ZmQ v nd m f→(∀i,i<m→i<wid a→bitN a i=f i)→m≤wid a+1→wid a+1<fu+m→w.length≤m →
  ZbB fu nd w a=some (w++(Zbv nd).filter (cov a)):=by
 have hwa:wid a≤128:=by unfold wid;split<;>omega
 intro fu;induction fu with
 |zero=>intro nd m f w _ _ _ h;omega
 |succ fu ih=>
  intro nd m f w hg hp hmw hf hl;cases nd with
  |nil=>simp[ZbB,Zbv]
  |mk h has k0 k1=>
   obtain⟨g1,g2,g3,g4,g5⟩:=hg;have hwd:wid h.fNet.fAddr=wid a:=by unfold wid;rw[g2,hv]
   have b0:=fun x hx=>ZiR.1 (ZbI g4 x hx).2.2;have b1:=fun x hx=>ZiR.1 (ZbI g5 x hx).2.2;have w0:=fun x hx=>(ZbI g4 x hx);have w1:=fun x hx=>(ZbI g5 x hx);have n1:=g1.nn;have l1:=g1.le;have gm:=g3.1;simp only[ZbB,ZDQ _ a g1 ha,hr,decide_eq_true (g2.trans hv.symm),Bool.true_and,Option.bind_some,Zal];by_cases hc:∀i,i<h.fNet.fBits.toNat→bitN a i=bitN h.fNet.fAddr i
   ·rw[if_pos hc];have hcov:cov a h=true:=by unfold cov;rw[decide_eq_true_eq];exact hc
    -- what lies below
    have hkid:∀w':List Zau,w'.length≤h.fNet.fBits.toNat+1→((ZgR a h.fNet.fBits).bind fun x6=>need (0≤x6∧x6<((2:Nat):Int))<|ix2 x6 (ZbB fu k0 w' a) (ZbB fu k1 w' a))=some (w'++((Zbv k0).filter (cov a)++(Zbv k1).filter (cov a))):=by
     intro w' hw';by_cases hb:h.fNet.fBits.toNat<wid a
     ·have ht:=ZCn (Zps ha hr) h.fNet.fBits.toNat hb;rw[Int.toNat_of_nonneg n1]at ht;rw[ht];cases hbit:bitN a h.fNet.fBits.toNat with
      |false=>
       simp only[Bool.false_eq_true,if_false,Option.bind_some];rw[Zax (by omega),show ∀(A B:Option (List Zau)),ix2 0 A B=A from fun _ _=>rfl];rw[ih k0 _ _ w' g4 (fun i hi hi'=>by
        unfold ext';by_cases h3:i<h.fNet.fBits.toNat
        ·rw[if_pos h3];exact hc i h3
        ·rw[if_neg h3,show i=h.fNet.fBits.toNat by omega];exact hbit) (by omega) (by omega) hw']
       rw[Zlp (l:=Zbv k1) fun x hx=>?_]
       ·simp
       ·unfold cov;rw[decide_eq_false_iff_not];intro hq;obtain⟨x1,x2,x3⟩:=b1 x hx;have:=hq _ x1;rw[hbit,x3]at this;cases this
      |true=>
       simp only[if_true,Option.bind_some];rw[Zax (by omega),show ∀(A B:Option (List Zau)),ix2 1 A B=B from fun _ _=>rfl];rw[ih k1 _ _ w' g5 (fun i hi hi'=>by
        unfold ext';by_cases h3:i<h.fNet.fBits.toNat
        ·rw[if_pos h3];exact hc i h3
        ·rw[if_neg h3,show i=h.fNet.fBits.toNat by omega];exact hbit) (by omega) (by omega) hw']
       rw[Zlp (l:=Zbv k0) fun x hx=>?_]
       ·simp
       ·unfold cov;rw[decide_eq_false_iff_not];intro hq;obtain⟨x1,x2,x3⟩:=b0 x hx;have:=hq _ x1;rw[hbit,x3]at this;cases this
     ·-- a whole address: nothing lies below
      have hno:∀(kid:Zat)(b:Bool),ZmQ v kid (h.fNet.fBits.toNat+1) (ext' h.fNet b)→kid=.nil:=fun kid b hgk=>by
       cases kid with
       |nil=>rfl
       |mk x hs q0 q1=>
        have h1:=hgk.2.2.1.1;have h2:=hgk.1.le;have h3:wid x.fNet.fAddr=wid a:=by unfold wid;rw[hgk.2.1,hv]
        omega
      rw[hno k0 _ g4,hno k1 _ g5];have hbits:ZgR a h.fNet.fBits=some 0:=by
       simp only[ZgR,ZCd,Option.bind_some,Zal];rw[if_neg (by omega),if_pos (by omega)]
      rw[hbits];simp only[Option.bind_some];rw[Zax (by omega),show ∀(A B:Option (List Zau)),ix2 0 A B=A from fun _ _=>rfl];have:=ih .nil (h.fNet.fBits.toNat+1) (ext' h.fNet false) w' trivial (fun i hi hi'=>by
        unfold ext';rw[if_pos (by omega)];exact hc i (by omega)) (by omega) (by omega) hw'
      rw[this];simp[Zbv]
    cases has with
    |true=>
     simp only[cond_true,Zbv,if_true];rw[Zax ⟨by simp;omega,by unfold maxLen;simp;omega⟩,hkid _ (by simp;omega)];simp[hcov]
    |false=>
     simp only[cond_false,Zbv,Bool.false_eq_true,if_false];rw[hkid _ (by omega)];simp
   ·rw[if_neg hc];rw[Zlp]
    ·simp
    ·intro x hx;unfold cov;rw[decide_eq_false_iff_not];intro hq;apply hc;intro i hi;simp only[Zbv,List.mem_append]at hx;rcases hx with (hx|hx)|hx
     ·split at hx
      ·rw[List.mem_singleton]at hx;rw[hx]at hq;exact hq i hi
      ·simp at hx
     ·obtain⟨x1,x2,_⟩:=b0 x hx;rw[hq i (by omega)];exact x2 i hi
     ·obtain⟨x1,x2,_⟩:=b1 x hx;rw[hq i (by omega)];exact x2 i hi
end Go.Proofs.YtdjfoojllbfcgaaGreat
