import Derived.Test.YtmnloegcpaahcaaGreatDPlZ
namespace Go.Proofs.YtmnloegcpaahcaaGreat
set_option linter.unusedVariables false
set_option linter.unusedSimpArgs false
set_option linter.unusedSectionVars false
def SrtE(l:List Zab):Prop:=l.Pairwise fun a b=>cmpE a.fEnd b.fEnd<0
theorem ZGM{l:List Zab}{e:Zab}(f:SrtE l)(g:Zjl l e.fEnd<0):SrtE (putS l e):=by
 unfold SrtE at f ⊢;rw[ZwC]at g
 .have bD:=List.takeWhile_append_dropWhile (p:=fun x:Zab=>!decide (0<cmpE x.fEnd e.fEnd)) (l:=l);have i:(l.takeWhile (fun x:Zab=>!decide (0<cmpE x.fEnd e.fEnd))++l.dropWhile (fun x:Zab=>!decide (0<cmpE x.fEnd e.fEnd))).Pairwise (fun a b=>cmpE a.fEnd b.fEnd<0):=by rw[bD];exact f
  obtain⟨p1,p2,p3⟩:=List.pairwise_append.1 i;have lo:∀x∈l.takeWhile (fun x:Zab=>!decide (0<cmpE x.fEnd e.fEnd)),cmpE x.fEnd e.fEnd<0:=by
   intro x hx;have fj:¬0<cmpE x.fEnd e.fEnd:=by simpa using(ZsR _ _ hx)
   have dm:cmpE x.fEnd e.fEnd≠0:=fun h=>g x (List.takeWhile_subset _ hx) (Zip.1 h);omega
  have j:∀x∈l.dropWhile (fun x:Zab=>!decide (0<cmpE x.fEnd e.fEnd)),cmpE e.fEnd x.fEnd<0:=by
   intro x hx;cases hd:l.dropWhile (fun x:Zab=>!decide (0<cmpE x.fEnd e.fEnd))with
   |nil=>rw[hd]at hx;cases hx
   |cons y r=>
    have n:0<cmpE y.fEnd e.fEnd:=by
     have:=List.head?_dropWhile_not (fun x:Zab=>!decide (0<cmpE x.fEnd e.fEnd)) l;rw[hd]at this;simpa using this
    rw[hd]at hx p2;have er:=ZhH.1 n;rcases List.mem_cons.1 hx with rfl|hx
    .exact er
    .exact ZmZ er ((List.pairwise_cons.1 p2).1 x hx)
  unfold putS;rw[List.append_assoc];refine List.pairwise_append.2 ⟨p1,List.pairwise_append.2 ⟨List.pairwise_singleton _ _,p2,fun a d b hb=>?_⟩,fun a d b hb=>?_⟩
  .rw[List.mem_singleton.1 d];exact j b hb
  .rcases List.mem_append.1 hb with hb|hb
   .rw[List.mem_singleton.1 hb];exact lo a d
   .exact p3 a d b hb
theorem ZGo{l:List Zab}{e:Zab}(h:SrtE l):SrtE (setS l e):=by
 unfold setS;split
 .rename_i o;obtain⟨k,p,hk2,⟨x,hx,lW⟩,_⟩:=ZnV _ l 0 o;have lW:x.fEnd=e.fEnd:=of_decide_eq_true lW;rw[show Zjl l e.fEnd=((0+k:Nat):Int)from hk2,Nat.zero_add,Int.toNat_natCast];have n:∀j:Nat,((l.set k e)[j]?).map Zab.fEnd=(l[j]?).map Zab.fEnd:=by
   intro j;rw[List.getElem?_set];split
   .rename_i ej;subst ej;rw[hx];simp[lW]
   .rfl
  refine List.pairwise_iff_getElem.2 fun i j b d hij=>?_
  .rw[List.length_set]at b d;have f:=n i;have g:=n j;rw[List.getElem?_eq_getElem (by rw[List.length_set];exact b),List.getElem?_eq_getElem b]at f;rw[List.getElem?_eq_getElem (by rw[List.length_set];exact d),List.getElem?_eq_getElem d]at g;simp only[Option.map_some,Option.some.injEq]at f g;rw[f,g];exact List.pairwise_iff_getElem.1 h i j b d hij
 .exact h
theorem ZIG{l:List Zab}(h:SrtE l)(b:Zab)(bw:Int):SrtE (addS l b bw).1:=by
 unfold addS;split
 .split
  .exact List.Pairwise.nil
  .rename_i d;split
   .exact List.Pairwise.nil
   .exact ZGM h (by omega)
 .exact List.Pairwise.nil
theorem ZIb(l:List Zaj)(e:Zab):(ZxG l e).fEnd=e.fEnd:=by
 unfold ZxG;split
 .split<;>rfl
 .rfl
theorem ZHY{l:List Zab}(h:SrtE l)(g:List Zaj):SrtE (l.map (ZxG g)):=by
 unfold SrtE at h ⊢;rw[List.pairwise_map];simp only[ZIb];exact h
structure c4 (N:Nat) (s:Zan):Prop where
 bans:∀b∈s.fBans,b.ok
 book:∀e∈s.fBook,e.ok
 peers:∀p∈s.fPeers,p.ok
 str:StrP s.fPeers
 n1:s.fBans.length<=N
 n2:s.fBook.length<=N
 n3:s.fPeers.length<=N
 srt:SrtE s.fBook
theorem c4.up{N:Nat}{s:Zan}(h:c4 N s):c4 (N+1) s:=⟨h.bans,h.book,h.peers,h.str,by have:=h.n1;omega,by have:=h.n2;omega,by have:=h.n3;omega,h.srt⟩
theorem Zqa(a:Int):okI .i64 (fitI a):=by
 have:=ZjA a;exact ZvY (by omega) (by omega)
theorem ZHa{x:Zas}(hx:x.ok):(ZJq x).ok:=⟨hx.2.1,trivial,Zqa _,⟨okZ,Zqa _,trivial⟩,okZ,okZ,trivial⟩
theorem ZFE{x:Zas}(hx:x.ok):(ZtM x).ok:=⟨hx.2.1,trivial,Zqa _,⟨okZ,Zqa _,trivial⟩,okZ,okZ,trivial⟩
theorem ZDF{x:Zas}(hx:x.ok):(newE x).ok:=⟨hx.2.1,rfl,rfl,Zqa _,trivial⟩
theorem ZGk{e:Zab}(b:e.ok)(k:Int)(d:okI .i64 k):(stE e k).ok:=⟨b.1,d,b.2.2.1,b.2.2.2.1,trivial⟩
theorem ZHA{e:Zab}(b:e.ok):(ZLQ e).ok:=⟨b.1,rfl,rfl,b.2.2.2.1,trivial⟩
theorem ZIa{e:Zab}(b:e.ok)(l:List Zaj):(ZxG l e).ok:=by
 unfold ZxG;split
 .split
  .exact⟨b.1,rfl,b.2.2.1,b.2.2.2.1,trivial⟩
  .exact b
 .exact b
theorem ZGQ{p:Zaa}(b:p.ok){n:Int}(d:okI .i64 n):(ZEX p n).ok/\(ZEX p n).fEnd=p.fEnd:=by
 unfold ZEX Znk;simp only[Zak,Zhe]
 repeat' split
 all_goals first|exact⟨b,rfl⟩|exact⟨⟨b.1,b.2.1,b.2.2.1,b.2.2.2.1,d,b.2.2.2.2.2.1,trivial⟩,rfl⟩
theorem ZGa{p:Zaa}(b:p.ok)(n:Int):(ZEC p n).ok/\(ZEC p n).fEnd=p.fEnd:=by
 unfold ZEC Zlb;rw[Zmc,ZaF];refine⟨⟨b.1,b.2.1,b.2.2.1,b.2.2.2.1,b.2.2.2.2.1,?_,trivial⟩,rfl⟩;show okI .i64 (if fitI n>p.fWork then fitI n else p.fWork);split
 .exact Zqa _
 .exact b.2.2.2.2.2.1
theorem ZJL(s:Zay)(h ae:Int):okI .i64 (decS s h ae).fAt:=by
 have b:=ZjA s.fAt;have d:=ZjA ae;have f:Ztd s h ae*(ZoG h).toNat<=(fitI ae-fitI s.fAt).toNat:=Nat.div_mul_le_self _ _;have e:(decS s h ae).fAt=fitI s.fAt+((Ztd s h ae*(ZoG h).toNat:Nat):Int):=rfl;rw[e];exact ZvY (by omega) (by omega)
theorem ZEB{p:Zaa}(b:p.ok)(c:Zav)(x:Zas):(ZvE c x p).ok:=by
 refine⟨b.1,b.2.1,b.2.2.1,⟨Zqa _,?_,trivial⟩,b.2.2.2.2.1,b.2.2.2.2.2.1,trivial⟩;exact ZJL _ _ _
theorem ZHH{e:Zab}(f:e.ok)(c:Zav)(ae r:Int):(ZAU c e ae r).ok/\(ZAU c e ae r).fEnd=e.fEnd:=by
 have h:=(ZHG c e ae r).1;unfold ZkE at h;obtain⟨t,b,h⟩:=Zad h;have g:=Option.some.inj h;unfold ZlX at b;obtain⟨x1,_,b⟩:=Zad b;obtain⟨x2,_,b⟩:=Zad b;obtain⟨x3,_,b⟩:=Zad b;obtain⟨x4,d,b⟩:=Zad b;have i:=Option.some.inj b;rw[(ZvH _ _).1]at d;have j:=Option.some.inj d;rw[<-g];refine⟨⟨f.1,rfl,?_,?_,trivial⟩,rfl⟩
 .show okI .i64 (Zaq (if(999:Int)<(if(0:Int)>e.fFails then(0:Int)else e.fFails)then(999:Int)else(if(0:Int)>e.fFails then(0:Int)else e.fFails)) (1:Int));rw[Zcm (by split<;>(try split)<;>omega) (by split<;>(try split)<;>omega)]
  exact ZvY (by split<;>(try split)<;>omega) (by split<;>(try split)<;>omega)
 .show okI .i64 t;rw[<-i,<-j];exact ZIE _ _
theorem ZEx{l:List Zac}(h:∀b∈l,b.ok){b:Zac}(hb:b.ok)(bw:Int):∀y∈(addB l b bw).1,y.ok:=by
 unfold addB;split
 .split
  .rename_i d;obtain⟨e,_⟩:=ZCu l b.fNet d;intro y hy;rcases List.mem_or_eq_of_mem_set hy with h2|h2
   .exact h y h2
   .rw[h2];exact ZKV (h _ (ZfL l _ _ e)) hb
  .split
   .intro y hy;cases hy
   .intro y hy;simp only[putB,List.mem_append,List.mem_singleton]at hy;rcases hy with (hy|hy)|hy
    .exact h y ((List.takeWhile_sublist _).mem hy)
    .rw[hy];exact hb
    .exact h y ((List.dropWhile_sublist _).mem hy)
 .intro y hy;cases hy
theorem ZHV{l:List Zac}(h:∀b∈l,b.ok)(n:Zae):∀y∈(ZFD l n).1,y.ok:=by
 unfold ZFD;split
 .intro y d;cases d
 .intro y d;rcases List.mem_append.1 d with h1|h1
  .exact h y (List.mem_of_mem_take h1)
  .exact h y (List.mem_of_mem_drop h1)
theorem ZJX{l:List Zab}(h:∀b∈l,b.ok){b:Zab}(hb:b.ok)(bw:Int):∀y∈(addS l b bw).1,y.ok:=by
 unfold addS;split
 .split
  .intro y d;cases d
  .split
   .intro y d;cases d
   .intro y d;rcases List.mem_cons.1 ((ZGN l b).mem_iff.1 d)with h1|h1
    .rw[h1];exact hb
    .exact h y h1
 .intro y d;cases d
def Zuc(c:Zav)(s:Zan):Zaj×Bool:=(ZhK s.fPeers c.fQuota c.fSecret).getD (endZ,false)
def ZzK(c:Zav)(s:Zan)(x:Zas):Zan×Zap:=if Zsa s.fBans x.fEnd.fAddr x.fNow>0 then(s,⟨8,endZ,0,Zsa s.fBans x.fEnd.fAddr x.fNow,[]⟩)else if ZmC s.fPeers x.fEnd>=0 then(s,Zvi 7)else if cntP s.fPeers true>=c.fMaxIn then if(Zuc c s).2=true then(⟨s.fBans,s.fBook,mrg (butK s.fPeers (ZmC s.fPeers (Zuc c s).1).toNat) [ZtM x]⟩,⟨0,(Zuc c s).1,1,0,[]⟩)else(s,Zvi 5)else(⟨s.fBans,s.fBook,mrg s.fPeers [ZtM x]⟩,repZ)
section
variable {c:Zav} {s:Zan} {x:Zas} {N:Nat} (hx:x.ok) (hI:c4 N s) (hN:N<=100)
include hx hI hN
theorem ZHX{e:Zaj}{k:Nat}(f:k<s.fPeers.length)(b:ZmC s.fPeers e=(k:Int)):ZfA s.fPeers e=some (butK s.fPeers k,0):=by
 have g:=hI.n3;have d:Zaq (k:Int) 1=((k+1:Nat):Int):=add1 (n:=k+1) (by omega) (by simp only[maxLen];omega);unfold ZfA;simp only[List.nil_append];rw[Zna _ _ (by unfold maxLen;omega),ZaF,b,Zak,if_neg (by omega),Zar ⟨by omega,by omega⟩,Int.toNat_natCast,Zar ⟨by simp;omega,by simp[maxLen];omega⟩,d,Zar ⟨by omega,by omega⟩,Int.toNat_natCast,Zar ⟨by simp;omega,by simp[maxLen];omega⟩];rfl
theorem ZGp{k:Nat}{y:Zaa}(d:k<s.fPeers.length)(b:ZmC s.fPeers y.fEnd=(k:Int)):ZeP s.fPeers y=some (s.fPeers.set k y):=by
 have e:=hI.n3;unfold ZeP;simp only[List.nil_append];rw[Zna _ _ (by unfold maxLen;omega),ZaF,b,Zak,if_neg (by omega),Zar ⟨by omega,by unfold maxLen;omega⟩,Zar ⟨by omega,by omega⟩,Int.toNat_natCast]
theorem ZHB(h:(Zuc c s).2=true):∃k:Nat,k<s.fPeers.length/\ZmC s.fPeers (Zuc c s).1=(k:Int)/\(s.fPeers.getD k Zaa.d).fEnd=(Zuc c s).1/\(s.fPeers.getD k Zaa.d).fIn=true:=by
 have u:=hI.n3;obtain⟨r,g,_,i⟩:=ZuJ s.fPeers c.fQuota c.fSecret (by omega) fun p j=>(hI.peers p j).1.1;have e:Zuc c s=r:=by unfold Zuc;rw[g];rfl
 rw[e]at h ⊢;obtain⟨p,p1,p2,p3⟩:=i h;have n:0<=ZmC s.fPeers r.1:=by
  by_cases o:ZmC s.fPeers r.1<0
  .exact absurd p2 (Zzq.1 o p p1)
  .omega
 obtain⟨k,b,t,f,_⟩:=Zzr n;refine⟨k,b,t,f,?_⟩;rw[hI.str.inj (ZfL _ _ k b) p1 (f.trans p2.symm)];exact p3
theorem ZDa:ZhK s.fPeers c.fQuota c.fSecret=some (Zuc c s)/\ZeC s.fPeers c.fQuota c.fSecret=some (Zuc c s):=by
 have g:=hI.n3;obtain⟨r,b,d,_⟩:=ZuJ s.fPeers c.fQuota c.fSecret (by omega) fun p f=>(hI.peers p f).1.1;have e:Zuc c s=r:=by unfold Zuc;rw[b];rfl
 rw[e];exact⟨b,d⟩
theorem ZDe{k:Nat}(b:k<s.fPeers.length):(butK s.fPeers k).length+1=s.fPeers.length:=by
 have:=(ZwX b).length_eq;simp only[List.length_cons]at this;omega
theorem ZFS:ZfS c s x=some (ZzK c s x):=by
 have i:=hI.n1;have j:=hI.n3;have en:Zed x.fEnd true x.fNow=some (ZtM x):=by unfold Zed;rw[ZkO];rfl
 unfold ZfS ZzK;rw[(ZqA s.fBans x.fEnd.fAddr x.fNow (by unfold maxLen;omega) hI.bans hx.2.1.1).2,ZaF,Zak];by_cases b:Zsa s.fBans x.fEnd.fAddr x.fNow>0
 .rw[if_pos b,if_pos b];rfl
 rw[if_neg b,if_neg b,Zna _ _ (by unfold maxLen;omega),ZaF,Zak];by_cases d:ZmC s.fPeers x.fEnd>=0
 .rw[if_pos d,if_pos d,no35,ZaF]
 rw[if_neg d,if_neg d,en,ZaF,ZvQ _ _ (by unfold maxLen;omega),ZaF,Zak];by_cases e:cntP s.fPeers true>=c.fMaxIn
 .rw[if_pos e,if_pos e,(ZDa hx hI hN).2,ZaF];cases h:(Zuc c s).2 with
  |false=>rw[Bool.not_false,cond_true,if_neg (by decide),no35,ZaF]
  |true=>
   obtain⟨k,f,g,_,_⟩:=ZHB hx hI hN (c:=c) h;have hb:=ZDe hx hI hN f;rw[Bool.not_true,cond_false,if_pos rfl,ZHX hx hI hN f g,ZaF,g,Int.toNat_natCast];show ((Zdw (butK s.fPeers k) (ZtM x)).bind fun x9=>_)=_;rw[ZyQ _ _ (ZyD (ZvF hI.str k)) (by omega),ZaF]
 .rw[if_neg e,if_neg e,ZyQ _ _ (ZyD hI.str) (by omega),ZaF];rfl
theorem ZFT:c4 (N+1) (ZzK c s x).1:=by
 have d:=hI.up;have r:=hI.n1;have t:=hI.n2;have g:=hI.n3;unfold ZzK;split
 .exact d
 split
 .exact d
 rename_i hnf;have hne:∀q∈s.fPeers,q.fEnd≠(ZtM x).fEnd:=Zzq.1 (show ZmC s.fPeers x.fEnd<0 by omega);have put:∀l:Prs,StrP l->l.length<=N->(∀q∈l,q.ok/\q.fEnd≠(ZtM x).fEnd)->c4 (N+1) ⟨s.fBans,s.fBook,mrg l [ZtM x]⟩:=fun l i hl ho=>by
  obtain⟨p1,p2⟩:=ZGi i fun q b=>(ho q b).2;refine⟨hI.bans,hI.book,fun p j=>?_,p1,by show s.fBans.length<=N+1;omega,by show s.fBook.length<=N+1;omega,?_,hI.srt⟩
  .rcases List.mem_cons.1 (p2.mem_iff.1 j)with h|h
   .rw[h];exact ZFE hx
   .exact(ho p h).1
  .show (mrg l [ZtM x]).length<=N+1;rw[p2.length_eq,List.length_cons];omega
 split
 .split
  .rename_i n;obtain⟨k,e,o,_,_⟩:=ZHB hx hI hN (c:=c) n;have hb:=ZDe hx hI hN e;rw[o,Int.toNat_natCast];refine put _ (ZvF hI.str k) (by omega) fun q b=>?_;have f:=(ZwX e).symm.mem_iff.1 (List.mem_cons_of_mem _ b);exact⟨hI.peers q f,hne q f⟩
  .exact d
 .exact put _ hI.str g fun q b=>⟨hI.peers q b,hne q b⟩
end
def Lt(N:Nat)(r:Option (Zan×Zap)):Prop:=∃y,r=some y/\c4 (N+1) y.1
section
variable {c:Zav} {s:Zan} {x:Zas} {N:Nat} (hx:x.ok) (hI:c4 N s) (hN:N<=100)
include hx hI hN
theorem Lt.same(r:Zap):Lt N (some (s,r)):=⟨_,rfl,hI.up⟩
theorem ZDQ{b:List Zab}(d:∀e∈b,e.ok)(f:b.length<=N+1)(g:SrtE b):c4 (N+1) ⟨s.fBans,b,s.fPeers⟩:=⟨hI.bans,d,hI.peers,hI.str,hI.up.n1,f,hI.up.n3,g⟩
theorem ZDR{b:List Zac}(d:∀e∈b,e.ok)(f:b.length<=N+1):c4 (N+1) ⟨b,s.fBook,s.fPeers⟩:=⟨d,hI.book,hI.peers,hI.str,f,hI.up.n2,hI.up.n3,hI.srt⟩
theorem ZBX{k:Nat}(b:k<s.fPeers.length){y:Zaa}(e:y.ok)(f:y.fEnd=(s.fPeers.getD k Zaa.d).fEnd):c4 (N+1) ⟨s.fBans,s.fBook,s.fPeers.set k y⟩:=by
 refine⟨hI.bans,hI.book,fun p g=>?_,hI.str.set b f,hI.up.n1,hI.up.n2,by show (s.fPeers.set k y).length<=N+1;rw[List.length_set];exact hI.up.n3,hI.srt⟩;rcases List.mem_or_eq_of_mem_set g with h|h
 .exact hI.peers p h
 .rw[h];exact e
theorem ZEg{bans:List Zac}(hb:(∀b∈bans,b.ok)/\bans.length<=N+1)(l:List Zaj){ps:Prs}(d:∀p∈ps,p∈s.fPeers)(f:StrP ps)(j:ps.length<=s.fPeers.length):c4 (N+1) ⟨bans,s.fBook.map (ZxG l),ps⟩:=by
 refine⟨hb.1,fun e g=>?_,fun p h=>hI.peers p (d p h),f,hb.2,by show (s.fBook.map (ZxG l)).length<=N+1;rw[List.length_map];exact hI.up.n2,by show ps.length<=N+1;have:=hI.n3;omega,ZHY hI.srt l⟩;obtain⟨y,i,rfl⟩:=List.mem_map.1 g;exact ZIa (hI.book y i) l
theorem Zub{bans:List Zac}(hb:(∀b∈bans,b.ok)/\bans.length<=N+1){kD:Zae}(e:kD.fAddr.ok):∃z,ZdB ⟨bans,s.fBook,s.fPeers⟩ kD=some z/\c4 (N+1) z.1:=by
 have n2:=hI.n2;have n3:=hI.n3;have az:∀p∈s.fPeers,p.fEnd.fAddr.ok:=fun p d=>(hI.peers p d).1.1;have g:=ZGZ s.fPeers kD true;have f:=ZGZ s.fPeers kD false;unfold ZdB;dsimp only;rw[ZDz _ _ _ e (by omega) az,ZaF,ZDz _ _ _ e (by omega) az,ZaF,ZLZ _ (by omega),ZaF,ZDv _ _ (by omega) (by simp[ZFC,maxLen];omega),ZaF];exact⟨_,rfl,ZEg hx hI hN hb _ (fun p d=>(List.mem_filter.1 d).1) (hI.str.filter _) f⟩
theorem ZCe:Lt N (Zgr c s x):=by
 have n2:=hI.n2;have n3:=hI.n3;unfold Zgr;rw[Zna _ _ (by unfold maxLen;omega),ZaF,Zak];by_cases g:ZmC s.fPeers x.fEnd<0
 .rw[if_pos g,no35,ZaF];exact Lt.same hx hI hN _
 obtain⟨k,b,e,h,_⟩:=Zzr (show 0<=ZmC s.fPeers x.fEnd by omega);have fU:=hI.peers _ (ZfL s.fPeers Zaa.d k b);have hb:=ZDe hx hI hN b;rw[if_neg g,Zhe,Zhe];by_cases i:x.fKind=2
 .rw[if_pos i,ZHX hx hI hN b e,ZaF,ZDv _ _ (by omega) (by simp[maxLen]),ZaF];exact⟨_,rfl,ZEg hx hI hN ⟨hI.bans,hI.up.n1⟩ _ (fun p j=>(ZwX b).symm.mem_iff.1 (List.mem_cons_of_mem _ j)) (ZvF hI.str k) (by show (butK s.fPeers k).length<=_;omega)⟩
 rw[if_neg i];by_cases e11:x.fKind=11
 .obtain⟨o1,f⟩:=ZGQ fU hx.2.2.2.2.1;rw[if_pos e11,Zar ⟨by omega,by omega⟩,e,Int.toNat_natCast,(ZJm _ _).2,ZaF,ZGp hx hI hN b (by rw[f,h];exact e),ZaF];exact⟨_,rfl,ZBX hx hI hN b o1 f⟩
 .obtain⟨o1,f⟩:=ZGa fU x.fNow;rw[if_neg e11,Zar ⟨by omega,by omega⟩,e,Int.toNat_natCast,(ZIJ _ _).2,ZaF,ZGp hx hI hN b (by rw[f,h];exact e),ZaF];exact⟨_,rfl,ZBX hx hI hN b o1 f⟩
theorem ZoH{e:Zab}(b:e.ok):c4 (N+1) ⟨s.fBans,setS s.fBook e,s.fPeers⟩:=ZDQ hx hI hN (ZKB hI.book b) (by rw[ZyG];exact hI.up.n2) (ZGo hI.srt)
theorem ZAf:Lt N (ZfR c s x):=by
 have n1:=hI.n1;have n2:=hI.n2;have n3:=hI.n3;have hlt:=Zuw s.fBook x.fEnd;unfold ZfR;rw[Zvj _ _ (by unfold maxLen;omega),ZaF,Zak];by_cases e:Zjl s.fBook x.fEnd<0
 .rw[if_pos e,no35,ZaF];exact Lt.same hx hI hN _
 have lX:(s.fBook.getD (Zjl s.fBook x.fEnd).toNat Zab.d).ok:=hI.book _ (ZfL _ _ _ (by omega));rw[if_neg e,Zar ⟨by omega,hlt⟩];cases g:((s.fBook.getD (Zjl s.fBook x.fEnd).toNat Zab.d).fState != 2)with
 |true=>rw[cond_true,no35,ZaF];exact Lt.same hx hI hN _
 |false=>
  obtain⟨f1,_⟩:=ZHH lX c x.fNow x.fNum;rw[cond_false,(ZqA s.fBans x.fEnd.fAddr x.fNow (by unfold maxLen;omega) hI.bans hx.2.1.1).2,ZaF,(ZHG c _ x.fNow x.fNum).2];cases i:x.fGood with
  |false=>
   rw[Bool.not_false,cond_true,ZaF,ZvN _ _ (by omega),ZaF,cond_false];exact⟨_,rfl,ZoH hx hI hN f1⟩
  |true=>
   rw[Bool.not_true,cond_false,Zak];by_cases f:Zsa s.fBans x.fEnd.fAddr x.fNow>0
   .rw[if_pos f,ZaF,ZvN _ _ (by omega),ZaF,cond_true];exact⟨_,rfl,ZoH hx hI hN f1⟩
   rw[if_neg f,Zna _ _ (by unfold maxLen;omega),ZaF,Zak];by_cases b:ZmC s.fPeers x.fEnd>=0
   .have ed:Zfa (s.fBook.getD (Zjl s.fBook x.fEnd).toNat Zab.d) 1=some (stE (s.fBook.getD (Zjl s.fBook x.fEnd).toNat Zab.d) 1):=rfl;rw[if_pos b,ed,ZaF,ZvN _ _ (by omega),ZaF,no35,ZaF];exact⟨_,rfl,ZoH hx hI hN (ZGk lX 1 rfl)⟩
   .have eg:ZiF (s.fBook.getD (Zjl s.fBook x.fEnd).toNat Zab.d)=some (ZLQ (s.fBook.getD (Zjl s.fBook x.fEnd).toNat Zab.d)):=rfl;have en:Zed x.fEnd false x.fNow=some (ZJq x):=by unfold Zed;rw[ZkO];rfl
    have hne:∀q∈s.fPeers,q.fEnd≠(ZJq x).fEnd:=Zzq.1 (show ZmC s.fPeers x.fEnd<0 by omega);obtain⟨p1,p2⟩:=ZGi hI.str hne;have hb:=ZoH hx hI hN (ZHA lX);rw[if_neg b,eg,ZaF,ZvN _ _ (by omega),ZaF,en,ZaF,ZyQ _ _ (ZyD hI.str) (by omega),ZaF];refine⟨_,rfl,hb.bans,hb.book,fun p b=>?_,p1,hb.n1,hb.n2,?_,hb.srt⟩
    .rcases List.mem_cons.1 (p2.mem_iff.1 b)with h|h
     .rw[h];exact ZHa hx
     .exact hI.peers p h
    .show (mrg s.fPeers [ZJq x]).length<=N+1;rw[p2.length_eq,List.length_cons];omega
theorem ZDf:Lt N (Zgs c s x):=by
 have n1:=hI.n1;have n2:=hI.n2;have n3:=hI.n3;have fD:(⟨Zxy x.fEnd.fAddr,addT x.fNow c.fBanFor⟩ : Zac).ok:=⟨ZDZ _ hx.2.1.1,ZIE _ _,trivial⟩;unfold Zgs;rw[Zna _ _ (by unfold maxLen;omega),ZaF,Zak];by_cases e:ZmC s.fPeers x.fEnd<0
 .rw[if_pos e,no35,ZaF];exact Lt.same hx hI hN _
 obtain⟨k,b,f,g,_⟩:=Zzr (show 0<=ZmC s.fPeers x.fEnd by omega);have fU:=hI.peers _ (ZfL s.fPeers Zaa.d k b);have iN:=ZII c x (s.fPeers.getD k Zaa.d);rw[if_neg e,Zar ⟨by omega,by omega⟩,f,Int.toNat_natCast,(ZKd x.fNum).2.1,ZaF,(ZIx c x _).2,ZaF,(ZEU _ _ iN.1 iN.2).2,ZaF];cases hin:ZAn (ZvE c x (s.fPeers.getD k Zaa.d)).fScore c.fLimit with
 |false=>
  rw[Bool.not_false,cond_true,(ZIK _).2,ZGp hx hI hN (y:=ZvE c x (s.fPeers.getD k Zaa.d)) b (show ZmC s.fPeers (s.fPeers.getD k Zaa.d).fEnd=(k:Int)by rw[g];exact f),ZaF,ZaF];exact⟨_,rfl,ZBX hx hI hN b (ZEB fU c x) rfl⟩
 |true=>
  have kE:=ZEy s.fBans ⟨Zxy x.fEnd.fAddr,addT x.fNow c.fBanFor⟩ c.fMaxBans;have j6:(Zxy x.fEnd.fAddr).fAddr.ok:=(ZDZ _ hx.2.1.1).1;rw[Bool.not_true,cond_false,ZJf _ hx.2.1.1,ZaF,(ZvH _ _).2,ZaF,ZDx _ _ _ (by omega) fD,ZaF];obtain⟨z1,h,i1⟩:=Zub hx hI hN (bans:=(addB s.fBans ⟨Zxy x.fEnd.fAddr,addT x.fNow c.fBanFor⟩ c.fMaxBans).1) ⟨ZEx hI.bans fD _,by omega⟩ j6;obtain⟨z2,i,i2⟩:=Zub hx hI hN (bans:=s.fBans) ⟨hI.bans,hI.up.n1⟩ j6;rw[h,ZaF];show Lt N (bif((addB s.fBans ⟨Zxy x.fEnd.fAddr,addT x.fNow c.fBanFor⟩ c.fMaxBans).2==0)then some (z1.1,_)else((ZdB ⟨s.fBans,s.fBook,s.fPeers⟩ (Zxy x.fEnd.fAddr)).bind fun x12=>_));rw[i,ZaF,Zhe];split
  .exact⟨_,rfl,i1⟩
  .exact⟨_,rfl,i2⟩
theorem ZFQ:Lt N (ZgT c s x):=by
 have n1:=hI.n1;unfold ZgT;rw[Zhe,Zhe,Zhe,Zak];split
 .split
  .rw[no35,ZaF];exact Lt.same hx hI hN _
  .have fD:(⟨x.fNet,x.fNum⟩ : Zac).ok:=⟨hx.2.2.1,hx.2.2.2.2.1,trivial⟩;have kE:=ZEy s.fBans ⟨x.fNet,x.fNum⟩ c.fMaxBans;obtain⟨z1,b,i1⟩:=Zub hx hI hN (bans:=(addB s.fBans ⟨x.fNet,x.fNum⟩ c.fMaxBans).1) ⟨ZEx hI.bans fD _,by omega⟩ hx.2.2.1.1;rw[ZDx _ _ _ (by omega) fD,ZaF,b,ZaF,no35,ZaF];cases((addB s.fBans ⟨x.fNet,x.fNum⟩ c.fMaxBans).2 != 0)with
   |true=>rw[cond_true];exact Lt.same hx hI hN _
   |false=>rw[cond_false];exact⟨_,rfl,i1⟩
 split
 .have kE:=ZHW s.fBans x.fNet;rw[ZGI _ _ (by omega),ZaF,no35,ZaF,ZaF,Zhe];split
  .exact⟨_,rfl,ZDR hx hI hN (ZHV hI.bans _) (by omega)⟩
  .exact Lt.same hx hI hN _
 split
 .rw[(ZqA s.fBans x.fEnd.fAddr x.fNow (by unfold maxLen;omega) hI.bans hx.2.1.1).2,ZaF];exact Lt.same hx hI hN _
 .have kE:=ZEI s.fBans x.fNow;rw[ZGC _ _ (by omega),ZaF];exact⟨_,rfl,ZDR hx hI hN (fun e d=>hI.bans e (List.mem_filter.1 d).1) (by show (ZoF s.fBans x.fNow).length<=N+1;omega)⟩
theorem Zzg:ZmH ⟨s.fBook,s.fPeers,s.fBans⟩:=⟨by show s.fBook.length<=900;have:=hI.n2;omega,by show s.fPeers.length<=900;have:=hI.n3;omega,by show s.fBans.length<=900;have:=hI.n1;omega,hI.book,hI.peers,hI.bans⟩
theorem ZFF:Lt N (ZgS c s x):=by
 have n1:=hI.n1;have n2:=hI.n2;have n3:=hI.n3;have b:=Zzg hx hI hN;unfold ZgS;rw[ZuL s (by omega) (by omega),ZaF,Zak];split
 .rw[no35,ZaF];exact Lt.same hx hI hN _
 obtain⟨_,d,f⟩:=ZGS b x.fNow;have g:=(ZGc b x.fNow).2;have eI:ZfC s.fBook s.fPeers s.fBans x.fNow=_:=d;have iG:ZfB s.fBook x.fNow=_:=g;rw[eI,ZaF,iG,ZaF];cases h:(Zes ⟨s.fBook,s.fPeers,s.fBans⟩ x.fNow).2 with
 |false=>rw[Bool.not_false,cond_true];exact Lt.same hx hI hN _
 |true=>
  have h0:=f h;have hlt:=Zuw s.fBook (Zes ⟨s.fBook,s.fPeers,s.fBans⟩ x.fNow).1;have ed:∀e,Zfa e 2=some (stE e 2):=fun e=>rfl;rw[Bool.not_true,cond_false,Zvj _ _ (by unfold maxLen;omega),ZaF,Zar ⟨h0,hlt⟩,ed,ZaF,ZvN _ _ (by omega),ZaF];exact⟨_,rfl,ZoH hx hI hN (ZGk (hI.book _ (ZfL _ _ _ (by have h0':0<=Zjl s.fBook (Zes ⟨s.fBook,s.fPeers,s.fBans⟩ x.fNow).1:=h0;omega))) 2 rfl)⟩
theorem Lt.fin{r:Option (Zan×Zap)}(h:Lt N r):Lt N (r.bind fun y=>some (y.1,y.2)):=by
 obtain⟨y,rfl,b⟩:=h;exact⟨y,rfl,b⟩
theorem ZJJ:Lt N (Zih c s x):=by
 have n2:=hI.n2;unfold Zih;rw[ZCa x hx,ZaF];cases d:ZlS x with
 |false=>rw[Bool.not_false,cond_true,no35,ZaF];exact Lt.same hx hI hN _
 |true=>
  have hb:=ZFQ hx hI hN (c:=c);rw[Bool.not_true,cond_false,ZFS hx hI hN];simp only[Zhe];split
  .exact⟨_,rfl,ZFT hx hI hN⟩
  split
  .exact Lt.fin hx hI hN (ZFF hx hI hN)
  split
  .exact Lt.fin hx hI hN (ZAf hx hI hN)
  split
  .exact Lt.fin hx hI hN (ZDf hx hI hN)
  have b:∀v:Bool,Lt N (Zdq x.fKind v c s x ⟨[],[],[]⟩ repZ):=fun v=>by
   unfold Zdq;cases v with
   |true=>rw[cond_true];exact Lt.fin hx hI hN hb
   |false=>
    rw[cond_false,Zhe,Zhe];split
    .exact Lt.same hx hI hN _
    split
    .have en:Zhz x.fEnd x.fNow=some (newE x):=by unfold Zhz;rw[ZkO];rfl
     have kE:=ZJY s.fBook (newE x) c.fMaxBook;rw[en,ZaF,ZKL _ _ _ (by omega) (ZDF hx),ZaF,no35,ZaF,ZaF,Zhe];split
     .exact⟨_,rfl,ZDQ hx hI hN (ZJX hI.book (ZDF hx) _) (by omega) (ZIG hI.srt _ _)⟩
     .exact Lt.same hx hI hN _
    .exact Lt.fin hx hI hN (ZCe hx hI hN)
  split
  .exact b _
  split
  .exact b _
  split
  .exact b _
  .exact b _
end
theorem ZJx:c4 0 ⟨[],[],[]⟩:=⟨fun b h=>(by cases h),fun b h=>(by cases h),fun b h=>(by cases h),List.Pairwise.nil,Nat.le_refl _,Nat.le_refl _,Nat.le_refl _,List.Pairwise.nil⟩
theorem ZBF(c:Zav)(l:List Zas)(hl:l.length<=60)(ho:∀x∈l,x.ok):∃s,ZfX c l=some s/\c4 61 s:=by
 have aA:∀(k i fu:Nat)(s s0:Zan),l.length-i=k->i<=l.length->k+1<=fu->c4 i s->∃t,Zcv l fu (i:Int) c s0 s=some t/\c4 61 t:=by
  intro k;induction k with
  |zero=>
   intro i fu s s0 b e f hI;obtain⟨fu,rfl⟩ : ∃x,fu=x+1:=⟨fu-1,by omega⟩;unfold Zcv;exact⟨s,by rw[Zak,if_neg (by omega)],⟨hI.bans,hI.book,hI.peers,hI.str,by have:=hI.n1;omega,by have:=hI.n2;omega,by have:=hI.n3;omega,hI.srt⟩⟩
  |succ k ih=>
   intro i fu s s0 b e f hI;obtain⟨fu,rfl⟩ : ∃x,fu=x+1:=⟨fu-1,by omega⟩;have g:Zaq (i:Int) 1=((i+1:Nat):Int):=add1 (n:=i+1) (by omega) (by simp only[maxLen];omega);have bt:i<l.length:=by omega
   obtain⟨y,h,iy⟩:=ZJJ (c:=c) (ho _ (ZfL l Zas.d i bt)) hI (by omega);unfold Zcv;rw[Zak,if_pos (by omega),Zar (by omega),Int.toNat_natCast,h,ZaF,g];exact ih (i+1) fu y.1 s0 (by omega) (by omega) (by omega) iy
 unfold ZfX;exact aA l.length 0 _ _ _ (by omega) (by omega) (by omega) ZJx
theorem Zvz:Zcz=some true:=by decide +kernel
theorem ZIw{l:List Zab}(h:SrtE l):∀{x y:Zab},x∈l->y∈l->x.fEnd=y.fEnd->x=y:=by
 unfold SrtE at h;induction h with
 |nil=>intro x y hx;cases hx
 |cons b _ ih=>
  intro x y hx hy e;rcases List.mem_cons.1 hx with hx|hx
  .rcases List.mem_cons.1 hy with hy|hy
   .rw[hx,hy]
   .have:=b y hy;rw[<-hx,Zip.2 e]at this;exact absurd this (by decide)
  .rcases List.mem_cons.1 hy with hy|hy
   .have:=b x hx;rw[<-hy,Zip.2 e.symm]at this;exact absurd this (by decide)
   .exact ih hx hy e
theorem ZFb{v:ZaB}(h:ZmH v)(e:Zaj)(b:e.ok)(ae:Int)(ho:ZrQ v e ae=true):Zsa v.fBans e.fAddr ae=0:=by
 have u1:=(ZqA v.fBans e.fAddr ae (by have:=h.bans;unfold maxLen;omega) h.bansOk b.1).1;have d:=Zsj v.fPeers v.fBook e.fAddr (by have:=h.peers;omega) (by have:=h.book;omega) h.peersOk h.bookOk b.1;have aA:Zdk v e ae=some (!conn v.fPeers e&&(Zsa v.fBans e.fAddr ae==0)&&ZHE v e.fAddr):=by
  simp only[Zdk,ZwQ v e (by have:=h.peers;unfold maxLen;omega),u1,d,Option.bind_some];cases conn v.fPeers e
  .simp only[Bool.not_false,cond_true,Bool.true_and];cases(Zsa v.fBans e.fAddr ae==(0:Int))
   .rfl
   .simp only[cond_true,Bool.true_and];rfl
  .rfl
 unfold ZrQ at ho;rw[aA]at ho;simp only[Option.getD_some,Bool.and_eq_true,Bool.not_eq_true',beq_iff_eq]at ho;exact ho.1.2
def vwO(s:Zan):ZaB:=⟨s.fBook,s.fPeers,s.fBans⟩
def ZFH(c:Zav)(s:Zan)(ae:Int):Zan×Zap:=if cntP s.fPeers false+Zny s.fBook 2>=c.fMaxOut then(s,Zvi 5)else if(Zes (vwO s) ae).2=true then(⟨s.fBans,setS s.fBook (stE (entA s.fBook (Zes (vwO s) ae).1) 2),s.fPeers⟩,⟨0,(Zes (vwO s) ae).1,0,0,[]⟩)else(s,⟨6,endZ,0,ZED (vwO s) ae,[]⟩)
section
variable {c:Zav} {s:Zan} {x:Zas} {N:Nat} (hx:x.ok) (hI:c4 N s) (hN:N<=100)
include hx hI hN
theorem ZIe:Zie ⟨c,s,x⟩=some ((ZFH c s x.fNow).2,⟨c,(ZFH c s x.fNow).1,x⟩):=by
 have n2:=hI.n2;have n3:=hI.n3;have b:ZmH (vwO s):=Zzg hx hI hN;have i:=ZIl s.fPeers false;have j:=List.countP_le_length (p:=fun x:Zab=>decide (x.fState=2)) (l:=s.fBook);have n:0<=Zny s.fBook 2/\Zny s.fBook 2<=100:=by unfold Zny;omega
 have ed:Zid s=some (cntP s.fPeers false+Zny s.fBook 2):=by
  unfold Zid;rw[ZBN _ _ (by unfold maxLen;omega),ZaF,ZFP _ _ (by unfold maxLen;omega),ZaF,Zcm (by omega) (by omega)]
 obtain⟨e,_,f⟩:=ZGS b x.fNow;have g:=(ZGc b x.fNow).1;unfold Zie ZFH;dsimp only;have eI:Zjx ⟨s.fBook,s.fPeers,s.fBans⟩ x.fNow=some (Zes (vwO s) x.fNow):=e;have iG:Zjw ⟨s.fBook,s.fPeers,s.fBans⟩ x.fNow=some (ZED (vwO s) x.fNow):=g;rw[ed,ZaF,Zak];by_cases ho:cntP s.fPeers false+Zny s.fBook 2>=c.fMaxOut
 .rw[if_pos ho,if_pos ho];rfl
 rw[if_neg ho,if_neg ho,eI,ZaF,iG,ZaF];cases h:(Zes (vwO s) x.fNow).2 with
 |false=>rw[Bool.not_false,cond_true,if_neg (by decide)];rfl
 |true=>
  have h0:0<=Zjl s.fBook (Zes (vwO s) x.fNow).1:=f h;have hlt:=Zuw s.fBook (Zes (vwO s) x.fNow).1;have ef:ZpH (s.fBook.getD (Zjl s.fBook (Zes (vwO s) x.fNow).1).toNat Zab.d)=some (stE (entA s.fBook (Zes (vwO s) x.fNow).1) 2):=rfl;rw[Bool.not_true,cond_false,if_pos rfl,ZBC _ _ (by unfold maxLen;omega),ZaF,Zar ⟨h0,hlt⟩,ef,ZaF,ZJR _ _ (by omega),ZaF]
theorem ZLl(b:x.fKind=3)(d:ZlS x=true):ZlK c s x=some (ZFH c s x.fNow):=by
 have e:(x.fKind==1)=false:=beq_false_of_ne (by omega);have f:(x.fKind==2)=false:=beq_false_of_ne (by omega);have g:(x.fKind==3)=true:=beq_iff_eq.2 b;unfold ZlK;rw[ZFN x hx,ZaF,d,Bool.not_true,cond_false];unfold Zld;dsimp only;rw[e,cond_false,f,cond_false,g,cond_true,ZIe hx hI hN,ZaF];rfl
end
theorem ZKN{v:ZaB}(h:ZmH v)(n:SrtE v.fBook)(ae:Int):((Zes v ae).2=true/\0<=Zjl v.fBook (Zes v ae).1/\(entA v.fBook (Zes v ae).1).fEnd=(Zes v ae).1/\entA v.fBook (Zes v ae).1∈v.fBook/\mayS v ae (entA v.fBook (Zes v ae).1)=true/\∀y∈v.fBook,mayS v ae y=true->(entA v.fBook (Zes v ae).1).fNext<=y.fNext) \/
  ((Zes v ae).2=false/\∀y∈v.fBook,mayS v ae y=false):=by
 obtain⟨e,ok,o,p⟩:=ZBl h ae;have r:=ZxU p;have t:Zes v ae=(e,ok):=by unfold Zes;rw[o];rfl
 rw[t];rcases r with⟨d,x,f,b,u,z⟩|⟨d,_,b⟩
 .have g:0<=Zjl v.fBook e:=by
   have:¬Zjl v.fBook e<0:=fun h=>ZwC.1 h x f b;omega
  obtain⟨i,j⟩:=ZJH g;have hx:entA v.fBook e=x:=ZIw n j f (i.trans b.symm);refine .inl ⟨d,g,i,j,by rw[hx];exact u,fun y A B=>?_⟩;have:=ZrF.1 (z y A B);show (entA v.fBook e).fNext<=y.fNext;rw[hx];omega
 .exact .inr ⟨d,b⟩
section
variable {c:Zav} {s:Zan} {N:Nat} (hI:c4 N s) (hN:N<=100) {ae:Int} (fE:okI .i64 ae) (h0:0<=ae/\ae<=1099511627776)
include hI hN fE h0
def ZLq(ae:Int):Zas:=⟨3,⟨⟨false,0,0⟩,0⟩,⟨⟨false,0,0⟩,0⟩,ae,0,false⟩
theorem ZEq:(ZLq ae).ok/\ZlS (ZLq ae)=true:=by
 refine⟨⟨rfl,⟨⟨trivial,rfl,rfl,trivial⟩,rfl,trivial⟩,⟨⟨trivial,rfl,rfl,trivial⟩,rfl,trivial⟩,fE,rfl,trivial,trivial⟩,?_⟩;unfold ZlS ZLq nowB inI;simp[h0.1,h0.2]
theorem ZzL(v9:Bool)(j7:Int)(kg:Bool->Int->Int->Zav->Zan->ZaB->Option Bool)(t:(Zes (vwO s) ae).2=true)(jp:0<=Zjl s.fBook (Zes (vwO s) ae).1/\(entA s.fBook (Zes (vwO s) ae).1).fEnd=(Zes (vwO s) ae).1/\entA s.fBook (Zes (vwO s) ae).1∈s.fBook/\mayS (vwO s) ae (entA s.fBook (Zes (vwO s) ae).1)=true) :
  ∀fu (i:Nat),(Zjl s.fBook (Zes (vwO s) ae).1).toNat+1-i<=fu->i<=(Zjl s.fBook (Zes (vwO s) ae).1).toNat->Zce ae v9 (entA s.fBook (Zes (vwO s) ae).1).fNext j7 c s (vwO s) kg fu (i:Int) ⟨s.fBans,setS s.fBook (stE (entA s.fBook (Zes (vwO s) ae).1) 2),s.fPeers⟩ ⟨0,(Zes (vwO s) ae).1,0,0,[]⟩=some true:=by
 have n1:=hI.n1;have n2:=hI.n2;have e:ZmH (vwO s):=Zzg (ZEq hI hN fE h0).1 hI hN;obtain⟨p1,p2,p3,p4⟩:=jp;obtain⟨k,f,u,⟨y,v,A⟩,g⟩:=ZnV (fun x:Zab=>decide (x.fEnd=(Zes (vwO s) ae).1)) s.fBook 0 p1;have b:Zjl s.fBook (Zes (vwO s) ae).1=(k:Int):=by unfold Zjl;omega
 rw[b,Int.toNat_natCast];have lY:s.fBook.getD k Zab.d=entA s.fBook (Zes (vwO s) ae).1:=by unfold entA;rw[b,Int.toNat_natCast]
 have hset:setS s.fBook (stE (entA s.fBook (Zes (vwO s) ae).1) 2)=s.fBook.set k (stE (entA s.fBook (Zes (vwO s) ae).1) 2):=by
  unfold setS;rw[show (stE (entA s.fBook (Zes (vwO s) ae).1) 2).fEnd=(Zes (vwO s) ae).1 from p2,if_pos p1,b,Int.toNat_natCast]
 intro fu;induction fu with
 |zero=>intro i h j;omega
 |succ fu ih=>
  intro i h j;have o:Zaq (i:Int) 1=((i+1:Nat):Int):=add1 (n:=i+1) (by omega) (by simp only[maxLen];omega);unfold Zce;rw[Zak,if_pos (by omega),Zar (by omega),Int.toNat_natCast];by_cases hik:i=k
  .subst hik;have ho:ZrQ (vwO s) (entA s.fBook (Zes (vwO s) ae).1).fEnd ae=true:=by
    unfold mayS at p4;rw[Bool.and_eq_true]at p4;exact p4.2
   have iI:=hI.book _ p3;have B:=ZFb e _ iI.1 ae ho;have hu2:Zcy s.fBans (entA s.fBook (Zes (vwO s) ae).1).fEnd.fAddr ae=some 0:=by
    rw[(ZqA s.fBans _ ae (by unfold maxLen;omega) hI.bans iI.1.1).2];congr 1
   have p:ZkG (vwO s) (entA s.fBook (Zes (vwO s) ae).1) ae=some true:=by
    rw[ZEh e _ iI ae];exact congrArg some p4
   have d1:decide ((entA s.fBook (Zes (vwO s) ae).1).fEnd=(Zes (vwO s) ae).1)=true:=decide_eq_true p2;have d2:decide ((i:Int)<(((setS s.fBook (stE (entA s.fBook (Zes (vwO s) ae).1) 2)).length:Nat):Int))=true:=decide_eq_true (by rw[ZyG];omega);have r:(setS s.fBook (stE (entA s.fBook (Zes (vwO s) ae).1) 2)).getD i Zab.d=stE (entA s.fBook (Zes (vwO s) ae).1) 2:=by rw[hset,ZIS _ _ f]
   have d3:decide ((stE (entA s.fBook (Zes (vwO s) ae).1) 2).fEnd=(entA s.fBook (Zes (vwO s) ae).1).fEnd)=true:=decide_eq_true rfl;rw[lY,d1,cond_true];show (bif((0:Int)==0)then _ else _)=_;rw[show ((0:Int)==0)=true from rfl,cond_true,p,ZaF,cond_true,beq_self_eq_true,cond_true,hu2,ZaF,show ((0:Int)==0)=true from rfl,cond_true,d2,cond_true,Zar ⟨by omega,by rw[ZyG];omega⟩];show (bif decide (((setS s.fBook (stE (entA s.fBook (Zes (vwO s) ae).1) 2)).getD i Zab.d).fEnd=(entA s.fBook (Zes (vwO s) ae).1).fEnd)then bif(((setS s.fBook (stE (entA s.fBook (Zes (vwO s) ae).1) 2)).getD i Zab.d).fState==2)then _ else _ else _)=_;rw[r,d3,cond_true];show (bif((2:Int)==2)then _ else _)=_;rw[show ((2:Int)==2)=true from rfl,cond_true,Zvz];rfl
  .obtain⟨z,z1,z2⟩:=g i (by omega);have hne:decide ((s.fBook.getD i Zab.d).fEnd=(Zes (vwO s) ae).1)=false:=by
    rw[List.getD_eq_getElem?_getD,z1];exact z2
   rw[hne,cond_false,o];exact ih (i+1) (by omega) (by omega)
theorem ZzM:∀fu (i:Nat) (v9:Bool) (fY:Int),i<=s.fBook.length->s.fBook.length-i<fu->(v9=false->∀y∈s.fBook.take i,mayS (vwO s) ae y=false)->(v9=true->(∃y∈s.fBook.take i,mayS (vwO s) ae y=true/\y.fNext=fY)/\∀y∈s.fBook.take i,mayS (vwO s) ae y=true->fY<=y.fNext) ->
  ZaY ae fu v9 fY (i:Int) c s (vwO s)=some true:=by
 have n1:=hI.n1;have n2:=hI.n2;have n3:=hI.n3;obtain⟨cok,cB⟩:=ZEq hI hN fE h0;have o:ZmH (vwO s):=Zzg cok hI hN;intro fu;induction fu with
 |zero=>intro i v9 fY C D;omega
 |succ fu ih=>
  intro i v9 fY E F bf fF;unfold ZaY;rw[Zak];by_cases hlt:i<s.fBook.length
  .have p:Zaq (i:Int) 1=((i+1:Nat):Int):=add1 (n:=i+1) (by omega) (by simp only[maxLen];omega);have r:=Zcn s.fBook Zab.d i hlt;have t:=List.take_succ_eq_append_getElem hlt;have u:ZkG (vwO s) (s.fBook.getD i Zab.d) ae=some (mayS (vwO s) ae (s.fBook.getD i Zab.d)):=ZEh o _ (hI.book _ (ZfL _ _ _ hlt)) ae;have mem:∀y,y∈s.fBook.take (i+1)↔y∈s.fBook.take i\/y=s.fBook.getD i Zab.d:=fun y=>by
    rw[t,List.mem_append,List.mem_singleton,r]
   rw[if_pos (by omega),Zar (by omega),Int.toNat_natCast,u,ZaF,p];cases hmy:mayS (vwO s) ae (s.fBook.getD i Zab.d)with
   |false=>
    rw[cond_false];refine ih (i+1) v9 fY (by omega) (by omega) (fun h y v=>?_) (fun h=>?_)
    .rcases(mem y).1 v with q|q
     .exact bf h y q
     .rw[q];exact hmy
    .obtain⟨⟨y,y1,y2,y3⟩,y4⟩:=fF h;refine⟨⟨y,(mem y).2 (.inl y1),y2,y3⟩,fun z b fZ=>?_⟩;rcases(mem z).1 b with q|q
     .exact y4 z q fZ
     .rw[q,hmy]at fZ;cases fZ
   |true=>
    rw[cond_true];cases v9 with
    |false=>
     rw[Bool.not_false,cond_true];refine ih (i+1) true _ (by omega) (by omega) (fun h=>by cases h) (fun _=>⟨⟨_,(mem _).2 (.inr rfl),hmy,rfl⟩,fun z b fZ=>?_⟩);rcases(mem z).1 b with q|q
     .rw[bf rfl z q]at fZ;cases fZ
     .rw[q];omega
    |true=>
     obtain⟨⟨y,y1,y2,y3⟩,y4⟩:=fF rfl;rw[Bool.not_true,cond_false,Zak];by_cases hl:(s.fBook.getD i Zab.d).fNext<fY
     .rw[if_pos hl];refine ih (i+1) true _ (by omega) (by omega) (fun h=>by cases h) (fun _=>⟨⟨_,(mem _).2 (.inr rfl),hmy,rfl⟩,fun z b fZ=>?_⟩);rcases(mem z).1 b with q|q
      .have:=y4 z q fZ;omega
      .rw[q];omega
     .rw[if_neg hl];refine ih (i+1) true _ (by omega) (by omega) (fun h=>by cases h) (fun _=>⟨⟨y,(mem y).2 (.inl y1),y2,y3⟩,fun z b fZ=>?_⟩);rcases(mem z).1 b with q|q
      .exact y4 z q fZ
      .rw[q];omega
  .have bt:s.fBook.take i=s.fBook:=List.take_of_length_le (by omega);rw[bt]at bf fF;have hdo:=ZLl (c:=c) cok hI hN rfl cB;have lZ:ZlK c s (Zas.mk 3 (Zaj.mk (Zah.mk false 0 0) 0) (Zae.mk (Zah.mk false 0 0) 0) ae 0 false)=some (ZFH c s ae):=hdo
   have hss:=Zxh s (by omega) (by omega) (by omega);rw[if_neg (by omega),lZ,ZaF,ZuL s (by omega) (by omega),ZaF,Zak];unfold ZFH;by_cases ho:cntP s.fPeers false+Zny s.fBook 2>=c.fMaxOut
   .rw[if_pos ho,if_pos ho];show (bif((5:Int)==5)then _ else _)=_;rw[show ((5:Int)==5)=true from rfl,cond_true,hss,ZaF,cond_true,Zvz];rfl
   rw[if_neg ho,if_neg ho];rcases ZKN o hI.srt ae with⟨e,g,A,j,f,B⟩|⟨e,g⟩
   .have l5:v9=true:=by
     cases v9 with
     |true=>rfl
     |false=>rw[bf rfl _ j]at f;cases f
    subst l5;obtain⟨⟨y,y1,y2,y3⟩,y4⟩:=fF rfl;have hle:(entA s.fBook (Zes (vwO s) ae).1).fNext=fY:=by
     have G:=B y y1 y2;have H:=y4 _ j f;have I:(entA (vwO s).fBook (Zes (vwO s) ae).1).fNext=(entA s.fBook (Zes (vwO s) ae).1).fNext:=rfl;omega
    have hlt2:=Zuw s.fBook (Zes (vwO s) ae).1;rw[if_pos e,Bool.not_true,cond_false,<-hle];exact ZzL hI hN fE h0 true _ _ e ⟨g,A,j,f⟩ 1000000 0 (by omega) (by omega)
   .have l5:v9=false:=by
     cases v9 with
     |false=>rfl
     |true=>
      obtain⟨⟨y,y1,y2,y3⟩,y4⟩:=fF rfl;rw[g y y1]at y2;cases y2
    subst l5;rw[if_neg (by rw[e];decide),Bool.not_false,cond_true];show (bif((6:Int)==6)then _ else _)=_;rw[show ((6:Int)==6)=true from rfl,cond_true,hss,ZaF,cond_true,Zvz];rfl
end
theorem Zve(c:Zav)(l:List Zas)(ae:Int)(f:c.ok)(hl:okL Zas.ok l)(hx:okI .i64 ae):ZfO c l ae=some true:=by
 unfold ZfO;rw[Zak,Zvz,ZaF];split
 .rfl
 obtain⟨b,hb⟩:=ZKG c;rw[hb,ZaF];cases b with
 |false=>rfl
 |true=>
  rw[Bool.not_true,cond_false,Zak,Zak];split
  .rfl
  split
  .rfl
  obtain⟨s,d,hI⟩:=ZBF c l (by omega) hl.2;have n2:=hI.n2;rw[d,ZaF];exact ZzM hI (by omega) hx ⟨by omega,by omega⟩ 1000000 0 false 0 (by omega) (by omega) (fun _ y e=>(by cases e)) (fun h=>by cases h)
end Go.Proofs.YtmnloegcpaahcaaGreat
