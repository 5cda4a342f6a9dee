import Derived.Test.YtdjfoojllbfcgaaGreatLPlMf
namespace Go.Proofs.YtdjfoojllbfcgaaGreat
set_option linter.unusedVariables false
set_option linter.unusedSimpArgs false
section
variable {inn out:Int} {bans:List Zab} {book:List Zac} {sh:List Zad} {n:Nat} {f:Nat→Zat} (hn1:1≤n) (hn8:n≤8) (hps:sh.length = n)
include hn1 hn8 hps
theorem ZxB(hi : -1000000≤inn∧inn≤1000000)(b:Int)(hb : -1000000≤b∧b≤1000000)(mark:Bool):Ex (Zrp 1 b mark 1000000) (memM inn out bans book sh n f) () (memM (inn+b) out bans book sh n f) 2 (bn mark):=by
 have h:=ZDp (inn:=inn) (out:=out) (bans:=bans) (book:=book) (f:=f) hn1 hn8 hps 1 (.inl rfl) (by rw[if_pos rfl];exact Zsy (by omega) (by omega)) b mark;rw[if_pos rfl,if_pos rfl,ZfP (by omega) (by omega)]at h;exact h
theorem ZuI(hi : -1000000≤out∧out≤1000000)(b:Int)(hb : -1000000≤b∧b≤1000000)(mark:Bool):Ex (Zrp 2 b mark 1000000) (memM inn out bans book sh n f) () (memM inn (out+b) bans book sh n f) 2 (bn mark):=by
 have h:=ZDp (inn:=inn) (out:=out) (bans:=bans) (book:=book) (f:=f) hn1 hn8 hps 2 (.inr rfl) (by rw[if_neg (by decide)];exact Zsy (by omega) (by omega)) b mark;rw[if_neg (by decide),if_neg (by decide),ZfP (by omega) (by omega)]at h;exact h
theorem ZDq(h1:book.length≤800)(h2:∀b∈book,b.ok)(gone:List Zag):Ex (ZCD gone) (memM inn out bans book sh n f) () (memM inn out bans (book.map (ZkC gone)) sh n f) 2 0:=by
 unfold ZCD;exact(ZyU hn1 hn8 hps h1 h2).seq (Zxz hn1 hn8 hps _ false) (by omega) rfl
theorem ZGe(h1:book.length≤800)(h2:∀b∈book,b.ok)(hi : -1000≤inn∧inn≤1000)(ho : -1000≤out∧out≤1000)(gone:Prs)(hg:gone.length≤1000) :
  Ex (ZEn gone) (memM inn out bans book sh n f) () (memM (inn-cntP gone true) (out-cntP gone false) bans (if cntP gone false>0 then book.map (ZkC (ZkB gone))else book) sh n f) 6 0:=by
 have c1:=Zlh gone true;have c2:=Zlh gone false;have hC:∀i2:Int,Ex (ZDc gone) (memM i2 out bans book sh n f) () (memM i2 (out-cntP gone false) bans (if cntP gone false>0 then book.map (ZkC (ZkB gone))else book) sh n f) 4 0:=fun i2=>by
  unfold ZDc;by_cases h:cntP gone false>0
  ·rw[if_pos h,if_pos h];refine(ZDq hn1 hn8 hps h1 h2 _).seq (s2:=2) (c2:=0) ?_ (by omega) rfl;have:=ZuI (inn:=i2) (out:=out) (bans:=bans) (book:=book.map (ZkC (ZkB gone))) (f:=f) hn1 hn8 hps (by omega) (-(cntP gone false)) (by omega) false;rw[show out + -(cntP gone false)=out-cntP gone false by omega]at this;exact this
  ·rw[if_neg h,if_neg h,show out-cntP gone false=out by omega];exact .ret _ _ _
 unfold ZEn;by_cases h:cntP gone true>0
 ·rw[if_pos h];have:=ZxB (inn:=inn) (out:=out) (bans:=bans) (book:=book) (f:=f) hn1 hn8 hps (by omega) (-(cntP gone true)) (by omega) false;rw[show inn + -(cntP gone true)=inn-cntP gone true by omega]at this;exact this.seq (hC _) (by omega) rfl
 ·rw[if_neg h,Pr.bind_ret,show inn-cntP gone true=inn by omega];exact(hC inn).more (by omega)
end
section
variable {c:ZaB} {s:Zap} {x:ZaA} (hx:x.ok) (hs:s.ok) (hR:RtS c s) (h20:s.fBans.length≤20∧s.fBook.length≤20∧s.fPeers.length≤20)
include hx hs h20 hR
theorem ZEY{k:Nat}(h1:k<s.fPeers.length)(h2:ZeP s.fPeers x.fEnd=(k:Int)):atP (bP c s x,ZeP (bP c s x) x.fEnd)=s.fPeers.getD k Zaa.d:=by
 obtain⟨k2,k',g1,g2,g3,g4,g5,g6⟩:=ZCm hx hs hR h20 (by omega);have:k2=k:=by omega
 subst this;unfold atP;simp only;rw[g5,Int.toNat_natCast,g6]
theorem ZDX{k k':Nat}(h1:k<s.fPeers.length)(h2:ZeP s.fPeers x.fEnd=(k:Int))(h3:(s.fPeers.getD k Zaa.d).fEnd=x.fEnd)(h4:k'<(bP c s x).length)(h5:ZeP (bP c s x) x.fEnd=(k':Int))(h6:(bP c s x).getD k' Zaa.d=s.fPeers.getD k Zaa.d) :
  Zlj (bP c s x) [x.fEnd]=butK (bP c s x) k'∧((((lP c s).set (iP c x) (Zlj (bP c s x) [x.fEnd],(bP c s x).drop (Zlj (bP c s x) [x.fEnd]).length)).map (·.1)).flatten).Perm (butK s.fPeers k):=by
 have _u:=h20;obtain⟨hi,hpt⟩:=Zjx (c:=c) hx;have e:=(ZCU (hR.peers.filter _) (l:=bP c s x) (e:=x.fEnd) h4 (by rw[h6];exact h3)).symm;refine⟨e,?_⟩;refine(Zmh hs.2.2.1.2 c.fSecret c.fShards hi _ _).1.trans ?_;rw[e];exact Zwp hs.2.2.1.2 c.fSecret c.fShards hi h1 h4 h6
theorem ZAV(hB:ZhD x=true)(hk:x.fKind=2){k:Nat}(h1:k<s.fPeers.length)(h2:ZeP s.fPeers x.fEnd=(k:Int)):ZaX c s x=some (⟨s.fBans,s.fBook.map (ZkC [x.fEnd]),butK s.fPeers k⟩,repZ):=by
 have _u:=hR;rw[ZmL hx hs h20 hB (by omega)];unfold Zcu;rw[Zij _ _ (by unfold maxLen;omega),ZaL,Zal,if_neg (by omega),Zco,if_pos hk,ZGC hx hs h20 h1 h2,ZaL,Zzh _ _ (by omega) (by simp[maxLen]),ZaL];rfl
theorem ZDm(hB:ZhD x=true)(hk:x.fKind=2):ZyS c s x (mP c s fL) (ZzD (pt c x) x.fEnd):=by
 have h8:=ZgO c.fShards;obtain⟨hi,hpt⟩:=Zjx (c:=c) hx;have ho:=ZtA hx hs h20 (c:=c) (s:=s) (f:=fL) rfl;have hn:=ZBR hx hs hR h20 (c:=c) (s:=s);have hcnt:=Zrk hs ⟨h20.2.1,h20.2.2⟩;rw[hpt];unfold ZzD;by_cases hno:ZeP s.fPeers x.fEnd<0
 ·refine ZvJ hx hs hR h20 hB (by omega) hno ?_;refine ho.seq (s2:=1) (c2:=1) ?_ (by omega) rfl;rw[if_pos (hn.2 hno)];exact ZyT hx hs hR h20 rfl
 have hno':¬ZeP (bP c s x) x.fEnd<0:=fun h=>hno (hn.1 h);obtain⟨k,k',h1,h2,h3,h4,h5,h6⟩:=ZCm hx hs hR h20 (c:=c) (by omega);have hat:=ZEY hx hs hR h20 (c:=c) h1 h2;obtain⟨hrest,hperm⟩:=ZDX hx hs hR h20 h1 h2 h3 h4 h5 h6;have hb:=Zxs c s x;have hrl:=Zwc (bP c s x) [x.fEnd];have hd:=ZAV hx hs hR h20 hB hk h1 h2;have hw:=fun f=>Ex_wr hx hs h20 (c:=c) (Zlj (bP c s x) [x.fEnd]) (by omega) f;have hshort:=ZuV (c:=c) (s:=s) (now:=Zlj (bP c s x) [x.fEnd]) (rest:=(bP c s x).drop (Zlj (bP c s x) [x.fEnd]).length) (by simp;omega) h20.2.2 (iP c x);have hps:(shP ((lP c s).set (iP c x) (Zlj (bP c s x) [x.fEnd],(bP c s x).drop (Zlj (bP c s x) [x.fEnd]).length))).length=ZcA c.fShards:=by rw[ZmQ,List.length_set];exact Zpt _ _ _ _
 have hbut:(butK s.fPeers k).length≤1000:=by unfold butK;simp;omega
 cases hin:(s.fPeers.getD k Zaa.d).fIn with
 |true=>
  have hbook:s.fBook.map (ZkC [x.fEnd])=s.fBook:=Zxf fun e he h3' hmem=>by
   rw[List.mem_singleton]at hmem;have hu:=(hR.up e he).1 h3';rw[hmem,h2,Int.toNat_natCast,hin]at hu;exact absurd hu.2 (by decide)
  rw[hbook]at hd;have c1:=Zto h1 true;have c2:=Zto h1 false;rw[hin]at c1 c2;simp only[oneI,show (true==true)=true from rfl,show (true==false)=false from rfl,if_true,Bool.false_eq_true,if_false]at c1 c2;refine⟨repZ,cntP s.fPeers true + -1,cntP s.fPeers false+Zen s.fBook 2,s.fBans,s.fBook,_,butK s.fPeers k,100,?_,by omega,hd,ZvR hR.peers k,hperm,hshort.1,hshort.2,by omega,by omega,by omega,by omega,hbut,Nat.zero_le _⟩;refine ho.seq (s2:=60) (c2:=1) ?_ (by omega) rfl;rw[if_neg hno',hat,hin,if_pos rfl,ZyJ];refine(hw _).seq (s2:=5) (c2:=1) ?_ (by omega) rfl;refine(ZxB h8.1 h8.2 hps (by omega) (-1) (by omega) true).seq (s2:=2) (c2:=0) ?_ (by omega) rfl;exact(Ziw h8.1 h8.2 hps (by omega) rfl false).seq (.ret _ _ 0) (by omega) rfl
 |false=>
  have c1:=Zto h1 true;have c2:=Zto h1 false;rw[hin]at c1 c2;simp only[oneI,show (false==true)=false from rfl,show (false==false)=true from rfl,if_true,Bool.false_eq_true,if_false]at c1 c2;have hcd:=Ztn s.fBook [x.fEnd];refine⟨repZ,cntP s.fPeers true,cntP s.fPeers false+Zen s.fBook 2 + -1,s.fBans,s.fBook.map (ZkC [x.fEnd]),_,butK s.fPeers k,200,?_,by omega,hd,ZvR hR.peers k,hperm,hshort.1,hshort.2,by omega,by omega,by omega,by rw[List.length_map];omega,hbut,Nat.zero_le _⟩;refine ho.seq (s2:=150) (c2:=1) ?_ (by omega) rfl;have h21:2+iP c x≠1:=by omega
  have hf1:updL fL 1 Zjw (2+iP c x)=Zkt:=by rw[ZxF _ _ h21];rfl
  have ho2:=ZtA hx hs h20 (c:=c) (s:=s) (f:=updL fL 1 Zjw) hf1;rw[if_neg hno',hat,hin,if_neg (by decide),ZyJ];refine(Ziw h8.1 h8.2 (ZpY c s) (by omega) rfl false).seq (s2:=140) (c2:=1) ?_ (by omega) rfl;refine(ZvK (k:=1) h8.1 h8.2 (ZpY c s) (by omega) rfl false).seq (s2:=130) (c2:=1) ?_ (by omega) rfl;have hq:Ex (Zzo (iP c x:Int) x.fEnd) (mP c s (updL fL 1 Zjw)) repZ (memM (cntP s.fPeers true) (cntP s.fPeers false+Zen s.fBook 2 + -1) s.fBans (s.fBook.map (ZkC [x.fEnd])) (shP ((lP c s).set (iP c x) (Zlj (bP c s x) [x.fEnd],(bP c s x).drop (Zlj (bP c s x) [x.fEnd]).length))) (ZcA c.fShards) (updL fL 1 Zjw)) 120 1:=by
   unfold Zzo;refine ho2.seq (s2:=60) (c2:=1) ?_ (by omega) rfl;rw[if_neg hno',hat,hin,if_neg (by decide),ZyJ];refine(hw _).seq (s2:=10) (c2:=1) ?_ (by omega) rfl;rw[Pr.bind_assoc];refine(ZDq h8.1 h8.2 hps (by omega) hs.2.1.2 [x.fEnd]).seq (s2:=5) (c2:=1) ?_ (by omega) rfl;refine(ZuI h8.1 h8.2 hps (by omega) (-1) (by omega) true).seq (s2:=2) (c2:=0) ?_ (by omega) rfl;exact(Ziw h8.1 h8.2 hps (by omega) hf1 false).seq (.ret _ _ 0) (by omega) rfl
  refine hq.seq (s2:=5) (c2:=0) ?_ (by omega) rfl;exact(Ziw (k:=1) h8.1 h8.2 hps (by omega) rfl false).seq (.ret _ _ 0) (by omega) rfl
omit hx hs hR h20 in
theorem ZGB(l:Prs)(hl:l.length≤1000000):ZfF l=some (ZkB l):=by
 have hL:l.length≤maxLen:=by unfold maxLen;omega
 have main:∀fu (i:Nat) w,i≤l.length→l.length-i<fu→w=ZkB (l.take i)→ZcW l fu (i:Int) w=some (ZkB l):=by
  intro fu;induction fu with
  |zero=>intro i w _ h;omega
  |succ fu ih=>
   intro i w hi hf hw;unfold ZcW;simp only[Zal];by_cases h:i<l.length
   ·have hwl:w.length≤1000000:=by rw[hw];unfold ZkB;simp;omega
    rw[if_pos (by omega),Zay ⟨by omega,by omega⟩,add1 h hL,Zay ⟨by simp;omega,by simp[maxLen];omega⟩];refine ih (i+1) _ (by omega) (by omega) ?_;rw[hw];unfold ZkB;rw[List.take_succ_eq_append_getElem h,List.map_append,Int.toNat_natCast,Zdk l _ i h];rfl
   ·rw[if_neg (by omega),hw];have:i=l.length:=by omega
    rw[this,List.take_length]
 exact main _ 0 [] (by omega) (by omega) rfl
omit hx in
theorem ZES(bans:List Zab)(net:Zas)(hn:net.fAddr.ok):Zdd ⟨bans,s.fBook,s.fPeers⟩ net=some (⟨bans,s.fBook.map (ZkC (ZkB (ofP s.fPeers net true))),ofP s.fPeers net false⟩,((ofP s.fPeers net true).length:Int)):=by
 have _u:=hR;have hok:∀p∈s.fPeers,p.fEnd.fAddr.ok:=fun p hp=>(hs.2.2.1.2 p hp).1.1;have h1:=ZqM s.fPeers net true;unfold Zdd;dsimp only;rw[Zzk _ _ _ hn (by omega) hok,ZaL,Zzk _ _ _ hn (by omega) hok,ZaL,ZGB _ (by omega),ZaL,Zzh _ _ (by omega) (by simp[ZkB,maxLen];omega),ZaL]
omit hs hR h20 in
theorem ZwP(hr:ZeR x.fEnd.fAddr=true){p:Zaa}(hp:p.fEnd.fAddr.ok)(h:hasS (Zgu x.fEnd.fAddr) p.fEnd.fAddr=true):ZkO c.fSecret c.fShards (iP c x) p=true:=by
 have e:=ZDW hx.2.1.1 hr hp h;have:=(Zjx (c:=c) hx).2;unfold ZkO;rw[decide_eq_true_eq,e];exact this
theorem ZCl(hr:ZeR x.fEnd.fAddr=true):ofP (bP c s x) (Zgu x.fEnd.fAddr) true=ofP s.fPeers (Zgu x.fEnd.fAddr) true∧Zlj (bP c s x) (ZkB (ofP (bP c s x) (Zgu x.fEnd.fAddr) true))=ofP (bP c s x) (Zgu x.fEnd.fAddr) false ∧
  (ofP (bP c s x) (Zgu x.fEnd.fAddr) false++ZFp c s x).Perm (ofP s.fPeers (Zgu x.fEnd.fAddr) false):=by
 have _u:=h20;have _v:=hR;have hok:∀p∈s.fPeers,p.fEnd.fAddr.ok:=fun p hp=>(hs.2.2.1.2 p hp).1.1;obtain⟨hi,hpt⟩:=Zjx (c:=c) hx;refine⟨?_,?_,?_⟩
 ·unfold ofP bP ZhC;rw[List.filter_filter];apply List.filter_congr;intro p hp;cases h:hasS (Zgu x.fEnd.fAddr) p.fEnd.fAddr with
  |false=>rfl
  |true=>rw[ZwP hx hr (hok p hp) h];rfl
 ·unfold Zlj;unfold ofP;apply List.filter_congr;intro p hp;rw[Bool.eq_iff_iff];simp only[Bool.not_eq_true',List.contains_eq_mem,decide_eq_false_iff_not,ZkB,List.mem_map,List.mem_filter,beq_iff_eq];constructor
  ·intro h;cases hh:hasS (Zgu x.fEnd.fAddr) p.fEnd.fAddr with
   |false=>rfl
   |true=>exact absurd ⟨p,⟨hp,hh⟩,rfl⟩ h
  ·rintro h ⟨g,⟨_,h2⟩,h3⟩;rw[h3,h]at h2;cases h2
 ·have hp:=(Zmh hs.2.2.1.2 c.fSecret c.fShards hi [] []).2;have hf:=hp.filter fun p=>hasS (Zgu x.fEnd.fAddr) p.fEnd.fAddr==false;rw[List.filter_append]at hf;have e:(Zkl ((ps0 s.fPeers c.fSecret c.fShards (ZcA c.fShards)).map (·.1)) (iP c x)).filter (fun p=>hasS (Zgu x.fEnd.fAddr) p.fEnd.fAddr==false)=ZFp c s x:=by
   unfold ZFp lP;rw[List.filter_eq_self];intro p hp2;have h1:=ZxV hp2;have h2:p∈s.fPeers:=hp.symm.subset (List.mem_append_right _ hp2);cases hh:hasS (Zgu x.fEnd.fAddr) p.fEnd.fAddr with
   |false=>rfl
   |true=>
    have:=ZwP (c:=c) hx hr (hok p h2) hh;unfold ZkO at this;rw[decide_eq_true_eq]at this;exact absurd this h1
  rw[e]at hf;exact hf.symm
omit hx hs hR h20 in
theorem ZEW(l:Prs)(n:Zas)(t:Bool):cntP l t=cntP (ofP l n true) t+cntP (ofP l n false) t:=by
 rw[←ZEd];apply Ztp;unfold ofP;have h:=ZsZ (fun p:Zaa=>hasS n p.fEnd.fAddr==true) (fun p=>hasS n p.fEnd.fAddr==false) l fun p _ h=>by
  rw[beq_iff_eq]at h;rw[h];rfl
 have e:(l.filter fun p=>(hasS n p.fEnd.fAddr==true)||(hasS n p.fEnd.fAddr==false))=l:=by
  rw[List.filter_eq_self];intro p _;cases hasS n p.fEnd.fAddr<;>rfl
 rw[e]at h;exact h.symm
theorem ZDn(hB:ZhD x=true)(hk:x.fKind=5):ZyS c s x (mP c s fL) (ZzW (pt c x) c x):=by
 have h8:=ZgO c.fShards;obtain⟨hi,hpt⟩:=Zjx (c:=c) hx;have ho:=ZtA hx hs h20 (c:=c) (s:=s) (f:=fL) rfl;have hn:=ZBR hx hs hR h20 (c:=c) (s:=s);have hcnt:=Zrk hs ⟨h20.2.1,h20.2.2⟩;have hr:ZeR x.fEnd.fAddr=true:=by
  unfold ZhD at hB;rw[if_neg (by omega),if_neg (by omega),if_neg (by omega),if_neg (by omega),if_pos hk]at hB;simp only[ZjQ,Bool.and_eq_true]at hB;exact hB.1.1.1
 have fin2:∀r:Option (Zap×Zaq),(r.bind fun y=>some (y.1,y.2))=r:=fun r=>by cases r<;>rfl
 have hDo:ZaX c s x=Zdq c s x:=by
  unfold ZaX;rw[ZmR x hx,ZaL,hB,Bool.not_true,cond_false,Zco,if_neg (by omega),Zco,if_neg (by omega),Zco,if_neg (by omega),Zco,if_pos hk,fin2]
 rw[hpt];unfold ZzW;by_cases hno:ZeP s.fPeers x.fEnd<0
 ·refine ZvJ hx hs hR h20 hB (by omega) hno ?_;refine ho.seq (s2:=1) (c2:=1) ?_ (by omega) rfl;rw[if_pos (hn.2 hno)];exact ZyT hx hs hR h20 rfl
 have hno':¬ZeP (bP c s x) x.fEnd<0:=fun h=>hno (hn.1 h);obtain⟨k,k',h1,h2,h3,h4,h5,h6⟩:=ZCm hx hs hR h20 (c:=c) (by omega);have hat:=ZEY hx hs hR h20 (c:=c) h1 h2;have hw1:=ZyX c x (s.fPeers.getD k Zaa.d);have hbl:Zdq c s x=(bif(!ZnA (Zih c x (s.fPeers.getD k Zaa.d)).fScore c.fLimit)then
   (ZcY s.fPeers (Zih c x (s.fPeers.getD k Zaa.d))).bind fun x6=>some ((⟨s.fBans,s.fBook,x6⟩ : Zap),(⟨0,endZ,Zsa (Zih c x (s.fPeers.getD k Zaa.d)).fScore,0,[]⟩ : Zaq))
  else bif((addB s.fBans (Ziv c x) c.fMaxBans).2==0)then
    (Zdd ⟨(addB s.fBans (Ziv c x) c.fMaxBans).1,s.fBook,s.fPeers⟩ (Zgu x.fEnd.fAddr)).bind fun x11=>some (x11.1,(⟨0,x.fEnd,x11.2,(Ziv c x).fUntil,[]⟩ : Zaq))
   else(Zdd s (Zgu x.fEnd.fAddr)).bind fun x12=>some (x12.1,(⟨0,x.fEnd,x12.2,0,[]⟩ : Zaq))):=by
  have hban:(⟨Zgu x.fEnd.fAddr,addT x.fNow c.fBanFor⟩ : Zab).ok:=⟨ZrQ _ hx.2.1.1,ZDg _ _,trivial⟩;unfold Zdq;rw[Zij _ _ (by unfold maxLen;omega),ZaL,Zal,if_neg hno,Zay ⟨by omega,by omega⟩,h2,Int.toNat_natCast,(ZBJ x.fNum).2.1,ZaL,(Zxq c x _).2,ZaL,(Zuh _ _ hw1.1 hw1.2).2,ZaL];cases hin:ZnA (Zih c x (s.fPeers.getD k Zaa.d)).fScore c.fLimit with
  |false=>
   rw[Bool.not_false,cond_true,cond_true,(ZuK _).2];rfl
  |true=>
   rw[Bool.not_true,cond_false,cond_false,Zzg _ hx.2.1.1,ZaL,(ZBs _ _).2,ZaL,ZDF _ _ _ (by omega) hban,ZaL];rfl
 cases hin:ZnA (Zih c x (s.fPeers.getD k Zaa.d)).fScore c.fLimit with
 |false=>
  rw[hin,Bool.not_false,cond_true]at hbl;refine ZyR hx hs hR h20 hB (by omega) (by omega) (Zih c x (s.fPeers.getD k Zaa.d)) ⟨0,endZ,Zsa (Zih c x (s.fPeers.getD k Zaa.d)).fScore,0,[]⟩ (Nat.zero_le _) (fun k2 g1 g2=>?_) (fun k2 g1 g2 g3=>?_) rfl fun r m st hq=>?_
  ·have:k2=k:=by omega
   subst this;exact⟨rfl,rfl⟩
  ·rw[hDo,hbl,g3];rfl
  ·refine ho.seq (s2:=st) (c2:=1) ?_ (by omega) rfl;rw[if_neg hno',hat,hin,if_neg (by decide)];exact hq
 |true=>
  rw[hin,Bool.not_true,cond_false]at hbl;obtain⟨g1,g2,g3⟩:=ZCl hx hs hR h20 (c:=c) hr;have hnet:(Zgu x.fEnd.fAddr).fAddr.ok:=(ZrQ _ hx.2.1.1).1;have hb:=Zxs c s x;have hol:=ZqM (bP c s x) (Zgu x.fEnd.fAddr) true;have hol2:=ZqM (bP c s x) (Zgu x.fEnd.fAddr) false;have hal:=ZEt s.fBans (Ziv c x) c.fMaxBans
  let gone:=ofP s.fPeers (Zgu x.fEnd.fAddr) true
  let now:=ofP (bP c s x) (Zgu x.fEnd.fAddr) false
  let bans':=if(addB s.fBans (Ziv c x) c.fMaxBans).2=0 then(addB s.fBans (Ziv c x) c.fMaxBans).1 else s.fBans
  let til:=if(addB s.fBans (Ziv c x) c.fMaxBans).2=0 then(Ziv c x).fUntil else 0
  let book':=s.fBook.map (ZkC (ZkB gone))
  have hgl:gone.length≤20:=by have:=ZqM s.fPeers (Zgu x.fEnd.fAddr) true;show (ofP s.fPeers (Zgu x.fEnd.fAddr) true).length≤20;omega
  have hd:ZaX c s x=some (⟨bans',book',ofP s.fPeers (Zgu x.fEnd.fAddr) false⟩,⟨0,x.fEnd,(gone.length:Int),til,[]⟩):=by
   rw[hDo,hbl,Zco,ZES hs hR h20 _ _ hnet,ZES hs hR h20 s.fBans _ hnet];show _=some ((⟨if(addB s.fBans (Ziv c x) c.fMaxBans).2=0 then(addB s.fBans (Ziv c x) c.fMaxBans).1 else s.fBans,_,_⟩ : Zap),(⟨0,x.fEnd,_,if(addB s.fBans (Ziv c x) c.fMaxBans).2=0 then(Ziv c x).fUntil else 0,[]⟩ : Zaq));split<;>rfl
  have hbook:(if cntP gone false>0 then s.fBook.map (ZkC (ZkB gone))else s.fBook)=book':=by
   by_cases h:cntP gone false>0
   ·rw[if_pos h]
   ·rw[if_neg h];symm;refine Zxf fun e he h3' hmem=>h ?_;obtain⟨p,hp1,hp2⟩:=List.mem_map.1 hmem;have hp3:p∈s.fPeers:=(List.mem_filter.1 hp1).1;obtain⟨hu1,hu2⟩:=(hR.up e he).1 h3';obtain⟨j,j1,j2,j3,_⟩:=Zvu hu1;rw[j2,Int.toNat_natCast]at hu2;have:p=s.fPeers.getD j Zaa.d:=hR.peers.inj hp3 (Zhd _ _ j j1) (hp2.trans j3.symm);have hcp:0<gone.countP (fun p=>p.fIn==false):=List.countP_pos_iff.2 ⟨p,hp1,by rw[this,hu2];rfl⟩;unfold cntP;omega
  have hcd:Zen book' 2=Zen s.fBook 2:=Ztn s.fBook (ZkB gone);have k1:cntP s.fPeers true=cntP gone true+cntP (ofP s.fPeers (Zgu x.fEnd.fAddr) false) true:=ZEW s.fPeers (Zgu x.fEnd.fAddr) true;have k2:cntP s.fPeers false=cntP gone false+cntP (ofP s.fPeers (Zgu x.fEnd.fAddr) false) false:=ZEW s.fPeers (Zgu x.fEnd.fAddr) false;have k3:=Zlh gone true;have k4:=Zlh gone false;have hshort:=ZuV (c:=c) (s:=s) (now:=now) (rest:=(bP c s x).drop now.length) (by show (ofP (bP c s x) (Zgu x.fEnd.fAddr) false++_).length≤1000;simp;omega) h20.2.2 (iP c x);have hps:(shP ((lP c s).set (iP c x) (now,(bP c s x).drop now.length))).length=ZcA c.fShards:=by rw[ZmQ,List.length_set];exact Zpt _ _ _ _
  have hbl2:bans'.length≤1000:=by
   show (if _ then _ else _:List Zab).length≤1000;split<;>omega
  have hperm:((((lP c s).set (iP c x) (now,(bP c s x).drop now.length)).map (·.1)).flatten).Perm (ofP s.fPeers (Zgu x.fEnd.fAddr) false):=
   (Zmh hs.2.2.1.2 c.fSecret c.fShards hi _ _).1.trans g3
  refine⟨⟨0,x.fEnd,(gone.length:Int),til,[]⟩,cntP s.fPeers true-cntP gone true,cntP s.fPeers false+Zen s.fBook 2-cntP gone false,bans',book',(lP c s).set (iP c x) (now,(bP c s x).drop now.length),ofP s.fPeers (Zgu x.fEnd.fAddr) false,300,?_,by omega,hd,hR.peers.filter _,hperm,hshort.1,hshort.2,by omega,by omega,hbl2,by rw[List.length_map];omega,by have:=ZqM s.fPeers (Zgu x.fEnd.fAddr) false;omega,Nat.zero_le _⟩
  -- the run
  have f21:(2+iP c x)≠1:=by omega
  have f20:(2+iP c x)≠0:=by omega
  let fA:=updL fL 0 Zjw
  let fB:=updL fA 1 Zjw
  have hfA1:fA 1=Zkt:=rfl;have hfB:fB (2+iP c x)=Zkt:=by show updL fA 1 Zjw _=_;rw[ZxF _ _ f21];show updL fL 0 Zjw _=_;rw[ZxF _ _ f20];rfl
  have ho2:=ZtA hx hs h20 (c:=c) (s:=s) (f:=fB) hfB;refine ho.seq (s2:=250) (c2:=1) ?_ (by omega) rfl;rw[if_neg hno',hat,hin,if_pos rfl,ZyJ];refine(Ziw h8.1 h8.2 (ZpY c s) (by omega) rfl false).seq (s2:=245) (c2:=1) ?_ (by omega) rfl;refine(ZvK (k:=0) h8.1 h8.2 (ZpY c s) (by omega) rfl false).seq (s2:=240) (c2:=1) ?_ (by omega) rfl;refine(ZvK (k:=1) (f:=fA) h8.1 h8.2 (ZpY c s) (by omega) hfA1 false).seq (s2:=235) (c2:=1) ?_ (by omega) rfl;have hban:Ex (ZEm c x) (mP c s (updL fB (2+iP c x) Zjw)) til (memM (cntP s.fPeers true) (cntP s.fPeers false+Zen s.fBook 2) bans' s.fBook (shP (lP c s)) (ZcA c.fShards) (updL fB (2+iP c x) Zjw)) 2 0:=by
   unfold ZEm;refine(ZyV h8.1 h8.2 (ZpY c s) (by omega) hs.1.2).seq (s2:=1) (c2:=0) ?_ (by omega) rfl;dsimp only;by_cases h0:(addB s.fBans (Ziv c x) c.fMaxBans).2=0
   ·have e1:til=(Ziv c x).fUntil:=if_pos h0;have e2:bans'=(addB s.fBans (Ziv c x) c.fMaxBans).1:=if_pos h0;rw[if_pos h0,e1,e2];exact(ZxA h8.1 h8.2 (ZpY c s) _ false).seq (.ret _ _ 0) (by omega) rfl
   ·have e1:til=0:=if_neg h0;have e2:bans'=s.fBans:=if_neg h0;rw[if_neg h0,e1,e2];exact .ret _ _ _
  have hwr:=ZAa (inn:=cntP s.fPeers true) (out:=cntP s.fPeers false+Zen s.fBook 2) (bans:=bans') (book:=s.fBook) (f:=updL fB (2+iP c x) Zjw) h8.1 h8.2 (ZpY c s) hi (bP c s x) [] now (by rw[List.append_nil];omega) (by show (ofP (bP c s x) (Zgu x.fEnd.fAddr) false).length≤5000;omega) (ZzE hx);rw[List.append_nil]at hwr;have es:=ZxO (lP c s) (iP c x) now ((bP c s x).drop now.length);have hwr2:Ex (ZpH (iP c x:Int) (bP c s x) now) (memM (cntP s.fPeers true) (cntP s.fPeers false+Zen s.fBook 2) bans' s.fBook (shP (lP c s)) (ZcA c.fShards) (updL fB (2+iP c x) Zjw)) () (memM (cntP s.fPeers true) (cntP s.fPeers false+Zen s.fBook 2) bans' s.fBook (shP ((lP c s).set (iP c x) (now,(bP c s x).drop now.length))) (ZcA c.fShards) (updL fB (2+iP c x) Zjw)) 40 0:=by
   rw[←es];exact hwr.more (by show (ofP (bP c s x) (Zgu x.fEnd.fAddr) false).length+1≤40;omega)
  have haw:=ZGe (inn:=cntP s.fPeers true) (out:=cntP s.fPeers false+Zen s.fBook 2) (bans:=bans') (book:=s.fBook) (f:=updL fB (2+iP c x) Zjw) h8.1 h8.2 hps (by omega) hs.2.1.2 (by omega) (by omega) gone (by omega);rw[hbook]at haw;have hpun:Ex (ZuU (iP c x:Int) c x) (mP c s fB) (⟨0,x.fEnd,(gone.length:Int),til,[]⟩,true) (memM (cntP s.fPeers true-cntP gone true) (cntP s.fPeers false+Zen s.fBook 2-cntP gone false) bans' book' (shP ((lP c s).set (iP c x) (now,(bP c s x).drop now.length))) (ZcA c.fShards) (updL fB (2+iP c x) Zjw)) 200 0:=by
   unfold ZuU;refine ho2.seq (s2:=150) (c2:=0) ?_ (by omega) rfl;rw[if_neg hno',hat,hin,if_pos rfl];refine hban.seq (s2:=100) (c2:=0) ?_ (by omega) rfl;dsimp only;have ebn:(Ziv c x).fNet=Zgu x.fEnd.fAddr:=rfl;rw[ebn];unfold ZFX;rw[g2,Pr.bind_assoc];refine hwr2.seq (s2:=50) (c2:=0) ?_ (by omega) rfl;rw[g1];exact haw.seq (.ret _ _ 0) (by omega) rfl
  refine hpun.seq (s2:=10) (c2:=1) ?_ (by omega) rfl;refine(Ziw h8.1 h8.2 hps (by omega) hfB true).seq (s2:=5) (c2:=0) ?_ (by omega) rfl;refine(Ziw (k:=1) h8.1 h8.2 hps (by omega) hfA1 false).seq (s2:=3) (c2:=0) ?_ (by omega) rfl;exact(Ziw (k:=0) h8.1 h8.2 hps (by omega) rfl false).seq (.ret _ _ 0) (by omega) rfl
end
theorem ZvG:ZbH=some true:=by decide +kernel
def ZCp(c:ZaB)(s:Zap)(x:ZaA)(mk:Int)(r:Zaq)(m:ZaC):Option Bool:=(ZaX c s x).bind fun x11=>bif(mk==(1:Int))then(ZcH r x11.2).bind fun x12=>bif x12 then(Zct m).bind fun x13=>(ZcG x13 x11.1).bind fun x14=>bif x14 then(ZbC x11.1).bind fun x15=>(Zdi m x11.1 x15).bind fun x16=>bif x16 then(ZbH).bind fun x17=>some x17 else some false else some false else some false else some false
theorem ZEG{c:ZaB}{s:Zap}{x:ZaA}{got:List Zae}{t:ZaT}(h:Zgh c x got=some t)(fu:Nat)(mk i:Int)(hi:i<400)(m:ZaC) :
  Zau (fu+1) mk i got c s x m=bif t.fDone then ZCp c s x mk t.fReply m else bif t.fBroken then some false else(ZaS m t.fOp).bind fun x18=>bif(!x18)then some false else
   (ZaR m t.fOp 0).bind fun x19=>need ((got++([x19.2]:List Zae)).length * 136≤140737488355328∧(got++([x19.2]:List Zae)).length≤maxLen) <|
   bif t.fOp.fMark then bif(t.fOp.fKind != (7:Int))then Zau fu (Zaw mk 1) (Zaw i 1) (got++[x19.2]) c s x x19.1 else bif(x19.2.fN==(1:Int))then Zau fu (Zaw mk 1) (Zaw i 1) (got++[x19.2]) c s x x19.1
    else Zau fu mk (Zaw i 1) (got++[x19.2]) c s x x19.1
   else Zau fu mk (Zaw i 1) (got++[x19.2]) c s x x19.1:=by
 have fin:∀r:Option ZaT,(r.bind fun y=>some y)=r:=fun r=>by cases r<;>rfl
 unfold Zgh at h
 conv=>lhs;unfold Zau
 rw[Zal,if_pos hi];cases hc:ZiN c x with
 |none=>rw[hc]at h;cases h
 |some code=>
  rw[hc]at h;rw[ZaL]at h ⊢;cases code<;>(dsimp only at h ⊢;rw[fin]at h;rw[h,ZaL];rfl)
theorem ZGs{c:ZaB}{s:Zap}{x:ZaA}(hx:x.ok){m:ZaC}{r:Zaq}{m':ZaC}{st cn:Nat}(h:Ex (ZsJ c x) m r m' st cn)(hst:st≤390) :
  Zau 402 0 0 [] c s x m=ZCp c s x (cn:Int) r m':=by
 have gd:∀got:List Zae,got.length≤400→(∀v∈got,gv0 v)→Gd got:=fun got h1 h2=>⟨by omega,fun v hv=>⟨(h2 v hv).1,by have:=(h2 v hv).2.1;omega,by have:=(h2 v hv).2.2;omega⟩⟩;have nx:∀got:List Zae,got.length≤400→(∀v∈got,gv0 v)→Zgh c x got=(runT (ZsJ c x) got).map ZuX:=fun got h1 h2=>ZEx hx (gd got h1 h2);have hl:=ZDR (p:=ZsJ c x) (c0:=fun fu mk i got m=>Zau fu mk i got c s x m) (F:=fun mk r m=>ZCp c s x mk r m)
  (fun fu mk i got m r g hi h1 h2 h3=>by
   have h4:=nx got h1 h2;rw[h3]at h4;rw[ZEG h4 fu _ _ (by omega) m];rfl)
  (fun fu mk i got m q m' v hi h1 hmk h2 h3 h5 h6=>by
   have h4:=nx got h1 h2;rw[h3]at h4;have e1:Zaw (mk:Int) 1=((mk+1:Nat):Int):=by rw[ZfP (by omega) (by omega)];omega
   have e2:Zaw (i:Int) 1=((i+1:Nat):Int):=by rw[ZfP (by omega) (by omega)];omega
   rw[ZEG h4 fu _ _ (by omega) m];show ((ZaS m q).bind fun x18=>bif(!x18)then some false else(ZaR m q 0).bind fun x19=>need ((got++([x19.2]:List Zae)).length * 136≤140737488355328∧(got++([x19.2]:List Zae)).length≤maxLen) <|
    bif q.fMark then bif(q.fKind != (7:Int))then Zau fu (Zaw (mk:Int) 1) (Zaw (i:Int) 1) (got++[x19.2]) c s x x19.1 else bif(x19.2.fN==(1:Int))then Zau fu (Zaw (mk:Int) 1) (Zaw (i:Int) 1) (got++[x19.2]) c s x x19.1
     else Zau fu (mk:Int) (Zaw (i:Int) 1) (got++[x19.2]) c s x x19.1
    else Zau fu (mk:Int) (Zaw (i:Int) 1) (got++[x19.2]) c s x x19.1)=_
   rw[h5,ZaL,Bool.not_true,cond_false,h6,ZaL,Zay ⟨by simp;omega,by simp[maxLen];omega⟩,e1,e2];unfold mkd;cases hq:q.fMark with
   |false=>rw[cond_false,if_neg (fun h=>by cases h.1)];rfl
   |true=>
    rw[cond_true];by_cases h7:q.fKind=7
    ·have e3:(q.fKind != 7)=false:=by rw[h7];rfl
     rw[e3,cond_false];by_cases h8:v.fN=1
     ·rw[if_pos ⟨rfl,.inr h8⟩];dsimp only;rw[h8];rfl
     ·rw[if_neg (fun h=>h.2.elim (fun h=>h h7) h8),Nat.add_zero];dsimp only;rw[beq_false_of_ne h8];rfl
    ·have e3:(q.fKind != 7)=true:=by rw[bne_iff_ne];exact h7
     rw[e3,cond_true,if_pos ⟨rfl,.inl h7⟩])
  h 402 0 0 [] (Rs.nil _) (fun v hv=>by cases hv) rfl (Nat.le_refl _) (by omega) (by omega)
 rw[Nat.zero_add]at hl;exact hl
section
variable {c:ZaB} {s:Zap} {x:ZaA} (hx:x.ok) (hs:s.ok) (hR:RtS c s) (h20:s.fBans.length≤20∧s.fBook.length≤20∧s.fPeers.length≤20)
include hx hs hR h20
theorem ZDo(hk:x.fKind=2∨x.fKind=5∨x.fKind=11∨x.fKind=12):ZyS c s x (mP c s fL) (ZsJ c x):=by
 unfold ZsJ;cases hB:ZhD x with
 |false=>rw[if_neg (by decide)];exact ZDl hx hs hR h20 hB
 |true=>
  rw[if_pos rfl];by_cases h2:x.fKind=2
  ·rw[if_pos h2];exact ZDm hx hs hR h20 hB h2
  rw[if_neg h2];by_cases h5:x.fKind=5
  ·rw[if_pos h5];exact ZDn hx hs hR h20 hB h5
  rw[if_neg h5,if_pos (by omega)];exact ZEy hx hs hR h20 hB (by omega)
omit hx hs hR h20 in
theorem ZDZ{r:Zaq}{inn out:Int}{bans:List Zab}{book:List Zac}{ps:PPs}{peers:Prs}(hd:ZaX c s x=some (⟨bans,book,peers⟩,r))(h1:StrP peers)(h2:((ps.map (·.1)).flatten).Perm peers)(h3:ps.length≤100)(h4:∀y∈ps,(y.1++y.2).length≤1000)
  (h5:inn=cntP peers true) (h6:out=cntP peers false+Zen book 2) (h7:bans.length≤1000) (h8:book.length≤1000) (h9:peers.length≤1000) (h10:r.fPeers.length≤1000):ZCp c s x 1 r (memM inn out bans book (shP ps) (ZcA c.fShards) fun _=>Zkt)=some true:=by
 have h8':=ZgO c.fShards;unfold ZCp;rw[hd,ZaL];show (bif((1:Int)==1)then _ else _)=_;rw[show ((1:Int)==1)=true from rfl,cond_true];dsimp only;rw[ZtE r (by omega),ZaL,cond_true,ZAi h3 h4 h1 h2,ZaL,ZtD _ (by show bans.length≤_;omega) (by show book.length≤_;omega) (by show peers.length≤_;omega),ZaL,cond_true,Zrj _ (by show peers.length≤_;omega) (by show book.length≤_;omega),ZaL,ZCT (by omega) h9 h5 h6,ZaL,cond_true,ZvG];rfl
end
theorem ZGq(x:ZaA):∃b,ZfI x=some b∧(b=true→x.fKind=2∨x.fKind=5∨x.fKind=11∨x.fKind=12):=by
 unfold ZfI;rw[Zco,Zco,Zco];by_cases h2:x.fKind=2
 ·rw[if_pos h2];exact⟨_,rfl,fun _=>.inl h2⟩
 by_cases h5:x.fKind=5
 ·rw[if_neg h2,if_pos h5];exact⟨_,rfl,fun _=>.inr (.inl h5)⟩
 by_cases h11:x.fKind=11
 ·rw[if_neg h2,if_neg h5,if_pos h11];exact⟨_,rfl,fun _=>.inr (.inr (.inl h11))⟩
 ·rw[if_neg h2,if_neg h5,if_neg h11];exact⟨_,rfl,fun h=>.inr (.inr (.inr (by simpa using h)))⟩
theorem ZrC(c:ZaB)(s:Zap)(x:ZaA)(hc:c.ok)(hs:s.ok)(hx:x.ok):ZeD c s x=some true:=by
 obtain⟨b1,h1,h1'⟩:=ZFh s;unfold ZeD;rw[h1,ZaL];cases b1 with
 |false=>rw[Bool.not_false,cond_true,ZvG];rfl
 |true=>
  obtain⟨n1,n2,n3⟩:=h1' rfl;obtain⟨b2,h2,h2'⟩:=ZFl c s hs n1 n2 n3;rw[Bool.not_true,cond_false,h2,ZaL];cases b2 with
  |false=>rw[Bool.not_false,cond_true,ZvG];rfl
  |true=>
   obtain⟨b3,h3,h3'⟩:=ZGq x;rw[Bool.not_true,cond_false,h3,ZaL];cases b3 with
   |false=>rw[Bool.not_false,cond_true,ZvG];rfl
   |true=>
    rw[Bool.not_true,cond_false,ZDP c s hs.2.2.1.2 (by omega) (by omega),ZaL];obtain⟨r,inn,out,bans,book,ps,peers,st,q1,q2,q3,q4,q5,q6,q7,q8,q9,q10,q11,q12,q13⟩:=ZDo hx hs (h2' rfl) ⟨n1,n2,n3⟩ (h3' rfl) (c:=c);have hl:=ZGs (s:=s) hx q1 q2;refine Eq.trans hl ?_;exact ZDZ q3 q4 q5 q6 q7 q8 q9 q10 q11 q12 q13
end Go.Proofs.YtdjfoojllbfcgaaGreat
