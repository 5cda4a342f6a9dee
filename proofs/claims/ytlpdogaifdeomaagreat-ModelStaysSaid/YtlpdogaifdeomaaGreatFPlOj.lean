import Derived.Test.YtlpdogaifdeomaaGreatFPlSg
import Derived.KernelRfl
namespace Go.Proofs.YtlpdogaifdeomaaGreat
set_option linter.unusedVariables false
set_option linter.unusedSimpArgs false
set_option linter.unusedSectionVars false
theorem ZIe(l:Prs):(ZfC l).Perm l:=by
 have:∀n,n<=l.length->(ZfC (l.take n)).Perm (l.take n):=by
  intro n;induction n with
  |zero=>intro _;simp[ZfC]
  |succ n ih=>
   intro h;rw[List.take_succ_eq_append_getElem (show n<l.length by omega),ZoO];exact(ZuE _ _ _ (Nat.le_refl _)).trans ((ih (by omega)).append_right _)
 have h:=this l.length (Nat.le_refl _);rwa [List.take_length]at h
theorem Zxc:∀(m l:Prs),SrtP l->StrP m->l.Perm m->l=m
 | [],l,_,_,h=>List.perm_nil.1 h
 |y :: m,l,hl,d,h=>by
  cases l with
  |nil=>exact absurd h.length_eq (by simp)
  |cons x l=>
   have hZ:=List.pairwise_cons.1 hl
   have fK:=List.pairwise_cons.1 d
   by_cases e:x=y
   .subst e
    rw[Zxc m l hZ.2 fK.2 h.cons_inv]
   .have h1:y∈x :: l:=h.symm.subset (by simp)
    have h2:x∈y :: m:=h.subset (by simp)
    rcases List.mem_cons.1 h1 with h1|h1
    .exact absurd h1.symm e
    .rcases List.mem_cons.1 h2 with h2|h2
     .exact absurd h2 e
     .have f:=hZ.1 y h1
      have b:=fK.1 x h2
      rw[f]at b;cases b
theorem ZBt{xs l:Prs}(hl:StrP l)(h:xs.Perm l):ZfC xs=l:=Zxc l _ (ZoN xs) hl ((ZIe xs).trans h)
theorem ZKx{x:Zar}(hx:x.ok)(b:Zgq x.fEnd=true):Zfr (ZrG x)=some true:=by
 have d:=ZfA x.fNow;have e:(decide (0<=fitI x.fNow)&&decide (fitI x.fNow<=1099511627776))=true:=by
  rw[Bool.and_eq_true,decide_eq_true_eq,decide_eq_true_eq];exact d
 unfold Zfr;simp only[ZrG,Zpe _ hx.2.1,b,Zan,cond_true,ZrF,e];decide
theorem Zyl(l:List Zaa)(e:Zag)(h:l.length<=10000)(b:ZgR l e<0):ZjI l e=some ([],6):=by
 unfold ZjI;rw[ZjT l e (by unfold maxLen;omega),Zan,Zad,if_pos b]
theorem ZuZ(l:List Zaa)(y:Zaa)(h:l.length<=10000){k:Nat}(d:k<l.length)(b:ZgR l y.fEnd=(k:Int)):ZkS l y=some (l.set k y):=by
 unfold ZkS;rw[ZtT l h,Zan,ZjT l _ (by unfold maxLen;omega),Zan,Zad,b,iNb,Zaj (by omega),Int.toNat_natCast]
def dk(c:Zaq)(x:Zar)(r:Zak×Zal):Option (Zal×Zao):=some (r.2,⟨c,r.1,x⟩)
def Dk(c:Zaq)(x:Zar)(p:Option (Zal×Zao))(r:Option (Zak×Zal)):Prop:=∃y,r=some y/\p=dk c x y
section
variable {c:Zaq} {s:Zak} {x:Zar} {N:Nat} (hx:x.ok) (hI:cN N s) (hN:N<=100)
include hx hI hN
theorem Dk.no(k:Int):Dk c x ((ZbG k).bind fun x2=>some (x2,⟨c,s,x⟩)) ((Zbq k).bind fun x2=>some (s,x2)):=⟨_,rfl,rfl⟩
theorem ZvV{bans:List Zac}{ez:Zae}(b:ez.fAddr.ok):∃z:Zak×Int,ZcA ⟨bans,s.fBook,s.fPeers⟩ ez=some z/\ZeX ⟨c,⟨bans,s.fBook,s.fPeers⟩,x⟩ ez=some (z.2,⟨c,z.1,x⟩):=by
 have n2:=hI.n2;have n3:=hI.n3;have aJ:∀p∈s.fPeers,p.fEnd.fAddr.ok:=fun p e=>(hI.peers p e).1.1;have f:=ZEx s.fPeers ez true;refine⟨(⟨bans,s.fBook.map (Zmz (Zlh (ofP s.fPeers ez true))),ofP s.fPeers ez false⟩,((ofP s.fPeers ez true).length:Int)),?_,?_⟩
 .unfold ZcA;dsimp only;rw[Zuy _ _ _ b (by omega) aJ,Zan,Zuy _ _ _ b (by omega) aJ,Zan,ZPY _ (by omega),Zan,Zuw _ _ (by omega) (by simp[Zlh,maxLen];omega),Zan]
 .obtain⟨L,hL⟩ : ∃L,L=ofP s.fPeers ez true:=⟨_,rfl⟩;have jw:L.length<=s.fPeers.length:=by rw[hL];exact f
  have aK:∀(k i fu:Nat),L.length-i=k->i<=L.length->k+1<=fu->ZeB ⟨c,⟨bans,s.fBook,s.fPeers⟩,x⟩ fu L (ofP s.fPeers ez false) L (L.length:Int) (i:Int) (Zlh (L.take i))=some ((L.length:Int),⟨c,⟨bans,s.fBook.map (Zmz (Zlh L)),ofP s.fPeers ez false⟩,x⟩):=by
   intro k;induction k with
   |zero=>
    intro i fu g h j;obtain⟨fu,rfl⟩:=sC fu;unfold ZeB;rw[Zad,iNa,List.take_of_length_le (by omega)];dsimp only;rw[ZCV _ _ (by omega) (by rw[hL];simp[Zlh,maxLen];omega),Zan]
   |succ k ih=>
    intro i fu g h j;obtain⟨fu,rfl⟩:=sC fu;have bC:i<L.length:=by omega
    have o:Zam (i:Int) 1=((i+1:Nat):Int):=add1 (n:=i+1) (by omega) (by simp only[maxLen];omega);have et:Zlh (L.take i)++[(L.getD i Zaa.d).fEnd]=Zlh (L.take (i+1)):=by
     unfold Zlh;rw[List.take_succ_eq_append_getElem bC,List.map_append,ZbA L _ i bC];rfl
    have hl:(Zlh (L.take (i+1))).length<=200:=by unfold Zlh;simp;omega
    unfold ZeB;rw[Zad,iNb,Zaj (by omega),Int.toNat_natCast,et,Zaj ⟨by omega,by unfold maxLen;omega⟩,o];exact ih (i+1) fu (by omega) (by omega) (by omega)
  unfold ZeX;dsimp only;rw[ZDR _ _ b (by omega) aJ,Zan,<-hL];dsimp only;exact aK L.length 0 _ (by omega) (by omega) (by omega)
theorem ZIb(f:x.fKind=2):Dk c x (Zjp ⟨c,s,x⟩) (Zcq c s x):=by
 have n2:=hI.n2;have n3:=hI.n3;unfold Zjp Zcq;dsimp only;rw[ZiY _ _ (by unfold maxLen;omega),Zan,Zad];by_cases b:ZgR s.fPeers x.fEnd<0
 .rw[if_pos b,Zyl _ _ (by omega) b,Zan];exact Dk.no hx hI hN 6
 obtain⟨k,d,e,g,_⟩:=ZpT (show 0<=ZgR s.fPeers x.fEnd by omega);rw[if_neg b,Zdp,if_pos f,ZFA hx hI hN d e,Zan,Zuw _ _ (by omega) (by simp[maxLen]),Zan,ZwZ _ _ (by omega) d e,Zan];show Dk c x (bif((0:Int) != 0)then _ else _) _;rw[show ((0:Int) != 0)=false from rfl,cond_false,ZCV _ _ (by omega) (by simp[maxLen]),Zan];exact⟨_,rfl,rfl⟩
theorem ZKn(i:x.fKind=11):Dk c x (Zkg ⟨c,s,x⟩) (Zcq c s x):=by
 have n3:=hI.n3;unfold Zkg Zcq;dsimp only;rw[ZiY _ _ (by unfold maxLen;omega),Zan,Zad,ZjT _ _ (by unfold maxLen;omega),Zan,Zad];by_cases b:ZgR s.fPeers x.fEnd<0
 .rw[if_pos b,if_pos b];exact Dk.no hx hI hN 6
 obtain⟨k,e,f,g,_⟩:=ZpT (show 0<=ZgR s.fPeers x.fEnd by omega);have fm:=hI.peers _ (Zcw s.fPeers Zaa.d k e);obtain⟨o1,h⟩:=ZBe fm hx.2.2.2.2.1;rw[if_neg b,if_neg b,Zdp,iNa,Zdp,if_pos i,Zaj ⟨by omega,by omega⟩,Zaj ⟨by omega,by omega⟩,f,Int.toNat_natCast,(ZyD _ _).2,Zan,(ZyD _ _).1,Zan,Zxf hx hI hN e (by rw[h,g];exact f),Zan,ZuZ _ _ (by omega) e (by rw[h,g];exact f),Zan];exact⟨_,rfl,rfl⟩
theorem ZJz(fM:x.fKind≠2)(gO:x.fKind≠11):Dk c x (Zkf ⟨c,s,x⟩) (Zcq c s x):=by
 have n3:=hI.n3;unfold Zkf Zcq;dsimp only;rw[ZiY _ _ (by unfold maxLen;omega),Zan,Zad,ZjT _ _ (by unfold maxLen;omega),Zan,Zad];by_cases b:ZgR s.fPeers x.fEnd<0
 .rw[if_pos b,if_pos b];exact Dk.no hx hI hN 6
 obtain⟨k,e,f,g,_⟩:=ZpT (show 0<=ZgR s.fPeers x.fEnd by omega);have fm:=hI.peers _ (Zcw s.fPeers Zaa.d k e);obtain⟨o1,h⟩:=ZAr fm x.fNow;rw[if_neg b,if_neg b,Zdp,if_neg fM,Zdp,if_neg gO,Zaj ⟨by omega,by omega⟩,Zaj ⟨by omega,by omega⟩,f,Int.toNat_natCast,(Zyg _ _).2,Zan,(Zyg _ _).1,Zan,Zxf hx hI hN e (by rw[h,g];exact f),Zan,ZuZ _ _ (by omega) e (by rw[h,g];exact f),Zan];exact⟨_,rfl,rfl⟩
theorem ZEj(g:Zgq x.fEnd=true):Dk c x (ZiL ⟨c,s,x⟩) (Zek c s x):=by
 have n1:=hI.n1;have n2:=hI.n2;have n3:=hI.n3;have hlt:=ZoC s.fBook x.fEnd;have eu:Zdm ⟨c,s,x⟩=some (Zqh s.fBans x.fEnd.fAddr x.fNow,⟨c,s,x⟩):=by
  unfold Zdm;dsimp only;rw[(Zmd s.fBans x.fEnd.fAddr x.fNow (by unfold maxLen;omega) hI.bans hx.2.1.1).1,Zan]
 unfold ZiL Zek;dsimp only;rw[ZqW _ _ (by unfold maxLen;omega),Zan,Zad,ZqN _ _ (by unfold maxLen;omega),Zan,Zad];by_cases b:Zer s.fBook x.fEnd<0
 .rw[if_pos b,if_pos b];exact Dk.no hx hI hN 6
 rw[if_neg b,if_neg b,Zaj ⟨by omega,hlt⟩,Zaj ⟨by omega,hlt⟩];cases h:((s.fBook.getD (Zer s.fBook x.fEnd).toNat Zab.d).fState != 2)with
 |true=>rw[cond_true,cond_true];exact Dk.no hx hI hN 6
 |false=>
  have ef:∀k:Int,Zhw ⟨c,s,x⟩ (s.fBook.getD (Zer s.fBook x.fEnd).toNat Zab.d) k=some (⟨k,endZ,(ZrY c (s.fBook.getD (Zer s.fBook x.fEnd).toNat Zab.d) x.fNow x.fNum).fFails,(ZrY c (s.fBook.getD (Zer s.fBook x.fEnd).toNat Zab.d) x.fNow x.fNum).fNext,[]⟩,⟨c,⟨s.fBans,setS s.fBook (ZrY c (s.fBook.getD (Zer s.fBook x.fEnd).toNat Zab.d) x.fNow x.fNum),s.fPeers⟩,x⟩):=fun k=>by
   unfold Zhw;dsimp only;rw[(Zwb c _ x.fNow x.fNum).1,Zan,ZuU _ _ (by omega),Zan];rfl
  rw[cond_false,cond_false,(Zmd s.fBans x.fEnd.fAddr x.fNow (by unfold maxLen;omega) hI.bans hx.2.1.1).2,Zan,(Zwb c _ x.fNow x.fNum).2];cases i:x.fGood with
  |false=>
   rw[Bool.not_false,cond_true,cond_true,Zan,Zoj _ _ (by omega),Zan,cond_false,ef,Zan];exact⟨_,rfl,rfl⟩
  |true=>
   rw[Bool.not_true,cond_false,cond_false,Zad,eu,Zan,Zad];dsimp only;by_cases e:Zqh s.fBans x.fEnd.fAddr x.fNow>0
   .rw[if_pos e,if_pos e,Zan,Zoj _ _ (by omega),Zan,cond_true,ef,Zan];exact⟨_,rfl,rfl⟩
   rw[if_neg e,if_neg e,ZiY _ _ (by unfold maxLen;omega),Zan,Zad,ZjT _ _ (by unfold maxLen;omega),Zan,Zad];by_cases f:ZgR s.fPeers x.fEnd>=0
   .have ed:ZdJ (s.fBook.getD (Zer s.fBook x.fEnd).toNat Zab.d) 1=some (stE (s.fBook.getD (Zer s.fBook x.fEnd).toNat Zab.d) 1):=rfl;have ed2:Zmo (s.fBook.getD (Zer s.fBook x.fEnd).toNat Zab.d)=some (stE (s.fBook.getD (Zer s.fBook x.fEnd).toNat Zab.d) 1):=rfl;rw[if_pos f,if_pos f,ed,Zan,Zoj _ _ (by omega),Zan,ed2,Zan,ZuU _ _ (by omega),Zan];exact⟨_,rfl,rfl⟩
   .have eg:ZiR (s.fBook.getD (Zer s.fBook x.fEnd).toNat Zab.d)=some (ZvU (s.fBook.getD (Zer s.fBook x.fEnd).toNat Zab.d)):=rfl;have eg2:Zqz (s.fBook.getD (Zer s.fBook x.fEnd).toNat Zab.d)=some (ZvU (s.fBook.getD (Zer s.fBook x.fEnd).toNat Zab.d)):=rfl;have en:Zdn x.fEnd false x.fNow=some (ZrG x):=by unfold Zdn;rw[ZjE];rfl
    have md:ZmZ x.fEnd false x.fNow=some (ZrG x):=by unfold ZmZ;rw[ZiX];rfl
    rw[if_neg f,if_neg f,eg,Zan,Zoj _ _ (by omega),Zan,en,Zan,Zuv _ _ (Zqj hI.str) (by omega),Zan,eg2,Zan,ZuU _ _ (by omega),Zan];unfold Zea;dsimp only;rw[md,Zan,ZAx (Zqj hI.str) (by omega) (ZKx hx g) (show ZgR s.fPeers x.fEnd<0 by omega),Zan];exact⟨_,rfl,rfl⟩
theorem ZIW:Dk c x (Zjq ⟨c,s,x⟩) (ZeC c s x):=by
 have n1:=hI.n1;have n3:=hI.n3;have cG:(⟨Zqc x.fEnd.fAddr,addT x.fNow c.fBanFor⟩ : Zac).ok:=⟨ZuM _ hx.2.1.1,ZFS _ _,trivial⟩;unfold Zjq ZeC;dsimp only;rw[ZiY _ _ (by unfold maxLen;omega),Zan,Zad,ZjT _ _ (by unfold maxLen;omega),Zan,Zad];by_cases b:ZgR s.fPeers x.fEnd<0
 .rw[if_pos b,if_pos b];exact Dk.no hx hI hN 6
 obtain⟨k,f,e,g,_⟩:=ZpT (show 0<=ZgR s.fPeers x.fEnd by omega);have eJ:=Zyf c x (s.fPeers.getD k Zaa.d);have me:(ZpX c x (s.fPeers.getD k Zaa.d)).fEnd=x.fEnd:=g;rw[if_neg b,if_neg b,Zaj ⟨by omega,by omega⟩,Zaj ⟨by omega,by omega⟩,e,Int.toNat_natCast,(ZGn x.fNum).2.1,Zan,(ZGn x.fNum).1,Zan,(ZwA c x _).2,Zan,(ZwA c x _).1,Zan,(Ztt _ _ eJ.1 eJ.2).2,Zan,(Ztt _ _ eJ.1 eJ.2).1,Zan];cases hin:Zxn (ZpX c x (s.fPeers.getD k Zaa.d)).fScore c.fLimit with
 |false=>
  rw[Bool.not_false,cond_true,cond_true,(Zyh _).2,(Zyh _).1,Zxf hx hI hN (y:=ZpX c x (s.fPeers.getD k Zaa.d)) f (by rw[me];exact e),Zan,Zan,ZuZ _ _ (by omega) f (by rw[me];exact e),Zan,Zan];exact⟨_,rfl,rfl⟩
 |true=>
  have gz:(Zqc x.fEnd.fAddr).fAddr.ok:=(ZuM _ hx.2.1.1).1;rw[Bool.not_true,cond_false,cond_false,ZGj _ hx.2.1.1,Zan,(Zqm _ _).2,Zan,Zux _ _ _ (by omega) cG,Zan,me,ZMC _ hx.2.1.1,Zan,(Zqm _ _).1,Zan,ZHl _ _ _ (by omega) cG,Zan];obtain⟨z1,h,i⟩:=ZvV hx hI hN (c:=c) (bans:=(addB s.fBans ⟨Zqc x.fEnd.fAddr,addT x.fNow c.fBanFor⟩ c.fMaxBans).1) gz;obtain⟨z2,j,n⟩:=ZvV hx hI hN (c:=c) (bans:=s.fBans) gz;rw[Zdp,Zdp];by_cases h0:(addB s.fBans ⟨Zqc x.fEnd.fAddr,addT x.fNow c.fBanFor⟩ c.fMaxBans).2=0
  .rw[if_pos h0,if_pos h0,h,Zan,i,Zan];exact⟨_,rfl,rfl⟩
  .rw[if_neg h0,if_neg h0];have g3':ZcA s (Zqc x.fEnd.fAddr)=some z2:=j;have g4':ZeX ⟨c,s,x⟩ (Zqc x.fEnd.fAddr)=some (z2.2,⟨c,z2.1,x⟩):=n;rw[g3',Zan,g4',Zan];exact⟨_,rfl,rfl⟩
theorem ZPj(b:x.fKind=6):Dk c x (ZkM ⟨c,s,x⟩) (Zcz c s x):=by
 have n1:=hI.n1;unfold ZkM Zcz;dsimp only;rw[Zdp,if_pos b,Zad,Zad];by_cases h:x.fNum<=x.fNow
 .rw[if_pos h,if_pos h];exact Dk.no hx hI hN 3
 have cG:(⟨x.fNet,x.fNum⟩ : Zac).ok:=⟨hx.2.2.1,hx.2.2.2.2.1,trivial⟩;obtain⟨z1,d,e⟩:=ZvV hx hI hN (c:=c) (bans:=(addB s.fBans ⟨x.fNet,x.fNum⟩ c.fMaxBans).1) hx.2.2.1.1;rw[if_neg h,if_neg h,Zux _ _ _ (by omega) cG,Zan,ZHl _ _ _ (by omega) cG,Zan,d,Zan,e,Zan];cases((addB s.fBans ⟨x.fNet,x.fNum⟩ c.fMaxBans).2 != 0)with
 |true=>rw[cond_true,cond_true];exact Dk.no hx hI hN _
 |false=>rw[cond_false,cond_false];exact⟨_,rfl,rfl⟩
theorem ZHw(b:x.fKind=7):Dk c x (Zjo ⟨c,s,x⟩) (Zcz c s x):=by
 have n1:=hI.n1;unfold Zjo Zcz;dsimp only;rw[Zdp,iNa,Zdp,if_pos b,ZAV _ _ (by omega),Zan,ZML _ _ (by omega),Zan];cases((Zuo s.fBans x.fNet).2==0)with
 |true=>rw[cond_true,cond_true];exact⟨_,rfl,rfl⟩
 |false=>rw[cond_false,cond_false];exact Dk.no hx hI hN _
theorem ZMl:Dk c x (Zij ⟨c,s,x⟩) (ZeY c s x):=by
 have n1:=hI.n1;have n2:=hI.n2;have n3:=hI.n3;have b:Zpj (vwO s):=ZED hx hI hN;refine⟨ZMo c s x.fNow,?_,ZMm hx hI hN⟩;unfold ZeY ZMo;rw[Zug s (by omega) (by omega),Zan,Zad];by_cases ho:cntP s.fPeers false+ZeA s.fBook 2>=c.fMaxOut
 .rw[if_pos ho,if_pos ho,no35,Zan]
 rw[if_neg ho,if_neg ho];obtain⟨_,e,f⟩:=ZEp b x.fNow;have g:=(ZDN b x.fNow).2;have bY:Zfa s.fBook s.fPeers s.fBans x.fNow=some (ZlB (vwO s) x.fNow):=e;have hP:ZeZ s.fBook x.fNow=some (ZDO (vwO s) x.fNow):=g;rw[bY,Zan,hP,Zan];cases h:(ZlB (vwO s) x.fNow).2 with
 |false=>rw[Bool.not_false,cond_true,if_neg (by decide)];rfl
 |true=>
  have h0:0<=Zer s.fBook (ZlB (vwO s) x.fNow).1:=f h;have hlt:=ZoC s.fBook (ZlB (vwO s) x.fNow).1;have ed:ZdJ (s.fBook.getD (Zer s.fBook (ZlB (vwO s) x.fNow).1).toNat Zab.d) 2=some (stE (entA s.fBook (ZlB (vwO s) x.fNow).1) 2):=rfl;rw[Bool.not_true,cond_false,if_pos rfl,ZqW _ _ (by unfold maxLen;omega),Zan,Zaj ⟨h0,hlt⟩,ed,Zan,Zoj _ _ (by omega),Zan]
theorem Dk.fin{p:Option (Zal×Zao)}{r:Option (Zak×Zal)}(h:Dk c x p r):Dk c x (p.bind fun y=>some (y.1,y.2)) (r.bind fun y=>some (y.1,y.2)):=by
 obtain⟨y,rfl,rfl⟩:=h;exact⟨y,rfl,rfl⟩
theorem ZRc:ZlL c s x=Zdy c s x:=by
 have n1:=hI.n1;have n2:=hI.n2;have n3:=hI.n3;have go:Dk c x (Zlr ⟨c,s,x⟩) (Zdy c s x)->ZkZ x=true->ZlL c s x=Zdy c s x:=fun h b=>by
  obtain⟨y,u,v⟩:=h;unfold ZlL;rw[ZxX x hx,Zan,b,Bool.not_true,cond_false,v,u];rfl
 cases b:ZkZ x with
 |false=>
  unfold ZlL Zdy;rw[ZxX x hx,Zan,ZrE x hx,Zan,b,Bool.not_false,cond_true,cond_true];rfl
 |true=>
  refine go ?_ b;have d:∀k:Int,x.fKind=k->(x.fKind==k)=true:=fun k h=>beq_iff_eq.2 h;have n6:∀k:Int,x.fKind≠k->(x.fKind==k)=false:=fun k h=>beq_false_of_ne h;unfold Zdy;rw[ZrE x hx,Zan,b,Bool.not_true,cond_false];unfold Zlr;dsimp only;by_cases n:x.fKind=1
  .have o:Zgq x.fEnd=true:=by
    unfold ZkZ at b;rw[if_pos (.inl n),Bool.and_eq_true]at b;exact b.1
   rw[d 1 n,cond_true,cond_true];exact Dk.fin hx hI hN ⟨ZmA c s x,Zyc hx hI hN,ZFT hx hI hN o⟩
  rw[n6 1 n,cond_false,cond_false];by_cases g:x.fKind=2
  .rw[d 2 g,cond_true,n6 3 (by omega),cond_false,n6 4 (by omega),cond_false,n6 5 (by omega),cond_false,n6 6 (by omega),cond_false,n6 7 (by omega),cond_false,n6 8 (by omega),cond_false,n6 9 (by omega)];unfold ZbI;rw[cond_false,n6 10 (by omega),cond_false,n6 13 (by omega),cond_false];exact Dk.fin hx hI hN (ZIb hx hI hN g)
  rw[n6 2 g,cond_false];by_cases r:x.fKind=3
  .rw[d 3 r,cond_true,cond_true];exact Dk.fin hx hI hN (ZMl hx hI hN)
  rw[n6 3 r,cond_false,cond_false];by_cases j:x.fKind=4
  .have o:Zgq x.fEnd=true:=by
    unfold ZkZ at b;rw[iNa,iNa,iNa,if_pos j,Bool.and_eq_true]at b;exact b.1
   rw[d 4 j,cond_true,cond_true];exact Dk.fin hx hI hN (ZEj hx hI hN o)
  rw[n6 4 j,cond_false,cond_false];by_cases p:x.fKind=5
  .rw[d 5 p,cond_true,cond_true];exact Dk.fin hx hI hN (ZIW hx hI hN)
  rw[n6 5 p,cond_false,cond_false];by_cases e:x.fKind=6
  .rw[d 6 e,cond_true,cond_true];unfold ZbI;rw[cond_true];exact Dk.fin hx hI hN (ZPj hx hI hN e)
  rw[n6 6 e,cond_false,cond_false];by_cases f:x.fKind=7
  .rw[d 7 f,cond_true,cond_true];unfold ZbI;rw[cond_true];exact Dk.fin hx hI hN (ZHw hx hI hN f)
  rw[n6 7 f,cond_false,cond_false];by_cases i:x.fKind=8
  .rw[d 8 i,cond_true,cond_true];unfold ZbI Zcz Zdm;dsimp only;rw[cond_true,n6 6 e,cond_false,n6 7 f,cond_false,d 8 i,cond_true,(Zmd s.fBans x.fEnd.fAddr x.fNow (by unfold maxLen;omega) hI.bans hx.2.1.1).2,Zan,(Zmd s.fBans x.fEnd.fAddr x.fNow (by unfold maxLen;omega) hI.bans hx.2.1.1).1,Zan];exact⟨_,rfl,rfl⟩
  rw[n6 8 i,cond_false,cond_false];by_cases t:x.fKind=9
  .rw[d 9 t,cond_true];unfold ZbI Zcz;rw[cond_true,n6 6 e,cond_false,n6 7 f,cond_false,n6 8 i,cond_false,ZAT _ _ (by omega),Zan,ZIX _ _ (by omega),Zan];exact⟨_,rfl,rfl⟩
  rw[n6 9 t,cond_false];unfold ZbI;rw[cond_false];by_cases k10:x.fKind=10
  .have hso:ZfC s.fPeers=s.fPeers:=ZBt hI.str (List.Perm.refl _);rw[d 10 k10,cond_true,cond_true,ZAw _ (by omega),Zan,hso];exact⟨_,rfl,rfl⟩
  rw[n6 10 k10,cond_false,cond_false];by_cases k13:x.fKind=13
  .have en:ZfJ x.fEnd x.fNow=some (newE x):=by unfold ZfJ;rw[ZjE];rfl
   have md:ZpF x.fEnd x.fNow=some (newE x):=by unfold ZpF;rw[ZiX];rfl
   rw[n6 11 (by omega),cond_false,n6 12 (by omega),cond_false,d 13 k13,cond_true,en,Zan,ZKh _ _ _ (by omega) (ZuD hx),Zan];unfold Zlq;dsimp only;rw[md,Zan,ZPi _ _ _ (by omega) (ZuD hx),Zan];cases((addS s.fBook (newE x) c.fMaxBook).2==0)with
   |true=>rw[cond_true,cond_true];exact⟨_,rfl,rfl⟩
   |false=>rw[cond_false,cond_false];exact⟨_,rfl,rfl⟩
  rw[n6 13 k13,cond_false];by_cases k11:x.fKind=11
  .rw[d 11 k11,cond_true];exact Dk.fin hx hI hN (ZKn hx hI hN k11)
  rw[n6 11 k11,cond_false];by_cases k12:x.fKind=12
  .rw[d 12 k12,cond_true];exact Dk.fin hx hI hN (ZJz hx hI hN g k11)
  .exfalso;unfold ZkZ at b;rw[iNa,if_neg g,iNa,if_neg j,if_neg p,if_neg e,if_neg f,if_neg i,if_neg k10,if_neg k11]at b;cases b
end
theorem zTF:¬true=false:=by decide
theorem zFT:¬false=true:=by decide
theorem z12:¬(1:Int)=2:=by decide
theorem z32:¬(3:Int)=2:=by decide
theorem z13:(1:Int)<=3:=by decide
theorem z33:(3:Int)<=3:=by decide
theorem z11:(1:Int)<=1:=by decide
theorem z00:(0:Int)<=0:=by decide
theorem z0K:(0:Int)<=1000:=by decide
theorem zM:(0:Int)<=0/\(0:Int)<=1099511627776:=by decide
theorem zP:(0:Int)<=0/\(0:Int)<=1048576:=by decide
def inM(n m:Int):Prop:=0<=n/\n<=m
def Zrv(p:Zaa):Prop:=Zgq p.fEnd=true/\inM p.fSince 1099511627776/\inM p.fScore.fAt 1099511627776/\inM p.fWork 1099511627776/\inM p.fScore.fPoints 1099511627776/\inM p.fPing 1048576
theorem ZHR{p:Zaa}(b:p.ok)(h:Zrv p):Zfr p=some true:=by
 obtain⟨d,f,g,i,j,o⟩:=h;have e:∀{n m:Int},inM n m->(decide (0<=n)&&decide (n<=m))=true:=fun h=>by rw[Bool.and_eq_true,decide_eq_true_eq,decide_eq_true_eq];exact h
 unfold Zfr;simp only[Zpe _ b.1,d,Zan,cond_true,ZrF,e f,e g,e i,e j,e o]
theorem ZDS{l:Prs}(hl:l.length<=1000)(b:∀p∈l,Zfr p=some true)(e:StrP l):ZmL l=some true:=by
 have aK:∀fu (i:Nat),i<=l.length->l.length-i<fu->Zhk l fu l (l.length:Int) (i:Int)=some true:=by
  intro fu;induction fu with
  |zero=>intro i _ h;omega
  |succ fu ih=>
   intro i j o;unfold Zhk;rw[Zad];by_cases h:i<l.length
   .have f:Zam (i:Int) 1=((i+1:Nat):Int):=add1 (n:=i+1) (by omega) (by simp only[maxLen];omega);have g:Zay (i:Int) 1=(i:Int)-1:=Zbi (by omega) (by omega);rw[iNb,Zaj ⟨by omega,by omega⟩,Int.toNat_natCast,b _ (Zcw _ _ _ h),Zan,Bool.not_true,cond_false,Zad,f,g];by_cases h0:i=0
    .rw[iNa];exact ih (i+1) (by omega) (by omega)
    .rw[iNb,Zaj ⟨by omega,by omega⟩];have hlt:=List.pairwise_iff_getElem.1 e (i-1) i (by omega) h (by omega);rw[Zlj]at hlt;have eo:ZdX (l.getD ((i:Int)-1).toNat Zaa.d) (l.getD i Zaa.d)=some (cmpE l[i-1].fEnd l[i].fEnd):=by
      unfold ZdX;rw[show ((i:Int)-1).toNat=i-1 by omega,ZbA l _ _ (show i-1<l.length by omega),ZbA l _ _ h,Zog];rfl
     rw[eo,Zan,Zad,iNa];exact ih (i+1) (by omega) (by omega)
   .rw[iNa]
 unfold ZmL;exact aK _ 0 (by omega) (by omega)
theorem ZAL:∀{l:List Zab}{p:Option Zab},(∀e∈l,ZhP e=true)->SrtE l->(∀e∈l,ZHo p e=true)->Zxh p l=true
 | [],p,_,_,_=>by cases p<;>rfl
 |x :: r,p,h,d,f=>by
  have cW:=List.pairwise_cons.1 d
  have g:=ZAL (p:=some x) (fun e b=>h e (List.mem_cons_of_mem _ b)) cW.2 (fun e b=>by simp only[ZHo,decide_eq_true_eq];exact cW.1 e b)
  simp only[Zxh,h x List.mem_cons_self,f x List.mem_cons_self,g,Bool.and_true]
theorem ZPb{l:List Zab}(h:SrtE l):l.Pairwise fun a b=>a.fEnd≠b.fEnd:=List.Pairwise.imp (fun h e=>by rw[ZgT.2 e]at h;exact absurd h (by decide)) h
theorem ZEi{b:List Zab}{l:Prs}(g:SrtE b)(i:StrP l)(u1:∀e∈b,e.fState=3->∃p∈l,p.fEnd=e.fEnd/\p.fIn=false)(u2:∀p∈l,p.fIn=false->∃e∈b,e.fEnd=p.fEnd/\e.fState=3):ZeA b 3=cntP l false:=by
 have h:((b.filter (fun x=>decide (x.fState=3))).map (·.fEnd)).Perm ((l.filter (fun p=>p.fIn==false)).map (·.fEnd)):=by
  rw[List.perm_ext_iff_of_nodup]
  .intro a;simp only[List.mem_map,List.mem_filter,decide_eq_true_eq,beq_iff_eq];constructor
   .rintro ⟨e,⟨d,f⟩,rfl⟩;obtain⟨p,p1,p2,p3⟩:=u1 e d f;exact⟨p,⟨p1,p3⟩,p2⟩
   .rintro ⟨p,⟨p1,p2⟩,rfl⟩;obtain⟨e,d,f,j⟩:=u2 p p1 p2;exact⟨e,⟨d,j⟩,f⟩
  .exact List.pairwise_map.2 ((ZPb g).filter _)
  .exact List.pairwise_map.2 ((i.imp fun h=>ZKI h).filter _)
 have:=h.length_eq;rw[List.length_map,List.length_map]at this;unfold ZeA cntP;rw[List.countP_eq_length_filter,List.countP_eq_length_filter,this]
theorem ZBf{s:Zak}(v:s.fBook.length<=1000)(y:s.fPeers.length<=1000)(j:SrtE s.fBook)(u2:∀p∈s.fPeers,p.fIn=false->∃e∈s.fBook,e.fEnd=p.fEnd/\e.fState=3)(o:ZeA s.fBook 3=cntP s.fPeers false):ZlY s=some true:=by
 have aK:∀fu (i:Nat),i<=s.fPeers.length->s.fPeers.length-i<fu->Zgz fu s.fPeers (s.fPeers.length:Int) (i:Int) s=some true:=by
  intro fu;induction fu with
  |zero=>intro i _ h;omega
  |succ fu ih=>
   intro i A B;unfold Zgz;rw[Zad];by_cases h:i<s.fPeers.length
   .have r:Zam (i:Int) 1=((i+1:Nat):Int):=add1 (n:=i+1) (by omega) (by simp only[maxLen];omega);have b:=ih (i+1) (by omega) (by omega);rw[iNb,Zaj ⟨by omega,by omega⟩,Int.toNat_natCast,ZqN _ _ (by unfold maxLen;omega),Zan,r];cases hin:(s.fPeers.getD i Zaa.d).fIn with
    |true=>rw[Bool.not_true,cond_false];exact b
    |false=>
     obtain⟨e,f,g,t⟩:=u2 _ (Zcw s.fPeers Zaa.d i h) hin;have h0:0<=Zer s.fBook (s.fPeers.getD i Zaa.d).fEnd:=Int.not_lt.1 fun q=>ZqH.1 q e f g;have hlt:=ZoC s.fBook (s.fPeers.getD i Zaa.d).fEnd;have u:=Zyn j (Zcw s.fBook Zab.d (Zer s.fBook (s.fPeers.getD i Zaa.d).fEnd).toNat (by omega)) f ((ZuO h0).trans g.symm);rw[Bool.not_false,cond_true,Zad,iNa,Zaj ⟨h0,hlt⟩,u,t];exact b
   .rw[iNa,ZtU _ _ (by unfold maxLen;omega),Zan,Znc _ _ (by unfold maxLen;omega),Zan,o,beq_self_eq_true]
 unfold ZlY;exact aK _ 0 (by omega) (by omega)
structure RS (c:Zaq) (N:Nat) (s:Zak):Prop where
 bans:ZFU c.fMaxBans N s.fBans
 book:∀e∈s.fBook,ZhP e=true
 nbook:(s.fBook.length:Int)<=c.fMaxBook
 peers:∀p∈s.fPeers,Zrv p
 nin:cntP s.fPeers true<=c.fMaxIn
 nout:cntP s.fPeers false+ZeA s.fBook 2<=c.fMaxOut
 up1:∀e∈s.fBook,e.fState=3->∃p∈s.fPeers,p.fEnd=e.fEnd/\p.fIn=false
 up2:∀p∈s.fPeers,p.fIn=false->∃e∈s.fBook,e.fEnd=p.fEnd/\e.fState=3
theorem Znw{l m:List Zab}(h:l.Perm m)(k:Int):ZeA l k=ZeA m k:=by unfold ZeA;rw[h.countP_eq]
theorem Zki{l m:Prs}(h:l.Perm m)(b:Bool):cntP l b=cntP m b:=by unfold cntP;rw[h.countP_eq]
theorem Znx(e:Zab)(r:List Zab)(k:Int):ZeA (e :: r) k=ZeA r k+(if e.fState=k then 1 else 0):=by
 unfold ZeA;rw[List.countP_cons];by_cases h:e.fState=k<;>simp[h]
theorem ZlR(p:Zaa)(r:Prs)(b:Bool):cntP (p :: r) b=cntP r b+(if p.fIn=b then 1 else 0):=by
 unfold cntP;rw[List.countP_cons];by_cases h:p.fIn=b<;>simp[h]
theorem ZHe(l m:Prs)(b:Bool):cntP (l++m) b=cntP l b+cntP m b:=by unfold cntP;rw[List.countP_append];omega
theorem ZMv(l:Prs)(b:Bool):0<=cntP l b:=by unfold cntP;omega
theorem ZAH{l:List Zab}(o:SrtE l){e f:Zab}(g:e∈l)(h:f.fEnd=e.fEnd):∃r,l.Perm (e :: r)/\(setS l f).Perm (f :: r):=by
 have h0:0<=Zer l f.fEnd:=Int.not_lt.1 fun q=>ZqH.1 q e g h.symm;have hlt:=ZoC l f.fEnd;have b:(Zer l f.fEnd).toNat<l.length:=by omega
 have i:l.getD (Zer l f.fEnd).toNat Zab.d=e:=Zyn o (Zcw _ _ _ b) g ((ZuO h0).trans h);unfold setS;rw[if_pos h0];generalize (Zer l f.fEnd).toNat=k at b i ⊢;have p1:∀m:List Zab,k<m.length->m.Perm (m.getD k Zab.d :: (m.take k++m.drop (k+1))):=fun m b=>by
  have e:m=m.take k++m.getD k Zab.d :: m.drop (k+1):=by rw[<-Zdc m _ k b,List.take_append_drop]
  conv=>lhs;rw[e]
  exact List.perm_middle
 have j:=p1 l b;have n:=p1 (l.set k f) (by simpa using b);rw[i]at j;rw[ZGc l _ b,List.take_set_of_le (Nat.le_refl k),List.drop_set_of_lt (by omega)]at n;exact⟨_,j,n⟩
theorem ZoK{e:Zab}:ZhP e=true↔Zgq e.fEnd=true/\1<=e.fState/\e.fState<=3/\0<=e.fFails/\e.fFails<=1000/\0<=e.fNext/\e.fNext<=1099511627776:=by
 unfold ZhP;simp only[Bool.and_eq_true,decide_eq_true_eq,and_assoc]
theorem ZAE{e:Zab}(h:ZhP e=true){k:Int}(b:1<=k)(d:k<=3):ZhP (stE e k)=true:=by
 rw[ZoK]at h ⊢;exact⟨h.1,b,d,h.2.2.2⟩
theorem ZEZ{e:Zab}(h:ZhP e=true):ZhP (ZvU e)=true:=by
 rw[ZoK]at h ⊢;exact⟨h.1,z13,z33,z00,z0K,h.2.2.2.2.2⟩
theorem ZFc{e:Zab}(d:ZhP e=true)(c:Zaq)(ah r:Int):ZhP (ZrY c e ah r)=true/\(ZrY c e ah r).fEnd=e.fEnd/\(ZrY c e ah r).fState=1:=by
 have h:=(Zwb c e ah r).1;unfold Zhy at h;obtain⟨t,b,h⟩:=ZfN h;have j:=Option.some.inj h;unfold Zjh at b;obtain⟨x1,_,b⟩:=ZfN b;obtain⟨x2,_,b⟩:=ZfN b;obtain⟨x3,_,b⟩:=ZfN b;obtain⟨x4,f,b⟩:=ZfN b;have g:=Option.some.inj b;rw[(Zqm _ _).1]at f;have i:=Option.some.inj f;rw[ZoK]at d;rw[<-j];refine⟨ZoK.2 ⟨d.1,z11,z13,?_,?_,?_,?_⟩,rfl,rfl⟩
 .show 0<=Zam (if(999:Int)<(if(0:Int)>e.fFails then(0:Int)else e.fFails)then(999:Int)else(if(0:Int)>e.fFails then(0:Int)else e.fFails)) (1:Int);rw[Zbb (by split<;>(try split)<;>omega) (by split<;>(try split)<;>omega)]
  split<;>(try split)<;>omega
 .show Zam (if(999:Int)<(if(0:Int)>e.fFails then(0:Int)else e.fFails)then(999:Int)else(if(0:Int)>e.fFails then(0:Int)else e.fFails)) (1:Int)<=1000;rw[Zbb (by split<;>(try split)<;>omega) (by split<;>(try split)<;>omega)]
  split<;>(try split)<;>omega
 .show 0<=t;rw[<-g,<-i];exact(ZfA _).1
 .show t<=1099511627776;rw[<-g,<-i];exact(ZfA _).2
theorem ZEo{p:Zaa}(h:Zrv p)(n:Int):Zrv (Zvt p n)/\(Zvt p n).fEnd=p.fEnd/\(Zvt p n).fIn=p.fIn:=by
 obtain⟨b,d,e,f,g,i⟩:=h;unfold Zvt ZjK;simp only[Zad,Zdp]
 repeat' split
 all_goals first|exact⟨⟨b,d,e,f,g,i⟩,rfl,rfl⟩|exact⟨⟨b,d,e,f,g,by show inM n 1048576;unfold inM;omega⟩,rfl,rfl⟩
theorem ZDM{p:Zaa}(h:Zrv p)(n:Int):Zrv (ZuY p n)/\(ZuY p n).fEnd=p.fEnd/\(ZuY p n).fIn=p.fIn:=by
 obtain⟨b,d,e,f,g,i⟩:=h;unfold ZuY Zhv;rw[ZiX,Zan];refine⟨⟨b,d,e,?_,g,i⟩,rfl,rfl⟩;show inM (if fitI n>p.fWork then fitI n else p.fWork) 1099511627776;split
 .exact ZfA n
 .exact f
theorem ZAp{p:Zaa}(h:Zrv p)(c:Zaq)(x:Zar):Zrv (ZpX c x p):=by
 refine⟨h.1,h.2.1,?_,h.2.2.2.1,Zyf c x p,h.2.2.2.2.2⟩;have b:=ZfA p.fScore.fAt;have d:=ZfA x.fNow;have e:Zqt p.fScore c.fHalf x.fNow*(ZnC c.fHalf).toNat<=(fitI x.fNow-fitI p.fScore.fAt).toNat:=Nat.div_mul_le_self _ _;show inM (fitI p.fScore.fAt+((Zqt p.fScore c.fHalf x.fNow*(ZnC c.fHalf).toNat:Nat):Int)) 1099511627776;unfold inM;omega
theorem Zxv{x:Zar}(h:Zgq x.fEnd=true)(b:Bool):Zrv ⟨x.fEnd,b,fitI x.fNow,⟨0,fitI x.fNow⟩,0,0⟩:=
 ⟨h,ZfA _,ZfA _,zM,zM,zP⟩
theorem ZpV(l:List Zag)(e:Zab):(Zmz l e=e/\(e.fState=3->¬e.fEnd∈l))\/(e.fState=3/\e.fEnd∈l/\Zmz l e=⟨e.fEnd,1,e.fFails,e.fNext⟩):=by
 unfold Zmz;split
 .rename_i b;split
  .rename_i d;exact .inr ⟨b,by simpa using d,rfl⟩
  .rename_i d;exact .inl ⟨rfl,fun _ f=>d (by simpa using f)⟩
 .rename_i b;exact .inl ⟨rfl,fun h=>absurd h b⟩
section
variable {c:Zaq} {s:Zak} {x:Zar} {N:Nat}
theorem RS.up(h:RS c N s):RS c (N+1) s:=⟨h.bans.sub (List.Sublist.refl _),h.book,h.nbook,h.peers,h.nin,h.nout,h.up1,h.up2⟩
theorem RS.bsome(h:RS c N s){b:List Zac}(hb:ZJf c s.fBans b):ZFU c.fMaxBans (N+1) b:=by
 rcases hb with⟨n,d,e,rfl⟩|hb
 .exact(ZJH h.bans d e).1
 .exact h.bans.sub hb
theorem RS.down(h:RS c N s)(hI:cN N s){b:List Zac}(hb:ZJf c s.fBans b){gone left:Prs}(f:s.fPeers.Perm (gone++left)):RS c (N+1) ⟨b,s.fBook.map (Zmz (Zlh gone)),left⟩:=by
 have hd:(gone++left).Pairwise fun a b=>a.fEnd≠b.fEnd:=(List.Pairwise.imp (fun h=>ZKI h) hI.str).perm f fun h=>h.symm;have hne:=(List.pairwise_append.1 hd).2.2;have bJ:∀a,a∈Zlh gone↔∃q∈gone,q.fEnd=a:=fun a=>by unfold Zlh;exact List.mem_map
 have bU:∀p∈left,p∈s.fPeers:=fun p bY=>f.mem_iff.2 (List.mem_append.2 (.inr bY));have t:∀b,cntP left b<=cntP s.fPeers b:=fun b=>by rw[Zki f,ZHe];have:=ZMv gone b;omega
 refine⟨h.bsome hb,fun e n=>?_,by show (((s.fBook.map (Zmz (Zlh gone))).length:Nat):Int)<=c.fMaxBook;rw[List.length_map];exact h.nbook,fun p bY=>h.peers p (bU p bY),?_,?_,fun e n d=>?_,fun p bY u=>?_⟩
 .obtain⟨y,o,rfl⟩:=List.mem_map.1 n;have i:=h.book y o;rcases ZpV (Zlh gone) y with⟨q,_⟩|⟨_,_,q⟩
  .rw[q];exact i
  .rw[q];rw[ZoK]at i ⊢;exact⟨i.1,z11,z13,i.2.2.2⟩
 .have:=t true;have:=h.nin;show cntP left true<=_;omega
 .have j:ZeA (s.fBook.map (Zmz (Zlh gone))) 2=ZeA s.fBook 2:=by
   unfold ZeA;rw[List.countP_map];congr 1;refine List.countP_congr fun y _=>?_;simp only[Function.comp_apply,decide_eq_true_eq];rcases ZpV (Zlh gone) y with⟨q,_⟩|⟨v,_,q⟩
   .rw[q]
   .rw[q,v];show (1:Int)=2↔(3:Int)=2;omega
  show cntP left false+ZeA (s.fBook.map (Zmz (Zlh gone))) 2<=c.fMaxOut;rw[j];have:=t false;have:=h.nout;omega
 .obtain⟨y,o,rfl⟩:=List.mem_map.1 n;rcases ZpV (Zlh gone) y with⟨q,r⟩|⟨_,_,q⟩
  .rw[q]at d ⊢;obtain⟨p,p1,p2,p3⟩:=h.up1 y o d;rcases List.mem_append.1 (f.mem_iff.1 p1)with p4|p4
   .exact absurd ((bJ _).2 ⟨p,p4,p2⟩) (r d)
   .exact⟨p,p4,p2,p3⟩
  .rw[q]at d;cases d
 .obtain⟨e,A,j,B⟩:=h.up2 p (bU p bY) u;rcases ZpV (Zlh gone) e with⟨q,_⟩|⟨_,r,_⟩
  .exact⟨e,List.mem_map.2 ⟨e,A,q⟩,j,B⟩
  .obtain⟨g,C,D⟩:=(bJ _).1 r;exact absurd (D.trans j) (hne g C p bY)
theorem RS.set(h:RS c N s)(hI:cN N s){e f:Zab}(i:e∈s.fBook)(hfe:f.fEnd=e.fEnd)(j:ZhP f=true)(n:e.fState≠3)(hf3:f.fState≠3)
  (o:cntP s.fPeers false+ZeA s.fBook 2+(if f.fState=2 then 1 else 0)<=c.fMaxOut+(if e.fState=2 then 1 else 0)):RS c (N+1) ⟨s.fBans,setS s.fBook f,s.fPeers⟩:=by
 obtain⟨r,g,d⟩:=ZAH hI.srt i hfe;have hin:∀y,y∈r->y∈s.fBook:=fun y b=>g.mem_iff.2 (List.mem_cons_of_mem _ b);refine⟨h.bsome .same,fun y b=>?_,by show (((setS s.fBook f).length:Nat):Int)<=c.fMaxBook;rw[Zyp];exact h.nbook,h.peers,h.nin,?_,fun y b y3=>?_,fun p t u=>?_⟩
 .rcases List.mem_cons.1 (d.mem_iff.1 b)with q|q
  .rw[q];exact j
  .exact h.book y (hin y q)
 .show cntP s.fPeers false+ZeA (setS s.fBook f) 2<=c.fMaxOut;rw[Znw g,Znx]at o;rw[Znw d,Znx];omega
 .rcases List.mem_cons.1 (d.mem_iff.1 b)with q|q
  .rw[q]at y3;exact absurd y3 hf3
  .exact h.up1 y (hin y q) y3
 .obtain⟨y,y1,y2,y3⟩:=h.up2 p t u;rcases List.mem_cons.1 (g.mem_iff.1 y1)with q|q
  .rw[q]at y3;exact absurd y3 n
  .exact⟨y,d.mem_iff.2 (List.mem_cons_of_mem _ q),y2,y3⟩
theorem RS.door(h:RS c N s){o r l:Prs}(b:s.fPeers.Perm (o++r))(ho:∀q∈o,q.fIn=true)(hl:l.Perm (ZlE x :: r))(f:Zgq x.fEnd=true)(j:cntP r true<c.fMaxIn):RS c (N+1) ⟨s.fBans,s.fBook,l⟩:=by
 have bU:∀p∈r,p∈s.fPeers:=fun p bY=>b.mem_iff.2 (List.mem_append.2 (.inr bY));have n:cntP r false<=cntP s.fPeers false:=by rw[Zki b,ZHe];have:=ZMv o false;omega
 refine⟨h.bsome .same,h.book,h.nbook,fun p bY=>?_,?_,?_,fun e g i=>?_,fun p bY d=>?_⟩
 .rcases List.mem_cons.1 (hl.mem_iff.1 bY)with q|q
  .rw[q];exact Zxv f true
  .exact h.peers p (bU p q)
 .show cntP l true<=c.fMaxIn;rw[Zki hl,ZlR];rw[if_pos (show (ZlE x).fIn=true from rfl)];omega
 .show cntP l false+ZeA s.fBook 2<=c.fMaxOut;rw[Zki hl,ZlR,if_neg (show ¬(ZlE x).fIn=false from zTF)];have:=h.nout;omega
 .obtain⟨p,p1,p2,p3⟩:=h.up1 e g i;rcases List.mem_append.1 (b.mem_iff.1 p1)with q|q
  .rw[ho p q]at p3;cases p3
  .exact⟨p,hl.mem_iff.2 (List.mem_cons_of_mem _ q),p2,p3⟩
 .rcases List.mem_cons.1 (hl.mem_iff.1 bY)with q|q
  .rw[q]at d;cases d
  .exact h.up2 p (bU p q) d
theorem RS.step{t:Zak}(h:SS c s x t)(g:RS c N s)(hx:x.ok)(hI:cN N s)(hN:N<=100):RS c (N+1) t:=by
 cases h with
 |same=>exact g.up
 |acc C=>
  unfold ZmA;split
  .exact g.up
  split
  .exact g.up
  rename_i i;have bu:∀q∈s.fPeers,q.fEnd≠(ZlE x).fEnd:=ZpS.1 (show ZgR s.fPeers x.fEnd<0 by omega);split
  .rename_i iC;split
   .rename_i O;obtain⟨k,U,Z,k3,J⟩:=Zzk hx hI hN O;have hb:=Zmu U;have v:(ZgR s.fPeers (ZrM c s).1).toNat=k:=by omega
    rw[v];have mf:∀q∈butK s.fPeers k,q.fEnd≠(ZlE x).fEnd:=fun q D=>bu q (hb.mem_iff.2 (List.mem_cons_of_mem _ D));refine g.door (o:=[s.fPeers.getD k Zaa.d]) (r:=butK s.fPeers k) hb (fun q D=>by rw[List.mem_singleton.1 D];exact J) (Zva (Zqk hI.str k) mf).2 C ?_;have:=g.nin;rw[Zki hb,ZlR,if_pos J]at this;omega
   .exact g.up
  .rename_i iC;exact g.door (o:=[]) (r:=s.fPeers) (List.Perm.refl _) (fun q D=>by cases D) (Zva hI.str bu).2 C (by omega)
 |bans hb=>exact⟨g.bsome hb,g.book,g.nbook,g.peers,g.nin,g.nout,g.up1,g.up2⟩
 |gone hb n=>
  refine g.down hI hb ?_;have:=List.filter_append_perm (fun p:Zaa=>hasS n p.fEnd.fAddr==true) s.fPeers;unfold ofP;refine this.symm.trans (List.Perm.of_eq ?_);congr 1;refine List.filter_congr fun p _=>?_;cases hasS n p.fEnd.fAddr<;>rfl
 |leave v j=>
  rename_i k;have:[x.fEnd]=Zlh [s.fPeers.getD k Zaa.d]:=by unfold Zlh;rw[List.map_cons,List.map_nil,j]
  rw[this];exact g.down hI .same (Zmu v)
 |peer v u=>
  rename_i k y;have i:=g.peers _ (Zcw s.fPeers Zaa.d k v);obtain⟨y1,y2,y3⟩ : Zrv y/\y.fEnd=(s.fPeers.getD k Zaa.d).fEnd/\y.fIn=(s.fPeers.getD k Zaa.d).fIn:=by
   rcases u with rfl|rfl|rfl
   .exact ZEo i _
   .exact ZDM i _
   .exact⟨ZAp i c x,rfl,rfl⟩
  have b1:=Zmu v;have b2:=ZJO v y;have bU:∀p∈butK s.fPeers k,p∈s.fPeers:=fun p bY=>b1.mem_iff.2 (List.mem_cons_of_mem _ bY);have L:∀b,cntP (s.fPeers.set k y) b=cntP s.fPeers b:=fun b=>by rw[Zki b1,Zki b2,ZlR,ZlR,y3]
  refine⟨g.bsome .same,g.book,g.nbook,fun p bY=>?_,by show cntP (s.fPeers.set k y) true<=_;rw[L];exact g.nin,by show cntP (s.fPeers.set k y) false+_<=_;rw[L];exact g.nout,fun e j F=>?_,fun p bY A=>?_⟩
  .rcases List.mem_cons.1 (b2.mem_iff.1 bY)with q|q
   .rw[q];exact y1
   .exact g.peers p (bU p q)
  .obtain⟨p,p1,p2,p3⟩:=g.up1 e j F;rcases List.mem_cons.1 (b1.mem_iff.1 p1)with q|q
   .exact⟨y,b2.mem_iff.2 List.mem_cons_self,by rw[y2,<-q];exact p2,by rw[y3,<-q];exact p3⟩
   .exact⟨p,b2.mem_iff.2 (List.mem_cons_of_mem _ q),p2,p3⟩
  .rcases List.mem_cons.1 (b2.mem_iff.1 bY)with q|q
   .rw[q,y3]at A;rw[q,y2];exact g.up2 _ (Zcw s.fPeers Zaa.d k v) A
   .exact g.up2 p (bU p q) A
 |dial j B G=>
  rename_i e;exact g.set hI j rfl (ZAE (g.book e j) (by decide) (by decide)) (by omega) (show (2:Int)≠3 by decide) (by rw[if_pos (show (stE e 2).fState=2 from rfl),iNa];omega)
 |fail j B H=>
  rename_i e f;have M:=g.nout;rcases H with rfl|rfl
  .obtain⟨f1,f2,f3⟩:=ZFc (g.book e j) c x.fNow x.fNum;exact g.set hI j f2 f1 (by omega) (by omega) (by rw[iNa,if_pos B];omega)
  .exact g.set hI j rfl (ZAE (g.book e j) (by decide) (by decide)) (by omega) (show (1:Int)≠3 by decide) (by rw[if_neg (show ¬(stE e 1).fState=2 from z12),if_pos B];omega)
 |good j B G F V=>
  rename_i e;obtain⟨r,I,E⟩:=ZAH (f:=ZvU e) hI.srt j rfl;have hin:∀y,y∈r->y∈s.fBook:=fun y u=>I.mem_iff.2 (List.mem_cons_of_mem _ u);have hl:=(Zva hI.str (p:=ZrG x) (ZpS.1 F)).2;have M:=g.nout;rw[Znw I,Znx,if_pos B]at M;refine⟨g.bsome .same,fun y u=>?_,by show (((setS s.fBook (ZvU e)).length:Nat):Int)<=c.fMaxBook;rw[Zyp];exact g.nbook,fun p i=>?_,?_,?_,fun y u y3=>?_,fun p i A=>?_⟩
  .rcases List.mem_cons.1 (E.mem_iff.1 u)with q|q
   .rw[q];exact ZEZ (g.book e j)
   .exact g.book y (hin y q)
  .rcases List.mem_cons.1 (hl.mem_iff.1 i)with q|q
   .rw[q];exact Zxv V false
   .exact g.peers p q
  .show cntP (mrg s.fPeers [ZrG x]) true<=c.fMaxIn;rw[Zki hl,ZlR,if_neg (show ¬(ZrG x).fIn=true from zFT)];have:=g.nin;omega
  .show cntP (mrg s.fPeers [ZrG x]) false+ZeA (setS s.fBook (ZvU e)) 2<=c.fMaxOut;rw[Zki hl,ZlR,if_pos (show (ZrG x).fIn=false from rfl),Znw E,Znx,if_neg (show ¬(ZvU e).fState=2 from z32)];omega
  .rcases List.mem_cons.1 (E.mem_iff.1 u)with q|q
   .rw[q];exact⟨ZrG x,hl.mem_iff.2 List.mem_cons_self,G.symm,rfl⟩
   .obtain⟨p,p1,p2⟩:=g.up1 y (hin y q) y3;exact⟨p,hl.mem_iff.2 (List.mem_cons_of_mem _ p1),p2⟩
  .rcases List.mem_cons.1 (hl.mem_iff.1 i)with q|q
   .rw[q];exact⟨ZvU e,E.mem_iff.2 List.mem_cons_self,G,rfl⟩
   .obtain⟨y,y1,y2,y3⟩:=g.up2 p q A;rcases List.mem_cons.1 (I.mem_iff.1 y1)with z|z
    .rw[z,B]at y3;cases y3
    .exact⟨y,E.mem_iff.2 (List.mem_cons_of_mem _ z),y2,y3⟩
 |learn h0=>
  unfold addS at h0 ⊢;split at h0;rotate_left
  .simp at h0
  rename_i C;split at h0
  .simp at h0
  rename_i H;split at h0
  .simp at h0
  rename_i W;rw[if_pos C,if_neg H,if_neg W];have i:=ZBb s.fBook (newE x);refine⟨g.bsome .same,fun y u=>?_,?_,g.peers,g.nin,?_,fun y u y3=>?_,fun p bY A=>?_⟩
  .rcases List.mem_cons.1 (i.mem_iff.1 u)with q|q
   .rw[q];exact C
   .exact g.book y q
  .show (((putS s.fBook (newE x)).length:Nat):Int)<=c.fMaxBook;rw[i.length_eq,List.length_cons];omega
  .show cntP s.fPeers false+ZeA (putS s.fBook (newE x)) 2<=c.fMaxOut;rw[Znw i,Znx,if_neg (show ¬(newE x).fState=2 from z12)];have:=g.nout;omega
  .rcases List.mem_cons.1 (i.mem_iff.1 u)with q|q
   .rw[q]at y3;cases y3
   .exact g.up1 y q y3
  .obtain⟨y,y1,y2⟩:=g.up2 p bY A;exact⟨y,i.mem_iff.2 (List.mem_cons_of_mem _ y1),y2⟩
theorem ZEy(b:RS c N s)(hI:cN N s)(hN:N<=100)(g:Zle c=some true)(hb:0<=c.fMaxBans):Zls c s=some true:=by
 have n1:=hI.n1;have n2:=hI.n2;have n3:=hI.n3;obtain⟨r,h,i⟩:=ZIY s.fBans (by unfold maxLen;omega) hI.bans;have d:=b.bans.most;rw[iNa]at d;have n:=ZFL s.fPeers false;have o:0<=ZeA s.fBook 2/\ZeA s.fBook 2<=1000:=by
  unfold ZeA;have:=List.countP_le_length (p:=fun x:Zab=>decide (x.fState=2)) (l:=s.fBook);omega
 have ed:ZgG s=some (cntP s.fPeers false+ZeA s.fBook 2):=by
  unfold ZgG;rw[Znc _ _ (by unfold maxLen;omega),Zan,ZtU _ _ (by unfold maxLen;omega),Zan,Zbb (by omega) (by omega)]
 have j:=b.nout;unfold Zls;rw[g,Zan,Bool.not_true,cond_false,h,Zan,i.2 b.bans.right,Bool.not_true,cond_false,ZIU _ (by unfold maxLen;omega) hI.book,Zan,show ZPt s.fBook=true from ZAL b.book hI.srt (fun e _=>rfl),Bool.not_true,cond_false,
  ZDS (by omega) (fun p f=>ZHR (hI.peers p f) (b.peers p f)) hI.str,Zan,Bool.not_true,cond_false,Zad,if_pos d,Zad,if_pos b.nbook,Znc _ _ (by unfold maxLen;omega),Zan,Zad,if_pos b.nin,ed,Zan,Zad,if_pos j,
  ZBf (by omega) (by omega) hI.srt b.up2 (ZEi hI.srt hI.str b.up1 b.up2),Zan]
end
theorem RS.zero{c:Zaq}(d:0<=c.fMaxBook)(f:0<=c.fMaxIn)(g:0<=c.fMaxOut)(i:0<=c.fMaxBans):RS c 0 ⟨[],[],[]⟩:=
 ⟨⟨⟨fun b h=>(by cases h),List.Pairwise.nil⟩,fun b h=>(by cases h),by show ((0:Nat):Int)<=_;split<;>omega,Nat.le_refl _⟩,fun e h=>(by cases h),d,fun e h=>(by cases h),f,g,fun e h=>(by cases h),fun e h=>(by cases h)⟩
theorem ZHm:Zgk=some true:=by decide +kernel
theorem Zny{a:Bool}{y z:Option Bool}(h:(bif a then y else z)=some true)(b:z≠some true):a=true/\y=some true:=by
 cases a
 .exact absurd h b
 .exact⟨rfl,h⟩
theorem no_t:(some false:Option Bool)≠some true:=by decide
def inB(n a b:Int):Bool:=decide (n>=a)&&decide (n<=b)
theorem Zty{n a b:Int}:inB n a b=true↔a<=n/\n<=b:=by unfold inB;rw[Bool.and_eq_true,decide_eq_true_eq,decide_eq_true_eq]
theorem ZQE(n a b:Int):Zbg n a b=some (inB n a b):=ZKS n a b
def ckR(n a b:Int)(k:Option Bool):Option Bool:=bif decide (n<a)then some false else bif decide (n>b)then some false else k
theorem Zkp{n a b:Int}{k:Option Bool}(h:inB n a b=true):ckR n a b k=k:=by
 rw[Zty]at h;unfold ckR;rw[decide_eq_false (by omega),decide_eq_false (by omega)];rfl
def secI(n:Int):Int:=IntKind.wrap .i64 (IntKind.wrap .u64 (((BitVec.ofInt (IntKind.bits .u64) n) &&& (BitVec.ofInt (IntKind.bits .u64) (9223372036854775807:Int))).toNat:Int))
theorem ZQl(n:Int):inB (secI n) 0 9223372036854775807=true:=by
 rw[Zty];unfold secI;have h:((BitVec.ofInt (IntKind.bits .u64) n) &&& (BitVec.ofInt (IntKind.bits .u64) (9223372036854775807:Int))).toNat<=9223372036854775807:=by
  rw[BitVec.toNat_and];exact Nat.le_trans Nat.and_le_right (by decide)
 generalize ((BitVec.ofInt (IntKind.bits .u64) n) &&& (BitVec.ofInt (IntKind.bits .u64) (9223372036854775807:Int))).toNat=k at h ⊢;have b:IntKind.wrap .u64 (k:Int)=(k:Int):=by rw[IntKind.wrap_u64];omega
 rw[b,IntKind.wrap_i64];omega
theorem ZRe(c:Zaq):Zle c=bif decide (c.fSecret>9223372036854775807)then some false else(ckR c.fMaxIn 0 65535 (ckR c.fMaxOut 0 65535 (ckR c.fShards 1 8 (ckR c.fMaxBans 0 1024 (ckR c.fMaxBook 0 1024 (ckR (secI c.fSecret) 0 9223372036854775807 (ckR c.fQuota.fGroup 0 64 (ckR c.fQuota.fPing 0 64 (ckR c.fQuota.fWork 0 64 (ckR c.fQuota.fTime 0 64 (ckR c.fHalf 1 1073741824 (ckR c.fLimit 1 10000 (ckR c.fBanFor 1 1073741824 (ckR c.fBase 1 1073741824 (ckR c.fCap c.fBase 1073741824 (ckR c.fJitter 0 1073741824 (some true))))))))))))))))):=by kernel_rfl
theorem ZIO{c:Zaq}(h:ZeE c=some true):Zle c=some true/\0<=c.fMaxIn/\0<=c.fMaxOut/\0<=c.fMaxBans/\0<=c.fMaxBook:=by
 have n1:∀(v w:Bool),(bif v then(bif w then some false else some false)else some false:Option Bool)≠some true:=fun v w=>by cases v<;>cases w<;>exact no_t
 have b:∀(v w:Bool),ZbX v c w=some true->v=true/\w=true/\inB c.fHalf 1 1073741824=true/\inB c.fLimit 1 10000=true/\inB c.fBanFor 1 1073741824=true/\inB c.fBase 1 1073741824=true/\inB c.fCap c.fBase 1073741824=true/\inB c.fJitter 0 1073741824=true/\c.fSecret<=9223372036854775807:=fun v w h=>by
  unfold ZbX at h;simp only[ZQE,Zan]at h;obtain⟨d,h⟩:=Zny h (n1 v w);obtain⟨e,h⟩:=Zny h (n1 v w);obtain⟨f,h⟩:=Zny h (n1 v w);obtain⟨r,h⟩:=Zny h (n1 v w);obtain⟨t,h⟩:=Zny h (n1 v w);obtain⟨u,h⟩:=Zny h no_t;obtain⟨y,h⟩:=Zny h no_t;obtain⟨A,h⟩:=Zny h no_t;exact⟨u,y,d,e,f,r,t,A,of_decide_eq_true (Option.some.inj h)⟩
 have n2:∀v,ZbX v c false≠some true:=fun v h=>by have:=(b v false h).2.1;cases this
 have g:∀v,ZbY v c=some true->∃w,inB c.fQuota.fGroup 0 64=true/\inB c.fQuota.fPing 0 64=true/\inB c.fQuota.fWork 0 64=true/\w=inB c.fQuota.fTime 0 64/\ZbX v c w=some true:=fun v h=>by
  unfold ZbY at h;simp only[ZQE,Zan]at h;obtain⟨d,h⟩:=Zny h (n2 v);obtain⟨e,h⟩:=Zny h (n2 v);obtain⟨f,h⟩:=Zny h (n2 v);exact⟨_,d,e,f,rfl,h⟩
 have n3:ZbY false c≠some true:=fun h=>by
  obtain⟨w,_,_,_,_,h⟩:=g false h;have:=(b false w h).1;cases this
 unfold ZeE at h;simp only[ZQE,Zan]at h;obtain⟨i,h⟩:=Zny h n3;obtain⟨j,h⟩:=Zny h n3;obtain⟨B,h⟩:=Zny h n3;obtain⟨n,h⟩:=Zny h n3;obtain⟨w,C,D,E,o,h⟩:=g _ h;obtain⟨p,w1,b1,b2,b3,b4,b5,b6,b7⟩:=b _ _ h;rw[w1]at o;refine⟨?_,(Zty.1 i).1,(Zty.1 j).1,(Zty.1 n).1,(Zty.1 p).1⟩;rw[ZRe,decide_eq_false (by omega),cond_false];rw[Zkp i,Zkp j,Zkp B,Zkp n,Zkp p,Zkp (ZQl _),Zkp C,Zkp D,Zkp E,Zkp o.symm,Zkp b1,Zkp b2,Zkp b3,Zkp b4,Zkp b5,Zkp b6]
theorem ZHE{c:Zaq}(j:Zle c=some true)(hb:0<=c.fMaxBans){l:List Zar}(hl:l.length<=60)(ho:∀x∈l,x.ok):∀(k i fu:Nat)(s:Zak),l.length-i=k->i<=l.length->k+1<=fu->cN i s->RS c i s ->
  (∀(gA:Nat)(w:List Zal)(s0:Zak),k+1<=gA->w.length=i->∃y:Zak×List Zal,Zjf gA l (l.length:Int) (i:Int) w c s s0=some y/\y.2.length=l.length/\cN l.length y.1 /\
   (Znk c ⟨[],[],[]⟩ l=some y->ZcC l fu (i:Int) c s s=some true)):=by
 intro k;induction k with
 |zero=>
  intro i fu s o p r hI f gA w s0 mg b;obtain⟨fu,rfl⟩:=sC fu;obtain⟨gA,rfl⟩:=sC gA;obtain rfl:i=l.length:=by omega
  refine⟨(s,w),?_,b,hI,fun e=>?_⟩
  .unfold Zjf;rw[Zad,iNa]
  .have n1:=hI.n1;have n2:=hI.n2;have n3:=hI.n3;unfold ZcC;rw[Zad,iNa,e,Zan,Zrt s (by omega) (by omega) (by omega),Zan,cond_true,b,beq_self_eq_true,cond_true,ZHm];rfl
 |succ k ih=>
  intro i fu s o p r hI f gA w s0 mg b;obtain⟨fu,rfl⟩:=sC fu;obtain⟨gA,rfl⟩:=sC gA;have g:Zam (i:Int) 1=((i+1:Nat):Int):=add1 (n:=i+1) (by omega) (by simp only[maxLen];omega);have bC:i<l.length:=by omega
  have hx:=ho _ (Zcw l Zar.d i bC);obtain⟨y,h,iy,sy,ly⟩:=ZRb (c:=c) hx hI (by omega);have ry:=f.step sy hx hI (by omega);have cr:=ZRc (c:=c) hx hI (by omega);have hlen:(w++[y.2]).length=i+1:=by simp;omega
  obtain⟨t,t1,t2,t3,t4⟩:=ih (i+1) fu y.1 (by omega) (by omega) (by omega) iy ry gA (w++[y.2]) s0 (by omega) hlen;refine⟨t,?_,t2,t3,fun e=>?_⟩
  .unfold Zjf;rw[Zad,iNb,Zaj (by omega),Int.toNat_natCast,cr,h,Zan,Zaj ⟨by rw[hlen];omega,by rw[hlen];unfold maxLen;omega⟩,g];exact t1
  .have n1:=iy.n1;have n2:=iy.n2;have n3:=iy.n3;unfold ZcC;rw[Zad,iNb,Zaj (by omega),Int.toNat_natCast,cr,h,Zan,Zan,ZEy ry iy (by omega) j hb,Zan,Bool.not_true,cond_false,Zrt y.1 (by omega) (by omega) (by omega),Zan,Bool.not_true,cond_false,
    ZwK y.2 (by omega),Zan,Bool.not_true,cond_false,g]
   exact t4 e
theorem Zup(c:Zaq)(l:List Zar)(i:c.ok)(hl:okL Zar.ok l):ZhM c l=some true:=by
 unfold ZhM;rw[Zad,ZHm,Zan];split
 .rfl
 rename_i h60;obtain⟨b,hb⟩:=ZQq c;rw[hb,Zan];cases b with
 |false=>rfl
 |true=>
  obtain⟨e,f,g,d,h⟩:=ZIO hb;rw[Bool.not_true,cond_false];obtain⟨y,y1,y2,y3,y4⟩:=ZHE e d (l:=l) (by omega) hl.2 l.length 0 ((((l.length:Nat):Int)-(0:Int)).toNat+2) ⟨[],[],[]⟩ (by omega) (by omega) (by omega) ZOn (RS.zero h f g d) ((((l.length:Nat):Int)-(0:Int)).toNat+2) [] ⟨[],[],[]⟩ (by omega) rfl;exact y4 (by unfold Znk;exact y1)
end Go.Proofs.YtlpdogaifdeomaaGreat
