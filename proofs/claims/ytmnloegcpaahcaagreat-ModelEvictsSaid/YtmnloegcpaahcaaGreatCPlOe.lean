import Derived.Test.YtmnloegcpaahcaaGreatCPlTh
import Derived.Test.YtmnloegcpaahcaaGreatCPlEb
namespace Go.Proofs.YtmnloegcpaahcaaGreat
set_option linter.unusedVariables false
set_option linter.unusedSimpArgs false
set_option linter.unusedSectionVars false
def Zsl(k:Int):Zao:=⟨k,endZ,0,0,[]⟩
def ZEj(p:Zaa)(ms:Int):Zaa:=(ZmJ p ms).getD p
theorem ZIw(p:Zaa)(ms:Int):ZmJ p ms=some (ZEj p ms)/\Zfz p ms=some (ZEj p ms):=by
 obtain⟨q,b,d⟩:=ZJW p ms;unfold ZEj;rw[b,d];exact⟨rfl,rfl⟩
def ZDO(p:Zaa)(ag:Int):Zaa:=(ZkA p ag).getD p
theorem ZHS(p:Zaa)(ag:Int):ZkA p ag=some (ZDO p ag)/\Zev p ag=some (ZDO p ag):=by
 obtain⟨q,b,d⟩:=ZFj p ag;unfold ZDO;rw[b,d];exact⟨rfl,rfl⟩
theorem ZHN(a b:Int):okI .i64 (addT a b):=by
 have:=ZiN (fitI a+fitI b);unfold addT;simp only[okI,Lit.wf,IntKind.min,IntKind.max,IntKind.bits,IntKind.signed];simp;omega
theorem ZDo(a:Zaf)(h:a.ok):(ZwM a).ok:=by
 unfold ZwM;split
 .refine⟨h,?_,trivial⟩;have:wid a<=128:=ZtS a;simp only[okI,Lit.wf,IntKind.min,IntKind.max,IntKind.bits,IntKind.signed];simp;omega
 .exact⟨⟨trivial,rfl,rfl,trivial⟩,rfl,trivial⟩
def stE(e:Zab)(s:Int):Zab:=⟨e.fEnd,s,e.fFails,e.fNext⟩
def ZLa(e:Zab):Zab:=⟨e.fEnd,3,0,e.fNext⟩
def newE(x:Zar):Zab:=⟨x.fEnd,1,0,fitI x.fNow⟩
def ZIA(x:Zar):Zaa:=⟨x.fEnd,false,fitI x.fNow,⟨0,fitI x.fNow⟩,0,0⟩
def StrP(l:Prs):Prop:=l.Pairwise fun x y=>ltP x y=true
theorem Zyo:∀(n:Nat)(a b:Prs),a.length+b.length<=n->(mrg a b).Perm (a++b)
 | 0,a,b,h=>by
  obtain rfl:=List.eq_nil_of_length_eq_zero (show a.length=0 by omega)
  rw[Zma];exact List.Perm.refl _
 |n+1,[],b,h=>by rw[Zma];exact List.Perm.refl _
 |n+1,x :: a,[],h=>by rw[ZrE,List.append_nil]
 |n+1,x :: a,y :: b,h=>by
  simp only[List.length_cons]at h
  cases d:ltP y x with
  |true=>
   rw[Zxn _ _ d]
   refine((Zyo n (x :: a) b (by simp only[List.length_cons];omega)).cons y).trans ?_
   exact List.perm_middle.symm
  |false=>
   rw[Zxo _ _ d]
   exact(Zyo n a (y :: b) (by simp only[List.length_cons];omega)).cons x
theorem StrP.filter{l:Prs}(h:StrP l)(p:Zaa->Bool):StrP (l.filter p):=List.Pairwise.filter p h
theorem StrP.inj{l:Prs}(h:StrP l){x y:Zaa}(hx:x∈l)(d:y∈l)(e:x.fEnd=y.fEnd):x=y:=by
 induction l with
 |nil=>cases hx
 |cons z l ih=>
  have b:=List.pairwise_cons.1 h;have key:∀{w},w∈l->w.fEnd≠z.fEnd:=fun{w} f ew=>by
   have:=Zqk.1 (b.1 w f);rw[ZiC.2 ew.symm]at this;omega
  rcases List.mem_cons.1 hx with h1|h1<;>rcases List.mem_cons.1 d with h2|h2
  .rw[h1,h2]
  .exact absurd (by rw[<-e,h1]) (key h2)
  .exact absurd (by rw[e,h2]) (key h1)
  .exact ih b.2 h1 h2
theorem ZAo(s:Zam)(b:s.fPeers.length<=1000)(d:s.fBook.length<=1000):Zfl s=some (cntP s.fPeers false+ZxG s.fBook 2):=by
 have e:=ZKx s.fPeers false;have hb:0<=ZxG s.fBook 2/\ZxG s.fBook 2<=1000:=by
  unfold ZxG;have:=List.countP_le_length (p:=fun x:Zab=>decide (x.fState=2)) (l:=s.fBook);omega
 unfold Zfl;rw[Zvg _ _ (by unfold maxLen;omega),ZaA,ZFQ _ _ (by unfold maxLen;omega),ZaA,Zcd (by omega) (by omega)]
theorem ZnA{l:Prs}{e:Zai}:Zhv l e<0↔∀p∈l,p.fEnd≠e:=by
 unfold Zhv;rw[ZoX];simp
theorem ZyC{l:Prs}{e:Zai}(h:0<=Zhv l e):∃k:Nat,k<l.length/\Zhv l e=(k:Int)/\(l.getD k Zaa.d).fEnd=e/\∀j,j<k->(l.getD j Zaa.d).fEnd≠e:=by
 obtain⟨k,b,f,⟨x,g,i⟩,n⟩:=ZoW (fun x:Zaa=>decide (x.fEnd=e)) l 0 h;refine⟨k,b,by unfold Zhv;rw[f,Nat.zero_add],?_,fun j o=>?_⟩
 .have:l.getD k Zaa.d=x:=by rw[List.getD_eq_getElem?_getD,g];rfl
  rw[this];exact of_decide_eq_true i
 .have:=n j o;obtain⟨y,p,r⟩:=this;have t:l.getD j Zaa.d=y:=by rw[List.getD_eq_getElem?_getD,p];rfl
  rw[t];exact of_decide_eq_false r
def butK(l:Prs)(k:Nat):Prs:=l.take k++l.drop (k+1)
theorem ZlZ{l:Prs}{k:Nat}(b:k<l.length):l.Perm (l.getD k Zaa.d :: butK l k):=by
 have e:l=l.take k++l.getD k Zaa.d :: l.drop (k+1):=by rw[<-Zex l _ k b,List.take_append_drop]
 conv=>lhs;rw[e]
 exact List.perm_middle
theorem Zqd{l:Prs}(h:StrP l)(k:Nat):StrP (butK l k):=by
 have e:(butK l k).Sublist l:=by
  unfold butK
  conv=>rhs;rw[<-List.take_append_drop k l]
  refine List.Sublist.append (List.Sublist.refl _) ?_;have:l.drop (k+1)=(l.drop k).drop 1:=by rw[List.drop_drop]
  rw[this];exact List.drop_sublist 1 _
 exact List.Pairwise.sublist e h
theorem StrP.set{l:Prs}(h:StrP l){k:Nat}(p:k<l.length){y:Zaa}(b:y.fEnd=(l.getD k Zaa.d).fEnd):StrP (l.set k y):=by
 unfold StrP at h ⊢;rw[List.pairwise_iff_getElem]at h ⊢;intro i j n o hij;simp only[List.length_set]at n o;have e:=Zqk.1 (h i j n o hij);rw[ZbX l _ k p]at b;rw[Zqk];simp only[List.getElem_set];by_cases f:k=i<;>by_cases g:k=j
 .omega
 .subst f;rw[if_pos rfl,if_neg g,b];exact e
 .subst g;rw[if_neg f,if_pos rfl,b];exact e
 .rw[if_neg f,if_neg g];exact e
def oneI(b:Bool):Int:=if b=true then 1 else 0
theorem ZAt{a b:Prs}(h:a.Perm b)(t:Bool):cntP a t=cntP b t:=by
 unfold cntP;rw[h.countP_eq]
theorem ZAu(p:Zaa)(l:Prs)(t:Bool):cntP (p :: l) t=oneI (p.fIn==t)+cntP l t:=by
 unfold cntP oneI;rw[List.countP_cons];cases p.fIn==t<;>simp<;>omega
theorem ZKw{l:Prs}{k:Nat}(b:k<l.length)(t:Bool):cntP l t=oneI ((l.getD k Zaa.d).fIn==t)+cntP (butK l k) t:=by
 rw[ZAt (ZlZ b) t,ZAu]
theorem ZFW(l:List Zab)(e:Zab):(putS l e).Perm (e :: l):=by
 unfold putS;have h:=List.takeWhile_append_dropWhile (p:=fun x:Zab=>!decide (0<cmpE x.fEnd e.fEnd)) (l:=l)
 conv=>rhs;rw[<-h]
 rw[List.append_assoc];exact List.perm_middle
theorem ZKV{x y:Zaa}(b:ltP y x=false)(d:x.fEnd≠y.fEnd):ltP x y=true:=by
 rw[ZzF]at b;rw[Zqk];have e:cmpE x.fEnd y.fEnd≠0:=fun h=>d (ZiC.1 h);have f:¬0<cmpE x.fEnd y.fEnd:=fun h=>b (ZfS.1 h);omega
theorem ZJq{x y:Zaa}(h:ltP x y=true):x.fEnd≠y.fEnd:=fun e=>by
 rw[Zqk,ZiC.2 e]at h
 exact absurd h (by decide)
theorem Ztj{l:Prs}(h:StrP l):SrtP l:=h.imp fun h=>ZCX h
theorem ZAU{l:Prs}(h:StrP l){p:Zaa}(d:∀q∈l,q.fEnd≠p.fEnd):StrP (mrg l [p])/\(mrg l [p]).Perm (p :: l):=by
 have b:(mrg l [p]).Perm (p :: l):=(Zyo _ l [p] (Nat.le_refl _)).trans (List.perm_append_singleton p l);have hd:(p :: l).Pairwise fun x y=>x.fEnd≠y.fEnd:=List.pairwise_cons.2 ⟨fun q e=>(d q e).symm,h.imp fun h=>ZJq h⟩;have ij:(mrg l [p]).Pairwise fun x y=>x.fEnd≠y.fEnd:=hd.perm b.symm fun h=>h.symm;have f:SrtP (mrg l [p]):=ZKa _ l [p] (Nat.le_refl _) (Ztj h) (List.pairwise_singleton _ _);exact⟨(f.and ij).imp fun h=>ZKV h.1 h.2,b⟩
theorem no35(k:Int):Zbz k=some (Zsl k):=rfl
theorem ZLj(l:Prs)(hl:l.length<=1000000):ZgH l=some (ZEP l):=by
 have hL:l.length<=maxLen:=by unfold maxLen;omega
 have ay:∀fu (i:Nat) w,i<=l.length->l.length-i<fu->w=ZEP (l.take i)->Zdl l fu (i:Int) w=some (ZEP l):=by
  intro fu;induction fu with
  |zero=>intro i w _ h;omega
  |succ fu ih=>
   intro i w d e b;unfold Zdl;simp only[Zah];by_cases h:i<l.length
   .have hwl:w.length<=1000000:=by rw[b];unfold ZEP;simp;omega
    rw[if_pos (by omega),Zaq ⟨by omega,by omega⟩,add1 h hL,Zaq ⟨by simp;omega,by simp[maxLen];omega⟩];refine ih (i+1) _ (by omega) (by omega) ?_;rw[b];unfold ZEP;rw[List.take_succ_eq_append_getElem h,List.map_append,Int.toNat_natCast,ZbX l _ i h];rfl
   .rw[if_neg (by omega),b];have:i=l.length:=by omega
    rw[this,List.take_length]
 exact ay _ 0 [] (by omega) (by omega) rfl
theorem Zvo{n:Int}(b : -9223372036854775808<=n)(d:n<=9223372036854775807):okI .i64 n:=by
 simp only[okI,Lit.wf,IntKind.min,IntKind.max,IntKind.bits,IntKind.signed];simp;omega
theorem okZ:okI .i64 0:=by rfl
def ZlX(x:Zar):Zaa:=⟨x.fEnd,true,fitI x.fNow,⟨0,fitI x.fNow⟩,0,0⟩
theorem Zwz(s:Zam)(b:s.fBans.length<=1000000)(d:s.fBook.length<=1000000)(e:s.fPeers.length<=1000000):Zdu s s=some true:=by
 unfold Zdu;rw[ZxV _ b,ZaA,cond_true,ZxU _ d,ZaA,cond_true,ZwA _ e];rfl
theorem ZKh(n a b:Int):Zbq n a b=some (decide (n>=a)&&decide (n<=b)):=by
 unfold Zbq;cases decide (n>=a)<;>rfl
theorem ZKp{α:Type}{c:Bool}{x y:Option α}(d:∃b,x=some b)(e:∃b,y=some b):∃b,(bif c then x else y)=some b:=by
 cases c
 .exact e
 .exact d
theorem ZJQ(c:Zav):∃b,Zgk c=some b:=by
 unfold Zgk;simp only[Zcz,Zda,ZKh,ZaA]
 repeat' first|exact⟨_,rfl⟩|apply ZKp
theorem ZCx{l:Prs}(h:StrP l):dEnd l:=h.imp fun h=>ZJq h
theorem ZKe{x b:Zac}(hx:x.ok)(hb:b.ok):(ZIG x b).ok:=by
 refine⟨hx.1,?_,trivial⟩;unfold ZIG;simp only;split
 .exact hb.2.1
 .exact hx.2.1
def SrtE(l:List Zab):Prop:=l.Pairwise fun a b=>cmpE a.fEnd b.fEnd<0
theorem ZFV{l:List Zab}{e:Zab}(f:SrtE l)(g:ZnY l e.fEnd<0):SrtE (putS l e):=by
 unfold SrtE at f ⊢;rw[ZzW]at g
 .have bw:=List.takeWhile_append_dropWhile (p:=fun x:Zab=>!decide (0<cmpE x.fEnd e.fEnd)) (l:=l);have i:(l.takeWhile (fun x:Zab=>!decide (0<cmpE x.fEnd e.fEnd))++l.dropWhile (fun x:Zab=>!decide (0<cmpE x.fEnd e.fEnd))).Pairwise (fun a b=>cmpE a.fEnd b.fEnd<0):=by rw[bw];exact f
  obtain⟨p1,p2,p3⟩:=List.pairwise_append.1 i;have lo:∀x∈l.takeWhile (fun x:Zab=>!decide (0<cmpE x.fEnd e.fEnd)),cmpE x.fEnd e.fEnd<0:=by
   intro x hx;have gx:¬0<cmpE x.fEnd e.fEnd:=by simpa using(Zsg _ _ hx)
   have c4:cmpE x.fEnd e.fEnd≠0:=fun h=>g x (List.takeWhile_subset _ hx) (ZiC.1 h);omega
  have j:∀x∈l.dropWhile (fun x:Zab=>!decide (0<cmpE x.fEnd e.fEnd)),cmpE e.fEnd x.fEnd<0:=by
   intro x hx;cases hd:l.dropWhile (fun x:Zab=>!decide (0<cmpE x.fEnd e.fEnd))with
   |nil=>rw[hd]at hx;cases hx
   |cons y r=>
    have n:0<cmpE y.fEnd e.fEnd:=by
     have:=List.head?_dropWhile_not (fun x:Zab=>!decide (0<cmpE x.fEnd e.fEnd)) l;rw[hd]at this;simpa using this
    rw[hd]at hx p2;have dR:=ZfS.1 n;rcases List.mem_cons.1 hx with rfl|hx
    .exact dR
    .exact Zmy dR ((List.pairwise_cons.1 p2).1 x hx)
  unfold putS;rw[List.append_assoc];refine List.pairwise_append.2 ⟨p1,List.pairwise_append.2 ⟨List.pairwise_singleton _ _,p2,fun a d b hb=>?_⟩,fun a d b hb=>?_⟩
  .rw[List.mem_singleton.1 d];exact j b hb
  .rcases List.mem_append.1 hb with hb|hb
   .rw[List.mem_singleton.1 hb];exact lo a d
   .exact p3 a d b hb
theorem ZFy{l:List Zab}{e:Zab}(h:SrtE l):SrtE (setS l e):=by
 unfold setS;split
 .rename_i o;obtain⟨k,p,hk2,⟨x,hx,ly⟩,_⟩:=ZoW _ l 0 o;have ly:x.fEnd=e.fEnd:=of_decide_eq_true ly;rw[show ZnY l e.fEnd=((0+k:Nat):Int)from hk2,Nat.zero_add,Int.toNat_natCast];have n:∀j:Nat,((l.set k e)[j]?).map Zab.fEnd=(l[j]?).map Zab.fEnd:=by
   intro j;rw[List.getElem?_set];split
   .rename_i ej;subst ej;rw[hx];simp[ly]
   .rfl
  refine List.pairwise_iff_getElem.2 fun i j b d hij=>?_
  .rw[List.length_set]at b d;have f:=n i;have g:=n j;rw[List.getElem?_eq_getElem (by rw[List.length_set];exact b),List.getElem?_eq_getElem b]at f;rw[List.getElem?_eq_getElem (by rw[List.length_set];exact d),List.getElem?_eq_getElem d]at g;simp only[Option.map_some,Option.some.injEq]at f g;rw[f,g];exact List.pairwise_iff_getElem.1 h i j b d hij
 .exact h
theorem ZHP{l:List Zab}(h:SrtE l)(b:Zab)(bp:Int):SrtE (addS l b bp).1:=by
 unfold addS;split
 .split
  .exact List.Pairwise.nil
  .rename_i d;split
   .exact List.Pairwise.nil
   .exact ZFV h (by omega)
 .exact List.Pairwise.nil
theorem ZHj(l:List Zai)(e:Zab):(ZwU l e).fEnd=e.fEnd:=by
 unfold ZwU;split
 .split<;>rfl
 .rfl
theorem ZHg{l:List Zab}(h:SrtE l)(g:List Zai):SrtE (l.map (ZwU g)):=by
 unfold SrtE at h ⊢;rw[List.pairwise_map];simp only[ZHj];exact h
structure cX (N:Nat) (s:Zam):Prop where
 bans:∀b∈s.fBans,b.ok
 book:∀e∈s.fBook,e.ok
 peers:∀p∈s.fPeers,p.ok
 str:StrP s.fPeers
 n1:s.fBans.length<=N
 n2:s.fBook.length<=N
 n3:s.fPeers.length<=N
 srt:SrtE s.fBook
theorem cX.up{N:Nat}{s:Zam}(h:cX N s):cX (N+1) s:=⟨h.bans,h.book,h.peers,h.str,by have:=h.n1;omega,by have:=h.n2;omega,by have:=h.n3;omega,h.srt⟩
theorem ZpA(a:Int):okI .i64 (fitI a):=by
 have:=ZiN a;exact Zvo (by omega) (by omega)
theorem ZGj{x:Zar}(hx:x.ok):(ZIA x).ok:=⟨hx.2.1,trivial,ZpA _,⟨okZ,ZpA _,trivial⟩,okZ,okZ,trivial⟩
theorem ZES{x:Zar}(hx:x.ok):(ZlX x).ok:=⟨hx.2.1,trivial,ZpA _,⟨okZ,ZpA _,trivial⟩,okZ,okZ,trivial⟩
theorem ZCT{x:Zar}(hx:x.ok):(newE x).ok:=⟨hx.2.1,rfl,rfl,ZpA _,trivial⟩
theorem ZFt{e:Zab}(b:e.ok)(k:Int)(d:okI .i64 k):(stE e k).ok:=⟨b.1,d,b.2.2.1,b.2.2.2.1,trivial⟩
theorem ZGJ{e:Zab}(b:e.ok):(ZLa e).ok:=⟨b.1,rfl,rfl,b.2.2.2.1,trivial⟩
theorem ZHi{e:Zab}(b:e.ok)(l:List Zai):(ZwU l e).ok:=by
 unfold ZwU;split
 .split
  .exact⟨b.1,rfl,b.2.2.1,b.2.2.2.1,trivial⟩
  .exact b
 .exact b
theorem ZFZ{p:Zaa}(b:p.ok){n:Int}(d:okI .i64 n):(ZEj p n).ok/\(ZEj p n).fEnd=p.fEnd:=by
 unfold ZEj ZmJ;simp only[Zah,ZgU]
 repeat' split
 all_goals first|exact⟨b,rfl⟩|exact⟨⟨b.1,b.2.1,b.2.2.1,b.2.2.2.1,d,b.2.2.2.2.2.1,trivial⟩,rfl⟩
theorem ZFk{p:Zaa}(b:p.ok)(n:Int):(ZDO p n).ok/\(ZDO p n).fEnd=p.fEnd:=by
 unfold ZDO ZkA;rw[Zkl,ZaA];refine⟨⟨b.1,b.2.1,b.2.2.1,b.2.2.2.1,b.2.2.2.2.1,?_,trivial⟩,rfl⟩;show okI .i64 (if fitI n>p.fWork then fitI n else p.fWork);split
 .exact ZpA _
 .exact b.2.2.2.2.2.1
theorem ZIV(s:Zaw)(h ag:Int):okI .i64 (decS s h ag).fAt:=by
 have b:=ZiN s.fAt;have d:=ZiN ag;have f:Zsu s h ag*(Zod h).toNat<=(fitI ag-fitI s.fAt).toNat:=Nat.div_mul_le_self _ _;have e:(decS s h ag).fAt=fitI s.fAt+((Zsu s h ag*(Zod h).toNat:Nat):Int):=rfl;rw[e];exact Zvo (by omega) (by omega)
theorem ZDN{p:Zaa}(b:p.ok)(c:Zav)(x:Zar):(ZuU c x p).ok:=by
 refine⟨b.1,b.2.1,b.2.2.1,⟨ZpA _,?_,trivial⟩,b.2.2.2.2.1,b.2.2.2.2.2.1,trivial⟩;exact ZIV _ _ _
theorem ZGO{e:Zab}(f:e.ok)(c:Zav)(ag r:Int):(ZzY c e ag r).ok/\(ZzY c e ag r).fEnd=e.fEnd:=by
 have h:=(ZGN c e ag r).1;unfold Zkf at h;obtain⟨t,b,h⟩:=Zad h;have g:=Option.some.inj h;unfold ZlA at b;obtain⟨x1,_,b⟩:=Zad b;obtain⟨x2,_,b⟩:=Zad b;obtain⟨x3,_,b⟩:=Zad b;obtain⟨x4,d,b⟩:=Zad b;have i:=Option.some.inj b;rw[(ZuX _ _).1]at d;have j:=Option.some.inj d;rw[<-g];refine⟨⟨f.1,rfl,?_,?_,trivial⟩,rfl⟩
 .show okI .i64 (Zan (if(999:Int)<(if(0:Int)>e.fFails then(0:Int)else e.fFails)then(999:Int)else(if(0:Int)>e.fFails then(0:Int)else e.fFails)) (1:Int));rw[Zcd (by split<;>(try split)<;>omega) (by split<;>(try split)<;>omega)]
  exact Zvo (by split<;>(try split)<;>omega) (by split<;>(try split)<;>omega)
 .show okI .i64 t;rw[<-i,<-j];exact ZHN _ _
theorem ZDJ{l:List Zac}(h:∀b∈l,b.ok){b:Zac}(hb:b.ok)(bp:Int):∀y∈(addB l b bp).1,y.ok:=by
 unfold addB;split
 .split
  .rename_i d;obtain⟨e,_⟩:=ZBG l b.fNet d;intro y hy;rcases List.mem_or_eq_of_mem_set hy with h2|h2
   .exact h y h2
   .rw[h2];exact ZKe (h _ (ZeD l _ _ e)) hb
  .split
   .intro y hy;cases hy
   .intro y hy;simp only[putB,List.mem_append,List.mem_singleton]at hy;rcases hy with (hy|hy)|hy
    .exact h y ((List.takeWhile_sublist _).mem hy)
    .rw[hy];exact hb
    .exact h y ((List.dropWhile_sublist _).mem hy)
 .intro y hy;cases hy
theorem ZHd{l:List Zac}(h:∀b∈l,b.ok)(n:Zaj):∀y∈(ZEQ l n).1,y.ok:=by
 unfold ZEQ;split
 .intro y d;cases d
 .intro y d;rcases List.mem_append.1 d with h1|h1
  .exact h y (List.mem_of_mem_take h1)
  .exact h y (List.mem_of_mem_drop h1)
theorem ZJg{l:List Zab}(h:∀b∈l,b.ok){b:Zab}(hb:b.ok)(bp:Int):∀y∈(addS l b bp).1,y.ok:=by
 unfold addS;split
 .split
  .intro y d;cases d
  .split
   .intro y d;cases d
   .intro y d;rcases List.mem_cons.1 ((ZFW l b).mem_iff.1 d)with h1|h1
    .rw[h1];exact hb
    .exact h y h1
 .intro y d;cases d
def Znd(c:Zav)(s:Zam):Zai×Bool:=(Zef s.fPeers c.fQuota c.fSecret).getD (endZ,false)
def ZpD(c:Zav)(s:Zam)(x:Zar):Zam×Zao:=if Zrq s.fBans x.fEnd.fAddr x.fNow>0 then(s,⟨8,endZ,0,Zrq s.fBans x.fEnd.fAddr x.fNow,[]⟩)else if Zhv s.fPeers x.fEnd>=0 then(s,Zsl 7)else if cntP s.fPeers true>=c.fMaxIn then if(Znd c s).2=true then(⟨s.fBans,s.fBook,mrg (butK s.fPeers (Zhv s.fPeers (Znd c s).1).toNat) [ZlX x]⟩,⟨0,(Znd c s).1,1,0,[]⟩)else(s,Zsl 5)else(⟨s.fBans,s.fBook,mrg s.fPeers [ZlX x]⟩,repZ)
section
variable {c:Zav} {s:Zam} {x:Zar} {N:Nat} (hx:x.ok) (hI:cX N s) (hN:N<=100)
include hx hI hN
theorem ZHf{e:Zai}{k:Nat}(f:k<s.fPeers.length)(b:Zhv s.fPeers e=(k:Int)):Zfw s.fPeers e=some (butK s.fPeers k,0):=by
 have g:=hI.n3;have d:Zan (k:Int) 1=((k+1:Nat):Int):=add1 (n:=k+1) (by omega) (by simp only[maxLen];omega);unfold Zfw;simp only[List.nil_append];rw[Zkn _ _ (by unfold maxLen;omega),ZaA,b,Zah,if_neg (by omega),Zaq ⟨by omega,by omega⟩,Int.toNat_natCast,Zaq ⟨by simp;omega,by simp[maxLen];omega⟩,d,Zaq ⟨by omega,by omega⟩,Int.toNat_natCast,Zaq ⟨by simp;omega,by simp[maxLen];omega⟩];rfl
theorem ZFz{k:Nat}{y:Zaa}(d:k<s.fPeers.length)(b:Zhv s.fPeers y.fEnd=(k:Int)):ZeI s.fPeers y=some (s.fPeers.set k y):=by
 have e:=hI.n3;unfold ZeI;simp only[List.nil_append];rw[Zkn _ _ (by unfold maxLen;omega),ZaA,b,Zah,if_neg (by omega),Zaq ⟨by omega,by unfold maxLen;omega⟩,Zaq ⟨by omega,by omega⟩,Int.toNat_natCast]
theorem Zyx(h:(Znd c s).2=true):∃k:Nat,k<s.fPeers.length/\Zhv s.fPeers (Znd c s).1=(k:Int)/\(s.fPeers.getD k Zaa.d).fEnd=(Znd c s).1/\(s.fPeers.getD k Zaa.d).fIn=true:=by
 have u:=hI.n3;obtain⟨r,g,_,i⟩:=ZtZ s.fPeers c.fQuota c.fSecret (by omega) fun p j=>(hI.peers p j).1.1;have e:Znd c s=r:=by unfold Znd;rw[g];rfl
 rw[e]at h ⊢;obtain⟨p,p1,p2,p3⟩:=i h;have n:0<=Zhv s.fPeers r.1:=by
  by_cases o:Zhv s.fPeers r.1<0
  .exact absurd p2 (ZnA.1 o p p1)
  .omega
 obtain⟨k,b,t,f,_⟩:=ZyC n;refine⟨k,b,t,f,?_⟩;rw[hI.str.inj (ZeD _ _ k b) p1 (f.trans p2.symm)];exact p3
theorem ZpC:Zef s.fPeers c.fQuota c.fSecret=some (Znd c s)/\Zeu s.fPeers c.fQuota c.fSecret=some (Znd c s):=by
 have g:=hI.n3;obtain⟨r,b,d,_⟩:=ZtZ s.fPeers c.fQuota c.fSecret (by omega) fun p f=>(hI.peers p f).1.1;have e:Znd c s=r:=by unfold Znd;rw[b];rfl
 rw[e];exact⟨b,d⟩
theorem Zwo{k:Nat}(b:k<s.fPeers.length):(butK s.fPeers k).length+1=s.fPeers.length:=by
 have:=(ZlZ b).length_eq;simp only[List.length_cons]at this;omega
theorem ZFc:ZfM c s x=some (ZpD c s x):=by
 have i:=hI.n1;have j:=hI.n3;have en:ZdX x.fEnd true x.fNow=some (ZlX x):=by unfold ZdX;rw[Zko];rfl
 unfold ZfM ZpD;rw[(Zse s.fBans x.fEnd.fAddr x.fNow (by unfold maxLen;omega) hI.bans hx.2.1.1).2,ZaA,Zah];by_cases b:Zrq s.fBans x.fEnd.fAddr x.fNow>0
 .rw[if_pos b,if_pos b];rfl
 rw[if_neg b,if_neg b,Zkn _ _ (by unfold maxLen;omega),ZaA,Zah];by_cases d:Zhv s.fPeers x.fEnd>=0
 .rw[if_pos d,if_pos d,no35,ZaA]
 rw[if_neg d,if_neg d,en,ZaA,Zvg _ _ (by unfold maxLen;omega),ZaA,Zah];by_cases e:cntP s.fPeers true>=c.fMaxIn
 .rw[if_pos e,if_pos e,(ZpC hx hI hN).2,ZaA];cases h:(Znd c s).2 with
  |false=>rw[Bool.not_false,cond_true,if_neg (by decide),no35,ZaA]
  |true=>
   obtain⟨k,f,g,_,_⟩:=Zyx hx hI hN (c:=c) h;have hb:=Zwo hx hI hN f;rw[Bool.not_true,cond_false,if_pos rfl,ZHf hx hI hN f g,ZaA,g,Int.toNat_natCast];show ((Zdp (butK s.fPeers k) (ZlX x)).bind fun x9=>_)=_;rw[Zyb _ _ (Ztj (Zqd hI.str k)) (by omega),ZaA]
 .rw[if_neg e,if_neg e,Zyb _ _ (Ztj hI.str) (by omega),ZaA];rfl
theorem ZFd:cX (N+1) (ZpD c s x).1:=by
 have d:=hI.up;have r:=hI.n1;have t:=hI.n2;have g:=hI.n3;unfold ZpD;split
 .exact d
 split
 .exact d
 rename_i hnf;have hne:∀q∈s.fPeers,q.fEnd≠(ZlX x).fEnd:=ZnA.1 (show Zhv s.fPeers x.fEnd<0 by omega);have put:∀l:Prs,StrP l->l.length<=N->(∀q∈l,q.ok/\q.fEnd≠(ZlX x).fEnd)->cX (N+1) ⟨s.fBans,s.fBook,mrg l [ZlX x]⟩:=fun l i hl ho=>by
  obtain⟨p1,p2⟩:=ZAU i fun q b=>(ho q b).2;refine⟨hI.bans,hI.book,fun p j=>?_,p1,by show s.fBans.length<=N+1;omega,by show s.fBook.length<=N+1;omega,?_,hI.srt⟩
  .rcases List.mem_cons.1 (p2.mem_iff.1 j)with h|h
   .rw[h];exact ZES hx
   .exact(ho p h).1
  .show (mrg l [ZlX x]).length<=N+1;rw[p2.length_eq,List.length_cons];omega
 split
 .split
  .rename_i n;obtain⟨k,e,o,_,_⟩:=Zyx hx hI hN (c:=c) n;have hb:=Zwo hx hI hN e;rw[o,Int.toNat_natCast];refine put _ (Zqd hI.str k) (by omega) fun q b=>?_;have f:=(ZlZ e).symm.mem_iff.1 (List.mem_cons_of_mem _ b);exact⟨hI.peers q f,hne q f⟩
  .exact d
 .exact put _ hI.str g fun q b=>⟨hI.peers q b,hne q b⟩
end
def Lt(N:Nat)(r:Option (Zam×Zao)):Prop:=∃y,r=some y/\cX (N+1) y.1
section
variable {c:Zav} {s:Zam} {x:Zar} {N:Nat} (hx:x.ok) (hI:cX N s) (hN:N<=100)
include hx hI hN
theorem Lt.same(r:Zao):Lt N (some (s,r)):=⟨_,rfl,hI.up⟩
theorem ZDf{b:List Zab}(d:∀e∈b,e.ok)(f:b.length<=N+1)(g:SrtE b):cX (N+1) ⟨s.fBans,b,s.fPeers⟩:=⟨hI.bans,d,hI.peers,hI.str,hI.up.n1,f,hI.up.n3,g⟩
theorem ZDg{b:List Zac}(d:∀e∈b,e.ok)(f:b.length<=N+1):cX (N+1) ⟨b,s.fBook,s.fPeers⟩:=⟨d,hI.book,hI.peers,hI.str,f,hI.up.n2,hI.up.n3,hI.srt⟩
theorem ZBe{k:Nat}(b:k<s.fPeers.length){y:Zaa}(e:y.ok)(f:y.fEnd=(s.fPeers.getD k Zaa.d).fEnd):cX (N+1) ⟨s.fBans,s.fBook,s.fPeers.set k y⟩:=by
 refine⟨hI.bans,hI.book,fun p g=>?_,hI.str.set b f,hI.up.n1,hI.up.n2,by show (s.fPeers.set k y).length<=N+1;rw[List.length_set];exact hI.up.n3,hI.srt⟩;rcases List.mem_or_eq_of_mem_set g with h|h
 .exact hI.peers p h
 .rw[h];exact e
theorem ZDv{bans:List Zac}(hb:(∀b∈bans,b.ok)/\bans.length<=N+1)(l:List Zai){ps:Prs}(d:∀p∈ps,p∈s.fPeers)(f:StrP ps)(j:ps.length<=s.fPeers.length):cX (N+1) ⟨bans,s.fBook.map (ZwU l),ps⟩:=by
 refine⟨hb.1,fun e g=>?_,fun p h=>hI.peers p (d p h),f,hb.2,by show (s.fBook.map (ZwU l)).length<=N+1;rw[List.length_map];exact hI.up.n2,by show ps.length<=N+1;have:=hI.n3;omega,ZHg hI.srt l⟩;obtain⟨y,i,rfl⟩:=List.mem_map.1 g;exact ZHi (hI.book y i) l
theorem Ztt{bans:List Zac}(hb:(∀b∈bans,b.ok)/\bans.length<=N+1){kb:Zaj}(e:kb.fAddr.ok):∃z,Zdv ⟨bans,s.fBook,s.fPeers⟩ kb=some z/\cX (N+1) z.1:=by
 have n2:=hI.n2;have n3:=hI.n3;have az:∀p∈s.fPeers,p.fEnd.fAddr.ok:=fun p d=>(hI.peers p d).1.1;have g:=ZGi s.fPeers kb true;have f:=ZGi s.fPeers kb false;unfold Zdv;dsimp only;rw[ZCM _ _ _ e (by omega) az,ZaA,ZCM _ _ _ e (by omega) az,ZaA,ZLj _ (by omega),ZaA,ZCI _ _ (by omega) (by simp[ZEP,maxLen];omega),ZaA];exact⟨_,rfl,ZDv hx hI hN hb _ (fun p d=>(List.mem_filter.1 d).1) (hI.str.filter _) f⟩
theorem ZBl:Lt N (Zgg c s x):=by
 have n2:=hI.n2;have n3:=hI.n3;unfold Zgg;rw[Zkn _ _ (by unfold maxLen;omega),ZaA,Zah];by_cases g:Zhv s.fPeers x.fEnd<0
 .rw[if_pos g,no35,ZaA];exact Lt.same hx hI hN _
 obtain⟨k,b,e,h,_⟩:=ZyC (show 0<=Zhv s.fPeers x.fEnd by omega);have fB:=hI.peers _ (ZeD s.fPeers Zaa.d k b);have hb:=Zwo hx hI hN b;rw[if_neg g,ZgU,ZgU];by_cases i:x.fKind=2
 .rw[if_pos i,ZHf hx hI hN b e,ZaA,ZCI _ _ (by omega) (by simp[maxLen]),ZaA];exact⟨_,rfl,ZDv hx hI hN ⟨hI.bans,hI.up.n1⟩ _ (fun p j=>(ZlZ b).symm.mem_iff.1 (List.mem_cons_of_mem _ j)) (Zqd hI.str k) (by show (butK s.fPeers k).length<=_;omega)⟩
 rw[if_neg i];by_cases e11:x.fKind=11
 .obtain⟨o1,f⟩:=ZFZ fB hx.2.2.2.2.1;rw[if_pos e11,Zaq ⟨by omega,by omega⟩,e,Int.toNat_natCast,(ZIw _ _).2,ZaA,ZFz hx hI hN b (by rw[f,h];exact e),ZaA];exact⟨_,rfl,ZBe hx hI hN b o1 f⟩
 .obtain⟨o1,f⟩:=ZFk fB x.fNow;rw[if_neg e11,Zaq ⟨by omega,by omega⟩,e,Int.toNat_natCast,(ZHS _ _).2,ZaA,ZFz hx hI hN b (by rw[f,h];exact e),ZaA];exact⟨_,rfl,ZBe hx hI hN b o1 f⟩
theorem Zof{e:Zab}(b:e.ok):cX (N+1) ⟨s.fBans,setS s.fBook e,s.fPeers⟩:=ZDf hx hI hN (ZJL hI.book b) (by rw[ZId];exact hI.up.n2) (ZFy hI.srt)
theorem Zzj:Lt N (ZfL c s x):=by
 have n1:=hI.n1;have n2:=hI.n2;have n3:=hI.n3;have hlt:=ZBF s.fBook x.fEnd;unfold ZfL;rw[Zuy _ _ (by unfold maxLen;omega),ZaA,Zah];by_cases e:ZnY s.fBook x.fEnd<0
 .rw[if_pos e,no35,ZaA];exact Lt.same hx hI hN _
 have lz:(s.fBook.getD (ZnY s.fBook x.fEnd).toNat Zab.d).ok:=hI.book _ (ZeD _ _ _ (by omega));rw[if_neg e,Zaq ⟨by omega,hlt⟩];cases g:((s.fBook.getD (ZnY s.fBook x.fEnd).toNat Zab.d).fState != 2)with
 |true=>rw[cond_true,no35,ZaA];exact Lt.same hx hI hN _
 |false=>
  obtain⟨f1,_⟩:=ZGO lz c x.fNow x.fNum;rw[cond_false,(Zse s.fBans x.fEnd.fAddr x.fNow (by unfold maxLen;omega) hI.bans hx.2.1.1).2,ZaA,(ZGN c _ x.fNow x.fNum).2];cases i:x.fGood with
  |false=>
   rw[Bool.not_false,cond_true,ZaA,Zvd _ _ (by omega),ZaA,cond_false];exact⟨_,rfl,Zof hx hI hN f1⟩
  |true=>
   rw[Bool.not_true,cond_false,Zah];by_cases f:Zrq s.fBans x.fEnd.fAddr x.fNow>0
   .rw[if_pos f,ZaA,Zvd _ _ (by omega),ZaA,cond_true];exact⟨_,rfl,Zof hx hI hN f1⟩
   rw[if_neg f,Zkn _ _ (by unfold maxLen;omega),ZaA,Zah];by_cases b:Zhv s.fPeers x.fEnd>=0
   .have ed:ZeT (s.fBook.getD (ZnY s.fBook x.fEnd).toNat Zab.d) 1=some (stE (s.fBook.getD (ZnY s.fBook x.fEnd).toNat Zab.d) 1):=rfl;rw[if_pos b,ed,ZaA,Zvd _ _ (by omega),ZaA,no35,ZaA];exact⟨_,rfl,Zof hx hI hN (ZFt lz 1 rfl)⟩
   .have eg:Zin (s.fBook.getD (ZnY s.fBook x.fEnd).toNat Zab.d)=some (ZLa (s.fBook.getD (ZnY s.fBook x.fEnd).toNat Zab.d)):=rfl;have en:ZdX x.fEnd false x.fNow=some (ZIA x):=by unfold ZdX;rw[Zko];rfl
    have hne:∀q∈s.fPeers,q.fEnd≠(ZIA x).fEnd:=ZnA.1 (show Zhv s.fPeers x.fEnd<0 by omega);obtain⟨p1,p2⟩:=ZAU hI.str hne;have hb:=Zof hx hI hN (ZGJ lz);rw[if_neg b,eg,ZaA,Zvd _ _ (by omega),ZaA,en,ZaA,Zyb _ _ (Ztj hI.str) (by omega),ZaA];refine⟨_,rfl,hb.bans,hb.book,fun p b=>?_,p1,hb.n1,hb.n2,?_,hb.srt⟩
    .rcases List.mem_cons.1 (p2.mem_iff.1 b)with h|h
     .rw[h];exact ZGj hx
     .exact hI.peers p h
    .show (mrg s.fPeers [ZIA x]).length<=N+1;rw[p2.length_eq,List.length_cons];omega
theorem ZCq:Lt N (Zgh c s x):=by
 have n1:=hI.n1;have n2:=hI.n2;have n3:=hI.n3;have fd:(⟨ZwM x.fEnd.fAddr,addT x.fNow c.fBanFor⟩ : Zac).ok:=⟨ZDo _ hx.2.1.1,ZHN _ _,trivial⟩;unfold Zgh;rw[Zkn _ _ (by unfold maxLen;omega),ZaA,Zah];by_cases e:Zhv s.fPeers x.fEnd<0
 .rw[if_pos e,no35,ZaA];exact Lt.same hx hI hN _
 obtain⟨k,b,f,g,_⟩:=ZyC (show 0<=Zhv s.fPeers x.fEnd by omega);have fB:=hI.peers _ (ZeD s.fPeers Zaa.d k b);have ir:=ZHR c x (s.fPeers.getD k Zaa.d);rw[if_neg e,Zaq ⟨by omega,by omega⟩,f,Int.toNat_natCast,(ZJm x.fNum).2.1,ZaA,(ZHE c x _).2,ZaA,(ZEg _ _ ir.1 ir.2).2,ZaA];cases hin:Zzr (ZuU c x (s.fPeers.getD k Zaa.d)).fScore c.fLimit with
 |false=>
  rw[Bool.not_false,cond_true,(ZHT _).2,ZFz hx hI hN (y:=ZuU c x (s.fPeers.getD k Zaa.d)) b (show Zhv s.fPeers (s.fPeers.getD k Zaa.d).fEnd=(k:Int)by rw[g];exact f),ZaA,ZaA];exact⟨_,rfl,ZBe hx hI hN b (ZDN fB c x) rfl⟩
 |true=>
  have gi:=ZDK s.fBans ⟨ZwM x.fEnd.fAddr,addT x.fNow c.fBanFor⟩ c.fMaxBans;have jL:(ZwM x.fEnd.fAddr).fAddr.ok:=(ZDo _ hx.2.1.1).1;rw[Bool.not_true,cond_false,ZIq _ hx.2.1.1,ZaA,(ZuX _ _).2,ZaA,ZCK _ _ _ (by omega) fd,ZaA];obtain⟨z1,h,i1⟩:=Ztt hx hI hN (bans:=(addB s.fBans ⟨ZwM x.fEnd.fAddr,addT x.fNow c.fBanFor⟩ c.fMaxBans).1) ⟨ZDJ hI.bans fd _,by omega⟩ jL;obtain⟨z2,i,i2⟩:=Ztt hx hI hN (bans:=s.fBans) ⟨hI.bans,hI.up.n1⟩ jL;rw[h,ZaA];show Lt N (bif((addB s.fBans ⟨ZwM x.fEnd.fAddr,addT x.fNow c.fBanFor⟩ c.fMaxBans).2==0)then some (z1.1,_)else((Zdv ⟨s.fBans,s.fBook,s.fPeers⟩ (ZwM x.fEnd.fAddr)).bind fun x12=>_));rw[i,ZaA,ZgU];split
  .exact⟨_,rfl,i1⟩
  .exact⟨_,rfl,i2⟩
theorem ZFa:Lt N (ZgJ c s x):=by
 have n1:=hI.n1;unfold ZgJ;rw[ZgU,ZgU,ZgU,Zah];split
 .split
  .rw[no35,ZaA];exact Lt.same hx hI hN _
  .have fd:(⟨x.fNet,x.fNum⟩ : Zac).ok:=⟨hx.2.2.1,hx.2.2.2.2.1,trivial⟩;have gi:=ZDK s.fBans ⟨x.fNet,x.fNum⟩ c.fMaxBans;obtain⟨z1,b,i1⟩:=Ztt hx hI hN (bans:=(addB s.fBans ⟨x.fNet,x.fNum⟩ c.fMaxBans).1) ⟨ZDJ hI.bans fd _,by omega⟩ hx.2.2.1.1;rw[ZCK _ _ _ (by omega) fd,ZaA,b,ZaA,no35,ZaA];cases((addB s.fBans ⟨x.fNet,x.fNum⟩ c.fMaxBans).2 != 0)with
   |true=>rw[cond_true];exact Lt.same hx hI hN _
   |false=>rw[cond_false];exact⟨_,rfl,i1⟩
 split
 .have gi:=ZHe s.fBans x.fNet;rw[ZFS _ _ (by omega),ZaA,no35,ZaA,ZaA,ZgU];split
  .exact⟨_,rfl,ZDg hx hI hN (ZHd hI.bans _) (by omega)⟩
  .exact Lt.same hx hI hN _
 split
 .rw[(Zse s.fBans x.fEnd.fAddr x.fNow (by unfold maxLen;omega) hI.bans hx.2.1.1).2,ZaA];exact Lt.same hx hI hN _
 .have gi:=ZDU s.fBans x.fNow;rw[ZFM _ _ (by omega),ZaA];exact⟨_,rfl,ZDg hx hI hN (fun e d=>hI.bans e (List.mem_filter.1 d).1) (by show (Zoc s.fBans x.fNow).length<=N+1;omega)⟩
theorem ZKd:Zry ⟨s.fBook,s.fPeers,s.fBans⟩:=⟨by show s.fBook.length<=900;have:=hI.n2;omega,by show s.fPeers.length<=900;have:=hI.n3;omega,by show s.fBans.length<=900;have:=hI.n1;omega,hI.book,hI.peers,hI.bans⟩
theorem ZET:Lt N (ZgI c s x):=by
 have n1:=hI.n1;have n2:=hI.n2;have n3:=hI.n3;have b:=ZKd hx hI hN;unfold ZgI;rw[ZAo s (by omega) (by omega),ZaA,Zah];split
 .rw[no35,ZaA];exact Lt.same hx hI hN _
 obtain⟨_,d,f⟩:=ZJX b x.fNow;have g:=(ZJD b x.fNow).2;have fD:Zfy s.fBook s.fPeers s.fBans x.fNow=_:=d;have jG:Zfx s.fBook x.fNow=_:=g;rw[fD,ZaA,jG,ZaA];cases h:(Zyf ⟨s.fBook,s.fPeers,s.fBans⟩ x.fNow).2 with
 |false=>rw[Bool.not_false,cond_true];exact Lt.same hx hI hN _
 |true=>
  have h0:=f h;have hlt:=ZBF s.fBook (Zyf ⟨s.fBook,s.fPeers,s.fBans⟩ x.fNow).1;have ed:∀e,ZeT e 2=some (stE e 2):=fun e=>rfl;rw[Bool.not_true,cond_false,Zuy _ _ (by unfold maxLen;omega),ZaA,Zaq ⟨h0,hlt⟩,ed,ZaA,Zvd _ _ (by omega),ZaA];exact⟨_,rfl,Zof hx hI hN (ZFt (hI.book _ (ZeD _ _ _ (by have h0':0<=ZnY s.fBook (Zyf ⟨s.fBook,s.fPeers,s.fBans⟩ x.fNow).1:=h0;omega))) 2 rfl)⟩
theorem Lt.fin{r:Option (Zam×Zao)}(h:Lt N r):Lt N (r.bind fun y=>some (y.1,y.2)):=by
 obtain⟨y,rfl,b⟩:=h;exact⟨y,rfl,b⟩
theorem ZIT:Lt N (ZhP c s x):=by
 have n2:=hI.n2;unfold ZhP;rw[ZBh x hx,ZaA];cases d:ZkY x with
 |false=>rw[Bool.not_false,cond_true,no35,ZaA];exact Lt.same hx hI hN _
 |true=>
  have hb:=ZFa hx hI hN (c:=c);rw[Bool.not_true,cond_false,ZFc hx hI hN];simp only[ZgU];split
  .exact⟨_,rfl,ZFd hx hI hN⟩
  split
  .exact Lt.fin hx hI hN (ZET hx hI hN)
  split
  .exact Lt.fin hx hI hN (Zzj hx hI hN)
  split
  .exact Lt.fin hx hI hN (ZCq hx hI hN)
  have b:∀v:Bool,Lt N (Zdh x.fKind v c s x ⟨[],[],[]⟩ repZ):=fun v=>by
   unfold Zdh;cases v with
   |true=>rw[cond_true];exact Lt.fin hx hI hN hb
   |false=>
    rw[cond_false,ZgU,ZgU];split
    .exact Lt.same hx hI hN _
    split
    .have en:Zhp x.fEnd x.fNow=some (newE x):=by unfold Zhp;rw[Zko];rfl
     have gi:=ZJh s.fBook (newE x) c.fMaxBook;rw[en,ZaA,ZJV _ _ _ (by omega) (ZCT hx),ZaA,no35,ZaA,ZaA,ZgU];split
     .exact⟨_,rfl,ZDf hx hI hN (ZJg hI.book (ZCT hx) _) (by omega) (ZHP hI.srt _ _)⟩
     .exact Lt.same hx hI hN _
    .exact Lt.fin hx hI hN (ZBl hx hI hN)
  split
  .exact b _
  split
  .exact b _
  split
  .exact b _
  .exact b _
end
theorem ZIH:cX 0 ⟨[],[],[]⟩:=⟨fun b h=>(by cases h),fun b h=>(by cases h),fun b h=>(by cases h),List.Pairwise.nil,Nat.le_refl _,Nat.le_refl _,Nat.le_refl _,List.Pairwise.nil⟩
theorem ZAJ(c:Zav)(l:List Zar)(hl:l.length<=60)(ho:∀x∈l,x.ok):∃s,ZfR c l=some s/\cX 61 s:=by
 have ay:∀(k i fu:Nat)(s s0:Zam),l.length-i=k->i<=l.length->k+1<=fu->cX i s->∃t,Zcq l fu (i:Int) c s0 s=some t/\cX 61 t:=by
  intro k;induction k with
  |zero=>
   intro i fu s s0 b e f hI;obtain⟨fu,rfl⟩ : ∃x,fu=x+1:=⟨fu-1,by omega⟩;unfold Zcq;exact⟨s,by rw[Zah,if_neg (by omega)],⟨hI.bans,hI.book,hI.peers,hI.str,by have:=hI.n1;omega,by have:=hI.n2;omega,by have:=hI.n3;omega,hI.srt⟩⟩
  |succ k ih=>
   intro i fu s s0 b e f hI;obtain⟨fu,rfl⟩ : ∃x,fu=x+1:=⟨fu-1,by omega⟩;have g:Zan (i:Int) 1=((i+1:Nat):Int):=add1 (n:=i+1) (by omega) (by simp only[maxLen];omega);have a8:i<l.length:=by omega
   obtain⟨y,h,iy⟩:=ZIT (c:=c) (ho _ (ZeD l Zar.d i a8)) hI (by omega);unfold Zcq;rw[Zah,if_pos (by omega),Zaq (by omega),Int.toNat_natCast,h,ZaA,g];exact ih (i+1) fu y.1 s0 (by omega) (by omega) (by omega) iy
 unfold ZfR;exact ay l.length 0 _ _ _ (by omega) (by omega) (by omega) ZIH
theorem ZxJ(l:List Zaa)(h:l.length<=10000):Zbb l=some l:=by
 unfold Zbb;rw[Zaq ⟨by omega,by unfold maxLen;omega⟩]
theorem ZvB(l:List Zaa)(i:Int)(e:Zaa)(h:l.length<=10000)(h0:0<=i)(b:i.toNat<=l.length):Zbt l i [e]=some (l.take i.toNat++[e]++l.drop i.toNat):=by
 unfold Zbt;rw[Zaq ⟨h0,b,by simp,by simp only[List.length_cons,List.length_nil];omega,by simp only[List.length_cons,List.length_nil,maxLen];omega⟩]
theorem ZCg(l:List Zaa)(i:Nat)(h:l.length<=10000)(b:i<l.length):Zcy l (i:Int) ((i+1:Nat):Int)=some (l.take i++l.drop (i+1)):=by
 unfold Zcy;have gi:(appL l i (i+1) (l.length-(i+1))).length=l.length:=ZHJ l i (i+1) (l.length-(i+1)) ⟨by omega,by omega⟩;rw[Zaq ⟨by omega,by omega,by omega,by omega⟩,show ((i:Int)==((i+1:Nat):Int))=false by rw[beq_eq_false_iff_ne];omega,cond_false];simp only[Int.toNat_natCast,Nat.zero_add];rw[Zaq ⟨by omega,by omega,by omega⟩,Zaq ⟨by omega,by omega,by omega⟩,Zaq ⟨by omega,by omega⟩,Zaq ⟨by omega,by omega,by omega⟩,Zaq (by rw[gi];omega),Zaq (by rw[Zwm _ _ _ _ (by rw[gi];omega),gi];omega)];congr 1;unfold Zjz;rw[List.append_assoc,List.take_append_of_le_length (by simp[gi];omega),List.take_take,Nat.min_self];unfold appL;rw[List.take_append_of_le_length (by simp;omega),List.take_of_length_le (by simp;omega)];congr 1;rw[List.take_of_length_le (by simp)]
theorem ZDS(l:List Zaa)(e:Zai)(h:l.length<=10000){k:Nat}(b:k<l.length)(f:Zhv l e=(k:Int)):ZlK l e=some (butK l k,0):=by
 have d:l.length<=maxLen:=by unfold maxLen;omega
 unfold ZlK;rw[Zti l e d,ZaA,Zah,f,if_neg (by omega),ZxJ l h,ZaA,add1 b d,ZCg l k h b,ZaA];rfl
def ZAL(l:List Zaa)(e:Zai):Int:=ixOf (fun x=>decide (0<cmpE x.fEnd e)) l 0
theorem ZAT(l:List Zaa)(p:Zaa)(hl:l.length<=maxLen):ZbT l p=some (ZAL l p.fEnd):=by
 simp only[ZbT];rw[show ((0:Int))=((0:Nat):Int)from rfl];rw[ZrG l Zaa.d (fun x=>decide (0<cmpE x.fEnd p.fEnd)) hl (fun fu i=>ZaR l p fu (l.length:Int) i) (fun i=>i) ?_ ?_ _ 0 (by omega) (by omega)]
 .rfl
 .intro fu i b;simp only[ZaR,Zmm,Zkv,ZuN,Zah,Option.bind_some];rw[if_pos (by omega),Zaq ⟨by omega,by omega⟩];simp
 .intro fu;simp only[ZaR,Zah];rw[if_neg (by omega)]
theorem Zzv{l:Prs}(e:SrtP l)(p:Zaa){i:Nat}(n:i<=l.length)(f:∀y∈l.take i,¬0<cmpE y.fEnd p.fEnd)(g:i<l.length->0<cmpE (l.getD i Zaa.d).fEnd p.fEnd):l.take i++[p]++l.drop i=mrg l [p]:=by
 have hlt:∀y∈l.take i,ltP p y=false:=fun y b=>by
  rw[ZzF];intro h;exact f y b (ZfS.2 h)
 have lA:∀y∈l.drop i,ltP p y=true:=fun y b=>by
  by_cases hl:i<l.length
  .have hx:ltP p (l.getD i Zaa.d)=true:=by rw[Zqk];exact ZfS.1 (g hl)
   rw[Zex l Zaa.d i hl]at b;rcases List.mem_cons.1 b with q|q
   .rw[q];exact hx
   .have iA:SrtP (l.drop i):=List.Pairwise.sublist (List.drop_sublist _ _) e;rw[Zex l Zaa.d i hl]at iA;have j:=(List.pairwise_cons.1 iA).1 y q;exact ZGq hx j
  .rw[List.drop_eq_nil_of_le (by omega)]at b;cases b
 have:=ZGk hlt lA;rw[List.take_append_drop]at this;rw[this];simp
theorem ZBm(n m:Int):Zgr n m=some (decide (0<=n)&&decide (n<=m)):=by
 unfold Zgr;rw[Zah];by_cases h:n>=0
 .rw[if_pos h,decide_eq_true (show 0<=n by omega),Bool.true_and]
 .rw[if_neg h,decide_eq_false (show ¬0<=n by omega),Bool.false_and]
theorem ZER{x:Zar}(hx:x.ok)(b:ZjF x.fEnd=true):ZiZ (ZlX x)=some true:=by
 have d:=ZiN x.fNow;have e:(decide (0<=fitI x.fNow)&&decide (fitI x.fNow<=1099511627776))=true:=by
  rw[Bool.and_eq_true,decide_eq_true_eq,decide_eq_true_eq];exact d
 unfold ZiZ;simp only[ZlX,ZtI _ hx.2.1,b,ZaA,cond_true,ZBm,e];decide
theorem ZFq{l:Prs}(d:SrtP l)(hl:l.length<=10000){p:Zaa}(f:ZiZ p=some true)(u:Zhv l p.fEnd<0):ZmE l p=some (mrg l [p],0):=by
 have e:l.length<=maxLen:=by unfold maxLen;omega
 have iM:=Zxt (fun x:Zaa=>decide (0<cmpE x.fEnd p.fEnd)) l 0;have hle:=ZBy (fun x:Zaa=>decide (0<cmpE x.fEnd p.fEnd)) l 0;unfold ZmE;rw[f,ZaA,Bool.not_true,cond_false,Zti l _ e,ZaA,Zah,if_neg (by omega),ZAT l p e,ZaA,ZxJ l hl,ZaA,ZaA,Zah];by_cases b:ZAL l p.fEnd<0
 .rw[if_pos b,ZvB l _ p hl (by omega) (by simp),ZaA];have gj:=(ZoX (fun x:Zaa=>decide (0<cmpE x.fEnd p.fEnd)) l 0).1 b;rw[Int.toNat_natCast,Zzv d p (Nat.le_refl _) (fun y g h=>by
   have:=gj y (List.mem_of_mem_take g);rw[decide_eq_false_iff_not]at this;exact this h) (fun h=>by omega)]
 .obtain⟨k,v,A,⟨y,i,n⟩,o⟩:=ZoW (fun x:Zaa=>decide (0<cmpE x.fEnd p.fEnd)) l 0 (by unfold ZAL at b;omega);have ek:ZAL l p.fEnd=(k:Int):=by unfold ZAL;omega
  rw[if_neg b,ek,ZvB l _ p hl (by omega) (by rw[Int.toNat_natCast];omega),ZaA,Int.toNat_natCast];rw[Zzv d p (by omega) (fun z r h=>?_) (fun h=>by
   rw[List.getD_eq_getElem?_getD,i];exact of_decide_eq_true n)]
  obtain⟨j,t,rfl⟩:=List.getElem_of_mem r;have hj2:j<k:=by simp only[List.length_take]at t;omega
  obtain⟨w,w1,w2⟩:=o j hj2;rw[List.getElem_take,(List.getElem?_eq_some_iff.1 w1).2]at h;rw[decide_eq_false_iff_not]at w2;exact w2 h
section
variable {c:Zav} {s:Zam} {x:Zar} {N:Nat} (hx:x.ok) (hI:cX N s) (hN:N<=100)
include hx hI hN
theorem Zwi{l:Prs}(b:SrtP l)(hl:l.length<=1000)(d:ZjF x.fEnd=true)(e:Zhv l x.fEnd<0):Zfv ⟨c,⟨s.fBans,s.fBook,l⟩,x⟩ true=some ⟨c,⟨s.fBans,s.fBook,mrg l [ZlX x]⟩,x⟩:=by
 have en:Zom x.fEnd true x.fNow=some (ZlX x):=by unfold Zom;rw[Zkl];rfl
 unfold Zfv;dsimp only;rw[en,ZaA,ZFq b (by omega) (ZER hx d) e,ZaA];rfl
theorem ZCs(f:ZjF x.fEnd=true):ZgE ⟨c,s,x⟩=some ((ZpD c s x).2,⟨c,(ZpD c s x).1,x⟩):=by
 have o:=hI.n1;have p:=hI.n3;have eu:ZfW ⟨c,s,x⟩=some (Zrq s.fBans x.fEnd.fAddr x.fNow,⟨c,s,x⟩):=by
  unfold ZfW;dsimp only;rw[(Zse s.fBans x.fEnd.fAddr x.fNow (by unfold maxLen;omega) hI.bans hx.2.1.1).1,ZaA]
 unfold ZgE ZpD;rw[eu,ZaA,Zah];dsimp only;by_cases b:Zrq s.fBans x.fEnd.fAddr x.fNow>0
 .rw[if_pos b,if_pos b];rfl
 rw[if_neg b,if_neg b,Zti _ _ (by unfold maxLen;omega),ZaA,Zah];by_cases d:Zhv s.fPeers x.fEnd>=0
 .rw[if_pos d,if_pos d];rfl
 have g:Zhv s.fPeers x.fEnd<0:=by omega
 rw[if_neg d,if_neg d,ZAS _ _ (by unfold maxLen;omega),ZaA,Zah];by_cases h:cntP s.fPeers true>=c.fMaxIn
 .rw[if_neg (by omega),if_pos h,(ZpC hx hI hN).1,ZaA];cases j:(Znd c s).2 with
  |false=>rw[Bool.not_false,cond_true,if_neg (by decide)];rfl
  |true=>
   obtain⟨k,e,i,_,_⟩:=Zyx hx hI hN (c:=c) j;have hb:=Zwo hx hI hN e;have hn2:Zhv (butK s.fPeers k) x.fEnd<0:=ZnA.2 fun q n=>ZnA.1 g q ((ZlZ e).symm.mem_iff.1 (List.mem_cons_of_mem _ n));rw[Bool.not_true,cond_false,if_pos rfl,ZDS _ _ (by omega) e i,ZaA,i,Int.toNat_natCast];dsimp only;rw[Zwi hx hI hN (Ztj (Zqd hI.str k)) (by omega) f hn2,ZaA]
 .rw[if_pos (by omega),if_neg h];have:=Zwi hx hI hN (c:=c) (l:=s.fPeers) (Ztj hI.str) (by omega) f g;rw[this,ZaA];rfl
theorem ZKu(d:x.fKind=1):Zmx c s x=some (if ZkY x=true then ZpD c s x else(s,Zsl 1)):=by
 unfold Zmx;rw[ZEY x hx,ZaA];cases b:ZkY x with
 |false=>rw[Bool.not_false,cond_true,if_neg (by decide)];rfl
 |true=>
  have f:ZjF x.fEnd=true:=by
   unfold ZkY at b;rw[if_pos (.inl d),Bool.and_eq_true]at b;exact b.1
  have e:(x.fKind==1)=true:=beq_iff_eq.2 d;rw[Bool.not_true,cond_false,if_pos rfl];unfold ZkD;dsimp only;rw[e,cond_true,ZCs hx hI hN f];rfl
end
theorem ZIo(l:List Zaa)(hl:l.length<=800)(ho:okPs l)(i:Nat)(f:i<l.length)(b s:Int)(hb:1<=b/\b<=4):ZgM l (i:Int) b s=some (rkP s b l (l.getD i Zaa.d):Int):=by
 have hle:∀j,rkP s b (l.take j) (l.getD i Zaa.d)<=j:=fun j=>by
  have:=List.length_filter_le (fun q=>cntB b q&&decide (ZkX b s q (l.getD i Zaa.d)<0)) (l.take j);rw[List.length_take]at this;unfold rkP;omega
 have ay:∀(k j fu:Nat),l.length-j=k->j<=l.length->k+1<=fu->ZbW l (i:Int) b s fu (rkP s b (l.take j) (l.getD i Zaa.d):Int) (j:Int)=some (rkP s b l (l.getD i Zaa.d):Int):=by
  intro k;induction k with
  |zero=>
   intro j fu g o r;obtain⟨fu,rfl⟩ : ∃x,fu=x+1:=⟨fu-1,by omega⟩;unfold ZbW;rw[Zah,if_neg (by omega),List.take_of_length_le (by omega)]
  |succ k ih=>
   intro j fu g o r;obtain⟨fu,rfl⟩ : ∃x,fu=x+1:=⟨fu-1,by omega⟩;have hj2:j<l.length:=by omega
   have t:Zan (j:Int) 1=((j+1:Nat):Int):=add1 (n:=j+1) (by omega) (by simp only[maxLen];omega);have u:l.getD ((j:Int)).toNat Zaa.d=l[j]:=ZbX l _ j hj2;have v:rkP s b (l.take (j+1)) (l.getD i Zaa.d)=rkP s b (l.take j) (l.getD i Zaa.d)+if(cntB b l[j]&&decide (ZkX b s l[j] (l.getD i Zaa.d)<0))=true then 1 else 0:=by
    unfold rkP;rw[List.take_succ_eq_append_getElem hj2,List.filter_append,List.length_append];congr 1;cases h:(cntB b l[j]&&decide (ZkX b s l[j] (l.getD i Zaa.d)<0))with
    |true=>rw[List.filter_cons_of_pos (p:=fun q=>cntB b q&&decide (ZkX b s q (l.getD i Zaa.d)<0)) (l:=[]) h];rfl
    |false=>rw[List.filter_cons_of_neg (p:=fun q=>cntB b q&&decide (ZkX b s q (l.getD i Zaa.d)<0)) (l:=[]) (show ¬(cntB b l[j]&&decide (ZkX b s l[j] (l.getD i Zaa.d)<0))=true by rw[h];decide)];rfl
   have aV:=ih (j+1) fu (by omega) (by omega) (by omega);rw[v]at aV;have fZ:=hle j;have y:Zan (rkP s b (l.take j) (l.getD i Zaa.d):Int) 1=((rkP s b (l.take j) (l.getD i Zaa.d)+1:Nat):Int):=by rw[Zcd (by omega) (by omega)];omega
   unfold ZbW;rw[Zah,if_pos (by omega),Zaq (by omega),u,Ztm,ZaA,t];cases e:cntB b l[j]with
   |false=>
    rw[e,Bool.false_and,if_neg (by decide)]at aV;rw[cond_false];exact aV
   |true=>
    rw[e,Bool.true_and]at aV;have iY:(l.getD i Zaa.d).fEnd.fAddr.ok:=ZuC ho f;rw[cond_true,Zaq (by omega),Int.toNat_natCast,Zzp _ _ _ _ (ho _ (List.getElem_mem hj2)) iY hb,ZaA,y];cases hd:decide (ZkX b s l[j] (l.getD i Zaa.d)<0)with
    |false=>
     rw[hd,if_neg (by decide)]at aV;rw[cond_false];exact aV
    |true=>
     rw[hd,if_pos rfl]at aV;rw[cond_true];exact aV
 unfold ZgM;rw[Zah,if_neg (by omega),Zah,if_neg (by omega)];exact ay l.length 0 _ (by omega) (by omega) (by omega)
def ZCO(q:Zax)(b:Int):Int:=if b=1 then q.fGroup else if b=2 then q.fPing else if b=3 then q.fWork else q.fTime
def Zyu(q:Zax)(s:Int)(l:List Zaa)(p:Zaa):Prop:=∃b,(1<=b/\b<=4)/\cntB b p=true/\(rkP s b l p:Int)<ZCO q b
theorem ZEe(l:List Zaa)(hl:l.length<=800)(ho:okPs l)(i:Nat)(j:i<l.length)(q:Zax)(s:Int):∃r,ZfP l (i:Int) q s=some r/\(r=true->Zyu q s l (l.getD i Zaa.d)):=by
 have ay:∀(k:Nat)(b:Int)(fu:Nat),(5-b).toNat=k->1<=b->b<=5->k+1<=fu->∃r,ZbU l (i:Int) s fu b q=some r/\(r=true->Zyu q s l (l.getD i Zaa.d)):=by
  intro k;induction k with
  |zero=>
   intro b fu n e o p;obtain⟨fu,rfl⟩ : ∃x,fu=x+1:=⟨fu-1,by omega⟩;unfold ZbU;exact⟨false,by rw[Zah,if_neg (by omega)],fun h=>by cases h⟩
  |succ k ih=>
   intro b fu n e o p;obtain⟨fu,rfl⟩ : ∃x,fu=x+1:=⟨fu-1,by omega⟩;have t:Zan b 1=b+1:=Zcd (by omega) (by omega);have u:ZbY q b=some (ZCO q b):=by
    obtain h|h|h|h:b=1\/b=2\/b=3\/b=4:=by omega
    all_goals subst h;rfl
   obtain⟨r,f,g⟩:=ih (b+1) fu (by omega) (by omega) (by omega) (by omega);unfold ZbU;rw[Zah,if_pos (by omega),Zaq (by omega),Int.toNat_natCast,Ztm,ZaA,ZIo l hl ho i j b s ⟨e,by omega⟩,ZaA,u,ZaA,Zah,t];cases v:cntB b (l.getD i Zaa.d)with
   |false=>rw[cond_false];exact⟨r,f,g⟩
   |true=>
    rw[cond_true];by_cases h:(rkP s b l (l.getD i Zaa.d):Int)<ZCO q b
    .rw[if_pos h];exact⟨true,rfl,fun _=>⟨b,⟨e,by omega⟩,v,h⟩⟩
    .rw[if_neg h];exact⟨r,f,g⟩
 unfold ZfP;rw[Zah,if_neg (by omega),Zah,if_neg (by omega)];exact ay 4 1 _ (by omega) (by omega) (by omega) (by omega)
theorem ZKS{a l:List Zaa}(h:a.Sublist l)(s b:Int)(p:Zaa):rkP s b a p<=rkP s b l p:=(h.filter _).length_le
theorem Zls(s b n:Int)(l:List Zaa):(ZuV s b n l).Sublist l:=List.filter_sublist
theorem ZBz{q:Zax}{s:Int}{l:List Zaa}{p:Zaa}(h:Zyu q s l p):p ∉ ZBx q s l:=by
 obtain⟨b,hb,f,i⟩:=h;have out:∀(m:List Zaa)(n:Int),m.Sublist l->n=ZCO q b->p ∉ ZuV s b n m:=fun m n g j d=>by
  have e:=(List.mem_filter.1 d).2;have o:=ZKS g s b p;unfold stP at e;rw[f,Bool.true_and,Bool.not_eq_true',decide_eq_false_iff_not]at e;omega
 intro d;unfold ZBx at d;have s1:=Zls s 1 q.fGroup l;have s2:=(Zls s 2 q.fPing (ZuV s 1 q.fGroup l)).trans s1;have s3:=(Zls s 3 q.fWork (ZuV s 2 q.fPing (ZuV s 1 q.fGroup l))).trans s2;have p3:=(Zls s 4 q.fTime _).mem d;have p2:=(Zls s 3 q.fWork _).mem p3;have p1:=(Zls s 2 q.fPing _).mem p2;obtain h|h|h|h:b=1\/b=2\/b=3\/b=4:=by omega
 .subst h;exact out _ _ (List.Sublist.refl l) rfl p1
 .subst h;exact out _ _ s1 rfl p2
 .subst h;exact out _ _ s2 rfl p3
 .subst h;exact out _ _ s3 rfl d
theorem ZCm{l:List Zaa}(hd:dEnd l)(hl:l.length<=800)(ho:okPs l)(q:Zax)(s:Int){r:Zai×Bool}(h:Zef l q s=some r)(b:r.2=true):∃p∈ZBx q s (ZhB l),p.fEnd=r.1:=by
 have gk:=ZAz l q s;obtain⟨b1,bB,bP⟩:=ZtK (ZpH l q s) (by omega) fun p h=>ho p (ZAy l q s p h).1;unfold Zef at h;rw[ZvU l q s hl ho,ZaA,bB,ZaA,Zah]at h;rcases bP with⟨e,rfl⟩|⟨n1,rfl,t1⟩
 .rw[if_pos (by omega)]at h;have:=Option.some.inj h;rw[<-this]at b;cases b
 .have l1:=t1.lt;rw[if_neg (by omega),Zaq (by omega)]at h;have:=Option.some.inj h;rw[<-ZKB hd,<-this];exact⟨_,ZeD _ Zaa.d n1 l1,by rw[Int.toNat_natCast]⟩
theorem ZHI:ZcM=some true:=by decide +kernel
theorem ZDD(l:List Zaa):cntP l true=((ZhB l).length:Int):=by
 unfold cntP ZhB;rw[List.countP_eq_length_filter];congr 2;refine List.filter_congr fun p _=>?_;cases p.fIn<;>rfl
theorem ZuK{l:List Zaa}{p:Zaa}(h:p∈l):0<=Zhv l p.fEnd:=by
 by_cases b:Zhv l p.fEnd<0
 .exact absurd rfl (ZnA.1 b p h)
 .omega
theorem ZvT(c:Zav)(L:List Zaa)(hL:L.length<=100)(ho:okPs L)(t:Zam)(C:t.fPeers.length<=100)(e:Zai)
  (h:∀p∈L,(p.fEnd≠e->0<=Zhv t.fPeers p.fEnd)/\(Zyu c.fQuota c.fSecret L p->0<=Zhv t.fPeers p.fEnd)) (hlen:(ZhB t.fPeers).length=L.length) :
  ZaE ((((L.length:Nat):Int)-(0:Int)).toNat+2) L 0 c t e=some true:=by
 have ay:∀(k i fu:Nat),L.length-i=k->i<=L.length->k+1<=fu->ZaE fu L (i:Int) c t e=some true:=by
  intro k;induction k with
  |zero=>
   intro i fu b f g;obtain⟨fu,rfl⟩ : ∃x,fu=x+1:=⟨fu-1,by omega⟩;unfold ZaE;rw[Zah,if_neg (by omega),Zyc _ (by omega),ZaA,hlen,beq_self_eq_true,cond_true,ZHI];rfl
  |succ k ih=>
   intro i fu b f g;obtain⟨fu,rfl⟩ : ∃x,fu=x+1:=⟨fu-1,by omega⟩;have a8:i<L.length:=by omega
   have j:Zan (i:Int) 1=((i+1:Nat):Int):=add1 (n:=i+1) (by omega) (by simp only[maxLen];omega);have aV:=ih (i+1) fu (by omega) (by omega) (by omega);obtain⟨o,u⟩:=h _ (ZeD L Zaa.d i a8);obtain⟨r,v,y⟩:=ZEe L (by omega) ho i a8 c.fQuota c.fSecret;unfold ZaE;rw[Zah,if_pos (by omega),Zaq (by omega),Int.toNat_natCast,Zkn _ _ (by unfold maxLen;omega),ZaA,v,ZaA,j];by_cases z:Zhv t.fPeers (L.getD i Zaa.d).fEnd>=0
   .rw[decide_eq_true z];simp only[Bool.not_true,cond_false];cases r<;>simp only[cond_true,cond_false]<;>(cases(!decide ((L.getD i Zaa.d).fEnd=e))<;>simp only[cond_true,cond_false]<;>exact aV)
   .have A:r=false:=by
     cases r with
     |false=>rfl
     |true=>exact absurd (u (y rfl)) (by omega)
    have B:(L.getD i Zaa.d).fEnd=e:=by
     by_cases q:(L.getD i Zaa.d).fEnd=e
     .exact q
     .exact absurd (o q) (by omega)
    rw[A,cond_false,decide_eq_true B,Bool.not_true,cond_false];exact aV
 exact ay L.length 0 _ (by omega) (by omega) (by omega)
theorem ZtQ(c:Zav)(l:List Zar)(x:Zar)(F:c.ok)(hl:okL Zar.ok l)(hx:x.ok):Zfi c l x=some true:=by
 unfold Zfi;rw[Zah,ZHI,ZaA];split
 .rfl
 rename_i h40;obtain⟨b,hb⟩:=ZJQ c;rw[hb,ZaA];cases b with
 |false=>rfl
 |true=>
  rw[Bool.not_true,cond_false];by_cases o:x.fKind=1;rotate_left
  .have e:(x.fKind != 1)=true:=by rw[bne_iff_ne];exact o
   rw[e,cond_true]
  have e:(x.fKind != 1)=false:=by rw[o];rfl
  obtain⟨s,z,hI⟩:=ZAJ c l (by omega) hl.2;have n3:=hI.n3;have hin:=ZtO s.fPeers;have bN:=ZDD s.fPeers;have lB:okPs s.fPeers:=fun p f=>(hI.peers p f).1.1;rw[e,cond_false,z,ZaA,Zyc _ (by omega),ZaA,ZKu hx hI (by omega) o,ZaA,Zah];split
  .rfl
  rename_i hmax;have jM:cntP s.fPeers true>=c.fMaxIn:=by omega
  cases G:ZkY x with
  |false=>
   rw[if_neg (by decide)];rfl
  |true=>
   rw[if_pos rfl];unfold ZpD;by_cases u:Zrq s.fBans x.fEnd.fAddr x.fNow>0
   .rw[if_pos u];rfl
   rw[if_neg u];by_cases f:Zhv s.fPeers x.fEnd>=0
   .rw[if_pos f];rfl
   rw[if_neg f,if_pos jM,(ZpC hx hI (by omega)).1];cases n:(Znd c s).2 with
   |false=>
    rw[if_neg (by decide)];have hl2:=ZvT c (ZhB s.fPeers) (by omega) (Zso lB) s (by omega) (Znd c s).1 (fun p f=>⟨fun _=>ZuK (List.mem_filter.1 f).1,fun _=>ZuK (List.mem_filter.1 f).1⟩) rfl;have hss:=Zwz s (by have:=hI.n1;omega) (by have:=hI.n2;omega) (by omega);simp only[Zsl,ZaA,n,hss,hl2];rfl
   |true=>
    obtain⟨k,i,A,r,B⟩:=Zyx hx hI (by omega) (c:=c) n;have hbl:=Zwo hx hI (by omega) i;have hnx:∀q∈s.fPeers,q.fEnd≠(ZlX x).fEnd:=ZnA.1 (show Zhv s.fPeers x.fEnd<0 by omega);have ck:∀q∈butK s.fPeers k,q∈s.fPeers:=fun q g=>(ZlZ i).symm.mem_iff.1 (List.mem_cons_of_mem _ g);obtain⟨p1,p2⟩:=ZAU (Zqd hI.str k) fun q g=>hnx q (ck q g);have jq:dEnd (s.fPeers.getD k Zaa.d :: butK s.fPeers k):=(ZCx hI.str).perm (ZlZ i);have fA:=List.pairwise_cons.1 jq;rw[if_pos rfl,A,Int.toNat_natCast];obtain⟨T,C⟩ : ∃T,T=mrg (butK s.fPeers k) [ZlX x]:=⟨_,rfl⟩;rw[<-C]at p1 p2 ⊢;have hTl:T.length<=100:=by rw[p2.length_eq,List.length_cons];omega
    have i1:Zhv T (Znd c s).1<0:=ZnA.2 fun q g j=>by
     rcases List.mem_cons.1 (p2.mem_iff.1 g)with h|h
     .rw[h]at j;exact hnx _ (ZeD s.fPeers Zaa.d k i) (r.trans j.symm)
     .exact fA.1 q h (r.trans j.symm)
    have i2:0<=Zhv T x.fEnd:=ZuK (p:=ZlX x) (p2.mem_iff.2 (by simp));have im:(ZhB T).length=(ZhB s.fPeers).length:=by
     have v:=ZKw i true;have y:=ZAt p2 true;rw[ZAu]at y;rw[B]at v;have o1:oneI (true==true)=1:=rfl;have H:oneI ((ZlX x).fIn==true)=1:=rfl;rw[ZDD]at v y;omega
    have hl2:=ZvT c (ZhB s.fPeers) (by omega) (Zso lB) ⟨s.fBans,s.fBook,T⟩ hTl (Znd c s).1 (fun p f=>by
     have bC:=(List.mem_filter.1 f).1;have jN:p.fEnd≠(Znd c s).1->0<=Zhv T p.fEnd:=fun hne=>by
      refine ZuK (p2.mem_iff.2 (List.mem_cons_of_mem _ ?_));rcases List.mem_cons.1 ((ZlZ i).mem_iff.1 bC)with h|h
      .rw[h,r]at hne;exact absurd rfl hne
      .exact h
     refine⟨jN,fun D=>jN fun j=>?_⟩;obtain⟨q,t,E⟩:=ZCm (ZCx hI.str) (by omega) lB c.fQuota c.fSecret (ZpC hx hI (by omega)).1 n;have jO:(ZBx c.fQuota c.fSecret (ZhB s.fPeers)).Sublist (ZhB s.fPeers):=(Zls _ 4 _ _).trans ((Zls _ 3 _ _).trans ((Zls _ 2 _ _).trans (Zls _ 1 _ _)));have g:=(List.mem_filter.1 (jO.mem t)).1;have:q=p:=hI.str.inj g bC (E.trans j.symm);rw[this]at t;exact ZBz D t) im
    have d1:decide ((Znd c s).1=(Znd c s).1)=true:=decide_eq_true rfl;simp only[ZaA,n,d1,Zkn T _ (by unfold maxLen;omega),Zah,if_neg (show ¬Zhv T (Znd c s).1>=0 by omega),if_neg (show ¬Zhv T x.fEnd<0 by omega),hl2];rfl
end Go.Proofs.YtmnloegcpaahcaaGreat
