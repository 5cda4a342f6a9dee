import Derived.Test.YtdjfoojllbfcgaaGreatJPlQb
namespace Go.Proofs.YtdjfoojllbfcgaaGreat
set_option linter.unusedVariables false
set_option linter.unusedSimpArgs false
theorem ZHC{ah out:Int}{bans:List Zaf}{book:List Zaa}{ps:PPs}{n:Nat}{f:Nat->Zat}(aS:1<=n)(aP:n<=8)(az:ps.length=n)(hok:∀y∈ps,(∀p∈y.1,p.ok)/\y.1.length<=100):∀(k i:Nat)(w:Prs),i+k=n ->
  Ex (ZAX k i w) (memM ah out bans book (shP ps) n f) (w++((ps.map (·.1)).drop i).flatten) (memM ah out bans book (shP ps) n f) (k+((ps.map (·.1)).drop i).flatten.length) 0
 | 0,i,w,h=>by
  rw[List.drop_eq_nil_of_le (by simp;omega),List.flatten_nil,List.append_nil]
  exact .ret _ _ _
 |k+1,i,w,h=>by
  have hi:i<ps.length:=by omega
  have e:(ps.map (·.1)).drop i=(ps.getD i ([],[])).1 :: (ps.map (·.1)).drop (i+1):=by
   rw[ZdK (ps.map (·.1)) [] i (by simpa using hi)];congr 1;simp[List.getD_eq_getElem?_getD,hi]
  have b:=hok _ (Zeu ps ([],[]) i hi);have d:=ZHz (ah:=ah) (out:=out) (bans:=bans) (book:=book) (f:=f) aS aP (by rw[ZoI];exact az) (i:=i) (by omega) (l:=(ps.getD i ([],[])).1) (r:=(ps.getD i ([],[])).2) (ZBn ps hi) b.1 (by omega);have ih:=ZHC (ah:=ah) (out:=out) (bans:=bans) (book:=book) (f:=f) aS aP az hok k (i+1) (w++(ps.getD i ([],[])).1) (by omega);rw[List.append_assoc]at ih;rw[e,List.flatten_cons];unfold ZAX;exact d.seq ih (by rw[List.length_append];omega) rfl
theorem ZIp{a b:List Zab}(h:a.Perm b)(n:Zag):n∈gsP a↔n∈gsP b:=((h.filter _).map _).mem_iff
theorem ZIf{book:List Zaa}{bans:List Zaf}{a b:Prs}(h:ZkY ⟨book,a,bans⟩)(h':ZkY ⟨book,b,bans⟩)(hp:a.Perm b)(ae:Int)(e:Zaa)(he:e.ok):mayS ⟨book,a,bans⟩ ae e=mayS ⟨book,b,bans⟩ ae e:=by
 have g:=ZBq h e he ae;have j:=ZBq h' e he ae;have ha:a.length<=900:=h.peers;have v:b.length<=900:=h'.peers;have hbk:book.length<=900:=h.book;have o:(decide (grp e.fEnd.fAddr∈gsP a++gsE book))=decide (grp e.fEnd.fAddr∈gsP b++gsE book):=by
  rw[decide_eq_decide,List.mem_append,List.mem_append,ZIp hp]
 have hfa:=Zye a book e.fEnd.fAddr (by omega) (by omega) h.peersOk h.bookOk he.1.1;have cT:=Zye b book e.fEnd.fAddr (by omega) (by omega) h'.peersOk h.bookOk he.1.1;rw[o,<-cT]at hfa;have t:decide (ZkJ a e.fEnd<0)=decide (ZkJ b e.fEnd<0):=by
  rw[decide_eq_decide,ZsP,ZsP];exact⟨fun q p d=>q p (hp.mem_iff.2 d),fun q p d=>q p (hp.mem_iff.1 d)⟩
 have ia:=ZpZ a e.fEnd (by unfold maxLen;omega);have ib:=ZpZ b e.fEnd (by unfold maxLen;omega);have u:ZdU book a bans e ae=ZdU book b bans e ae:=by
  unfold ZdU;rw[ia,ib,hfa];simp only[ZaK,t]
 exact Option.some.inj (g.symm.trans (u.trans j))
theorem ZEo{book:List Zaa}{bans:List Zaf}{a b:Prs}(h:ZkY ⟨book,a,bans⟩)(h':ZkY ⟨book,b,bans⟩)(hp:a.Perm b)(ae:Int):Zlv ⟨book,a,bans⟩ ae=Zlv ⟨book,b,bans⟩ ae:=by
 obtain⟨e,ok,q,t⟩:=ZsX h ae;obtain⟨e',iC,u,v⟩:=ZsX h' ae;have p1:=ZqS t;have p2:=ZqS v;have j:∀y∈book,mayS ⟨book,a,bans⟩ ae y=mayS ⟨book,b,bans⟩ ae y:=fun y d=>ZIf h h' hp ae y (h.bookOk y d);have p3:ZnV ⟨book,b,bans⟩ ae e ok:=by
  rcases p1 with⟨o,x,g,p,z,A⟩|⟨o,g,p⟩
  .exact .inl ⟨o,x,g,p,(j x g).symm.trans z,fun y d cr=>A y d ((j y d).trans cr)⟩
  .exact .inr ⟨o,g,fun y d=>(j y d).symm.trans (p y d)⟩
 have:=ZnV.one p3 p2;unfold Zlv;rw[q,u];exact this
theorem ZIJ{l:List Zaa}(h:l.Pairwise fun a b=>cmpE a.fEnd b.fEnd<0):∀{x y:Zaa},x∈l->y∈l->x.fEnd=y.fEnd->x=y:=by
 induction h with
 |nil=>intro x y hx;cases hx
 |cons d _ ih=>
  intro x y hx hy e;rcases List.mem_cons.1 hx with hx|hx
  .rcases List.mem_cons.1 hy with hy|hy
   .rw[hx,hy]
   .have:=d y hy;rw[<-hx,ZmQ.2 e]at this;exact absurd this (by decide)
  .rcases List.mem_cons.1 hy with hy|hy
   .have:=d x hx;rw[<-hy,ZmQ.2 e.symm]at this;exact absurd this (by decide)
   .exact ih hx hy e
theorem ZHX{v:ZaF}(h:ZkY v)(q:Zxb v.fBook=true)(ae:Int)(hp:(Zlv v ae).2=true):is2 (entA v.fBook (Zlv v ae).1)=0/\(entA v.fBook (Zlv v ae).1).fEnd=(Zlv v ae).1/\0<=ZiO v.fBook (Zlv v ae).1:=by
 obtain⟨e,ok,t,u⟩:=ZsX h ae;have y:=ZqS u;have z:Zlv v ae=(e,ok):=by unfold Zlv;rw[t];rfl
 rw[z]at hp ⊢;rcases y with⟨b,x,d,g,j,B⟩|⟨b,_⟩
 .have o:0<=ZiO v.fBook e:=by
   have:¬ZiO v.fBook e<0:=fun h=>ZAn.1 h x d g;omega
  obtain⟨p,A⟩:=ZDr o;have hx:entA v.fBook e=x:=ZIJ ((ZEf _).1 q).2 A d (p.trans g.symm);refine⟨?_,p,o⟩;show is2 (entA v.fBook e)=0;rw[hx];unfold mayS dueS at j;simp only[Bool.and_eq_true,beq_iff_eq]at j;unfold is2;rw[if_neg (by omega)]
 .rw[show ok=true from hp]at b;cases b
def ZFS(c:Zau)(o:Int)(book:List Zaa)(pk:Zan×Bool)(wn:Int):Pr (Zaq×Bool):=if o>=c.fMaxOut then .ret (Zef 5,true)else if pk.2=true then(Zys 2 1 true 1000000).bind fun _=>(Zrz book (stE (entA book pk.1) 2)).bind fun _=>.ret (⟨0,pk.1,0,0,[]⟩,false)else .ret (⟨6,endZ,0,wn,[]⟩,true)
theorem ZKR(c:Zau)(x:ZaB):ZzI c x=(ZEc c.fShards.toNat).bind fun v=>(ZjW ⟨2,0,0⟩).bind fun o=>ZFS c o.fN v.fBook (Zlv v x.fNow) (Zzf v x.fNow):=rfl
def fLA(n:Nat):Nat->Zat:=updR fL2 2 (n+2) ZlY
theorem ZLj{n q:Nat}(h:2<=q)(b:q<n+2):fLA n q=ZlY:=if_pos ⟨h,b⟩
theorem ZIu(n:Nat):updR (fLA n) 2 (n+2) ZhK=fL2:=by
 funext q;unfold fLA updR;by_cases h:2<=q/\q<n+2
 .rw[if_pos h];have:=ZDn (q-2);rw[show 2+(q-2)=q by omega]at this;exact this.symm
 .rw[if_neg h,if_neg h]
section
variable {c:Zau} {s:Zas} {x:ZaB} (hx:x.ok) (hs:s.ok) (hR:RtS c s) (aQ:s.fBans.length<=20/\s.fBook.length<=20/\s.fPeers.length<=20)
include hx hs hR aQ
theorem ZIY{q:Pr (Zaq×Bool)}{r:Zaq×Bool}{ah out:Int}{bans:List Zaf}{book:List Zaa}{ps:PPs}(az:ps.length=ZaT c.fShards){st cn:Nat}
  (o:Ex q (mP c s (fLA (ZaT c.fShards))) r (memM ah out bans book (shP ps) (ZaT c.fShards) (fLA (ZaT c.fShards))) st cn) (p:cn+bn r.2=1) :
  Ex ((keyP 2 0 false).bind fun _=>(keyP 1 1 false).bind fun _=>(ZqV c.fShards).bind fun _=>q.bind fun r=>ZIy c r) (mP c s fL) r.1 (memM ah out bans book (shP ps) (ZaT c.fShards) fL) (st+20) 1:=by
 have _u:=hs;have _v:=hR;have _w:=aQ;have _z:=hx;have b:=ZgD c.fShards;have ej:(shP ps).length=ZaT c.fShards:=by rw[ZoI];exact az
 have t:Ex (ZIy c r) (memM ah out bans book (shP ps) (ZaT c.fShards) (fLA (ZaT c.fShards))) r.1 (memM ah out bans book (shP ps) (ZaT c.fShards) fL) 10 (bn r.2):=by
  unfold ZIy;have d:=ZHB (ah:=ah) (out:=out) (bans:=bans) (book:=book) (f:=fL1) b.1 b.2 ej rfl false;rw[show updL fL1 0 ZhK=fL from ZuF (f:=fL) rfl sh0]at d;have u:Ex (keyP 3 1 false) (memM ah out bans book (shP ps) (ZaT c.fShards) fL2) () (memM ah out bans book (shP ps) (ZaT c.fShards) fL1) 1 (bn false):=Ztg (k:=1) b.1 b.2 ej (by omega) rfl false;have g:=ZFh (ah:=ah) (out:=out) (bans:=bans) (book:=book) (f:=fLA (ZaT c.fShards)) b.1 b.2 ej c.fShards rfl r.2 (fun q h j=>ZLj h j);rw[ZIu]at g;refine g.seq (s2:=2) (c2:=0) ?_ (by omega) (Nat.add_zero _);refine u.seq (s2:=1) (c2:=0) ?_ (by omega) rfl;exact d.seq (.ret _ _ 0) (by omega) rfl
 have v:Ex (keyP 2 0 false) (mP c s fL) () (mP c s fL1) 1 0:=ZDJ (f:=fL) b.1 b.2 (Zmr c s) rfl false;have y:Ex (keyP 1 1 false) (mP c s fL1) () (mP c s fL2) 1 0:=Zwr (k:=1) (f:=fL1) b.1 b.2 (Zmr c s) (by omega) rfl false;have z:Ex (ZqV c.fShards) (mP c s fL2) () (mP c s (fLA (ZaT c.fShards))) (ZaT c.fShards) 0:=ZFg (f:=fL2) b.1 b.2 (Zmr c s) c.fShards rfl fun q h j=>by
  have:=ZDn (q-2);rw[show 2+(q-2)=q by omega]at this;exact this
 refine v.seq (s2:=st+19) (c2:=1) ?_ (by omega) rfl;refine y.seq (s2:=st+18) (c2:=1) ?_ (by omega) rfl;refine z.seq (s2:=st+10) (c2:=1) ?_ (by omega) rfl;exact o.seq t (by omega) p
theorem ZIW(u:ZiQ x=true)(v:x.fKind=3):ZCy c s x (mP c s fL) (ZIA c x):=by
 have b:=ZgD c.fShards;obtain⟨z,A⟩:=Zsi (c:=c) aQ.2.2;have eN:(lP c s).length=ZaT c.fShards:=Ztl _ _ _ _;have g:=ZGQ hx hs hR aQ u v (c:=c) (s:=s);have dJ:=ZtX hs ⟨aQ.2.1,aQ.2.2⟩;have hsh:=ZCI hR.conf;have iy:c.fShards.toNat=ZaT c.fShards:=by unfold ZaT;rw[if_neg (by omega),if_neg (by omega)]
 have cg:((lP c s).map (·.1)).flatten.Perm s.fPeers:=Zlj hs.2.2.1.2 _ _;have hal:=cg.length_eq;have cF:∀y∈lP c s,(∀p∈y.1,p.ok)/\y.1.length<=100:=fun y o=>by
  unfold lP ps0 at o;obtain⟨k,_,rfl⟩:=List.mem_map.1 o;have:=List.length_filter_le (Zpx c.fSecret c.fShards k) s.fPeers;exact⟨fun p hp=>hs.2.2.1.2 p (Zyj hp),by show (ZjV s.fPeers c.fSecret c.fShards k).length<=100;unfold ZjV;omega⟩
 have q:ZkY ⟨s.fBook,((lP c s).map (·.1)).flatten,s.fBans⟩:=⟨by show s.fBook.length<=900;omega,by show (((lP c s).map (·.1)).flatten).length<=900;omega,by show s.fBans.length<=900;omega,hs.2.1.2,fun p hp=>hs.2.2.1.2 p (cg.mem_iff.1 hp),hs.1.2⟩;have l7:ZkY ⟨s.fBook,s.fPeers,s.fBans⟩:=⟨by show s.fBook.length<=900;omega,by show s.fPeers.length<=900;omega,by show s.fBans.length<=900;omega,hs.2.1.2,hs.2.2.1.2,hs.1.2⟩;have i9:=ZEo q l7 cg x.fNow;have hwn:Zff s.fBook x.fNow=some (Zzf ⟨s.fBook,((lP c s).map (·.1)).flatten,s.fBans⟩ x.fNow):=(ZFm q x.fNow).2;have jb:Zfg s.fBook s.fPeers s.fBans x.fNow=some (Zlv ⟨s.fBook,s.fPeers,s.fBans⟩ x.fNow):=(ZFR l7 x.fNow).2.1;have t:=ZHX l7 hR.book x.fNow;have l8:Ex (ZEc c.fShards.toNat) (mP c s (fLA (ZaT c.fShards))) ⟨s.fBook,((lP c s).map (·.1)).flatten,s.fBans⟩ (mP c s (fLA (ZaT c.fShards))) 40 0:=by
  have ha:=ZHC (ah:=cntP s.fPeers true) (out:=cntP s.fPeers false+Zcz s.fBook 2) (bans:=s.fBans) (book:=s.fBook) (f:=fLA (ZaT c.fShards)) b.1 b.2 eN cF (ZaT c.fShards) 0 [] (by omega);rw[List.drop_zero,List.nil_append]at ha;rw[iy];unfold ZEc;refine(Zws (f:=fLA (ZaT c.fShards)) b.1 b.2 (Zmr c s) (by omega) hs.1.2).seq (s2:=39) (c2:=0) ?_ (by omega) rfl;refine(Zsa (f:=fLA (ZaT c.fShards)) b.1 b.2 (Zmr c s) (by omega) hs.2.1.2).seq (s2:=38) (c2:=0) ?_ (by omega) rfl;exact ha.seq (.ret _ _ 0) (by omega) rfl
 have bS:Ex (ZjW ⟨2,0,0⟩) (mP c s (fLA (ZaT c.fShards))) ⟨cntP s.fPeers false+Zcz s.fBook 2,ZlO,[],[]⟩ (mP c s (fLA (ZaT c.fShards))) 1 0:=by
  have h:=ZDM (ah:=cntP s.fPeers true) (out:=cntP s.fPeers false+Zcz s.fBook 2) (bans:=s.fBans) (book:=s.fBook) (f:=fLA (ZaT c.fShards)) b.1 b.2 (Zmr c s) 2 (.inr rfl) (by rw[if_neg (by decide)];exact Zvg (by omega) (by omega));rw[if_neg (by decide)]at h;exact h
 generalize hwv:Zzf ⟨s.fBook,((lP c s).map (·.1)).flatten,s.fBans⟩ x.fNow=wn at hwn;generalize hpv:Zlv ⟨s.fBook,s.fPeers,s.fBans⟩ x.fNow=pk at i9 jb t;have bL:∀{r:Zaq×Bool}{m:ZaC}{st cn:Nat},Ex (ZFS c (cntP s.fPeers false+Zcz s.fBook 2) s.fBook pk wn) (mP c s (fLA (ZaT c.fShards))) r m st cn->Ex (ZzI c x) (mP c s (fLA (ZaT c.fShards))) r m (st+41) cn:=fun{r m st cn} h=>by
  rw[ZKR];refine l8.seq (s2:=st+1) (c2:=cn) ?_ (by omega) (Nat.zero_add _);refine bS.seq (s2:=st) (c2:=cn) ?_ (by omega) (Nat.zero_add _);dsimp only;rw[i9,hwv];exact h
 have di:∀{r:Zaq×Bool}{ah out:Int}{book:List Zaa}{st cn:Nat},Ex (ZzI c x) (mP c s (fLA (ZaT c.fShards))) r (memM ah out s.fBans book (shP (lP c s)) (ZaT c.fShards) (fLA (ZaT c.fShards))) st cn->cn+bn r.2=1->st<=370->ZbE c s x=some (⟨s.fBans,book,s.fPeers⟩,r.1)->ah=cntP s.fPeers true->out=cntP s.fPeers false+Zcz book 2->book.length<=1000->r.1.fPeers.length<=1000->ZCy c s x (mP c s fL) (ZIA c x):=fun{r ah out book st cn} B D M E F G H I=>by
  have J:=ZIY hx hs hR aQ eN B D;exact⟨r.1,ah,out,s.fBans,book,lP c s,s.fPeers,st+20,J,by omega,E,hR.peers,cg,z,A,F,G,by omega,H,by omega,I⟩
 unfold Zgq at g;rw[ZqG s (by omega) (by omega),ZaK,Zam]at g;by_cases j:cntP s.fPeers false+Zcz s.fBook 2>=c.fMaxOut
 .rw[if_pos j,no35,ZaK]at g;exact di (r:=(Zef 5,true)) (bL (st:=0) (cn:=0) (by unfold ZFS;rw[if_pos j];exact .ret _ _ 0)) rfl (by omega) g rfl rfl (by omega) (Nat.zero_le _)
 rw[if_neg j,jb,ZaK]at g;cases hok:pk.2 with
 |false=>
  rw[hok,Bool.not_false,cond_true,hwn,ZaK]at g;exact di (r:=(⟨6,endZ,0,wn,[]⟩,true)) (bL (st:=0) (cn:=0) (by unfold ZFS;rw[if_neg j,hok,if_neg (by decide)];exact .ret _ _ 0)) rfl (by omega) g rfl rfl (by omega) (Nat.zero_le _)
 |true=>
  obtain⟨p1,p2,p3⟩:=t hok;have hlt:=ZrP s.fBook pk.1;have ed:ZeF (s.fBook.getD (ZiO s.fBook pk.1).toNat Zaa.d) 2=some (stE (entA s.fBook pk.1) 2):=rfl;rw[hok,Bool.not_true,cond_false,Zsf _ _ (by unfold maxLen;omega),ZaK,Zax ⟨p3,hlt⟩,ed,ZaK,ZuS _ _ (by omega),ZaK]at g;have K:=ZqI (l:=s.fBook) (e:=stE (entA s.fBook pk.1) 2) (by show 0<=ZiO s.fBook (entA s.fBook pk.1).fEnd;rw[show (entA s.fBook pk.1).fEnd=pk.1 from p2];exact p3);rw[show (stE (entA s.fBook pk.1) 2).fEnd=pk.1 from p2,show is2 (entA s.fBook pk.1)=0 from p1,show is2 (stE (entA s.fBook pk.1) 2)=1 from if_pos rfl]at K;have L:=ZxN (ah:=cntP s.fPeers true) (out:=cntP s.fPeers false+Zcz s.fBook 2) (bans:=s.fBans) (book:=s.fBook) (f:=fLA (ZaT c.fShards)) b.1 b.2 (Zmr c s) (by omega) 1 (by omega) true;refine di (r:=(⟨0,pk.1,0,0,[]⟩,false)) (ah:=cntP s.fPeers true) (out:=cntP s.fPeers false+Zcz s.fBook 2+1) (bL (st:=3) (cn:=1) ?_) rfl (by omega) g rfl (by omega) (by rw[ZCF];omega) (Nat.zero_le _);unfold ZFS;rw[if_neg j,hok,if_pos rfl];refine L.seq (s2:=1) (c2:=0) ?_ (by omega) rfl;unfold Zrz;exact(ZnA b.1 b.2 (Zmr c s) _ false).seq (.ret _ _ 0) (by omega) rfl
end
theorem ZyV:Zdp=some true:=by decide +kernel
def ZGz(c:Zau)(s:Zas)(x:ZaB)(mk:Int)(r:Zaq)(m:ZaC):Option Bool:=(ZbE c s x).bind fun gS=>bif(mk==(1:Int))then(Zfd r gS.2).bind fun lY=>bif lY then(ZeD m).bind fun lZ=>(Zfc lZ gS.1).bind fun l4=>bif l4 then(ZcB gS.1).bind fun l5=>(Zgv m gS.1 l5).bind fun l6=>bif l6 then(Zdp).bind fun ka=>some ka else some false else some false else some false else some false
theorem ZJf{c:Zau}{s:Zas}{x:ZaB}{aO:List Zah}{t:ZaV}(h:ZhM c x aO=some t)(fu:Nat)(mk i:Int)(hi:i<400)(m:ZaC) :
  ZaE (fu+1) mk i aO c s x m=bif t.fDone then ZGz c s x mk t.fReply m else bif t.fBroken then some false else(Zbd m t.fOp).bind fun iQ=>bif(!iQ)then some false else
   (ZaS m t.fOp 0).bind fun b5=>need ((aO++([b5.2]:List Zah)).length * 136<=140737488355328/\(aO++([b5.2]:List Zah)).length<=maxLen) <|
   bif t.fOp.fMark then bif(t.fOp.fKind != (7:Int))then ZaE fu (ZaA mk 1) (ZaA i 1) (aO++[b5.2]) c s x b5.1 else bif(b5.2.fN==(1:Int))then ZaE fu (ZaA mk 1) (ZaA i 1) (aO++[b5.2]) c s x b5.1
    else ZaE fu mk (ZaA i 1) (aO++[b5.2]) c s x b5.1
   else ZaE fu mk (ZaA i 1) (aO++[b5.2]) c s x b5.1:=by
 have bC:∀r:Option ZaV,(r.bind fun y=>some y)=r:=fun r=>by cases r<;>rfl
 unfold ZhM at h
 conv=>lhs;unfold ZaE
 rw[Zam,if_pos hi];cases b:Zle c x with
 |none=>rw[b]at h;cases h
 |some code=>
  rw[b]at h;rw[ZaK]at h ⊢;cases code<;>(dsimp only at h ⊢;rw[bC]at h;rw[h,ZaK];rfl)
theorem ZLa{c:Zau}{s:Zas}{x:ZaB}(hx:x.ok)(hsh:c.fShards<=1000){m:ZaC}{r:Zaq}{m':ZaC}{st cn:Nat}(h:Ex (ZBp c x) m r m' st cn)(cj:st<=390) :
  ZaE 402 0 0 [] c s x m=ZGz c s x (cn:Int) r m':=by
 have gd:∀aO:List Zah,aO.length<=400->(∀v∈aO,gv0 v)->Gl aO:=fun aO d b=>⟨by omega,fun v u=>b v u⟩;have nx:∀aO:List Zah,aO.length<=400->(∀v∈aO,gv0 v)->ZhM c x aO=(runT (ZBp c x) aO).map Zyi:=fun aO d b=>ZHt hx hsh (gd aO d b);have hl:=ZIh (p:=ZBp c x) (c0:=fun fu mk i aO m=>ZaE fu mk i aO c s x m) (F:=fun mk r m=>ZGz c s x mk r m)
  (fun fu mk i aO m r g hi d b y=>by
   have j:=nx aO d b;rw[y]at j;rw[ZJf j fu _ _ (by omega) m];rfl)
  (fun fu mk i aO m q m' v hi d jk b y A B=>by
   have j:=nx aO d b;rw[y]at j;have D:ZaA (mk:Int) 1=((mk+1:Nat):Int):=by rw[Zeo (by omega) (by omega)];omega
   have E:ZaA (i:Int) 1=((i+1:Nat):Int):=by rw[Zeo (by omega) (by omega)];omega
   rw[ZJf j fu _ _ (by omega) m];show ((Zbd m q).bind fun iQ=>bif(!iQ)then some false else(ZaS m q 0).bind fun b5=>need ((aO++([b5.2]:List Zah)).length * 136<=140737488355328/\(aO++([b5.2]:List Zah)).length<=maxLen) <|
    bif q.fMark then bif(q.fKind != (7:Int))then ZaE fu (ZaA (mk:Int) 1) (ZaA (i:Int) 1) (aO++[b5.2]) c s x b5.1 else bif(b5.2.fN==(1:Int))then ZaE fu (ZaA (mk:Int) 1) (ZaA (i:Int) 1) (aO++[b5.2]) c s x b5.1
     else ZaE fu (mk:Int) (ZaA (i:Int) 1) (aO++[b5.2]) c s x b5.1
    else ZaE fu (mk:Int) (ZaA (i:Int) 1) (aO++[b5.2]) c s x b5.1)=_
   rw[A,ZaK,Bool.not_true,cond_false,B,ZaK,Zax ⟨by simp;omega,by simp[maxLen];omega⟩,D,E];unfold mkd;cases G:q.fMark with
   |false=>rw[cond_false,if_neg (fun h=>by cases h.1)];rfl
   |true=>
    rw[cond_true];by_cases o:q.fKind=7
    .have z:(q.fKind != 7)=false:=by rw[o];rfl
     rw[z,cond_false];by_cases t:v.fN=1
     .rw[if_pos ⟨rfl,.inr t⟩];dsimp only;rw[t];rfl
     .rw[if_neg (fun h=>h.2.elim (fun h=>h o) t),Nat.add_zero];dsimp only;rw[beq_false_of_ne t];rfl
    .have z:(q.fKind != 7)=true:=by rw[bne_iff_ne];exact o
     rw[z,cond_true,if_pos ⟨rfl,.inl o⟩])
  h 402 0 0 [] (Rs.nil _) (fun v u=>by cases u) rfl (Nat.le_refl _) (by omega) (by omega)
 rw[Nat.zero_add]at hl;exact hl
section
variable {c:Zau} {s:Zas} {x:ZaB} (hx:x.ok) (hs:s.ok) (hR:RtS c s) (aQ:s.fBans.length<=20/\s.fBook.length<=20/\s.fPeers.length<=20)
include hx hs hR aQ
theorem ZHx(h:x.fKind=3\/x.fKind=4\/x.fKind=13):ZCy c s x (mP c s fL) (ZBp c x):=by
 unfold ZBp;cases b:ZiQ x with
 |false=>rw[if_neg (by decide)];exact ZHv hx hs hR aQ b
 |true=>
  rw[if_pos rfl];by_cases d:x.fKind=3
  .rw[if_pos d];exact ZIW hx hs hR aQ b d
  rw[if_neg d];by_cases g:x.fKind=4
  .rw[if_pos g];exact ZFf hx hs hR aQ b g
  rw[if_neg g,if_pos (by omega)];exact ZHw hx hs hR aQ b (by omega)
omit hx hs hR aQ in
theorem ZIt{r:Zaq}{ah out:Int}{bans:List Zaf}{book:List Zaa}{ps:PPs}{peers:Prs}(b:ZbE c s x=some (⟨bans,book,peers⟩,r))(d:StrP peers)(g:((ps.map (·.1)).flatten).Perm peers)(h:ps.length<=100)(j:∀y∈ps,(y.1++y.2).length<=1000)
  (o:ah=cntP peers true) (p:out=cntP peers false+Zcz book 2) (t:bans.length<=1000) (u:book.length<=1000) (q:peers.length<=1000) (jc:r.fPeers.length<=1000):ZGz c s x 1 r (memM ah out bans book (shP ps) (ZaT c.fShards) fun _=>ZhK)=some true:=by
 have h8':=ZgD c.fShards;unfold ZGz;rw[b,ZaK];show (bif((1:Int)==1)then _ else _)=_;rw[show ((1:Int)==1)=true from rfl,cond_true];dsimp only;rw[Zwv r (by omega),ZaK,cond_true,ZDX h j d g,ZaK,Zwu _ (by show bans.length<=_;omega) (by show book.length<=_;omega) (by show peers.length<=_;omega),ZaK,cond_true,ZqG _ (by show peers.length<=_;omega) (by show book.length<=_;omega),ZaK,ZHj (by omega) q o p,ZaK,cond_true,ZyV];rfl
end
theorem ZKW(x:ZaB):∃b,Zgu x=some b/\(b=true->x.fKind=3\/x.fKind=4\/x.fKind=13):=by
 unfold Zgu;rw[ZcM,ZcM];by_cases d:x.fKind=3
 .rw[if_pos d];exact⟨_,rfl,fun _=>.inl d⟩
 by_cases g:x.fKind=4
 .rw[if_neg d,if_pos g];exact⟨_,rfl,fun _=>.inr (.inl g)⟩
 .rw[if_neg d,if_neg g];exact⟨_,rfl,fun h=>.inr (.inr (by simpa using h))⟩
theorem Zwn(c:Zau)(s:Zas)(x:ZaB)(A:c.ok)(hs:s.ok)(hx:x.ok):ZfF c s x=some true:=by
 obtain⟨b1,d,h1'⟩:=ZJK s;unfold ZfF;rw[d,ZaK];cases b1 with
 |false=>rw[Bool.not_false,cond_true,ZyV];rfl
 |true=>
  obtain⟨n1,n2,n3⟩:=h1' rfl;obtain⟨b2,g,b⟩:=ZJP c s hs n1 n2 n3;rw[Bool.not_true,cond_false,g,ZaK];cases b2 with
  |false=>rw[Bool.not_false,cond_true,ZyV];rfl
  |true=>
   obtain⟨b3,h,iX⟩:=ZKW x;rw[Bool.not_true,cond_false,h,ZaK];cases b3 with
   |false=>rw[Bool.not_false,cond_true,ZyV];rfl
   |true=>
    rw[Bool.not_true,cond_false,ZId c s hs.2.2.1.2 (by omega) (by omega),ZaK];obtain⟨r,ah,out,bans,book,ps,peers,st,j,o,p,q,t,u,v,y,z,q10,q11,q12,q13⟩:=ZHx hx hs (b rfl) ⟨n1,n2,n3⟩ (iX rfl) (c:=c);have hsh:=ZCI (b rfl).conf;have hl:=ZLa (s:=s) hx (by omega) j o;refine Eq.trans hl ?_;exact ZIt p q t u v y z q10 q11 q12 q13
end Go.Proofs.YtdjfoojllbfcgaaGreat
