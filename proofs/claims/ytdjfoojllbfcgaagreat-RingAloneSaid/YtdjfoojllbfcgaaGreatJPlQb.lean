import Derived.Test.YtdjfoojllbfcgaaGreatJPlMe
import Derived.Test.YtdjfoojllbfcgaaGreatJPlT
namespace Go.Proofs.YtdjfoojllbfcgaaGreat
set_option linter.unusedVariables false
set_option linter.unusedSimpArgs false
def ZCy(c:Zau)(s:Zas)(x:ZaB)(m0:ZaC)(p:Pr Zaq):Prop:=∃(r:Zaq)(ah out:Int)(bans:List Zaf)(book:List Zaa)(ps:PPs)(peers:Prs)(st:Nat),Ex p m0 r (memM ah out bans book (shP ps) (ZaT c.fShards) fun _=>ZhK) st 1/\st<=390/\ZbE c s x=some (⟨bans,book,peers⟩,r)/\StrP peers/\((ps.map (·.1)).flatten).Perm peers/\ps.length<=100/\(∀y∈ps,(y.1++y.2).length<=1000)/\ah=cntP peers true/\out=cntP peers false+Zcz book 2/\bans.length<=1000/\book.length<=1000/\peers.length<=1000/\r.fPeers.length<=1000
theorem ZuF{f:Nat->Zat}{k:Nat}(h:f k=ZhK)(a:Zat):updL (updL f k a) k ZhK=f:=by rw[<-h];exact ZFp f k a
theorem Ztg{ah out:Int}{bans:List Zaf}{book:List Zaa}{sh:List Zad}{n:Nat}{f:Nat->Zat}(aS:1<=n)(aP:n<=8)(az:sh.length=n){k:Nat}(b:k<n+2)(d:f k=ZhK)(af:Bool) :
  Ex (keyP 3 (k:Int) af) (memM ah out bans book sh n (updL f k ZlY)) () (memM ah out bans book sh n f) 1 (bn af):=by
 have h:=ZHA (ah:=ah) (out:=out) (bans:=bans) (book:=book) (f:=updL f k ZlY) aS aP az b [] (ZFo f k ZlY) af;have e:updL (updL f k ZlY) k ⟨0,[]⟩=f:=ZuF d ZlY;rwa [e]at h
theorem ZLp(i:Nat):(2+(i:Int))=((2+i:Nat):Int):=by omega
theorem no35(k:Int):Zdh k=some (Zef k):=rfl
section
variable {c:Zau} {s:Zas} {x:ZaB} (hx:x.ok) (hs:s.ok) (hR:RtS c s) (aQ:s.fBans.length<=20/\s.fBook.length<=20/\s.fPeers.length<=20)
def iP(c:Zau)(x:ZaB):Nat:=(pt c x).toNat
def bP(c:Zau)(s:Zas)(x:ZaB):Prs:=ZjV s.fPeers c.fSecret c.fShards (iP c x)
def lP(c:Zau)(s:Zas):PPs:=ps0 s.fPeers c.fSecret c.fShards (ZaT c.fShards)
def mP(c:Zau)(s:Zas)(f:Nat->Zat):ZaC:=memM (cntP s.fPeers true) (cntP s.fPeers false+Zcz s.fBook 2) s.fBans s.fBook (shP (lP c s)) (ZaT c.fShards) f
def fL:Nat->Zat:=fun _=>ZhK
theorem ZLq(c:Zau)(s:Zas)(x:ZaB):(bP c s x).length<=s.fPeers.length:=List.length_filter_le _ _
theorem Zmr(c:Zau)(s:Zas):(shP (lP c s)).length=ZaT c.fShards:=by rw[ZoI];exact Ztl _ _ _ _
include hx in
theorem Zvu:iP c x<ZaT c.fShards/\pt c x=(iP c x:Int):=by
 have h:=ZCO hx.2.1.1 c.fSecret c.fShards;have e:pt c x=Zmo x.fEnd.fAddr c.fSecret c.fShards:=rfl;unfold iP;omega
include hx in
theorem ZJo:(shP (lP c s)).getD (iP c x) Zad.d=⟨((bP c s x).length:Int),bP c s x++[]⟩:=by
 have h:=(Zvu (c:=c) hx).1;rw[ZBn _ (by unfold lP;rw[Ztl];exact h)];unfold lP;rw[ZJW _ _ _ h];rfl
theorem ZHW{ae rest:Prs}(hl:(ae++rest).length<=1000)(aQ:s.fPeers.length<=20)(i:Nat):((lP c s).set i (ae,rest)).length<=100/\∀y∈(lP c s).set i (ae,rest),(y.1++y.2).length<=1000:=by
 have d:=ZgD c.fShards;refine⟨by simp[lP,ps0];omega,fun y b=>?_⟩;rcases List.mem_or_eq_of_mem_set b with b|rfl
 .unfold lP ps0 at b;obtain⟨k,_,rfl⟩:=List.mem_map.1 b;have:=List.length_filter_le (Zpx c.fSecret c.fShards k) s.fPeers;simp only[List.append_nil];unfold ZjV;omega
 .exact hl
theorem Zsi(aQ:s.fPeers.length<=20):(lP c s).length<=100/\∀y∈lP c s,(y.1++y.2).length<=1000:=by
 have d:=ZgD c.fShards;refine⟨by simp[lP,ps0];omega,fun y b=>?_⟩;unfold lP ps0 at b;obtain⟨k,_,rfl⟩:=List.mem_map.1 b;have:=List.length_filter_le (Zpx c.fSecret c.fShards k) s.fPeers;simp only[List.append_nil];unfold ZjV;omega
include hx hs aQ
omit aQ hx in
theorem ZtX(aQ:s.fBook.length<=20/\s.fPeers.length<=20):(0<=cntP s.fPeers true/\cntP s.fPeers true<=20)/\(0<=cntP s.fPeers false+Zcz s.fBook 2/\cntP s.fPeers false+Zcz s.fBook 2<=40):=by
 have _u:=hs;have b:=Zwa s.fPeers true;have d:=Zwa s.fPeers false;have g:=List.countP_le_length (p:=fun x:Zaa=>decide (x.fState=2)) (l:=s.fBook);have h:0<=Zcz s.fBook 2/\Zcz s.fBook 2<=20:=by unfold Zcz;omega
 omega
omit hs aQ in
theorem ZEP(b:ZiQ x=false):ZbE c s x=some (s,Zef 1):=by
 unfold ZbE;rw[ZoJ x hx,ZaK,b,Bool.not_false,cond_true];rfl
include hR
theorem ZHv(d:ZiQ x=false):ZCy c s x (mP c s fL) Zza:=by
 have b:=ZgD c.fShards;obtain⟨g,h⟩:=Zsi (c:=c) aQ.2.2;have hp:Ex Zza (mP c s fL) (Zef 1) (mP c s fL) 390 1:=(ZKF b.1 b.2 (Zmr c s) true).seq (.ret _ _ 0) (by omega) rfl;exact⟨Zef 1,_,_,s.fBans,s.fBook,lP c s,s.fPeers,390,hp,Nat.le_refl _,ZEP hx d,hR.peers,Zlj hs.2.2.1.2 _ _,g,h,rfl,rfl,by omega,by omega,by omega,Nat.zero_le _⟩
theorem ZKT:ZkJ (bP c s x) x.fEnd<0↔ZkJ s.fPeers x.fEnd<0:=by
 have _u:=hR;have _v:=hs;have _w:=aQ;obtain⟨hi,hp⟩:=Zvu (c:=c) hx;exact ZFU (l:=s.fPeers) hi (e:=x.fEnd) (sec:=c.fSecret) (nsh:=c.fShards) hp
end
section
variable {ah out:Int} {bans:List Zaf} {book:List Zaa} {sh:List Zad} {n:Nat} {f:Nat->Zat} (aS:1<=n) (aP:n<=8) (az:sh.length = n)
include aS aP az
theorem ZxN(hi : -1000000<=out/\out<=1000000)(b:Int)(d : -1000000<=b/\b<=1000000)(af:Bool):Ex (Zys 2 b af 1000000) (memM ah out bans book sh n f) () (memM ah (out+b) bans book sh n f) 2 (bn af):=by
 have h:=ZKG (ah:=ah) (out:=out) (bans:=bans) (book:=book) (f:=f) aS aP az 2 (.inr rfl) (by rw[if_neg (by decide)];exact Zvg (by omega) (by omega)) b af;rw[if_neg (by decide),if_neg (by decide),Zeo (by omega) (by omega)]at h;exact h
end
section
variable {c:Zau} {s:Zas} {x:ZaB} (hx:x.ok) (hs:s.ok) (hR:RtS c s) (aQ:s.fBans.length<=20/\s.fBook.length<=20/\s.fPeers.length<=20)
include hx hs aQ hR
end
theorem ZEa{n:Nat}(h:n<=1000000):n<=maxLen:=by simp only[maxLen];omega
theorem Zzb{a:Int}(h : -1000000000000000000<=a)(h':a<=1000000000000000000):IntKind.i64.wrap a=a:=by
 simp only[IntKind.wrap,IntKind.bits,IntKind.signed];simp;omega
abbrev Itm:=Zae
def cmpH(a b:Itm):Int:=orI (cmpI a.fKey b.fKey) (cmpE a.fEnd b.fEnd)
theorem ZED(a b:Itm):ZlA a b=some (cmpH a b):=by
 simp only[ZlA,ZyR,ZDs,or2,Option.bind_some,cmpH]
theorem Zxu(a b:Itm):ZlB a b=some (decide (cmpH a b<0)):=by
 simp only[ZlB,ZED,Option.bind_some]
theorem ZHc{a b:Itm}:cmpH a b<0↔a.fKey<b.fKey\/(a.fKey=b.fKey/\cmpE a.fEnd b.fEnd<0):=by simp only[cmpH,ZzL,Zwb,ZlM]
theorem Zwd{a b:Itm}:0<cmpH a b↔cmpH b a<0:=by
 simp only[cmpH,ZzL,ZCQ,Zwb,ZyS,ZlM,ZkM];constructor<;>rintro (h|⟨d,g⟩)<;>first|exact .inl h|exact .inr ⟨d.symm,g⟩
theorem Zwc{a b:Itm}:cmpH a b=0↔a=b:=by
 simp only[cmpH,Zuq,ZlM,ZmQ];obtain⟨x,p⟩:=a;obtain⟨y,q⟩:=b;simp
theorem ZxG{a b c:Itm}(d:cmpH a b<0)(g:cmpH b c<0):cmpH a c<0:=by
 rw[ZHc]at *
 rcases d with d|⟨d,h⟩<;>rcases g with g|⟨g,j⟩
 .exact .inl (by omega)
 .exact .inl (by omega)
 .exact .inl (by omega)
 .exact .inr ⟨by omega,Zrb h j⟩
def leH(a b:Itm):Prop:=¬cmpH b a<0
theorem ZqW(a:Itm):leH a a:=by unfold leH;rw[Zwc.2 rfl];omega
theorem Zvt{a b:Itm}(h:cmpH a b<0):leH a b:=by
 unfold leH;intro d;have:=Zwd.2 d;omega
theorem Zvs{a b c:Itm}(g:leH a b)(d:leH b c):leH a c:=by
 unfold leH at *
 intro h;have j:cmpH a b<=0:=by
  by_cases q:0<cmpH a b
  .exact absurd (Zwd.1 q) g
  .omega
 by_cases q:cmpH a b=0
 .have:=Zwc.1 q;subst this;exact d h
 .exact d (ZxG h (by omega))
theorem Zsu{a b:Itm}(h:¬cmpH a b<0):leH b a:=h
abbrev ixH(h:List Itm)(i:Nat):Itm:=h.getD i Zae.d
def HF(lo:Nat)(h:List Itm):Prop:=∀k,0<k->k<h.length->lo<=(k-1) / 2->leH (ixH h ((k-1) / 2)) (ixH h k)
structure HB (lo i:Nat) (h:List Itm):Prop where
 ge:lo<=i
 up:∀k,0<k->k<h.length->lo<=(k-1) / 2->(k-1) / 2≠i->leH (ixH h ((k-1) / 2)) (ixH h k)
 over:∀k,0<k->k<h.length->(k-1) / 2=i->0<i->lo<=(i-1) / 2->leH (ixH h ((i-1) / 2)) (ixH h k)
def ZyU(h:List Itm)(i b:Nat):Nat:=if 2*i+2<h.length/\cmpH (ixH h (2*i+2)) (ixH h b)<0 then 2*i+2 else b
def ZmR(h:List Itm)(i:Nat):Nat:=ZyU h i (if 2*i+1<h.length/\cmpH (ixH h (2*i+1)) (ixH h i)<0 then 2*i+1 else i)
theorem ZAV(h:List Itm)(i:Nat)(e:¬2*i+1<h.length):ZmR h i=i:=by
 unfold ZmR ZyU;rw[if_neg (fun x:2*i+1<h.length/\_=>e x.1),if_neg (fun x=>by have:=x.1;omega)]
theorem Zwj(h:List Itm)(i:Nat)(hi:i<h.length):(ZmR h i=i\/(ZmR h i=2*i+1\/ZmR h i=2*i+2)/\ZmR h i<h.length/\cmpH (ixH h (ZmR h i)) (ixH h i)<0)/\ZmR h i<h.length /\
  ∀k,k<h.length->0<k->(k-1) / 2=i->leH (ixH h (ZmR h i)) (ixH h k):=by
 have o:∀k,0<k->(k-1) / 2=i->k=2*i+1\/k=2*i+2:=by intro k b d;omega
 unfold ZmR ZyU;by_cases g:2*i+1<h.length/\cmpH (ixH h (2*i+1)) (ixH h i)<0
 .rw[if_pos g];by_cases c2:2*i+2<h.length/\cmpH (ixH h (2*i+2)) (ixH h (2*i+1))<0
  .rw[if_pos c2];refine⟨.inr ⟨.inr rfl,c2.1,ZxG c2.2 g.2⟩,c2.1,fun k b d j=>?_⟩;rcases o k d j with e|e
   .subst e;exact Zvt c2.2
   .subst e;exact ZqW _
  .rw[if_neg c2];refine⟨.inr ⟨.inl rfl,g.1,g.2⟩,g.1,fun k b d j=>?_⟩;rcases o k d j with e|e
   .subst e;exact ZqW _
   .subst e;exact Zsu fun q=>c2 ⟨b,q⟩
 .rw[if_neg g];by_cases c2:2*i+2<h.length/\cmpH (ixH h (2*i+2)) (ixH h i)<0
  .rw[if_pos c2];refine⟨.inr ⟨.inr rfl,c2.1,c2.2⟩,c2.1,fun k b d j=>?_⟩;rcases o k d j with e|e
   .subst e;exact Zvs (Zvt c2.2) (Zsu fun q=>g ⟨b,q⟩)
   .subst e;exact ZqW _
  .rw[if_neg c2];refine⟨.inl rfl,hi,fun k b d j=>?_⟩;rcases o k d j with e|e
   .subst e;exact Zsu fun q=>g ⟨b,q⟩
   .subst e;exact Zsu fun q=>c2 ⟨b,q⟩
def ZtY(h:List Itm)(i b:Nat):List Itm:=(h.set i (ixH h b)).set b (ixH h i)
theorem ZpX(h:List Itm)(i b:Nat):(ZtY h i b).length=h.length:=by simp[ZtY]
theorem Zsb(h:List Itm)(i b k:Nat)(hi:i<h.length)(j:b<h.length):ixH (ZtY h i b) k=if k=b then ixH h i else if k=i then ixH h b else ixH h k:=by
 simp only[ixH,ZtY,List.getD_eq_getElem?_getD,List.getElem?_set,List.length_set];by_cases d:k=b
 .subst d;simp[j]
 .rw[if_neg (Ne.symm d),if_neg d];by_cases g:k=i
  .subst g;simp[hi]
  .rw[if_neg (Ne.symm g),if_neg g]
theorem ZDU(h:List Itm)(i b:Nat)(hi:i<h.length)(d:b<h.length):(ZtY h i b).Perm h:=by
 rw[List.perm_iff_count];intro a;unfold ZtY;have g:ixH h i=h[i]:=Zdw h _ i hi;have j:ixH h b=h[b]:=Zdw h _ b d;rw[g,j];by_cases hib:i=b
 .subst hib;simp
 .rw[List.count_set (by simpa using d),List.count_set hi,List.getElem_set_ne hib];have m1:(if(h[i]==a)=true then 1 else 0)<=h.count a:=by
   split
   .rename_i q;have:h[i]=a:=by simpa using q
    exact List.one_le_count_iff.2 (this ▸ List.getElem_mem hi)
   .omega
  have m2:(if(h[b]==a)=true then 1 else 0)<=h.count a:=by
   split
   .rename_i q;have:h[b]=a:=by simpa using q
    exact List.one_le_count_iff.2 (this ▸ List.getElem_mem d)
   .omega
  by_cases o:(h[i]==a)=true<;>by_cases p:(h[b]==a)=true<;>simp only[o,p]at m1 m2 ⊢<;>omega
theorem HB.step{lo i:Nat}{h:List Itm}(H:HB lo i h)(hi:i<h.length)(hne:ZmR h i≠i):HB lo (ZmR h i) (ZtY h i (ZmR h i)):=by
 obtain⟨c,j,u⟩:=Zwj h i hi;generalize hbe:ZmR h i=b at *
 rcases c with c|⟨c,_,hlt⟩
 .exact absurd c hne
 have j8:(b-1) / 2=i:=by omega
 have hib:i<b:=by omega
 refine⟨by have:=H.ge;omega,fun k o d p t=>?_,fun k o d p t v=>?_⟩
 .rw[ZpX]at d;rw[Zsb h i b _ hi j,Zsb h i b _ hi j,if_neg t];by_cases q:(k-1) / 2=i
  .rw[if_pos q];by_cases g:k=b
   .rw[if_pos g];exact Zvt hlt
   .rw[if_neg g,if_neg (by omega)];exact u k d o q
  .rw[if_neg q,if_neg (by omega:k≠b)];by_cases g:k=i
   .rw[if_pos g];subst g;exact H.over b (by omega) j j8 o p
   .rw[if_neg g];exact H.up k o d p q
 .rw[ZpX]at d;rw[Zsb h i b _ hi j,Zsb h i b _ hi j,if_neg (by omega),if_pos j8,if_neg (by omega),if_neg (by omega)];have:=H.up k o d (by have:=H.ge;omega) (by omega);rw[p]at this;exact this
theorem HB.done{lo i:Nat}{h:List Itm}(H:HB lo i h)(hi:i<h.length)(he:ZmR h i=i):HF lo h:=by
 obtain⟨c,o,b⟩:=Zwj h i hi;intro k d g j;by_cases e:(k-1) / 2=i
 .rw[e];rw[he]at b;exact b k g d e
 .exact H.up k d g j e
theorem mul2{i:Nat}(h:i<=1000000):Ztp (2:Int) (i:Int)=((2*i:Nat):Int):=by
 simp only[Ztp];rw[show (2:Int)*(i:Int)=((2*i:Nat):Int)by omega];exact Zzb (by omega) (by omega)
theorem add2{i k:Nat}(h:i<=3000000)(b:k<=2):ZaA (i:Int) (k:Int)=((i+k:Nat):Int):=by rw[Zeo (by omega) (by omega)];omega
theorem ZKs(i:Nat)(h:List Itm)(hi:i<h.length)(hl:h.length<=1000000)(kk:Int->List Itm->Option (List Itm))(fu:Nat)(o:3<=fu) :
  Zdf (i:Int) kk fu (i:Int) ((2*i+1:Nat):Int) h=if ZmR h i=i then some h else kk ((ZmR h i:Nat):Int) (ZtY h i (ZmR h i)):=by
 obtain⟨fu,rfl⟩ : ∃n,fu=n+3:=⟨fu-3,by omega⟩;have fW:ZaA (Ztp (2:Int) (i:Int)) (2:Int)=((2*i+2:Nat):Int):=by rw[mul2 (by omega)];exact add2 (k:=2) (by omega) (by omega)
 have ends:∀b:Nat,b<h.length->(bif((b:Int)==(i:Int))then some h else need (0<=(b:Int)/\(b:Int)<((h.length:Nat):Int))<|need (0<=(i:Int)/\(i:Int)<((h.length:Nat):Int))<|kk (b:Int) ((h.set (i:Int).toNat (h.getD (b:Int).toNat Zae.d)).set (b:Int).toNat (h.getD (i:Int).toNat Zae.d))) =
   if b=i then some h else kk ((b:Nat):Int) (ZtY h i b):=by
  intro b g;by_cases e:b=i
  .subst e;simp
  .rw[show ((b:Int)==(i:Int))=false by rw[beq_eq_false_iff_ne];omega,cond_false,Zax ⟨by omega,by omega⟩,Zax ⟨by omega,by omega⟩,if_neg e];rfl
 -- the bZ one below,or none
 have bZ:∀(b fu:Nat),b<h.length->Zdf (i:Int) kk (fu+2) (b:Int) ((2*i+2:Nat):Int) h=if ZyU h i b=i then some h else kk ((ZyU h i b:Nat):Int) (ZtY h i (ZyU h i b)):=by
  intro b fu g;have gQ:∀c:Nat,c<h.length->Zdf (i:Int) kk (fu+1) (c:Int) ((2*i+3:Nat):Int) h=if c=i then some h else kk ((c:Nat):Int) (ZtY h i c):=by
   intro c j;simp only[Zdf,Zam,fW];rw[if_neg (by omega)];exact ends c j
  unfold Zdf;simp only[Zam,fW];rw[if_pos (by omega)];by_cases e:2*i+2<h.length
  .rw[if_pos (by omega),Zax ⟨by omega,by omega⟩,Zax ⟨by omega,by omega⟩,Zxu];simp only[Option.bind_some,Int.toNat_natCast,Zam];rw[show ZaA ((2*i+2:Nat):Int) (1:Int)=((2*i+3:Nat):Int)from add2 (i:=2*i+2) (k:=1) (by omega) (by omega)];by_cases q:cmpH (ixH h (2*i+2)) (ixH h b)<0
   .rw[if_pos q,show ZyU h i b=2*i+2 from if_pos ⟨e,q⟩];exact gQ _ e
   .rw[if_neg q,show ZyU h i b=b from if_neg (fun x=>q x.2)];exact gQ _ g
  .rw[if_neg (by omega),show ZyU h i b=b from if_neg (fun x=>e x.1)];exact ends b g
 unfold Zdf;simp only[Zam,fW];rw[if_pos (by omega)];by_cases e:2*i+1<h.length
 .rw[if_pos (by omega),Zax ⟨by omega,by omega⟩,Zax ⟨by omega,by omega⟩,Zxu];simp only[Option.bind_some,Int.toNat_natCast,Zam];rw[show ZaA ((2*i+1:Nat):Int) (1:Int)=((2*i+2:Nat):Int)from add2 (i:=2*i+1) (k:=1) (by omega) (by omega)];by_cases q:cmpH (ixH h (2*i+1)) (ixH h i)<0
  .rw[if_pos q,bZ _ fu e];unfold ZmR;rw[if_pos (show 2*i+1<h.length/\cmpH (ixH h (2*i+1)) (ixH h i)<0 from⟨e,q⟩)]
  .rw[if_neg q,bZ _ fu hi];unfold ZmR;rw[if_neg (show ¬(2*i+1<h.length/\cmpH (ixH h (2*i+1)) (ixH h i)<0)from fun x=>q x.2)]
 .rw[if_neg (by omega),ends i hi,ZAV h i e]
theorem ZGP:∀fu (lo i:Nat) (h:List Itm),i<h.length->h.length<=1000000->HB lo i h->h.length-i<fu->∃h',Zeq fu (i:Int) h=some h'/\h'.Perm h/\HF lo h':=by
 intro fu;induction fu with
 |zero=>intro _ _ _ _ _ _ h;omega
 |succ fu ih=>
  intro lo i h hi hl H t;simp only[Zeq];have d:ZaA (Ztp (2:Int) (i:Int)) (1:Int)=((2*i+1:Nat):Int):=by rw[mul2 (by omega)];exact add2 (k:=1) (by omega) (by omega)
  obtain⟨c,b,_⟩:=Zwj h i hi;rw[d];by_cases g:2*i+1<h.length
  .rw[ZKs i h hi hl _ _ (by omega)];by_cases e:ZmR h i=i
   .rw[if_pos e];exact⟨h,rfl,List.Perm.refl _,H.done hi e⟩
   .rw[if_neg e];obtain⟨h',j,o,p⟩:=ih lo (ZmR h i) (ZtY h i (ZmR h i)) (by rw[ZpX];exact b) (by rw[ZpX];exact hl) (H.step hi e) (by rw[ZpX];omega);exact⟨h',j,o.trans (ZDU h i _ hi b),p⟩
  .-- no kids: the fuel is small
   have e:=ZAV h i g;refine⟨h,?_,List.Perm.refl _,H.done hi e⟩;have fW:ZaA (Ztp (2:Int) (i:Int)) (2:Int)=((2*i+2:Nat):Int):=by rw[mul2 (by omega)];exact add2 (k:=2) (by omega) (by omega)
   obtain⟨n,q⟩ : ∃n,((((h.length:Nat):Int)-((2*i+1:Nat):Int)).toNat+2)=n+1:=⟨_,rfl⟩;rw[q];simp only[Zdf,Zam,fW];rw[if_pos (by omega),if_neg (by omega)];simp
theorem ZAi(lo i:Nat)(h:List Itm)(hi:i<h.length)(hl:h.length<=900000)(H:HB lo i h):∃h',ZjF h (i:Int)=some h'/\h'.Perm h/\HF lo h':=
 ZGP 1000000 lo i h hi (by omega) H (by omega)
theorem ZIx:ZjF [] 0=some []:=by
 have:∀fu,Zeq (fu+1) 0 []=some []:=fun fu=>by
  rw[Zeq];rw[show ((((([]:List Itm).length:Nat):Int)-(ZaA (Ztp (2:Int) (0:Int)) (1:Int))).toNat+2)=1+1 from rfl];rfl
 exact this 999999
theorem ZAL(l:List Itm)(h:l.length<=1000000):Zbl l=some l:=by
 unfold Zbl;rw[Zax ⟨by omega,ZEa h⟩]
theorem ZGe:∀fu (i:Nat) (h:List Itm),i<=h.length / 2->h.length<=900000->HF i h->i<fu->∃h',Zhe fu ((i:Int)-1) h=some h'/\h'.Perm h/\HF 0 h':=by
 intro fu;induction fu with
 |zero=>intro _ _ _ _ _ h;omega
 |succ fu ih=>
  intro i h hi hl H p;simp only[Zhe,Zam];by_cases e:i=0
  .subst e;rw[if_neg (by omega)];exact⟨h,rfl,List.Perm.refl _,H⟩
  .rw[if_pos (by omega)];obtain⟨j,rfl⟩ : ∃j,i=j+1:=⟨i-1,by omega⟩;rw[show ((j+1:Nat):Int)-1=(j:Int)by omega];have HBj:HB j j h:=⟨Nat.le_refl _,fun k b d g o=>H k b d (by omega),fun k b d g o q=>by omega⟩;obtain⟨h',d1,d2,d3⟩:=ZAi j j h (by omega) hl HBj;rw[d1];simp only[Option.bind_some];rw[show ZbT (j:Int) (1:Int)=(j:Int)-1 from Zil (by omega) (by omega)];obtain⟨h'',m1,m2,m3⟩:=ih j h' (by rw[d2.length_eq];omega) (by rw[d2.length_eq];exact hl) d3 (by omega);exact⟨h'',m1,m2.trans d2,m3⟩
theorem tdiv2(n:Nat)(h:n<=1000000):IntKind.wrap .i64 (Int.tdiv (n:Int) (2:Int))=((n / 2:Nat):Int):=by
 rw[show Int.tdiv (n:Int) (2:Int)=((n / 2:Nat):Int)by rw[Int.tdiv_eq_ediv_of_nonneg (by omega)];omega];exact Zzb (by omega) (by omega)
theorem ZAh(l:List Itm)(hl:l.length<=900000):∃h,Ziu l=some h/\h.Perm l/\HF 0 h:=by
 simp only[Ziu,ZAL l (by omega),Option.bind_some];rw[tdiv2 _ (by omega),show ZbT ((l.length / 2:Nat):Int) (1:Int)=((l.length / 2:Nat):Int)-1 from Zil (by omega) (by omega)];exact ZGe _ (l.length / 2) l (Nat.le_refl _) hl (fun k b d g=>by omega) (by omega)
theorem ZIm{h:List Itm}(H:HF 0 h):∀n k,k<=n->k<h.length->leH (ixH h 0) (ixH h k):=by
 intro n;induction n with
 |zero=>intro k d b;rw[show k=0 by omega];exact ZqW _
 |succ n ih=>
  intro k d b;by_cases e:k=0
  .rw[e];exact ZqW _
  .exact Zvs (ih ((k-1) / 2) (by omega) (by omega)) (H k (by omega) b (Nat.zero_le _))
theorem ZtT:Zlg []=some (⟨0,⟨⟨false,0,0⟩,0⟩⟩,[],false):=rfl
theorem ZDg(h:List Itm)(hl:h.length<=900000)(H:HF 0 h)(hne:h≠[]):∃x r,Zlg h=some (x,r,true)/\h.Perm (x :: r)/\HF 0 r/\∀y∈h,leH x y:=by
 have iO:0<h.length:=List.length_pos_iff.2 hne;have es:ZbT ((h.length:Nat):Int) (1:Int)=((h.length-1:Nat):Int):=by rw[Zil (by omega) (by omega)];omega
 -- the rest ahead of sinking
 have hx:∀(l:List Itm),(eN:0<l.length)->l.Perm (ixH l 0 :: (l.set 0 (ixH l (l.length-1))).take (l.length-1)):=by
  intro l eN;cases l with
  |nil=>simp at eN
  |cons a t=>
   simp only[ixH,List.getD_cons_zero,List.length_cons,Nat.add_sub_cancel,List.set_cons_zero];rcases t.eq_nil_or_concat with e|⟨t',z,e⟩
   .subst e;simp
   .subst e;simp only[List.concat_eq_append,List.length_append,List.length_singleton];rw[show ((a :: (t'++[z])).getD (t'.length+1) Zae.d)=z by simp[List.getD_eq_getElem?_getD]];rw[show List.take (t'.length+1) (z :: (t'++[z]))=z :: t' by simp];refine List.Perm.cons a ?_;exact List.perm_append_comm
 have hin:∀y∈h,leH (ixH h 0) y:=by
  intro y u;obtain⟨k,o,g⟩:=List.getElem_of_mem u;have:=ZIm H k k (Nat.le_refl _) o;rw[show ixH h k=y by rw[<-g];exact Zdw h _ k o]at this;exact this
 let b:=(h.set 0 (ixH h (h.length-1))).take (h.length-1)
 have jg:b.length=h.length-1:=by simp[b]
 have v:∃r,ZjF b (0:Int)=some r/\r.Perm b/\HF 0 r:=by
  by_cases e:h.length=1
  .have:b=[]:=List.eq_nil_of_length_eq_zero (by omega);rw[this];exact⟨[],ZIx,List.Perm.refl _,fun k _ g=>by simp at g⟩
  .refine ZAi 0 0 b (by omega) (by omega) ⟨Nat.le_refl _,fun k o g p A=>?_,fun k o g p A=>by omega⟩;have q:∀j,0<j->j<b.length->ixH b j=ixH h j:=by
    intro j j1 j2;rw[jg]at j2;simp only[ixH,b,List.getD_eq_getElem?_getD,List.getElem?_take,if_pos j2,List.getElem?_set,if_neg (show ¬0=j by omega)]
   rw[q k o g,q _ (by omega) (by omega)];exact H k o (by rw[jg]at g;omega) p
 obtain⟨r,d1,d2,d3⟩:=v;refine⟨ixH h 0,r,?_,(hx h iO).trans (List.Perm.cons _ d2.symm),d3,hin⟩;simp only[Zlg];rw[show (((h.length:Nat):Int)==(0:Int))=false by rw[beq_eq_false_iff_ne];omega,cond_false,ZAL h (by omega)];simp only[Option.bind_some,es,Int.toNat_natCast];rw[Zax ⟨by omega,by omega⟩,Zax ⟨by omega,by omega⟩,Zax ⟨by omega,by omega,by omega⟩,Zax (by simp)];rw[show (h.set ((0:Int).toNat) (h.getD (h.length-1) Zae.d)).take (h.length-1)=b from rfl,d1];simp only[Option.bind_some];rw[Zax ⟨by omega,by omega⟩];rfl
def grp(a:Zai):Zag:=if Zda a then(if a.fV6 then⟨⟨true,a.fHi-a.fHi % 4294967296,0⟩,32⟩else⟨⟨false,0,a.fLo-a.fLo % 65536⟩,16⟩)else⟨⟨false,0,0⟩,0⟩
theorem top16:Zfi 16=some 18446462598732840960:=by decide +kernel
theorem top32:Zfi 32=some 18446744069414584320:=by decide +kernel
theorem topm:Zfi (ZbT 32 64)=some 0:=by decide +kernel
theorem ZDD(n k:Nat)(g:k<=64)(h:n<2 ^ 64):n &&& (2 ^ 64-2 ^ k)=n-n % 2 ^ k:=by
 have b:n-n % 2 ^ k=2 ^ k*(n / 2 ^ k):=by have:=Nat.div_add_mod n (2 ^ k);omega
 rw[b];apply Nat.eq_of_testBit_eq;intro i;have d:2 ^ 64-2 ^ k=2 ^ k*(2 ^ (64-k)-1):=by
  rw[Nat.mul_sub,<-Nat.pow_add,Nat.mul_one];congr 2;omega
 rw[Nat.testBit_and,d,Nat.testBit_two_pow_mul,Nat.testBit_two_pow_mul,Nat.testBit_two_pow_sub_one,Nat.testBit_div_two_pow];by_cases hi:k<=i
 .by_cases j:i<64
  .simp[hi,show i-k<64-k by omega,show i-k+k=i by omega]
  .have:n.testBit i=false:=Nat.testBit_lt_two_pow (Nat.lt_of_lt_of_le h (Nat.pow_le_pow_right (by omega) (by omega)));simp[hi,this,show i-k+k=i by omega]
 .simp[hi]
theorem ZLr(n:Nat)(h:n<4294967296):n &&& 4294901760=n-n % 65536:=by
 have b:=ZDD n 16 (by omega) (by omega);have d:n &&& 4294901760=n &&& (2 ^ 64-2 ^ 16):=by
  apply Nat.eq_of_testBit_eq;intro i;rw[Nat.testBit_and,Nat.testBit_and];by_cases hi:i<32
  .congr 1;have:∀i:Fin 32,Nat.testBit 4294901760 i.val=Nat.testBit (2 ^ 64-2 ^ 16) i.val:=by decide
   exact this ⟨i,hi⟩
  .have:n.testBit i=false:=Nat.testBit_lt_two_pow (Nat.lt_of_lt_of_le h (Nat.pow_le_pow_right (n:=2) (by omega) (show 32<=i by omega)));rw[this];rfl
 rw[d,b]
theorem ZyX(a b:Nat)(ha:a<2 ^ 64)(d:b<2 ^ 64):IntKind.u64.wrap (((BitVec.ofInt (IntKind.bits .u64) (a:Int)) &&& (BitVec.ofInt (IntKind.bits .u64) (b:Int))).toNat:Int)=((a &&& b:Nat):Int):=by
 rw[ZCr a b ha d];have:a &&& b<2 ^ 64:=Nat.and_lt_two_pow _ d;exact ZhJ (by omega) (by omega)
theorem ZyA(a:Zai)(h:a.ok):ZiM a=some (grp a):=by
 have q:=ZjU a h;obtain⟨v,hi,lo⟩:=a;obtain⟨_,d,g,_⟩:=h;have d:=Zka d;have g:=Zka g;simp only at d g;obtain⟨n,t⟩:=Zje d.1;obtain⟨m,u⟩:=Zje g.1;subst t u;cases j:Zda ⟨v,n,m⟩with
 |false=>
  cases v<;>simp[ZiM,ZjR,ZfH,q,j,grp]
 |true=>
  cases v with
  |false=>
   have y:(n:Int)=0/\(m:Int)<4294967296:=by simpa[Zda]using j
   have o:(m &&& 4294901760:Nat)=m-m % 65536:=ZLr m (by omega);have b:=ZyX m 4294901760 (by omega) (by omega);rw[o]at b;have p:Int.fdiv (18446462598732840960:Int) (2 ^ (min (32:Int).toNat (IntKind.bits .u64)))=((4294901760:Nat):Int):=by decide +kernel
   simp only[ZiM,ZjR,ZfH,q,j,Option.bind_some,cond_false,Bool.not_true,ZdR,ZhV,Bool.not_false,cond_true,grp,if_true,Bool.false_eq_true,if_false];simp only[show (decide ((16:Int)<0))=false from rfl,show decide ((16:Int)>32)=false from rfl,cond_false,Option.bind_some];rw[show (if(32:Int)<(if(0:Int)>16 then(0:Int)else 16)then(32:Int)else(if(0:Int)>16 then(0:Int)else 16))=16 from rfl,top16];simp only[Option.bind_some,p,b,y.1];congr 4;omega
  |true=>
   have b:=ZyX n 18446744069414584320 (by omega) (by omega);have o:=ZDD n 32 (by omega) (by omega);rw[show (2:Nat) ^ 64-2 ^ 32=18446744069414584320 from rfl,show (2:Nat) ^ 32=4294967296 from rfl]at o;rw[o]at b;have p:=ZyX m 0 (by omega) (by omega);rw[Nat.and_zero]at p;simp only[ZiM,ZjR,ZfH,q,j,Option.bind_some,cond_false,Bool.not_true,ZdR,ZhV,Bool.not_false,cond_true,grp,if_true,Bool.false_eq_true,if_false];simp only[show (decide ((32:Int)<0))=false from rfl,show decide ((32:Int)>128)=false from rfl,cond_false,Option.bind_some];rw[show (if(128:Int)<(if(0:Int)>32 then(0:Int)else 32)then(128:Int)else(if(0:Int)>32 then(0:Int)else 32))=32 from rfl];simp only[ZkE,top32,topm,Option.bind_some];simp only[show ((18446744069414584320:Int))=((18446744069414584320:Nat):Int)from rfl,show (0:Int)=((0:Nat):Int)from rfl,b,p];congr 4;omega
def Srt(l:List Zag):Prop:=l.Pairwise fun a b=>cmpN a b<0
theorem Srt.nodup{l:List Zag}(h:Srt l):l.Nodup:=List.Pairwise.imp (fun{a b} hab e=>by subst e;have:=(Zjr (a:=a) (b:=a)).2 rfl;omega) h
def ddN(l:List Zag):Nat->List Zag|0=>[]|m+1=>if 0<m/\l.getD m Zag.d=l.getD (m-1) Zag.d then ddN l m else ddN l m++[l.getD m Zag.d]
theorem ZuA(l:List Zag):∀m,m<=l.length->(∀i,0<i->i<m->l.getD i Zag.d≠l.getD (i-1) Zag.d)->ddN l m=l.take m
 | 0,_,_=>by simp[ddN]
 |m+1,h,b=>by
  rw[ddN,if_neg (fun g=>b m g.1 (by omega) g.2),ZuA l m (by omega) (fun i j o=>b i j (by omega)),List.take_succ_eq_append_getElem (by omega),Zdw l _ m (by omega)]
theorem ZGX(l:List Zag):∀m,m<=l.length->∀x,x∈ddN l m↔x∈l.take m
 | 0,_,x=>by simp[ddN]
 |m+1,h,x=>by
  have ih:=ZGX l m (by omega)
  rw[List.take_succ_eq_append_getElem (by omega),List.mem_append,ddN]
  have e:=Zdw l Zag.d m (by omega)
  split
  .rename_i b
   rw[ih x]
   constructor
   .exact .inl
   .rintro (h1|h1)
    .exact h1
    .rw[List.mem_singleton]at h1
     rw[h1,<-e,b.2,Zdw l Zag.d (m-1) (by omega)]
     exact List.mem_take_iff_getElem.2 ⟨m-1,by omega,rfl⟩
  .rw[List.mem_append,ih x,e]
theorem ZGW(l:List Zag)(hs:l.Pairwise fun a b=>cmpN a b<=0):∀m,m<=l.length->Srt (ddN l m)/\∀x∈ddN l m,cmpN x (l.getD (m-1) Zag.d)<=0
 | 0,_=>by simp[ddN,Srt]
 |m+1,h=>by
  obtain⟨j,o⟩:=ZGW l hs m (by omega)
  rw[ddN]
  by_cases q:m=0
  .subst q
   rw[if_neg (by simp)]
   simp only[ddN,List.nil_append]
   exact⟨List.pairwise_singleton _ _,fun x hx=>by rw[List.mem_singleton]at hx;rw[hx];have:=(Zjr (a:=l.getD 0 Zag.d) (b:=l.getD 0 Zag.d)).2 rfl;simp at this ⊢;omega⟩
  .split
   .rename_i g
    refine⟨j,fun x hx=>?_⟩
    rw[Nat.add_sub_cancel,g.2]
    exact o x hx
   .rename_i g
    have hne:l.getD m Zag.d≠l.getD (m-1) Zag.d:=fun e=>g ⟨by omega,e⟩
    have hle:cmpN (l.getD (m-1) Zag.d) (l.getD m Zag.d)<=0:=by
     rw[Zdw l _ m (by omega),Zdw l _ (m-1) (by omega)];exact List.pairwise_iff_getElem.1 hs (m-1) m (by omega) (by omega) (by omega)
    have hlt:cmpN (l.getD (m-1) Zag.d) (l.getD m Zag.d)<0:=by
     have:cmpN (l.getD (m-1) Zag.d) (l.getD m Zag.d)≠0:=fun e=>hne (Zjr.1 e).symm;omega
    have cg:∀x∈ddN l m,cmpN x (l.getD m Zag.d)<0:=fun x hx=>by
     have u:=o x hx;by_cases t:cmpN x (l.getD (m-1) Zag.d)=0
     .rw[Zjr.1 t];exact hlt
     .exact ZoD (by omega) hlt
    refine⟨List.pairwise_append.2 ⟨j,List.pairwise_singleton _ _,fun x hx y p=>by rw[List.mem_singleton]at p;rw[p];exact cg x hx⟩,fun x hx=>?_⟩;rw[Nat.add_sub_cancel];rcases List.mem_append.1 hx with hx|hx
    .have:=cg x hx;omega
    .rw[List.mem_singleton]at hx;rw[hx];have:=(Zjr (a:=l.getD m Zag.d) (b:=l.getD m Zag.d)).2 rfl;omega
theorem sub1{i:Nat}(h:0<i)(b:i<=maxLen):ZbT (i:Int) 1=((i-1:Nat):Int):=by
 unfold maxLen at b;rw[Zil (by omega) (by omega)];omega
theorem ZES(l:List Zag)(hl:l.length<=maxLen)(b:Nat)(hk0:0<b)(hk0l:b<l.length)(k:Int->List Zag->Option (List Zag)):∀fu (j kk:Nat) (w:List Zag),0<j->b+j<=l.length->l.length-(b+j)<fu ->
  w.length=l.length->(∀i,b+j-1<=i->w.getD i Zag.d=l.getD i Zag.d)->kk<b+j->w.take kk=ddN l (b+j)->kk<=w.length ->
  Zbi k fu (kk:Int) b (l.length-b) l.length (j:Int) w=some (ddN l l.length):=by
 intro fu;induction fu with
 |zero=>intro _ _ _ _ _ h;omega
 |succ fu ih=>
  intro j kk w p kM t o g lU ep hkl;simp only[Zbi,Zam];by_cases h:b+j<l.length
  .rw[if_pos (by omega),Zax ⟨by omega,by omega⟩,Zax (by simp;omega),sub1 p (by omega),Zax ⟨by omega,by omega⟩,Zax (by simp;omega)];simp only[Int.toNat_natCast];simp only[show b+(j-1)=b+j-1 by omega,g (b+j) (by omega),g (b+j-1) (by omega)];have ha:ZaA (j:Int) 1=((j+1:Nat):Int):=add1 (n:=l.length) (by omega) hl;have kN:ddN l (b+(j+1))=if 0<b+j/\l.getD (b+j) Zag.d=l.getD (b+j-1) Zag.d then ddN l (b+j)else ddN l (b+j)++[l.getD (b+j) Zag.d]:=rfl;by_cases he:l.getD (b+j) Zag.d=l.getD (b+j-1) Zag.d
   .rw[if_pos ⟨by omega,he⟩]at kN;rw[decide_eq_true he];simp only[Bool.not_true,cond_false];rw[ha];exact ih (j+1) kk w (by omega) (by omega) (by omega) o (fun i hi=>g i (by omega)) (by omega) (by rw[kN];exact ep) hkl
   .rw[if_neg (fun q=>he q.2)]at kN;rw[decide_eq_false he];simp only[Bool.not_false,cond_true];rw[Zax ⟨by omega,by omega⟩,ha,show ZaA (kk:Int) 1=((kk+1:Nat):Int)from add1 (n:=l.length) (by omega) hl];have hkw:kk<w.length:=by omega
    refine ih (j+1) (kk+1) _ (by omega) (by omega) (by omega) (by simp[o]) (fun i hi=>?_) (by omega) ?_ (by simp;omega)
    .rw[<-g i (by omega)];simp only[List.getD_eq_getElem?_getD,Int.toNat_natCast];rw[List.getElem?_set_ne (by omega)]
    .rw[kN,<-ep]
     (try simp only[Int.toNat_natCast])
     rw[List.take_succ_eq_append_getElem (by simp;omega),List.take_set_of_le (by omega)];simp
  .have e:b+j=l.length:=by omega
   rw[if_neg (by omega),Zax ⟨by omega,by omega,by omega⟩,Zax (by simp;omega),Zax ⟨by omega,by omega,by omega⟩];simp only[Int.toNat_natCast];rw[Zax (by rw[ZAM _ _ _ _ (by omega)];exact hkl)];rw[<-e,<-ep];congr 1;simp only[ZkO,List.append_assoc];rw[List.take_append_of_le_length (by simp;omega),List.take_take,Nat.min_self]
theorem ZCn(l:List Zag)(hl:l.length<999999):∀fu (i:Nat),0<i->i<=l.length->l.length-i<fu->(∀q,0<q->q<i->l.getD q Zag.d≠l.getD (q-1) Zag.d) ->
  ZaZ fu (i:Int) l=some (ddN l l.length):=by
 have j:l.length<=maxLen:=by unfold maxLen;omega
 intro fu;induction fu with
 |zero=>intro _ _ _ h;omega
 |succ fu ih=>
  intro i hi cm t b;simp only[ZaZ,Zam];by_cases h:i<l.length
  .rw[if_pos (by omega),Zax ⟨by omega,by omega⟩,sub1 hi (by omega),Zax ⟨by omega,by omega⟩];simp only[Int.toNat_natCast];by_cases he:l.getD i Zag.d=l.getD (i-1) Zag.d
   .rw[if_pos he,Zax ⟨by omega,by omega,by omega⟩];refine ZES l j i hi h _ 1000000 1 i l (by omega) (by omega) (by omega) rfl (fun _ _=>rfl) (by omega) ?_ (by omega);rw[ddN,if_pos ⟨hi,he⟩,ZuA l i (by omega) b]
   .rw[if_neg he,add1 h j];refine ih (i+1) (by omega) (by omega) (by omega) fun q g o=>?_;by_cases p:q=i
    .subst p;exact he
    .exact b q g (by omega)
  .have e:i=l.length:=by omega
   rw[if_neg (by omega)];congr 1;rw[ZuA l l.length (Nat.le_refl _) (fun q g o=>b q g (by omega)),List.take_length]
theorem ZET(l:List Zag)(hl:l.length<999999):Zbs l=some (ddN l l.length):=by
 simp only[Zbs,Zam];split
 .rename_i h;congr 1;rw[ZuA l l.length (Nat.le_refl _) (fun i b d=>by omega),List.take_length]
 .rename_i h;exact ZCn l hl _ 1 (by omega) (by omega) (by omega) (fun q b d=>by omega)
theorem ZHH(l:List Zag)(h:l.length<999999):∃L,(Zhd l).bind Zbs=some L/\Srt L/\∀x,x∈L↔x∈l:=by
 unfold Zhd;rw[Zax (by omega)];simp only[Option.bind_some];have hp:=List.mergeSort_perm l (fun x y=>!(Go.Proofs.ltOf cmpN) y x);have hs:=List.pairwise_mergeSort (le:=fun x y=>!(Go.Proofs.ltOf cmpN) y x) (fun a b c d g=>by
   have:=ZDy.ntrans c b a (by simpa using g) (by simpa using d);simpa using this) (fun a b=>by
   rw[ltN,ltN,Bool.or_eq_true,Bool.not_eq_true',Bool.not_eq_true',decide_eq_false_iff_not,decide_eq_false_iff_not];by_cases d:cmpN b a<0
   .refine .inr fun g=>?_;have:=ZoD d g;have:=(Zjr (a:=b) (b:=b)).2 rfl;omega
   .exact .inl d) l
 generalize l.mergeSort (fun x y=>!(Go.Proofs.ltOf cmpN) y x)=m at hp hs;rw[ZET m (by rw[hp.length_eq];exact h)];refine⟨_,rfl,(ZGW m (hs.imp fun{a b} hab=>?_) m.length (Nat.le_refl _)).1,fun x=>?_⟩
 .rw[ltN,Bool.not_eq_true',decide_eq_false_iff_not]at hab;have:¬0<cmpN a b:=fun h=>hab (ZqK.1 h);omega
 .rw[ZGX m m.length (Nat.le_refl _),List.take_length];exact hp.mem_iff
def outP(p:Zab):Bool:=!p.fIn
def outE(e:Zaa):Bool:=e.fState==2
def gsP(l:List Zab):List Zag:=(l.filter outP).map fun p=>grp p.fEnd.fAddr
def gsE(l:List Zaa):List Zag:=(l.filter outE).map fun e=>grp e.fEnd.fAddr
theorem ZFx(n:Nat)(h:n<999999):n * 32<=140737488355328/\n<=maxLen:=⟨by omega,by unfold maxLen;omega⟩
theorem ZGp(l:List Zaa):(gsE l).length<=l.length:=by simp only[gsE,List.length_map];exact List.length_filter_le _ _
theorem ZGo(l:List Zab):(gsP l).length<=l.length:=by simp only[gsP,List.length_map];exact List.length_filter_le _ _
theorem ZDj(l:List Zaa)(i:Nat)(h:i<l.length):gsE (l.drop i)=(if outE (l.getD i Zaa.d)then[grp (l.getD i Zaa.d).fEnd.fAddr]else[])++gsE (l.drop (i+1)):=by
 rw[ZdK l Zaa.d i h];unfold gsE;generalize l.getD i Zaa.d=e;cases b:outE e<;>simp[b]
theorem ZDi(l:List Zab)(i:Nat)(h:i<l.length):gsP (l.drop i)=(if outP (l.getD i Zab.d)then[grp (l.getD i Zab.d).fEnd.fAddr]else[])++gsP (l.drop (i+1)):=by
 rw[ZdK l Zab.d i h];unfold gsP;generalize l.getD i Zab.d=e;cases b:outP e<;>simp[b]
theorem ZHG(es:List Zaa)(fE:es.length<=1000)(hok:∀e∈es,e.ok)(v10:List Zab)(v11 v12:Int)(k:List Zab->Int->Int->List Zag->Option (List Zag)) :
  ∀fu (i:Nat) (w:List Zag),i<=es.length->es.length-i<fu->w.length<=1000+i ->
   Zej es v10 v11 v12 k fu es (es.length:Int) (i:Int) w=(Zhd (w++gsE (es.drop i))).bind Zbs:=by
 have b:es.length<=maxLen:=by unfold maxLen;omega
 intro fu;induction fu with
 |zero=>intro _ _ _ h;omega
 |succ fu ih=>
  intro i w hi j o;simp only[Zej,Zam];by_cases h:i<es.length
  .rw[if_pos (by omega),Zax ⟨by omega,by omega⟩,ZDj es i h];simp only[Int.toNat_natCast];have cV:=hok _ (Zeu es Zaa.d i h);cases g:outE (es.getD i Zaa.d)
   .have b9:((es.getD i Zaa.d).fState==(2:Int))=false:=g;rw[b9,cond_false,add1 h b,ih (i+1) w (by omega) (by omega) (by omega)];simp
   .have b9:((es.getD i Zaa.d).fState==(2:Int))=true:=g;rw[b9,cond_true,ZyA _ cV.1.1];simp only[Option.bind_some];rw[Zax (ZFx _ (by simp;omega)),add1 h b,ih (i+1) _ (by omega) (by omega) (by simp;omega)];simp
  .have e:i=es.length:=by omega
   rw[if_neg (by omega),e,List.drop_length];simp[gsE]
theorem ZFt(ps:List Zab)(es:List Zaa)(az:ps.length<=1000)(fE:es.length<=1000)(cF:∀p∈ps,p.ok)(hok:∀e∈es,e.ok) :
  ∀fu (i:Nat) (w:List Zag),i<=ps.length->ps.length-i<fu->w.length<=i ->
   ZcI es fu ps (ps.length:Int) (i:Int) w=(Zhd (w++gsP (ps.drop i)++gsE es)).bind Zbs:=by
 have b:ps.length<=maxLen:=by unfold maxLen;omega
 intro fu;induction fu with
 |zero=>intro _ _ _ h;omega
 |succ fu ih=>
  intro i w hi j o;simp only[ZcI,Zam];by_cases h:i<ps.length
  .rw[if_pos (by omega),Zax ⟨by omega,by omega⟩,ZDi ps i h];simp only[Int.toNat_natCast];have cV:=cF _ (Zeu ps Zab.d i h);cases g:outP (ps.getD i Zab.d)
   .have b9:(!(ps.getD i Zab.d).fIn)=false:=g;rw[b9,cond_false,add1 h b,ih (i+1) w (by omega) (by omega) (by omega)];simp
   .have b9:(!(ps.getD i Zab.d).fIn)=true:=g;rw[b9,cond_true,ZyA _ cV.1.1];simp only[Option.bind_some];rw[Zax (ZFx _ (by simp;omega)),add1 h b,ih (i+1) _ (by omega) (by omega) (by simp;omega)];simp
  .have e:i=ps.length:=by omega
   rw[if_neg (by omega),e,List.drop_length];have:=ZHG es fE hok ps (ps.length:Int) (ps.length:Int) (ZcI es fu) ((((es.length:Nat):Int)-(0:Int)).toNat+2) 0 w (by omega) (by omega) (by omega);simp only[Int.natCast_zero,List.drop_zero]at this;rw[this];simp[gsP]
theorem Zzp(ps:List Zab)(es:List Zaa)(az:ps.length<=1000)(fE:es.length<=1000)(cF:∀p∈ps,p.ok)(hok:∀e∈es,e.ok) :
  ∃L,Zih ps es=some L/\Srt L/\∀x,x∈L↔x∈gsP ps++gsE es:=by
 have h:=ZFt ps es az fE cF hok ((((ps.length:Nat):Int)-(0:Int)).toNat+2) 0 [] (by omega) (by omega) (by simp);simp only[Int.natCast_zero,List.drop_zero,List.nil_append]at h;unfold Zih;rw[h];refine ZHH _ ?_;have:=ZGp es;have:=ZGo ps;simp only[List.length_append];omega
theorem ZAH(l:List Zag)(e:Zag)(hl:l.length<=maxLen):Zcq l e=some (l.contains e):=by
 simp only[Zcq,ZdT];have:=Zts l Zag.d (fun x=>decide (e=x)) hl (fun fu i=>Zbo l fu (l.length:Int) i e) (fun i=>i) (fun fu i hi=>by
   simp only[Zbo,Zam];rw[if_pos (by omega),Zax ⟨by omega,by omega⟩];simp) (fun fu=>by
   simp only[Zbo,Zam];rw[if_neg (by omega)]) ((((l.length:Nat):Int)-(0:Int)).toNat+2) 0 (by omega) (by omega)
 simp only[Int.natCast_zero,List.drop_zero]at this;rw[this];simp only[Option.bind_some,Option.some.injEq];rw[Bool.eq_iff_iff,decide_eq_true_eq,List.contains_iff_mem];have g:=Zsw (fun x=>decide (e=x)) l 0;constructor
 .intro h;obtain⟨k,b,_,⟨x,j,o⟩,_⟩:=Zyw _ l 0 h;rw[of_decide_eq_true o];exact List.mem_of_getElem? j
 .intro h;apply Int.not_lt.1;intro b;have:=g.1 b e h;simp at this
theorem ZzQ{α:Type}[DecidableEq α]:∀(L l:List α),L.Nodup->(∀x∈L,x∈l)->L.length<=l.length
 | [],_,_,_=>by simp
 |a :: r,l,b,hs=>by
  have dO:=List.nodup_cons.1 b
  have ha:=hs a (by simp)
  have:=ZzQ r (l.erase a) dO.2 fun x hx=>(List.mem_erase_of_ne (show x≠a from fun e=>dO.1 (e ▸ hx))).2 (hs x (by simp[hx]))
  have:=List.length_erase_of_mem ha
  have:=List.length_pos_of_mem ha
  simp only[List.length_cons]
  omega
theorem ZJI{L:List Zag}(hs:Srt L){l:List Zag}(h:∀x,x∈L↔x∈l):L.length<=l.length:=
 ZzQ L l hs.nodup fun x hx=>(h x).1 hx
theorem ZuG(ps:List Zab)(es:List Zaa)(a:Zai)(az:ps.length<=1000)(fE:es.length<=1000)(cF:∀p∈ps,p.ok)(hok:∀e∈es,e.ok)(ha:a.ok) :
  Zkn ps es a=some (Zda a && !decide (grp a∈gsP ps++gsE es)):=by
 obtain⟨L,d,g,b⟩:=Zzp ps es az fE cF hok;have hl:L.length<=2000:=by
  have:=ZJI g b;have:=ZGp es;have:=ZGo ps;simp only[List.length_append]at *
  omega
 simp only[Zkn,ZjU a ha,d,ZyA a ha,Option.bind_some,ZAH L _ (by unfold maxLen;omega)];cases Zda a
 .rfl
 .simp only[cond_true,Bool.true_and,Option.some.injEq];congr 1;rw[Bool.eq_iff_iff,decide_eq_true_eq,List.contains_iff_mem,b]
def bitA(a:Zai)(j:Nat):Int:=if a.fV6 then a.fHi / 2 ^ (63-j) % 2 else a.fLo / 2 ^ (31-j) % 2
theorem ZJy(n k:Nat)(j:k<64)(b:n<2 ^ 64):IntKind.i64.wrap (IntKind.u64.wrap (((BitVec.ofInt (IntKind.bits .u64) (Int.fdiv (n:Int) (2 ^ (min (IntKind.u64.wrap (k:Int)).toNat (IntKind.bits .u64))))) &&& (BitVec.ofInt (IntKind.bits .u64) (1:Int))).toNat:Int))=(n:Int) / 2 ^ k % 2:=by
 have d:(IntKind.u64.wrap (k:Int)).toNat=k:=by rw[ZhJ (by omega) (by omega)];rfl
 rw[d,show min k (IntKind.bits .u64)=k from Nat.min_eq_left (by simp[IntKind.bits];omega)];have e:Int.fdiv (n:Int) (2 ^ k)=((n / 2 ^ k:Nat):Int):=by
  rw[Int.fdiv_eq_ediv_of_nonneg _ (by have:(0:Int)<2 ^ k:=Int.pow_pos (by omega);omega)];simp
 have g:n / 2 ^ k<2 ^ 64:=Nat.lt_of_le_of_lt (Nat.div_le_self _ _) b;rw[e,show (1:Int)=((1:Nat):Int)from rfl,ZyX _ 1 g (by omega),Nat.and_one_is_mod];have o:n / 2 ^ k % 2<2:=Nat.mod_lt _ (by omega);have h:IntKind.i64.wrap ((n / 2 ^ k % 2:Nat):Int)=((n / 2 ^ k % 2:Nat):Int):=by
  simp only[IntKind.wrap,IntKind.bits,IntKind.signed];simp;omega
 rw[h];simp
theorem ZJx(a:Zai)(h:a.ok)(j:Nat)(b:j<if a.fV6 then 32 else 16):Zbq a (j:Int)=some (bitA a j):=by
 obtain⟨v,hi,lo⟩:=a;obtain⟨_,d,g,_⟩:=h;have d:=Zka d;have g:=Zka g;simp only at d g;obtain⟨n,o⟩:=Zje d.1;obtain⟨m,p⟩:=Zje g.1;subst o p;cases v with
 |false=>
  have b:j<16:=by simpa using b
  have e:ZbT (31:Int) (j:Int)=((31-j:Nat):Int):=by rw[Zil (by omega) (by omega)];omega
  simp only[Zbq,ZbC,Zcv,Zam,Option.bind_some,cond_false,Bool.not_false,cond_true,e];rw[if_neg (by omega),if_neg (by omega),Zax (by rw[ZhJ (by omega) (by omega)];omega),ZJy m (31-j) (by omega) (by omega)];simp[bitA]
 |true=>
  have b:j<32:=by simpa using b
  have et:Int.tmod (j:Int) 64=(j:Int):=by rw[Int.tmod_eq_emod_of_nonneg (by omega)];omega
  have e:ZbT (63:Int) (j:Int)=((63-j:Nat):Int):=by rw[Zil (by omega) (by omega)];omega
  simp only[Zbq,ZbC,Zcv,Zam,Option.bind_some,cond_false,Bool.not_true,cond_true,et,e];rw[if_neg (by omega),if_neg (by omega),if_pos (by omega),Zax (by rw[ZhJ (by omega) (by omega)];omega),ZJy n (63-j) (by omega) (by omega)];simp[bitA]
theorem ZAg(n m t b:Nat)(o:b<=t)(d:n<2 ^ t)(g:m<2 ^ t):(∀j,j<b->n / 2 ^ (t-1-j) % 2=m / 2 ^ (t-1-j) % 2)↔n / 2 ^ (t-b)=m / 2 ^ (t-b):=by
 constructor
 .intro h;apply Nat.eq_of_testBit_eq;intro i;rw[Nat.testBit_div_two_pow,Nat.testBit_div_two_pow];by_cases hi:i<b
  .have:=h (b-1-i) (by omega);rw[show t-1-(b-1-i)=i+(t-b)by omega]at this;rw[Nat.testBit_eq_decide_div_mod_eq,Nat.testBit_eq_decide_div_mod_eq,this]
  .rw[Nat.testBit_lt_two_pow (Nat.lt_of_lt_of_le d (Nat.pow_le_pow_right (by omega) (by omega))),Nat.testBit_lt_two_pow (Nat.lt_of_lt_of_le g (Nat.pow_le_pow_right (by omega) (by omega)))]
 .intro h j p;have e:2 ^ (t-1-j)=2 ^ (t-b) * 2 ^ (b-1-j):=by rw[<-Nat.pow_add];congr 1;omega
  rw[e,<-Nat.div_div_eq_div_mul,<-Nat.div_div_eq_div_mul,h]
theorem ZFz(a b:Zai)(ha:a.ok)(v:b.ok)(y:a.fV6=b.fV6):∀fu (i:Nat),i<=32->32-i<fu ->
  ∃r,ZbK fu (i:Int) a b=some r/\(r=true↔∀j,i<=j->j<(if a.fV6 then 32 else 16)->bitA a j=bitA b j):=by
 intro fu;induction fu with
 |zero=>intro _ _ h;omega
 |succ fu ih=>
  intro i hi D;simp only[ZbK,Zam];by_cases h:i<32
  .rw[if_pos (by omega)];have jj:ZaA (i:Int) 1=((i+1:Nat):Int):=add1 (n:=32) h (by unfold maxLen;omega);rw[jj];obtain⟨r,u,t⟩:=ih (i+1) (by omega) (by omega);by_cases d:i<(if a.fV6 then 32 else 16)
   .have z:=ZJx a ha i d;have A:=ZJx b v i (by rw[<-y];exact d);have step:∃r,((Zbq a (i:Int)).bind fun x3=>(Zbq b (i:Int)).bind fun x4=>bif(x3 != x4)then some false else ZbK fu ((i+1:Nat):Int) a b)=some r/\(r=true↔∀j,i<=j->j<(if a.fV6 then 32 else 16)->bitA a j=bitA b j):=by
     rw[z,A];simp only[Option.bind_some];by_cases he:bitA a i=bitA b i
     .rw[show (bitA a i != bitA b i)=false by simp[he],cond_false];refine⟨r,u,t.trans ⟨fun q j p g=>?_,fun q j p g=>q j (by omega) g⟩⟩;by_cases B:j=i
      .subst B;exact he
      .exact q j (by omega) g
     .rw[show (bitA a i != bitA b i)=true by simp[he],cond_true];exact⟨false,rfl,by simp;exact⟨i,Nat.le_refl _,d,he⟩⟩
    cases o:a.fV6
    .rw[o]at d;have d:i<16:=by simpa using d
     simp only[cond_false];rw[if_pos (by omega)];rw[o]at step;exact step
    .simp only[cond_true];rw[o]at step;exact step
   .cases o:a.fV6
    .rw[o]at d t;have d:16<=i:=by simpa using d
     simp only[cond_false];rw[if_neg (by omega)];refine⟨r,u,t.trans ⟨fun q j p g=>?_,fun q j p g=>q j (by omega) g⟩⟩;have:j<16:=by simpa using g
     omega
    .rw[o]at d;exact absurd h (by simpa using d)
  .rw[if_neg (by omega)];refine⟨true,rfl,by simp;intro j p g;split at g<;>omega⟩
theorem ZCG(a b:Zai)(ha:a.ok)(d:b.ok)(g:Zda b=true):Zfh a b=some (decide (grp a=grp b)):=by
 have hs:=ZFz a b ha d;simp only[Zfh,ZjZ a ha,ZjZ b d,g,Option.bind_some,Bool.not_true,cond_false];cases hra:Zda a with
 |false=>
  simp only[Bool.not_false,cond_true,Option.some.injEq];rw[eq_comm,decide_eq_false_iff_not];unfold grp;rw[hra,g];intro e;have:=congrArg Zag.fBits e;simp only[Bool.false_eq_true,if_false,if_true]at this;split at this<;>simp at this
 |true=>
  simp only[Bool.not_true,cond_false];by_cases o:a.fV6=b.fV6
  .rw[show (!(a.fV6==b.fV6))=false by simp[o],cond_false];obtain⟨r,p,t⟩:=hs o (((32:Int)-(0:Int)).toNat+2) 0 (by omega) (by omega);have p:ZbK (((32:Int)-(0:Int)).toNat+2) 0 a b=some r:=p;rw[p,Option.some.injEq,Bool.eq_iff_iff,t,decide_eq_true_eq];obtain⟨v,hi,lo⟩:=a;obtain⟨v',cH,kO⟩:=b;simp only at o;subst o;have jj:=Zka ha.2.1;have ha2:=Zka ha.2.2.1;have bk:=Zka d.2.1;have bi:=Zka d.2.2.1;simp only at jj ha2 bk bi;obtain⟨n,y⟩:=Zje jj.1;obtain⟨m,z⟩:=Zje ha2.1;obtain⟨n',dO⟩:=Zje bk.1;obtain⟨m',hm'⟩:=Zje bi.1;subst y z dO hm';cases v with
   |false=>
    have A:(n:Int)=0/\(m:Int)<4294967296:=by simpa[Zda]using hra
    have c2:(n':Int)=0/\(m':Int)<4294967296:=by simpa[Zda]using g
    have d:=ZAg m m' 32 16 (by omega) (by omega) (by omega);simp only[grp,hra,g,if_true,Bool.false_eq_true,if_false,Zag.mk.injEq,Zai.mk.injEq,true_and,and_true];have e:(∀j,0<=j->j<16->bitA ⟨false,n,m⟩ j=bitA ⟨false,n',m'⟩ j)↔∀j,j<16->m / 2 ^ (32-1-j) % 2=m' / 2 ^ (32-1-j) % 2:=by
     constructor
     .intro q j h;have:=q j (by omega) h;simp only[bitA,Bool.false_eq_true,if_false]at this;rw[show 32-1-j=31-j by omega]
      exact_mod_cast this
     .intro q j _ h;have:=q j h;rw[show 32-1-j=31-j by omega]at this;simp only[bitA,Bool.false_eq_true,if_false]
      exact_mod_cast this
    rw[e,d];rw[show (2:Nat) ^ (32-16)=65536 from rfl];constructor<;>intro q<;>omega
   |true=>
    have d:=ZAg n n' 64 32 (by omega) (by omega) (by omega);simp only[grp,hra,g,if_true,Bool.false_eq_true,if_false,Zag.mk.injEq,Zai.mk.injEq,true_and,and_true];have e:(∀j,0<=j->j<32->bitA ⟨true,n,m⟩ j=bitA ⟨true,n',m'⟩ j)↔∀j,j<32->n / 2 ^ (64-1-j) % 2=n' / 2 ^ (64-1-j) % 2:=by
     constructor
     .intro q j h;have:=q j (by omega) h;simp only[bitA,if_true]at this;rw[show 64-1-j=63-j by omega]
      exact_mod_cast this
     .intro q j _ h;have:=q j h;rw[show 64-1-j=63-j by omega]at this;simp only[bitA,if_true]
      exact_mod_cast this
    rw[e,d];rw[show (2:Nat) ^ (64-32)=4294967296 from rfl];constructor<;>intro q<;>omega
  .rw[show (!(a.fV6==b.fV6))=true by simp[o],cond_true,Option.some.injEq,eq_comm,decide_eq_false_iff_not];unfold grp;rw[hra,g];intro e;have u:=congrArg (fun x:Zag=>x.fAddr.fV6) e;simp only[if_true]at u;apply o;cases p:a.fV6<;>cases t:b.fV6<;>simp[p,t]at u ⊢
theorem ZHJ(ps:List Zab)(es:List Zaa)(fE:es.length<=1000)(hok:∀e∈es,e.ok)(a:Zai)(ha:a.ok)(j:Zda a=true)(v7:Int)(k:Int->Zai->Option Bool):∀fu (i:Nat),i<=es.length->es.length-i<fu ->
  ZcD ps es v7 a k fu (i:Int)=some (!decide (grp a∈gsE (es.drop i))):=by
 have o:es.length<=maxLen:=by unfold maxLen;omega
 intro fu;induction fu with
 |zero=>intro _ _ h;omega
 |succ fu ih=>
  intro i hi p;simp only[ZcD,Zam];by_cases h:i<es.length
  .rw[if_pos (by omega),Zax ⟨by omega,by omega⟩,ZDj es i h];simp only[Int.toNat_natCast];have cV:=hok _ (Zeu es Zaa.d i h);rw[add1 h o,ih (i+1) (by omega) (by omega)];cases b:outE (es.getD i Zaa.d)
   .have b9:((es.getD i Zaa.d).fState==(2:Int))=false:=b;rw[b9,cond_false];simp
   .have b9:((es.getD i Zaa.d).fState==(2:Int))=true:=b;rw[b9,cond_true,ZCG _ _ cV.1.1 ha j];simp only[Option.bind_some,Zam,if_true,List.mem_append,List.mem_singleton];generalize grp (es.getD i Zaa.d).fEnd.fAddr=g;by_cases he:g=grp a
    .rw[if_pos he];simp[he]
    .rw[if_neg he];simp[Ne.symm he]
  .have e:i=es.length:=by omega
   rw[if_neg (by omega),e,List.drop_length];simp[gsE]
theorem ZFG(ps:List Zab)(es:List Zaa)(az:ps.length<=1000)(fE:es.length<=1000)(cF:∀p∈ps,p.ok)(hok:∀e∈es,e.ok)(a:Zai)(ha:a.ok)(b:Zda a=true):∀fu (i:Nat),i<=ps.length->ps.length-i<fu ->
  ZbJ ps es fu (i:Int) a=some (!decide (grp a∈gsP (ps.drop i)++gsE es)):=by
 have o:ps.length<=maxLen:=by unfold maxLen;omega
 intro fu;induction fu with
 |zero=>intro _ _ h;omega
 |succ fu ih=>
  intro i hi q;simp only[ZbJ,Zam];by_cases h:i<ps.length
  .rw[if_pos (by omega),Zax ⟨by omega,by omega⟩,ZDi ps i h];simp only[Int.toNat_natCast];have cV:=cF _ (Zeu ps Zab.d i h);rw[add1 h o,ih (i+1) (by omega) (by omega)];cases j:outP (ps.getD i Zab.d)
   .have b9:(!(ps.getD i Zab.d).fIn)=false:=j;rw[b9,cond_false];simp
   .have b9:(!(ps.getD i Zab.d).fIn)=true:=j;rw[b9,cond_true,ZCG _ _ cV.1.1 ha b];simp only[Option.bind_some,Zam,if_true,List.mem_append,List.mem_singleton];generalize grp (ps.getD i Zab.d).fEnd.fAddr=g;by_cases he:g=grp a
    .rw[if_pos he];simp[he]
    .rw[if_neg he];simp[Ne.symm he]
  .have e:i=ps.length:=by omega
   rw[if_neg (by omega),e,List.drop_length];have:=ZHJ ps es fE hok a ha b (ps.length:Int) (ZbJ ps es fu) ((((es.length:Nat):Int)-(0:Int)).toNat+2) 0 (by omega) (by omega);simp only[Int.natCast_zero,List.drop_zero]at this;rw[this];simp[gsP]
theorem Zye(ps:List Zab)(es:List Zaa)(a:Zai)(az:ps.length<=1000)(fE:es.length<=1000)(cF:∀p∈ps,p.ok)(hok:∀e∈es,e.ok)(ha:a.ok) :
  Zgr ps es a=some (Zda a && !decide (grp a∈gsP ps++gsE es)):=by
 simp only[Zgr,ZjZ a ha,Option.bind_some];cases b:Zda a
 .rfl
 .have:=ZFG ps es az fE cF hok a ha b ((((ps.length:Nat):Int)-(0:Int)).toNat+2) 0 (by omega) (by omega);simp only[Int.natCast_zero,List.drop_zero]at this;simp only[Bool.not_true,cond_false,Bool.true_and];exact this
def conn(l:List Zab)(e:Zan):Bool:=l.any fun p=>decide (p.fEnd=e)
theorem ZGY(l:List Zab)(e:Zan)(hl:l.length<=maxLen):∀fu (i:Nat),i<=l.length->l.length-i<fu->ZcL fu l (l.length:Int) (i:Int) e=some (conn (l.drop i) e):=by
 intro fu;induction fu with
 |zero=>intro _ _ h;omega
 |succ fu ih=>
  intro i hi b;simp only[ZcL,Zam];by_cases h:i<l.length
  .rw[if_pos (by omega),Zax ⟨by omega,by omega⟩,ZdK l Zab.d i h];simp only[Int.toNat_natCast];rw[add1 h hl,ih (i+1) (by omega) (by omega)];rw[show ∀(x:Zab) r,conn (x :: r) e=(decide (x.fEnd=e)||conn r e)from fun _ _=>rfl];by_cases q:(l.getD i Zab.d).fEnd=e
   .rw[if_pos q,decide_eq_true q];rfl
   .rw[if_neg q,decide_eq_false q];rfl
  .rw[if_neg (by omega),List.drop_eq_nil_of_le (by omega)];rfl
theorem ZAE(v:ZaF)(e:Zan)(hl:v.fPeers.length<=maxLen):ZfA v e=some (conn v.fPeers e):=by
 have:=ZGY v.fPeers e hl ((((v.fPeers.length:Nat):Int)-(0:Int)).toNat+2) 0 (by omega) (by omega);simpa[ZfA]using this
structure ZkY (v:ZaF):Prop where
 book:v.fBook.length<=900
 peers:v.fPeers.length<=900
 bans:v.fBans.length<=900
 bookOk:∀e∈v.fBook,e.ok
 peersOk:∀p∈v.fPeers,p.ok
 bansOk:∀b∈v.fBans,b.ok
def ZIq(v:ZaF)(a:Zai):Bool:=Zda a && !decide (grp a∈gsP v.fPeers++gsE v.fBook)
def Zua(v:ZaF)(e:Zan)(ae:Int):Bool:=(ZeM v e ae).getD false
theorem ZGT{v:ZaF}(h:ZkY v)(e:Zan)(he:e.ok)(ae:Int):ZeM v e ae=some (Zua v e ae) /\
  (Zua v e ae=true->conn v.fPeers e=false/\Zwo v.fBans e.fAddr ae 0/\ZIq v e.fAddr=true):=by
 obtain⟨r,u1,u2⟩:=ZxQ v.fBans e.fAddr ae (by have:=h.bans;unfold maxLen;omega) h.bansOk he.1;have d:=ZuG v.fPeers v.fBook e.fAddr (by have:=h.peers;omega) (by have:=h.book;omega) h.peersOk h.bookOk he.1;have aH:ZeM v e ae=some (!conn v.fPeers e&&(r==0)&&ZIq v e.fAddr):=by
  simp only[ZeM,ZAE v e (by have:=h.peers;unfold maxLen;omega),u1,d,Option.bind_some];cases conn v.fPeers e
  .simp only[Bool.not_false,cond_true,Bool.true_and];cases(r==(0:Int))
   .rfl
   .simp only[cond_true,Bool.true_and];rfl
  .rfl
 refine⟨by unfold Zua;rw[aH];rfl,fun b=>?_⟩;unfold Zua at b;rw[aH]at b;simp only[Option.getD_some,Bool.and_eq_true,Bool.not_eq_true',beq_iff_eq]at b;refine⟨b.1.1,?_,b.2⟩;rw[<-b.1.2];exact u2
def dueS(e:Zaa)(ae:Int):Bool:=(e.fState==1)&&decide (e.fNext<=ae)
theorem ZGO(e:Zaa)(ae:Int):ZmB e ae=some (dueS e ae):=by
 simp only[ZmB,dueS];cases(e.fState==(1:Int))<;>rfl
theorem ZJU(e:Zaa)(ae:Int):ZgV e ae=some (dueS e ae):=by
 simp only[ZgV,dueS];cases(e.fState==(1:Int))<;>rfl
def ZCV(ae:Int)(e:Zaa):Bool:=Zjd e&&dueS e ae
def ZhY(e:Zaa):Itm:=⟨e.fNext,e.fEnd⟩
def ZlT(l:List Zaa)(ae:Int):List Itm:=(l.filter (ZCV ae)).map ZhY
theorem ZEz(l:List Zaa)(ae:Int)(hl:l.length<=900)(hok:∀e∈l,e.ok):∀fu (i:Nat) (w:List Itm),i<=l.length->l.length-i<fu->w.length<=i ->
  ZbV ae fu l (l.length:Int) (i:Int) w=(Ziu (w++ZlT (l.drop i) ae)).bind fun x=>some x:=by
 have b:l.length<=maxLen:=by unfold maxLen;omega
 intro fu;induction fu with
 |zero=>intro _ _ _ h;omega
 |succ fu ih=>
  intro i w hi j o;simp only[ZbV,Zam];by_cases h:i<l.length
  .rw[if_pos (by omega),Zax ⟨by omega,by omega⟩,ZdK l Zaa.d i h];simp only[Int.toNat_natCast];have cV:=hok _ (Zeu l Zaa.d i h);rw[add1 h b,ih (i+1) w (by omega) (by omega) (by omega),ZrX _ cV];simp only[Option.bind_some,Zmb,ZGO];rw[Zax ⟨by simp;omega,by unfold maxLen;simp;omega⟩,ih (i+1) _ (by omega) (by omega) (by simp;omega)];generalize l.getD i Zaa.d=e;have g:ZlT (e :: l.drop (i+1)) ae=(if ZCV ae e then[ZhY e]else[])++ZlT (l.drop (i+1)) ae:=by
    unfold ZlT;cases q:ZCV ae e<;>simp[q]
   rw[g];unfold ZCV;cases Zjd e
   .simp
   .cases dueS e ae
    .simp
    .simp[ZhY]
  .rw[if_neg (by omega),List.drop_eq_nil_of_le (by omega)];simp[ZlT]
theorem ZER{v:ZaF}(h:ZkY v)(ae:Int):∃L,Zem v ae=some L/\L.Perm (ZlT v.fBook ae)/\HF 0 L:=by
 have:=ZEz v.fBook ae h.book h.bookOk ((((v.fBook.length:Nat):Int)-(0:Int)).toNat+2) 0 [] (by omega) (by omega) (by simp);simp only[Int.natCast_zero,List.drop_zero,List.nil_append]at this;unfold Zem;rw[this];obtain⟨L,b,d,g⟩:=ZAh (ZlT v.fBook ae) (by
  have:(ZlT v.fBook ae).length<=v.fBook.length:=by simp only[ZlT,List.length_map];exact List.length_filter_le _ _
  have:=h.book;omega)
 exact⟨L,by rw[b];rfl,d,g⟩
def zE:Zan:=⟨⟨false,0,0⟩,0⟩
def ZxM(v:ZaF)(ae:Int)(L:List Itm)(e:Zan)(ok:Bool):Prop:=(ok=true/\∃x∈L,x.fEnd=e/\Zua v e ae=true/\∀y∈L,Zua v y.fEnd ae=true->leH x y)\/(ok=false/\e=zE/\∀y∈L,Zua v y.fEnd ae=false)
theorem ZxM.perm{v:ZaF}{ae:Int}{L L':List Itm}{e:Zan}{ok:Bool}(h:ZxM v ae L e ok)(hp:∀x,x∈L'↔x∈L):ZxM v ae L' e ok:=by
 rcases h with⟨b,x,d,g,o,p⟩|⟨b,d,g⟩
 .exact .inl ⟨b,x,(hp x).2 d,g,o,fun y j=>p y ((hp y).1 j)⟩
 .exact .inr ⟨b,d,fun y j=>g y ((hp y).1 j)⟩
theorem ZFQ{v:ZaF}(h:ZkY v)(ae:Int)(z:Zan):∀fu (L:List Itm),L.length<fu->L.length<=900->HF 0 L->(∀x∈L,x.fEnd.ok)->∃e ok,Zhg ae fu L v z=some (e,ok)/\ZxM v ae L e ok:=by
 intro fu;induction fu with
 |zero=>intro _ h;omega
 |succ fu ih=>
  intro L F hl H hok;simp only[Zhg];by_cases u:L=[]
  .subst u;rw[ZtT];exact⟨zE,false,rfl,.inr ⟨rfl,rfl,by simp⟩⟩
  .obtain⟨x,r,p1,p2,p3,p4⟩:=ZDg L (by omega) H u;rw[p1];simp only[Option.bind_some,Bool.not_true,cond_false];have hx:x∈L:=p2.mem_iff.2 (by simp);have hlr:L.length=r.length+1:=by simpa using p2.length_eq
   rw[(ZGT h x.fEnd (hok x hx) ae).1];simp only[Option.bind_some];cases b:Zua v x.fEnd ae with
   |true=>
    simp only[cond_true];exact⟨x.fEnd,true,rfl,.inl ⟨rfl,x,hx,rfl,b,fun y d _=>p4 y d⟩⟩
   |false=>
    simp only[cond_false];obtain⟨e,ok,A,B⟩:=ih r (by omega) (by omega) p3 fun y d=>hok y (p2.mem_iff.2 (by simp[d]));refine⟨e,ok,A,?_⟩;have g:∀y,y∈L↔y=x\/y∈r:=fun y=>by rw[p2.mem_iff];simp
    rcases B with⟨j,y,o,p,D,E⟩|⟨j,o,p⟩
    .refine .inl ⟨j,y,(g y).2 (.inr o),p,D,fun t q lV=>?_⟩;rcases(g t).1 q with e1|e1
     .subst e1;rw[b]at lV;cases lV
     .exact E t e1 lV
    .refine .inr ⟨j,o,fun t q=>?_⟩;rcases(g t).1 q with e1|e1
     .subst e1;exact b
     .exact p t e1
theorem ZsX{v:ZaF}(h:ZkY v)(ae:Int):∃e ok,ZjH v ae=some (e,ok)/\ZxM v ae (ZlT v.fBook ae) e ok:=by
 obtain⟨L,l1,l2,l3⟩:=ZER h ae;have hlen:(ZlT v.fBook ae).length<=v.fBook.length:=by simp only[ZlT,List.length_map];exact List.length_filter_le _ _
 have j:=h.book;obtain⟨e,ok,b,d⟩:=ZFQ h ae zE 1000000 L (by rw[l2.length_eq];omega) (by rw[l2.length_eq];omega) l3 fun x hx=>by
  have:=l2.mem_iff.1 hx;simp only[ZlT,List.mem_map,List.mem_filter]at this;obtain⟨a,⟨g,_⟩,rfl⟩:=this;exact(h.bookOk a g).1
 refine⟨e,ok,?_,d.perm fun x=>l2.mem_iff.symm⟩;simp only[ZjH,l1,Option.bind_some];rw[show (Zan.mk (Zai.mk false (0:Int) (0:Int)) (0:Int))=zE from rfl];exact b
def mayS(v:ZaF)(ae:Int)(x:Zaa):Bool:=Zjd x&&dueS x ae&&Zua v x.fEnd ae
def dblN:Nat->Int->Int|0,x=>x|k+1,x=>dblN k (fitI (2*x))
theorem ZAF:∀k,dblN k 0=0
 | 0=>rfl
 |k+1=>by show dblN k (fitI (2 * 0))=0;exact ZAF k
theorem ZDw:∀k,dblN k 1099511627776=1099511627776
 | 0=>rfl
 |k+1=>by show dblN k (fitI (2 * 1099511627776))=_;exact ZDw k
theorem ZKn{x:Int}(b:0<=x)(d:x<=1099511627776):fitI x=x:=by
 unfold fitI;rw[if_neg (by omega),if_neg (by omega)]
theorem ZxU:∀(j:Nat)(x:Int)(n fu:Nat),n<=1000000->0<=x->x<=1099511627776->(x=0\/1099511627776<=x * 2 ^ j)->(1099511627776-x).toNat+1<=fu->Zge fu x (n:Int)=some (dblN (min n j) x):=by
 intro j;induction j with
 |zero=>
  intro x n fu _ g h h2 o;obtain⟨fu,rfl⟩ : ∃y,fu=y+1:=⟨fu-1,by omega⟩;unfold Zge;simp only[Zam];rw[Nat.min_zero];have b:x=0\/1099511627776<=x:=by simpa using h2
  split
  .split
   .rw[if_neg (by omega)];rfl
   .rfl
  .rfl
 |succ j ih=>
  intro x n fu q g h h2 o;obtain⟨fu,rfl⟩ : ∃y,fu=y+1:=⟨fu-1,by omega⟩;unfold Zge;simp only[Zam];cases n with
  |zero=>rw[if_neg (by omega),Nat.zero_min];rfl
  |succ n=>
   rw[if_pos (by omega)];have cC:min (n+1) (j+1)=min n j+1:=by omega
   rw[cC];by_cases hx:x>0
   .rw[if_pos hx];by_cases d:x<1099511627776
    .rw[if_pos d,ZIe (by omega) (by omega),ZnX,ZaK,ZFq (by omega)];have hle:=ZtI (2*x);have hge:x+1<=fitI (2*x):=by
      unfold fitI;repeat' split
      all_goals omega
     have b:fitI (2*x)=0\/1099511627776<=fitI (2*x) * 2 ^ j:=by
      right;have iw:(1:Int)<=2 ^ j:=Int.pow_pos (by omega);rcases h2 with h2|h2
      .omega
      .have p:x * 2 ^ (j+1)=2*x * 2 ^ j:=by
        rw[Int.pow_succ,<-Int.mul_assoc,Int.mul_right_comm,Int.mul_comm x 2]
       rw[p]at h2;unfold fitI;rw[if_neg (by omega)];split
       .have:=Int.mul_le_mul_of_nonneg_left iw (show (0:Int)<=1099511627776 by omega);omega
       .exact h2
     exact ih (fitI (2*x)) n fu (by omega) hle.1 hle.2 b (by omega)
    .have:x=1099511627776:=by omega
     rw[if_neg d,this,ZDw]
   .have:x=0:=by omega
    rw[if_neg hx,this,ZAF]
theorem Zyh(n:Nat):∀(k i:Nat)(x:Int)(fu:Nat),min n 41-i=k->i<=41->0<=x->x<=1099511627776->k+1<=fu->Zcw (n:Int) fu x (i:Int)=some (dblN k x):=by
 intro k;induction k with
 |zero=>
  intro i x fu g hi b d h;obtain⟨fu,rfl⟩ : ∃y,fu=y+1:=⟨fu-1,by omega⟩;unfold Zcw;simp only[Zam];split
  .rw[if_neg (by omega)];rfl
  .rfl
 |succ k ih=>
  intro i x fu g hi b d h;obtain⟨fu,rfl⟩ : ∃y,fu=y+1:=⟨fu-1,by omega⟩;unfold Zcw;simp only[Zam];have j:ZaA (i:Int) 1=((i+1:Nat):Int):=add1 (n:=i+1) (by omega) (by simp only[maxLen];omega);have o:addT x x=fitI (2*x):=by
   unfold addT;rw[ZKn b d];congr 1;omega
  have hle:=ZtI (2*x);rw[if_pos (by omega),if_pos (by omega),(ZBo _ _).2,ZaK,j,o];exact ih (i+1) _ fu (by omega) (by omega) hle.1 hle.2 (by omega)
theorem ZCB(a:Int)(n:Nat)(b:n<=1000000):Zmw a (n:Int)=some (dblN (min n 41) (fitI a))/\ZfX a (n:Int)=some (dblN (min n 41) (fitI a)):=by
 have h:=ZtI a;constructor
 .unfold Zmw;rw[ZnX,ZaK];exact ZxU 41 _ n _ b h.1 h.2 (by omega) (by omega)
 .unfold ZfX;rw[Zqb,ZaK];exact Zyh n _ 0 _ _ rfl (by omega) h.1 h.2 (by omega)
theorem ZIB(c:Zau)(n:Nat)(d:n<=1000000):∃t,ZiD c (n:Int)=some t/\ZfT c (n:Int)=some t:=by
 unfold ZiD ZfT;simp only[Zam];cases n with
 |zero=>exact⟨0,rfl,rfl⟩
 |succ n=>
  rw[if_neg (by omega),if_neg (by omega),ZFq (by omega),ZnX,Zqb,(ZCB _ n (by omega)).1,(ZCB _ n (by omega)).2];simp only[ZaK];generalize dblN (min n 41) (fitI c.fBase)=a;generalize fitI c.fCap=b;refine⟨if a<b then a else b,rfl,?_⟩;split<;>split<;>first|rfl|omega | (congr 1;omega)
theorem ZGh(c:Zau)(r:Int):∃t,Zie c r=some t/\Zfy c r=some t:=by
 unfold Zie Zfy;simp only[Zam];by_cases h:c.fJitter<1
 .rw[if_pos h];exact⟨_,rfl,rfl⟩
 .rw[if_neg h,Zax (by omega)];split<;>exact⟨_,rfl,rfl⟩
theorem ZJZ(c:Zau)(n:Nat)(b:n<=1000000)(ae r:Int):∃t,Zjq c (n:Int) ae r=some t/\Zeh c (n:Int) ae r=some t:=by
 obtain⟨t,d,g⟩:=ZIB c n b;obtain⟨u,h,j⟩:=ZGh c r;unfold Zjq Zeh;rw[d,g,h,j];simp only[ZaK,(ZBo _ _).1,(ZBo _ _).2];exact⟨_,rfl,rfl⟩
def ZqD(c:Zau)(e:Zaa)(ae r:Int):Zaa:=(ZgP c e ae r).getD e
theorem ZBK(c:Zau)(e:Zaa)(ae r:Int):ZgP c e ae r=some (ZqD c e ae r)/\ZdB c e ae r=some (ZqD c e ae r):=by
 have aH:∀n:Nat,n<=1000->ZaA (if(999:Int)<(if(0:Int)>e.fFails then(0:Int)else e.fFails)then(999:Int)else(if(0:Int)>e.fFails then(0:Int)else e.fFails)) (1:Int)=(n:Int) ->
   ZdB c e ae r=((Zeh c (n:Int) ae r).bind fun x=>some (Zaa.mk e.fEnd 1 (n:Int) x))->ZgP c e ae r=some (ZqD c e ae r)/\ZdB c e ae r=some (ZqD c e ae r):=by
  intro n h b o;obtain⟨t,p,q⟩:=ZJZ c n (by omega) ae r;have j:ZgP c e ae r=some ⟨e.fEnd,1,(n:Int),t⟩:=by
   unfold ZgP;rw[b,p];rfl
  have u:ZqD c e ae r=⟨e.fEnd,1,(n:Int),t⟩:=by unfold ZqD;rw[j];rfl
  rw[u,j,o,q];exact⟨rfl,rfl⟩
 unfold ZdB ZdX at aH ⊢;simp only[Zam]at aH ⊢;by_cases g:e.fFails>0
 .by_cases b:e.fFails<1000
  .obtain⟨n,h⟩ : ∃n:Nat,e.fFails=(n:Int):=⟨e.fFails.toNat,by omega⟩;have d:ZaA e.fFails 1=((n+1:Nat):Int):=by rw[h];exact add1 (n:=n+1) (by omega) (by simp only[maxLen];omega)
   refine aH (n+1) (by omega) ?_ ?_
   .rw[if_neg (show ¬(0:Int)>e.fFails by omega),if_neg (by omega),d]
   .rw[if_pos g,if_pos b,if_neg (show ¬e.fFails>=1000 by omega),d]
  .refine aH 1000 (by omega) ?_ ?_
   .rw[if_neg (show ¬(0:Int)>e.fFails by omega),if_pos (by omega)];exact Zeo (by omega) (by omega)
   .rw[if_pos g,if_neg b,if_pos (show e.fFails>=1000 by omega)];rfl
 .refine aH 1 (by omega) ?_ ?_
  .have d:(if(0:Int)>e.fFails then(0:Int)else e.fFails)=0:=by split<;>omega
   rw[d,if_neg (by omega)];exact Zeo (by omega) (by omega)
  .rw[if_neg g,if_neg (show ¬e.fFails>=1000 by omega)];rfl
theorem ZKg(l:List Zab)(e:Zan):ZkJ l e<0↔conn l e=false:=by
 unfold ZkJ conn;rw[Zsw,List.any_eq_false];simp
theorem ZBq{v:ZaF}(h:ZkY v)(e:Zaa)(he:e.ok)(ae:Int):ZdU v.fBook v.fPeers v.fBans e ae=some (mayS v ae e):=by
 obtain⟨r,u1,u2⟩:=ZxQ v.fBans e.fEnd.fAddr ae (by have:=h.bans;unfold maxLen;omega) h.bansOk he.1.1;obtain⟨s,u3,u4⟩:=ZuT v.fBans e.fEnd.fAddr ae (by have:=h.bans;unfold maxLen;omega) h.bansOk he.1.1;have lW:r=s:=Zxp u2 u4 fun b=>Iff.rfl;subst lW;have g:=ZuG v.fPeers v.fBook e.fEnd.fAddr (by have:=h.peers;omega) (by have:=h.book;omega) h.peersOk h.bookOk he.1.1;have hf2:=Zye v.fPeers v.fBook e.fEnd.fAddr (by have:=h.peers;omega) (by have:=h.book;omega) h.peersOk h.bookOk he.1.1;have hp:v.fPeers.length<=maxLen:=by have:=h.peers;unfold maxLen;omega
 have aH:Zua v e.fEnd ae=(!conn v.fPeers e.fEnd&&(r==0)&&ZIq v e.fEnd.fAddr):=by
  unfold Zua;simp only[ZeM,ZAE v e.fEnd hp,u1,g,Option.bind_some];cases conn v.fPeers e.fEnd
  .simp only[Bool.not_false,cond_true,Bool.true_and];cases(r==(0:Int))
   .rfl
   .simp only[cond_true,Bool.true_and];rfl
  .rfl
 unfold ZdU mayS;rw[Zli e he,ZaK,ZJU,ZaK,u3,ZaK,ZpZ _ _ hp,ZaK,hf2,ZaK,aH,Zam];have j9:=ZKg v.fPeers e.fEnd;unfold ZIq;cases Zjd e
 .rfl
 .cases dueS e ae
  .rfl
  .simp only[cond_true,Bool.true_and];cases(r==(0:Int))
   .simp
   .simp only[cond_true,Bool.and_true];by_cases d:ZkJ v.fPeers e.fEnd<0
    .rw[if_pos d,j9.1 d];rfl
    .rw[if_neg d];cases j:conn v.fPeers e.fEnd
     .exact absurd (j9.2 j) d
     .rfl
def ZnV(v:ZaF)(ae:Int)(e:Zan)(ok:Bool):Prop:=(ok=true/\∃x∈v.fBook,x.fEnd=e/\mayS v ae x=true/\∀y∈v.fBook,mayS v ae y=true->leH (ZhY x) (ZhY y))\/(ok=false/\e=zE/\∀y∈v.fBook,mayS v ae y=false)
theorem ZqS{v:ZaF}{ae:Int}{e:Zan}{ok:Bool}(h:ZxM v ae (ZlT v.fBook ae) e ok):ZnV v ae e ok:=by
 have d:∀y∈v.fBook,mayS v ae y=true->ZhY y∈ZlT v.fBook ae/\Zua v (ZhY y).fEnd ae=true:=fun y b cr=>by
  unfold mayS at cr;rw[Bool.and_eq_true]at cr;exact⟨List.mem_map.2 ⟨y,List.mem_filter.2 ⟨b,cr.1⟩,rfl⟩,cr.2⟩
 rcases h with⟨j,x,o,g,q,t⟩|⟨j,o,g⟩
 .have hx:=o;simp only[ZlT,List.mem_map,List.mem_filter]at hx;obtain⟨a,⟨u,z⟩,rfl⟩:=hx;refine .inl ⟨j,a,u,g,?_,fun y b cr=>t _ (d y b cr).1 (d y b cr).2⟩;unfold mayS;rw[show (Zjd a&&dueS a ae)=true from z,show a.fEnd=e from g,q];rfl
 .refine .inr ⟨j,o,fun y b=>?_⟩;cases p:mayS v ae y with
  |false=>rfl
  |true=>exact absurd (d y b p).2 (by rw[g _ (d y b p).1];simp)
theorem ZnV.one{v:ZaF}{ae:Int}{e e':Zan}{ok iC:Bool}(h:ZnV v ae e ok)(h':ZnV v ae e' iC):(e,ok)=(e',iC):=by
 rcases h with⟨p,x,j,t,u,A⟩|⟨p,j,t⟩
 .rcases h' with⟨d,y,b,g,o,z⟩|⟨d,b,g⟩
  .have l1:=A y b o;have l2:=z x j u;have B:cmpH (ZhY x) (ZhY y)=0:=by
    unfold leH at l1 l2;rcases Int.lt_trichotomy (cmpH (ZhY x) (ZhY y)) 0 with q|q|q
    .exact absurd q l2
    .exact q
    .exact absurd (Zwd.1 q) l1
   have:=Zwc.1 B;simp only[ZhY,Zae.mk.injEq]at this;rw[p,d,<-t,<-g,this.2]
  .rw[g x j]at u;cases u
 .rcases h' with⟨d,y,b,g,o,z⟩|⟨d,b,g⟩
  .rw[t y b]at o;cases o
  .rw[p,j,d,b]
theorem Zsv{x y:Zaa}:leH (ZhY x) (ZhY y)↔x.fNext<y.fNext\/(x.fNext=y.fNext/\cmpE x.fEnd y.fEnd<=0):=by
 unfold leH;rw[ZHc];simp only[ZhY];have e:=@ZkM y.fEnd x.fEnd;have b:=@ZkM x.fEnd y.fEnd;omega
theorem ZEe{v:ZaF}(h:ZkY v)(ae:Int)(z:Zan):∀(fu i:Nat)(b:Int),i<=v.fBook.length->v.fBook.length-i<fu->b<(i:Int)->-1<=b ->
  (b<0->∀y∈v.fBook.take i,mayS v ae y=false)->(0<=b->mayS v ae (v.fBook.getD b.toNat Zaa.d)=true/\∀y∈v.fBook.take i,mayS v ae y=true->leH (ZhY (v.fBook.getD b.toNat Zaa.d)) (ZhY y)) ->
  ∃e ok,Zbk v.fBook v.fPeers v.fBans ae fu b (i:Int) z=some (e,ok)/\ZnV v ae e ok:=by
 have u:v.fBook.length<=maxLen:=by have:=h.book;unfold maxLen;omega
 intro fu;induction fu with
 |zero=>intro _ _ _ h;omega
 |succ fu ih=>
  intro i b hi A B bk j g;unfold Zbk;simp only[Zam];by_cases hlt:i<v.fBook.length
  .rw[if_pos (by omega),Zax ⟨by omega,by omega⟩];simp only[Int.toNat_natCast];have eh:=Zeu v.fBook Zaa.d i hlt;have dg:v.fBook.take (i+1)=v.fBook.take i++[v.fBook.getD i Zaa.d]:=by rw[List.take_succ_eq_append_getElem hlt,Zdw v.fBook _ i hlt]
   have gR:∀y,y∈v.fBook.take (i+1)->y∈v.fBook.take i\/y=v.fBook.getD i Zaa.d:=fun y g=>by
    rw[dg]at g;rcases List.mem_append.1 g with q|q
    .exact .inl q
    .exact .inr (List.mem_singleton.1 q)
   rw[ZBq h _ (h.bookOk _ eh),ZaK,add1 hlt u];have keep:mayS v ae (v.fBook.getD i Zaa.d)=false\/(0<=b/\leH (ZhY (v.fBook.getD b.toNat Zaa.d)) (ZhY (v.fBook.getD i Zaa.d)))->∃e ok,Zbk v.fBook v.fPeers v.fBans ae fu b ((i+1:Nat):Int) z=some (e,ok)/\ZnV v ae e ok:=fun hk=>by
    refine ih (i+1) b (by omega) (by omega) (by omega) bk (fun bj y dF=>?_) (fun bj=>⟨(g bj).1,fun y dF cr=>?_⟩)
    .rcases gR y dF with q|q
     .exact j bj y q
     .rw[q];rcases hk with hk|hk
      .exact hk
      .omega
    .rcases gR y dF with q|q
     .exact(g bj).2 y q cr
     .rcases hk with hk|hk
      .rw[q,hk]at cr;cases cr
      .rw[q];exact hk.2
   have move:mayS v ae (v.fBook.getD i Zaa.d)=true->(0<=b->leH (ZhY (v.fBook.getD i Zaa.d)) (ZhY (v.fBook.getD b.toNat Zaa.d)))->∃e ok,Zbk v.fBook v.fPeers v.fBans ae fu (i:Int) ((i+1:Nat):Int) z=some (e,ok)/\ZnV v ae e ok:=fun hk hle=>by
    refine ih (i+1) (i:Int) (by omega) (by omega) (by omega) (by omega) (fun bj=>by omega) (fun _=>⟨by rw[Int.toNat_natCast];exact hk,fun y dF cr=>?_⟩);rw[Int.toNat_natCast];rcases gR y dF with q|q
    .by_cases bj:b<0
     .rw[j bj y q]at cr;cases cr
     .exact Zvs (hle (by omega)) ((g (by omega)).2 y q cr)
    .rw[q];exact ZqW _
   cases hk:mayS v ae (v.fBook.getD i Zaa.d)with
   |false=>rw[Bool.not_false,cond_true];exact keep (.inl hk)
   |true=>
    rw[Bool.not_true,cond_false];by_cases bj:b<0
    .rw[if_pos bj];exact move hk (fun q=>by omega)
    .rw[if_neg bj,Zax ⟨by omega,by omega⟩];by_cases p:(v.fBook.getD i Zaa.d).fNext<(v.fBook.getD b.toNat Zaa.d).fNext
     .rw[if_pos p];exact move hk fun _=>Zsv.2 (.inl p)
     .rw[if_neg p,ZcM,Zsg,ZaK];by_cases o:(v.fBook.getD i Zaa.d).fNext=(v.fBook.getD b.toNat Zaa.d).fNext
      .rw[if_pos o];by_cases t:cmpE (v.fBook.getD i Zaa.d).fEnd (v.fBook.getD b.toNat Zaa.d).fEnd<0
       .rw[if_pos t];exact move hk fun _=>Zsv.2 (.inr ⟨o,by omega⟩)
       .rw[if_neg t];refine keep (.inr ⟨by omega,Zsv.2 (.inr ⟨o.symm,?_⟩)⟩);have:=@ZkM (v.fBook.getD b.toNat Zaa.d).fEnd (v.fBook.getD i Zaa.d).fEnd;omega
      .rw[if_neg o];exact keep (.inr ⟨by omega,Zsv.2 (.inl (by omega))⟩)
  .rw[if_neg (by omega)];have et:v.fBook.take i=v.fBook:=List.take_of_length_le (by omega);rw[et]at j g;by_cases bj:b<0
   .rw[if_pos bj];exact⟨_,_,rfl,.inr ⟨rfl,rfl,j bj⟩⟩
   .rw[if_neg bj,Zax ⟨by omega,by omega⟩];exact⟨_,_,rfl,.inl ⟨rfl,_,Zeu v.fBook Zaa.d b.toNat (by omega),rfl,(g (by omega)).1,(g (by omega)).2⟩⟩
def Zlv(v:ZaF)(ae:Int):Zan×Bool:=(ZjH v ae).getD (zE,false)
theorem ZFR{v:ZaF}(h:ZkY v)(ae:Int):ZjH v ae=some (Zlv v ae)/\Zfg v.fBook v.fPeers v.fBans ae=some (Zlv v ae)/\((Zlv v ae).2=true->0<=ZiO v.fBook (Zlv v ae).1):=by
 obtain⟨e,ok,d,j⟩:=ZsX h ae;have g:=ZqS j;obtain⟨e',iC,o,p⟩:=ZEe h ae ⟨⟨false,0,0⟩,0⟩ ((((v.fBook.length:Nat):Int)-(0:Int)).toNat+2) 0 (-1) (by omega) (by omega) (by omega) (by omega) (fun _=>by simp) (fun q=>by omega);have t:=ZnV.one g p;have b:Zlv v ae=(e,ok):=by unfold Zlv;rw[d];rfl
 refine⟨by rw[b,d],?_,fun hok=>?_⟩
 .unfold Zfg;rw[b,t];exact o
 .rw[b]at hok ⊢;rcases g with⟨_,x,x1,x2,_⟩|⟨q,_⟩
  .have hx:¬ZiO v.fBook e<0:=fun q=>ZAn.1 q x x1 x2;exact Int.not_lt.1 hx
  .rw[show ok=true from hok]at q;cases q
def ZoQ(ae:Int)(e:Zaa):Bool:=Zjd e&&((e.fState==1)&&decide (e.fNext>ae))
def Zyv(l:List Zaa)(ae:Int):List Itm:=(l.filter (ZoQ ae)).map ZhY
theorem ZHD(e:Zaa)(ae:Int):ZkB e ae=some ((e.fState==1)&&decide (e.fNext>ae)):=by
 simp only[ZkB];cases(e.fState==(1:Int))<;>rfl
theorem ZGf(l:List Zaa)(ae:Int)(hl:l.length<=900)(hok:∀e∈l,e.ok):∀fu (i:Nat) (w:List Itm),i<=l.length->l.length-i<fu->w.length<=i ->
  ZbU ae fu l (l.length:Int) (i:Int) w=(Ziu (w++Zyv (l.drop i) ae)).bind fun x=>some x:=by
 have b:l.length<=maxLen:=by unfold maxLen;omega
 intro fu;induction fu with
 |zero=>intro _ _ _ h;omega
 |succ fu ih=>
  intro i w hi j o;simp only[ZbU,Zam];by_cases h:i<l.length
  .rw[if_pos (by omega),Zax ⟨by omega,by omega⟩,ZdK l Zaa.d i h];simp only[Int.toNat_natCast];have cV:=hok _ (Zeu l Zaa.d i h);rw[add1 h b,ih (i+1) w (by omega) (by omega) (by omega),ZrX _ cV];simp only[Option.bind_some,ZHD];rw[Zax ⟨by simp;omega,by unfold maxLen;simp;omega⟩,ih (i+1) _ (by omega) (by omega) (by simp;omega)];generalize l.getD i Zaa.d=e;have g:Zyv (e :: l.drop (i+1)) ae=(if ZoQ ae e then[ZhY e]else[])++Zyv (l.drop (i+1)) ae:=by
    unfold Zyv;cases q:ZoQ ae e<;>simp[q]
   rw[g];unfold ZoQ;cases Zjd e
   .simp
   .cases((e.fState==(1:Int))&&decide (e.fNext>ae))
    .simp
    .simp[ZhY]
  .rw[if_neg (by omega),List.drop_eq_nil_of_le (by omega)];simp[Zyv]
def ZrZ(S:Zaa->Prop)(r:Int):Prop:=((∀y,¬S y)/\r=0)\/∃x,S x/\r=x.fNext/\∀y,S y->r<=y.fNext
theorem ZrZ.one{S:Zaa->Prop}{r s:Int}(h:ZrZ S r)(g:ZrZ S s):r=s:=by
 rcases h with⟨d,p⟩|⟨x,d,p,q⟩
 .rcases g with⟨b,j⟩|⟨y,b,j,o⟩
  .omega
  .exact absurd b (d y)
 .rcases g with⟨b,j⟩|⟨y,b,j,o⟩
  .exact absurd d (b x)
  .have:=q y b;have:=o x d;omega
theorem ZGS{v:ZaF}(h:ZkY v)(ae:Int):∃r,ZjG v ae=some r/\ZrZ (fun y=>y∈v.fBook/\ZoQ ae y=true) r:=by
 have hlen:(Zyv v.fBook ae).length<=v.fBook.length:=by simp only[Zyv,List.length_map];exact List.length_filter_le _ _
 have q:=h.book;have hl:=ZGf v.fBook ae h.book h.bookOk ((((v.fBook.length:Nat):Int)-(0:Int)).toNat+2) 0 [] (by omega) (by omega) (by simp);simp only[Int.natCast_zero,List.drop_zero,List.nil_append]at hl;obtain⟨L,j,d,o⟩:=ZAh (Zyv v.fBook ae) (by omega);have hin:∀y,y∈v.fBook/\ZoQ ae y=true->ZhY y∈L:=fun y b=>d.mem_iff.2 (List.mem_map.2 ⟨y,List.mem_filter.2 b,rfl⟩);unfold ZjG Zfz;rw[hl,j,ZaK,ZaK];by_cases g:L=[]
 .subst g;rw[ZtT,ZaK];exact⟨0,rfl,.inl ⟨fun y b=>by have:=hin y b;simp at this,rfl⟩⟩
 .obtain⟨x,r,p1,p2,p3,p4⟩:=ZDg L (by rw[d.length_eq];omega) o g;rw[p1,ZaK];have hx:x∈L:=p2.mem_iff.2 (by simp);have dH:=d.mem_iff.1 hx;simp only[Zyv,List.mem_map,List.mem_filter]at dH;obtain⟨a,p,rfl⟩:=dH;refine⟨_,rfl,.inr ⟨a,p,rfl,fun y b=>?_⟩⟩;have:=Zsv.1 (p4 _ (hin y b));show a.fNext<=y.fNext;omega
theorem ZEd{l:List Zaa}(hl:l.length<=900)(hok:∀e∈l,e.ok)(ae:Int):∀(fu i:Nat)(r:Int)(any:Bool),i<=l.length->l.length-i<fu ->
  (any=false->r=0/\∀y∈l.take i,ZoQ ae y=false)->(any=true->∃x,(x∈l/\ZoQ ae x=true)/\r=x.fNext/\∀y∈l.take i,ZoQ ae y=true->r<=y.fNext) ->
  ∃r',Zbj l ae fu r any (i:Int)=some r'/\ZrZ (fun y=>y∈l/\ZoQ ae y=true) r':=by
 have u:l.length<=maxLen:=by unfold maxLen;omega
 intro fu;induction fu with
 |zero=>intro _ _ _ _ h;omega
 |succ fu ih=>
  intro i r any hi v j b;unfold Zbj;simp only[Zam,ZcM];by_cases hlt:i<l.length
  .rw[if_pos (by omega),Zax ⟨by omega,by omega⟩];simp only[Int.toNat_natCast];have eh:=Zeu l Zaa.d i hlt;have dg:l.take (i+1)=l.take i++[l.getD i Zaa.d]:=by rw[List.take_succ_eq_append_getElem hlt,Zdw l _ i hlt]
   have gR:∀y,y∈l.take (i+1)->y∈l.take i\/y=l.getD i Zaa.d:=fun y b=>by
    rw[dg]at b;rcases List.mem_append.1 b with q|q
    .exact .inl q
    .exact .inr (List.mem_singleton.1 q)
   rw[Zli _ (hok _ eh),ZaK,add1 hlt u];generalize l.getD i Zaa.d=e at eh dg gR ⊢;have keep:ZoQ ae e=false\/(any=true/\r<=e.fNext)->∃r',Zbj l ae fu r any ((i+1:Nat):Int)=some r'/\ZrZ (fun y=>y∈l/\ZoQ ae y=true) r':=fun hk=>by
    refine ih (i+1) r any (by omega) (by omega) (fun ha=>⟨(j ha).1,fun y dF=>?_⟩) (fun ha=>?_)
    .rcases gR y dF with q|q
     .exact(j ha).2 y q
     .rw[q];rcases hk with hk|hk
      .exact hk
      .rw[ha]at hk;exact absurd hk.1 (by decide)
    .obtain⟨x,x1,x2,x3⟩:=b ha;refine⟨x,x1,x2,fun y dF cr=>?_⟩;rcases gR y dF with q|q
     .exact x3 y q cr
     .rcases hk with hk|hk
      .rw[q,hk]at cr;cases cr
      .rw[q];exact hk.2
   have move:ZoQ ae e=true->(any=true->e.fNext<=r)->∃r',Zbj l ae fu e.fNext true ((i+1:Nat):Int)=some r'/\ZrZ (fun y=>y∈l/\ZoQ ae y=true) r':=fun hk hle=>by
    refine ih (i+1) _ true (by omega) (by omega) (fun ha=>by cases ha) (fun _=>⟨e,⟨eh,hk⟩,rfl,fun y dF cr=>?_⟩);rcases gR y dF with q|q
    .cases ha:any with
     |false=>rw[(j ha).2 y q]at cr;cases cr
     |true=>
      obtain⟨x,x1,x2,x3⟩:=b ha;have:=x3 y q cr;have:=hle ha;omega
    .rw[q];exact Int.le_refl _
   cases p:Zjd e with
   |false=>rw[cond_false];exact keep (.inl (by simp[ZoQ,p]))
   |true=>
    rw[cond_true];by_cases g:e.fState=1
    .rw[if_pos g];by_cases o:e.fNext>ae
     .rw[if_pos o];have hk:ZoQ ae e=true:=by unfold ZoQ;rw[p,g,decide_eq_true o];rfl
      cases ha:any with
      |false=>rw[Bool.not_false,cond_true];exact move hk fun q=>by rw[ha]at q;cases q
      |true=>
       rw[Bool.not_true,cond_false];by_cases t:e.fNext<r
       .rw[if_pos t];exact move hk fun _=>by omega
       .rw[if_neg t];have hk2:=keep (.inr ⟨ha,by omega⟩);rw[ha]at hk2;exact hk2
     .rw[if_neg o];exact keep (.inl (by unfold ZoQ;rw[decide_eq_false o];simp))
    .rw[if_neg g];exact keep (.inl (by simp[ZoQ,g]))
  .rw[if_neg (by omega)];have et:l.take i=l:=List.take_of_length_le (by omega);rw[et]at j b;refine⟨r,rfl,?_⟩;cases ha:any with
   |false=>exact .inl ⟨fun y dF=>(by have g:=dF.2;rw[(j ha).2 y dF.1]at g;cases g),(j ha).1⟩
   |true=>
    obtain⟨x,x1,x2,x3⟩:=b ha;exact .inr ⟨x,x1,x2,fun y dF=>x3 y dF.1 dF.2⟩
def Zzf(v:ZaF)(ae:Int):Int:=(ZjG v ae).getD 0
theorem ZFm{v:ZaF}(h:ZkY v)(ae:Int):ZjG v ae=some (Zzf v ae)/\Zff v.fBook ae=some (Zzf v ae):=by
 obtain⟨r,b,g⟩:=ZGS h ae;obtain⟨s,j,o⟩:=ZEd h.book h.bookOk ae ((((v.fBook.length:Nat):Int)-(0:Int)).toNat+2) 0 0 false (by omega) (by omega) (fun _=>⟨rfl,by simp⟩) (fun q=>by cases q);have d:Zzf v ae=r:=by unfold Zzf;rw[b];rfl
 refine⟨by rw[d,b],?_⟩;unfold Zff;rw[d,g.one o];exact j
section
variable {aO:List Zah} (hL:aO.length<=900000) {a:Nat} (ha:a<=aO.length)
include hL ha
end
structure Gl (l:List Zah):Prop where
 len:l.length<=800
 val:∀v∈l,v.ok/\v.fBans.length<=800/\v.fBook.length<=800
theorem Gl.drop{l:List Zah}(h:Gl l)(a:Nat):Gl (l.drop a):=⟨by have:=h.len;simp;omega,fun v b=>h.val v (List.mem_of_mem_drop b)⟩
theorem ZBD{c:Zay}{l:List Zah}{x:Zah}{g:Zao}(h:runT (ZjW c) l=some (.ret x g))(hl:Gl l):x.ok/\x.fBans.length<=800/\x.fBook.length<=800:=by
 obtain⟨r,rfl,_⟩:=Zst h;exact hl.val x (by simp)
theorem ZxX{α β:Type}{p:Pr α}{f:α->Pr β}:∀{l:List Zah}{y:β}{g:Zao},runT (p.bind f) l=some (.ret y g)->∃x b,runT p l=some (.ret x b)/\runT (f x) b.fgot=some (.ret y g):=by
 induction p with
 |ret x=>intro l y g h;exact⟨x,⟨l⟩,rfl,h⟩
 |ask o k ih=>
  intro l y g h;cases l with
  |nil=>simp[Pr.bind,runT]at h
  |cons v l=>exact ih v h
 |no=>intro l y g h;simp[Pr.bind,runT]at h
def ZAX:Nat->Nat->List Zab->Pr (List Zab)|0,_,w=>.ret w|k+1,i,w=>(ZtZ (i:Int)).bind fun x=>ZAX k (i+1) (w++x)
theorem ZzE{part:Int}{l:List Zah}{x:List Zab}{g:Zao}(h:runT (ZtZ part) l=some (.ret x g)):x.length+g.fgot.length<=l.length:=by
 cases l with
 |nil=>simp[ZtZ,runT,ZjW,Pr.bind]at h
 |cons v l=>
  have:=ZuU part _ _ _ l x g h;simp only[List.length_cons,List.length_nil]at this ⊢;omega
theorem ZxJ:∀(k i:Nat)(w:List Zab)(l:List Zah)(x:List Zab)(g:Zao),runT (ZAX k i w) l=some (.ret x g)->x.length+g.fgot.length<=w.length+l.length/\∀Q:Zab->Prop,(∀p∈w,Q p)->(∀v∈l,Q v.fPeer)->∀p∈x,Q p
 | 0,i,w,l,x,g,h=>by
  simp only[ZAX,runT,Option.some.injEq,Tout.ret.injEq]at h
  obtain⟨rfl,rfl⟩:=h
  exact⟨Nat.le_refl _,fun Q b _=>b⟩
 |k+1,i,w,l,x,g,h=>by
  obtain⟨y,o,d,q⟩:=ZxX h
  have t:=ZzE d
  obtain⟨j,u⟩:=ZxJ k (i+1) (w++y) o.fgot x g q
  obtain⟨a,ha,rfl⟩:=ZFB _ _ _ _ d
  simp only at t j
  refine⟨by simp only[List.length_append]at j;omega,fun Q b hl=>u Q (fun p hp=>?_) (fun v z=>hl v (List.mem_of_mem_drop z))⟩
  rcases List.mem_append.1 hp with hp|hp
  .exact b p hp
  .exact ZHT d hl p hp
section
variable {c:Zau} {x:ZaB} (hx:x.ok) (dK:0<=c.fShards) (hs:c.fShards<=1000) {aO:List Zah} (hG:Gl aO) {a:Nat} (ha:a<=aO.length)
include dK hs hG
end
section
variable {aO:List Zah} (hG:Gl aO) {a:Nat} (ha:a<=aO.length)
include hG ha
end
def ZtQ(l:List Zaf)(a:Zai)(ae:Int):Int:=(ZhH l a ae).getD 0
theorem Zzg(l:List Zaf)(a:Zai)(ae:Int)(hl:l.length<=maxLen)(hok:∀b∈l,b.ok)(ha:a.ok):ZhH l a ae=some (ZtQ l a ae)/\ZeG l a ae=some (ZtQ l a ae):=by
 obtain⟨r,u1,u2⟩:=ZxQ l a ae hl hok ha;obtain⟨s,u3,u4⟩:=ZuT l a ae hl hok ha;have lW:r=s:=Zxp u2 u4 fun b=>Iff.rfl;subst lW;unfold ZtQ;rw[u1,u3];exact⟨rfl,rfl⟩
def ZEc(n:Nat):Pr ZaF:=(ZjW ⟨3,0,0⟩).bind fun b=>(ZjW ⟨4,0,0⟩).bind fun v=>(ZAX n 0 []).bind fun w=>.ret ⟨v.fBook,w,b.fBans⟩
theorem ZIi{aO:List Zah}(hG:Gl aO){b v:Zah}(d:b∈aO)(g:v∈aO){w:List Zab}(q:w.length<=800)(h:∀p∈w,p.ok):ZkY ⟨v.fBook,w,b.fBans⟩:=by
 have j:=hG.val b d;have o:=hG.val v g;exact⟨by show v.fBook.length<=900;omega,by show w.length<=900;omega,by show b.fBans.length<=900;omega,o.1.2.2.2.1.2,h,j.1.2.2.1.2⟩
theorem ZEb{n:Nat}{l:List Zah}{v:ZaF}{g:Zao}(h:runT (ZEc n) l=some (.ret v g))(hl:Gl l):ZkY v:=by
 obtain⟨b,B,j,o⟩:=ZxX h;obtain⟨D,rfl,rfl⟩:=Zst j;obtain⟨u,E,p,q⟩:=ZxX o;obtain⟨F,dR,rfl⟩:=Zst p;obtain⟨w,G,t,d⟩:=ZxX q;simp only at dR;subst dR;simp only[runT,Option.some.injEq,Tout.ret.injEq]at d;obtain⟨rfl,rfl⟩:=d;obtain⟨y,z⟩:=ZxJ _ _ _ _ _ _ t;have hlen:=hl.len;simp only[List.length_cons,List.length_nil]at y hlen;exact ZIi hl (by simp) (by simp) (by omega) (z Zab.ok (by simp) fun v A=>(hl.val v (by simp[A])).1.2.1)
def stE(e:Zaa)(s:Int):Zaa:=⟨e.fEnd,s,e.fFails,e.fNext⟩
def ZwA(e:Zaa):Zaa:=⟨e.fEnd,3,0,e.fNext⟩
def newE(x:ZaB):Zaa:=⟨x.fEnd,1,0,fitI x.fNow⟩
def Zre(x:ZaB):Zab:=⟨x.fEnd,false,fitI x.fNow,⟨0,fitI x.fNow⟩,0,0⟩
def Zrz(l:List Zaa)(e:Zaa):Pr Unit:=Zpu ⟨4,0,0⟩ ⟨0,ZlO,[],setS l e⟩ false
def Zxs(l:List Zaa)(e:Zaa):Pr Unit:=(Zrz l e).bind fun _=>Zys 2 (-1) true 1000000
def ZAp(c:Zau)(x:ZaB)(l:List Zaa)(e:Zaa)(k:Int):Pr (Zaq×Bool):=(Zxs l (ZqD c e x.fNow x.fNum)).bind fun _=>.ret (⟨k,endZ,(ZqD c e x.fNow x.fNum).fFails,(ZqD c e x.fNow x.fNum).fNext,[]⟩,false)
def entA(l:List Zaa)(e:Zan):Zaa:=l.getD (ZiO l e).toNat Zaa.d
def ZzI(c:Zau)(x:ZaB):Pr (Zaq×Bool):=(ZEc c.fShards.toNat).bind fun v=>(ZjW ⟨2,0,0⟩).bind fun o=>if o.fN>=c.fMaxOut then .ret (Zef 5,true)else if(Zlv v x.fNow).2=true then(Zys 2 1 true 1000000).bind fun _=>(Zrz v.fBook (stE (entA v.fBook (Zlv v x.fNow).1) 2)).bind fun _=>.ret (⟨0,(Zlv v x.fNow).1,0,0,[]⟩,false)else .ret (⟨6,endZ,0,Zzf v x.fNow,[]⟩,true)
def ZIy(c:Zau)(r:Zaq×Bool):Pr Zaq:=(Zux c.fShards r.2).bind fun _=>(keyP 3 1 false).bind fun _=>(keyP 4 0 false).bind fun _=>.ret r.1
def ZIA(c:Zau)(x:ZaB):Pr Zaq:=(keyP 2 0 false).bind fun _=>(keyP 1 1 false).bind fun _=>(ZqV c.fShards).bind fun _=>(ZzI c x).bind fun r=>ZIy c r
def ZKk(n:Int)(x:ZaB)(l:List Zaa)(e:Zaa):Pr (Zaq×Bool):=(ZtZ n).bind fun ps=>if ZkJ ps x.fEnd>=0 then(Zxs l (stE e 1)).bind fun _=>.ret (Zef 7,false)else(Zrz l (ZwA e)).bind fun _=>(ZwS n ps (ps++[Zre x])).bind fun _=>.ret (repZ,true)
def ZBJ(n:Int)(c:Zau)(x:ZaB)(l:List Zaa)(e:Zaa):Pr (Zaq×Bool):=if x.fGood=true then(ZjW ⟨3,0,0⟩).bind fun b=>if ZtQ b.fBans x.fEnd.fAddr x.fNow>0 then ZAp c x l e 8 else ZKk n x l e else ZAp c x l e 0
def resP(n:Int)(c:Zau)(x:ZaB):Pr (Zaq×Bool):=(ZjW ⟨4,0,0⟩).bind fun v=>if ZiO v.fBook x.fEnd<0 then .ret (Zef 6,true)else if(entA v.fBook x.fEnd).fState=2 then ZBJ n c x v.fBook (entA v.fBook x.fEnd)else .ret (Zef 6,true)
def ZDl(n:Int)(r:Zaq×Bool):Pr Zaq:=(keyP 3 (2+n) r.2).bind fun _=>(keyP 3 1 false).bind fun _=>(keyP 4 0 false).bind fun _=>.ret r.1
def ZuO(c:Zau)(x:ZaB):Pr Zaq:=(keyP 2 0 false).bind fun _=>(keyP 1 1 false).bind fun _=>(keyP 1 (2+pt c x) false).bind fun _=>(resP (pt c x) c x).bind fun r=>ZDl (pt c x) r
def ZzX(c:Zau)(x:ZaB):Pr Zaq:=(keyP 1 1 false).bind fun _=>(ZjW ⟨4,0,0⟩).bind fun v=>if(addS v.fBook (newE x) c.fMaxBook).2=0 then(Zpu ⟨4,0,0⟩ ⟨0,ZlO,[],(addS v.fBook (newE x) c.fMaxBook).1⟩ true).bind fun _=>(keyP 3 1 false).bind fun _=>.ret (Zef 0)else(keyP 3 1 true).bind fun _=>.ret (Zef (addS v.fBook (newE x) c.fMaxBook).2)
def ZBp(c:Zau)(x:ZaB):Pr Zaq:=if ZiQ x=true then(if x.fKind=3 then ZIA c x else if x.fKind=4 then ZuO c x else if x.fKind=13 then ZzX c x else Zza)else Zza
theorem ZJb(n:Nat)(o:n<=1000)(b4:ZaF)(book:List Zaa)(bans:List Zaf):∀(k i fu:Nat)(w:List Zab)(l:List Zah),n-i=k->i<=n->k+1<=fu->w.length+l.length<=900000 ->
  ZcV fu (n:Int) (i:Int) ⟨l⟩ b4 book w bans=runT ((ZAX k i w).bind fun w=>.ret ⟨book,w,bans⟩) l:=by
 intro k;induction k with
 |zero=>
  intro i fu w l b hi d hl;obtain⟨fu,rfl⟩ : ∃x,fu=x+1:=⟨fu-1,by omega⟩;unfold ZcV;simp only[Zam];rw[if_neg (by omega)];rfl
 |succ k ih=>
  intro i fu w l b hi d hl;obtain⟨fu,rfl⟩ : ∃x,fu=x+1:=⟨fu-1,by omega⟩;unfold ZcV;simp only[Zam];rw[if_pos (by omega),ZDH _ _ (by omega)];unfold ZAX;rw[Pr.bind_assoc];refine ZbS (fun x a ha h=>?_) (fun _=>rfl);dsimp only;have g:=ZzE h;simp only[List.length_drop]at g;have j:ZaA (i:Int) 1=((i+1:Nat):Int):=add1 (n:=i+1) (by omega) (by simp only[maxLen];omega);rw[Zax ⟨by simp only[List.length_append];omega,by simp only[List.length_append,maxLen];omega⟩,j];exact ih (i+1) fu (w++x) (l.drop a) (by omega) (by omega) (by omega) (by simp only[List.length_append,List.length_drop];omega)
section
variable {c:Zau} {x:ZaB} (hx:x.ok) (hs:c.fShards<=1000) {l:List Zah} (hl:Gl l)
include hx hs hl
theorem ZIT:Zia ⟨c,x⟩ ⟨l⟩=runT (ZEc c.fShards.toNat) l:=by
 have _u:=hx;have hlen:=hl.len;unfold Zia;rw[Zme];refine ZbS (fun b a ha h=>?_) (fun _=>rfl);dsimp only;have e:Zjn=some ⟨4,0,0⟩:=rfl;rw[e,ZaK,Zme];refine ZbS (fun v d o h=>?_) (fun _=>rfl);dsimp only;by_cases p:0<=c.fShards
 .obtain⟨n,g⟩ : ∃n:Nat,c.fShards=(n:Int):=⟨c.fShards.toNat,by omega⟩;rw[g,Int.toNat_natCast];exact ZJb n (by omega) _ _ _ n 0 _ [] _ (by omega) (by omega) (by omega) (by simp only[List.length_nil,List.length_drop];omega)
 .have j:c.fShards.toNat=0:=by omega
  rw[j];obtain⟨fu,lQ⟩ : ∃fu,(c.fShards-0).toNat+2=fu+1:=⟨_,rfl⟩;rw[lQ];unfold ZcV;simp only[Zam];rw[if_neg (by omega)];rfl
omit hs hl in
theorem Zwp(w:List Zaa)(e:Zaa)(b:w.length<=10000):Zek ⟨c,x⟩ ⟨l⟩ w e=runT (Zrz w e) l:=by
 have _u:=hx;unfold Zek;have d:Zjn=some ⟨4,0,0⟩:=rfl;rw[d,ZaK,ZII _ _ b,ZaK,Ztd];exact ZuK (p:=Zrz w e) (fun _ _=>rfl) (fun _=>rfl)
omit hs hl in
theorem ZBb(w:List Zaa)(e:Zaa)(b:w.length<=10000):Zfb ⟨c,x⟩ ⟨l⟩ w e=runT (Zxs w e) l:=by
 unfold Zfb;rw[Zwp hx w e b];refine ZbS (fun _ a ha h=>?_) (fun _=>rfl);dsimp only;rw[ZDI];exact ZuK (fun _ _=>rfl) (fun _=>rfl)
omit hs hl in
theorem ZBd(w:List Zaa)(e:Zaa)(k:Int)(b:w.length<=10000):Zgm ⟨c,x⟩ ⟨l⟩ w e k=runT (ZAp c x w e k) l:=by
 unfold Zgm;rw[(ZBK c e x.fNow x.fNum).1,ZaK,ZBb hx w _ b];exact ZbS (fun _ _ _ _=>rfl) (fun _=>rfl)
theorem ZHs:ZhA ⟨c,x⟩ ⟨l⟩=runT (ZzI c x) l:=by
 unfold ZhA;rw[ZIT hx hs hl];refine ZbS (fun v a ha h=>?_) (fun _=>rfl);have g:=ZEb h hl;have j:=g.book;obtain⟨p1,_,p3⟩:=ZFR g x.fNow;have hlt:=ZrP v.fBook (Zlv v x.fNow).1;dsimp only;rw[Zme];refine ZbS (fun o d p _=>?_) (fun _=>rfl);dsimp only;rw[Zam];by_cases b:o.fN>=c.fMaxOut
 .rw[if_pos b,if_pos b];rfl
 .rw[if_neg b,if_neg b,p1,ZaK];cases hok:(Zlv v x.fNow).2 with
  |false=>
   rw[Bool.not_false,cond_true,if_neg (by decide),(ZFm g x.fNow).1];rfl
  |true=>
   have:=p3 hok;rw[Bool.not_true,cond_false,if_pos rfl,ZDI];refine ZbS (fun _ e he _=>?_) (fun _=>rfl);dsimp only;rw[Zta _ _ (by unfold maxLen;omega),ZaK,Zax (by omega)];have ef:ZoW (v.fBook.getD (ZiO v.fBook (Zlv v x.fNow).1).toNat Zaa.d)=some (stE (entA v.fBook (Zlv v x.fNow).1) 2):=rfl;rw[ef,ZaK,Zwp hx _ _ (by omega)];exact ZbS (fun _ _ _ _=>rfl) (fun _=>rfl)
theorem ZJa:Zic ⟨c,x⟩ ⟨l⟩=runT (ZIA c x) l:=by
 unfold Zic;rw[ZBa];refine ZbS (fun _ a ha _=>?_) (fun _=>rfl);dsimp only;rw[Ztf];refine ZbS (fun _ b g _=>?_) (fun _=>rfl);dsimp only;rw[ZCw];refine ZbS (fun _ d h _=>?_) (fun _=>rfl);dsimp only;rw[ZHs hx hs (((hl.drop a).drop b).drop d)];refine ZbS (fun r e he _=>?_) (fun _=>rfl);dsimp only;rw[ZCx];refine ZbS (fun _ _ _ _=>?_) (fun _=>rfl);dsimp only;rw[Zrd];refine ZbS (fun _ _ _ _=>?_) (fun _=>rfl);dsimp only;rw[ZDO];exact ZbS (fun _ _ _ _=>rfl) (fun _=>rfl)
omit hs in
theorem ZIV(w:List Zaa)(e:Zaa)(h:w.length<=10000) :
  ((ZjD ⟨l⟩ (pt c x)).bind fun lX=>
       (match lX with
       | .ret x10v x10g=>
        (ZjO x10v x.fEnd).bind fun gS=>
        bif(decide (gS>=(0:Int)))then
         (ZlD e).bind fun lY=>
         (Zfb ⟨c,x⟩ x10g w lY).bind fun lZ=>
         (match lZ with
         | .ret x13v x13g=>
          (Zep (7:Int)).bind fun l4=>
          some (Tout.ret (l4,false) x13g)
         | .pan x13o=>
          some (Tout.pan x13o)
         | .bad x13s=>
          some (Tout.bad x13s))
        else
         (ZlC e).bind fun l5=>
         (Zek ⟨c,x⟩ x10g w l5).bind fun l6=>
         (match l6 with
         | .ret x16v x16g=>
          (Zbp x10v).bind fun ka=>
          (Zml x.fEnd false x.fNow).bind fun iQ=>
          need ((ka++([iQ]:List Zab)).length * 80<=140737488355328/\(ka++([iQ]:List Zab)).length<=maxLen) <|
          (ZjN x16g (pt c x) x10v (ka++([iQ]:List Zab))).bind fun b5=>
          (match b5 with
          | .ret x19v x19g=>
           some (Tout.ret ((Zaq.mk (0:Int) (Zan.mk (Zai.mk false (0:Int) (0:Int)) (0:Int)) (0:Int) (0:Int) ([]:(List Zab))),true) x19g)
          | .pan x19o=>
           some (Tout.pan x19o)
          | .bad x19s=>
           some (Tout.bad x19s))
         | .pan x16o=>
          some (Tout.pan x16o)
         | .bad x16s=>
          some (Tout.bad x16s))
       | .pan x10o=>
        some (Tout.pan x10o)
       | .bad x10s=>
        some (Tout.bad x10s)))=runT (ZKk (pt c x) x w e) l:=by
 have hlen:=hl.len;rw[ZDH _ _ (by omega)];refine ZbS (fun ps d o j=>?_) (fun _=>rfl);have p:=ZHU j;dsimp only;rw[ZDT _ _ (by unfold maxLen;omega),ZaK,Zam];by_cases g:ZkJ ps x.fEnd>=0
 .have ed:ZlD e=some (stE e 1):=rfl;rw[if_pos g,if_pos g,ed,ZaK,ZBb hx _ _ h];exact ZbS (fun _ _ _ _=>rfl) (fun _=>rfl)
 .have eg:ZlC e=some (ZwA e):=rfl;rw[if_neg g,if_neg g,eg,ZaK,Zwp hx _ _ h];refine ZbS (fun _ b q _=>?_) (fun _=>rfl);dsimp only;have ec:Zbp ps=some ps:=by
   unfold Zbp;rw[Zax ⟨by omega,by unfold maxLen;omega⟩]
  have en:Zml x.fEnd false x.fNow=some (Zre x):=by unfold Zml;rw[ZnX];rfl
  rw[ec,ZaK,en,ZaK,Zax ⟨by simp only[List.length_append,List.length_singleton];omega,by simp only[List.length_append,List.length_singleton,maxLen];omega⟩,ZHr _ _ _ _ (by simp only[List.length_append,List.length_singleton];omega)];exact ZbS (fun _ _ _ _=>rfl) (fun _=>rfl)
omit hs in
theorem ZIZ:Zib ⟨c,x⟩ ⟨l⟩ (pt c x)=runT (resP (pt c x) c x) l:=by
 have bC:∀t:Option (Tout (Zaq×Bool)),(t.bind fun y=>match y with | .ret v g=>some (Tout.ret (v.1,v.2) g) | .pan o=>some (Tout.pan o) | .bad s=>some (Tout.bad s))=t:=fun t=>by
  cases t with
  |none=>rfl
  |some t=>cases t<;>rfl
 unfold Zib;have z:Zjn=some ⟨4,0,0⟩:=rfl;rw[z,ZaK,Zme];refine ZbS (fun v a ha h=>?_) (fun _=>rfl);have D:=ZBD h hl;have hlt:=ZrP v.fBook x.fEnd;dsimp only;rw[Zta _ _ (by unfold maxLen;omega),ZaK,Zam];by_cases j:ZiO v.fBook x.fEnd<0
 .rw[if_pos j,if_pos j];rfl
 .have ee:v.fBook.getD (ZiO v.fBook x.fEnd).toNat Zaa.d=entA v.fBook x.fEnd:=rfl;rw[if_neg j,if_neg j,Zax (by omega),ee];by_cases p:(entA v.fBook x.fEnd).fState=2
  .have u:((entA v.fBook x.fEnd).fState != 2)=false:=by simp[p]
   rw[if_pos p,u,cond_false];unfold ZBJ;cases E:x.fGood with
   |false=>
    rw[Bool.not_false,cond_true,if_neg (by decide),ZBd hx _ _ _ (by omega)];exact bC _
   |true=>
    rw[Bool.not_true,cond_false,if_pos rfl,Zme];refine ZbS (fun b d F A=>?_) (fun _=>rfl);have B:=ZBD A (hl.drop a);dsimp only;rw[(Zzg b.fBans x.fEnd.fAddr x.fNow (by unfold maxLen;omega) B.1.2.2.1.2 hx.2.1.1).1,ZaK,Zam];by_cases q:ZtQ b.fBans x.fEnd.fAddr x.fNow>0
    .rw[if_pos q,if_pos q,ZBd hx _ _ _ (by omega)];exact bC _
    .rw[if_neg q,if_neg q];exact ZIV hx ((hl.drop a).drop d) _ _ (by omega)
  .have u:((entA v.fBook x.fEnd).fState != 2)=true:=by rw[bne_iff_ne];exact p
   rw[if_neg p,u,cond_true];rfl
omit hs in
theorem ZFb:ZgM ⟨c,x⟩ ⟨l⟩=runT (ZuO c x) l:=by
 unfold ZgM;have e:ZjP x.fEnd.fAddr c.fSecret c.fShards=some (pt c x):=(Zuk x.fEnd.fAddr hx.2.1.1 c.fSecret c.fShards).1;rw[e,ZaK,ZKP hx,ZBa];refine ZbS (fun _ a ha _=>?_) (fun _=>rfl);dsimp only;rw[Ztf];refine ZbS (fun _ b g _=>?_) (fun _=>rfl);dsimp only;rw[Ztf];refine ZbS (fun _ d h _=>?_) (fun _=>rfl);dsimp only;rw[ZIZ hx (((hl.drop a).drop b).drop d)];refine ZbS (fun r e he _=>?_) (fun _=>rfl);dsimp only;rw[Zrd];refine ZbS (fun _ _ _ _=>?_) (fun _=>rfl);dsimp only;rw[Zrd];refine ZbS (fun _ _ _ _=>?_) (fun _=>rfl);dsimp only;rw[ZDO];exact ZbS (fun _ _ _ _=>rfl) (fun _=>rfl)
omit hx hs hl in
theorem ZKm(a:Int):okI .i64 (fitI a):=by
 have:=ZtI a;simp only[okI,Lit.wf,IntKind.min,IntKind.max,IntKind.bits,IntKind.signed];simp;omega
omit hs hl in
theorem ZGa:(newE x).ok:=⟨hx.2.1,rfl,rfl,ZKm _,trivial⟩
omit hs in
theorem ZHu:ZhB ⟨c,x⟩ ⟨l⟩=runT (ZzX c x) l:=by
 unfold ZhB;rw[Ztf];refine ZbS (fun _ a ha _=>?_) (fun _=>rfl);dsimp only;have j:Zjn=some ⟨4,0,0⟩:=rfl;rw[j,ZaK,Zme];refine ZbS (fun v d o h=>?_) (fun _=>rfl);have q:=ZBD h (hl.drop a);dsimp only;have en:ZmA x.fEnd x.fNow=some (newE x):=by unfold ZmA;rw[ZnX];rfl
 rw[en,ZaK,ZIK _ _ _ (by omega) (ZGa hx),ZaK,ZcM];by_cases b:(addS v.fBook (newE x) c.fMaxBook).2=0
 .have g:((addS v.fBook (newE x) c.fMaxBook).2 != 0)=false:=by rw[b];rfl
  rw[if_pos b,if_pos b,Ztd];refine ZbS (p:=Zpu ⟨4,0,0⟩ ⟨0,ZlO,[],(addS v.fBook (newE x) c.fMaxBook).1⟩ true) (fun _ _ _ _=>?_) (fun _=>rfl);dsimp only;rw[g,Zrd];refine ZbS (fun _ _ _ _=>?_) (fun _=>rfl);dsimp only;rw[b];rfl
 .have g:((addS v.fBook (newE x) c.fMaxBook).2 != 0)=true:=by rw[bne_iff_ne];exact b
  rw[if_neg b,if_neg b,g,Zrd];exact ZbS (fun _ _ _ _=>rfl) (fun _=>rfl)
omit hs hl in
theorem ZxL(l:List Zah):Zhz ⟨c,x⟩ ⟨l⟩=runT Zza l:=by
 have _u:=hx;unfold Zhz;rw[ZIU];exact ZbS (fun _ _ _ _=>rfl) (fun _=>rfl)
theorem ZHt:ZhM c x l=(runT (ZBp c x) l).map Zyi:=by
 unfold ZhM Zle ZBp;rw[ZEX x hx,ZaK];have bC:∀t:Option ZaV,(t.bind fun y=>some y)=t:=fun t=>by cases t<;>rfl
 cases ZiQ x with
 |false=>
  simp only[Bool.not_false,cond_true,ZaK,bC,Bool.false_eq_true,if_false];unfold Ziq;rw[ZxL hx]
 |true=>
  simp only[Bool.not_true,cond_false,if_true,ZcM];by_cases b:x.fKind=3
  .simp only[if_pos b,ZaK,bC];unfold Zkj;rw[ZJa hx hs hl]
  .by_cases d:x.fKind=4
   .simp only[if_neg b,if_pos d,ZaK,bC];unfold Zki;rw[ZFb hx hl]
   .by_cases h13:x.fKind=13
    .simp only[if_neg b,if_neg d,if_pos h13,ZaK,bC];unfold Zkh;rw[ZHu hx hl]
    .simp only[if_neg b,if_neg d,if_neg h13,ZaK,bC];unfold Ziq;rw[ZxL hx]
end
theorem ZFO(l:List Zaa)(e:Zaa):(putS l e).Perm (e :: l):=by
 unfold putS;have h:=List.takeWhile_append_dropWhile (p:=fun x:Zaa=>!decide (0<cmpE x.fEnd e.fEnd)) (l:=l)
 conv=>rhs;rw[<-h]
 rw[List.append_assoc];exact List.perm_middle
def is2(e:Zaa):Int:=if e.fState=2 then 1 else 0
theorem ZqJ(e:Zaa)(l:List Zaa):Zcz (e :: l) 2=is2 e+Zcz l 2:=by
 unfold Zcz is2;rw[List.countP_cons];by_cases h:e.fState=2
 .simp[h];omega
 .simp[h]
theorem ZAG{a b:List Zaa}(h:a.Perm b):Zcz a 2=Zcz b 2:=by unfold Zcz;rw[h.countP_eq]
theorem ZvZ(a b:List Zaa):Zcz (a++b) 2=Zcz a 2+Zcz b 2:=by
 unfold Zcz;rw[List.countP_append];omega
theorem ZCm{l:List Zaa}{k:Nat}(b:k<l.length)(y:Zaa):Zcz (l.set k y) 2+is2 (l.getD k Zaa.d)=Zcz l 2+is2 y:=by
 have g:l=l.take k++l.getD k Zaa.d :: l.drop (k+1):=by
  conv=>lhs;rw[<-List.take_append_drop k l]
  rw[ZdK l Zaa.d k b]
 have h:l.set k y=l.take k++y :: l.drop (k+1):=List.set_eq_take_append_cons_drop.trans (if_pos b);have j:=congrArg (fun l=>Zcz l 2) g;simp only[ZvZ,ZqJ]at j;rw[h,ZvZ,ZqJ];omega
theorem ZqI{l:List Zaa}{e:Zaa}(h:0<=ZiO l e.fEnd):Zcz (setS l e) 2+is2 (entA l e.fEnd)=Zcz l 2+is2 e:=by
 have hlt:=ZrP l e.fEnd;unfold setS entA;rw[if_pos h];exact ZCm (by omega) e
theorem ZCs(l:List Zaa)(e:Zaa)(bO:Int)(he:e.fState≠2)(h:(addS l e bO).2=0):Zcz (addS l e bO).1 2=Zcz l 2:=by
 unfold addS at h ⊢;cases b:Zjd e with
 |false=>rw[b,if_neg (by decide)]at h;exact absurd h (by decide)
 |true=>
  rw[b,if_pos rfl]at h;rw[if_pos rfl];by_cases d:0<=ZiO l e.fEnd
  .rw[if_pos d]at h;exact absurd h (by decide)
  .rw[if_neg d]at h ⊢;by_cases g:(l.length:Int)>=bO
   .rw[if_pos g]at h;exact absurd h (by decide)
   .rw[if_neg g];show Zcz (putS l e) 2=_;rw[ZAG (ZFO l e),ZqJ];unfold is2;rw[if_neg he];omega
theorem ZKY{x y:Zab}(b:ltP y x=false)(d:x.fEnd≠y.fEnd):ltP x y=true:=by
 rw[ZCY]at b;rw[Zqj];have g:cmpE x.fEnd y.fEnd≠0:=fun h=>d (ZmQ.1 h);have j:¬0<cmpE x.fEnd y.fEnd:=fun h=>b (ZkM.1 h);omega
theorem ZKZ{x y:Zab}(h:ltP x y=true):x.fEnd≠y.fEnd:=fun e=>by
 rw[Zqj,ZmQ.2 e]at h
 exact absurd h (by decide)
theorem ZFu{l:Prs}(h:StrP l):SrtP l:=h.imp fun h=>ZCZ h
theorem ZJG{l:Prs}(h:StrP l){p:Zab}(b:∀q∈l,q.fEnd≠p.fEnd):StrP (mrg l [p])/\(mrg l [p]).Perm (p :: l):=by
 have hp:(mrg l [p]).Perm (p :: l):=(Zur _ l [p] (Nat.le_refl _)).trans (List.perm_append_singleton p l);have d:(p :: l).Pairwise fun x y=>x.fEnd≠y.fEnd:=List.pairwise_cons.2 ⟨fun q g=>(b q g).symm,h.imp fun h=>ZKZ h⟩;have hd2:(mrg l [p]).Pairwise fun x y=>x.fEnd≠y.fEnd:=d.perm hp.symm fun h=>h.symm;have hs:SrtP (mrg l [p]):=ZGb _ l [p] (Nat.le_refl _) (ZFu h) (List.pairwise_singleton _ _);exact⟨(hs.and hd2).imp fun h=>ZKY h.1 h.2,hp⟩
theorem ZDr{l:List Zaa}{e:Zan}(h:0<=ZiO l e):(entA l e).fEnd=e/\entA l e∈l:=by
 obtain⟨k,p,d,⟨y,b,g⟩,_⟩:=Zyw _ l 0 h;have j:(ZiO l e).toNat=k:=by unfold ZiO;rw[d];omega
 have o:entA l e=y:=by unfold entA;rw[j,List.getD_eq_getElem?_getD,b];rfl
 rw[o];exact⟨of_decide_eq_true g,List.mem_of_getElem? b⟩
theorem ZEG(c:Zau)(e:Zaa)(ae r:Int):(ZqD c e ae r).fEnd=e.fEnd/\(ZqD c e ae r).fState=1:=by
 have h:=(ZBK c e ae r).1;unfold ZgP at h;obtain⟨t,_,h⟩:=Zac h;have:=Option.some.inj h;rw[<-this];exact⟨rfl,rfl⟩
section
variable {c:Zau} {s:Zas} {x:ZaB} (hx:x.ok) (hs:s.ok) (hR:RtS c s) (aQ:s.fBans.length<=20/\s.fBook.length<=20/\s.fPeers.length<=20)
include hx hs hR aQ
theorem ZLh(r:Option (Zas×Zaq)):(r.bind fun y=>some (y.1,y.2))=r:=by
 have _u:=hx;have _v:=hs;have _w:=hR;have _z:=aQ;cases r<;>rfl
theorem ZGQ(b:ZiQ x=true)(d:x.fKind=3):ZbE c s x=Zgq c s x:=by
 have bC:=ZLh hx hs hR aQ;unfold ZbE;rw[ZoJ x hx,ZaK,b,Bool.not_true,cond_false,ZcM,if_neg (by omega),ZcM,if_pos d,bC]
theorem ZCi(b:ZiQ x=true)(d:x.fKind=4):ZbE c s x=Zfv c s x:=by
 have bC:=ZLh hx hs hR aQ;unfold ZbE;rw[ZoJ x hx,ZaK,b,Bool.not_true,cond_false,ZcM,if_neg (by omega),ZcM,if_neg (by omega),ZcM,if_pos d,bC]
theorem ZEQ(d:ZiQ x=true)(g:x.fKind=13):ZbE c s x=some (if(addS s.fBook (newE x) c.fMaxBook).2=0 then(⟨s.fBans,(addS s.fBook (newE x) c.fMaxBook).1,s.fPeers⟩,Zef 0)else(s,Zef (addS s.fBook (newE x) c.fMaxBook).2)):=by
 have _u:=hR;have _v:=hs;have en:ZgU x.fEnd x.fNow=some (newE x):=by unfold ZgU;rw[Zqb];rfl
 have h:(x.fKind==9)=false:=beq_false_of_ne (by omega);unfold ZbE ZdM;rw[ZoJ x hx,ZaK,d,Bool.not_true,cond_false,ZcM,if_neg (by omega),ZcM,if_neg (by omega),ZcM,if_neg (by omega),ZcM,if_neg (by omega),ZcM,if_neg (by omega),ZcM,if_neg (by omega),ZcM,if_neg (by omega),h,cond_false,ZcM,if_neg (by omega),ZcM,if_pos g,en,ZaK,ZJV _ _ _ (by omega) (ZGa hx),ZaK,ZcM];by_cases b:(addS s.fBook (newE x) c.fMaxBook).2=0
 .rw[if_pos b,if_pos b,no35,ZaK,b]
 .rw[if_neg b,if_neg b,no35,ZaK]
theorem ZHw(o:ZiQ x=true)(p:x.fKind=13):ZCy c s x (mP c s fL) (ZzX c x):=by
 have b:=ZgD c.fShards;obtain⟨h,j⟩:=Zsi (c:=c) aQ.2.2;have g:=ZEQ hx hs hR aQ o p (c:=c) (s:=s);have hlk:Ex (keyP 1 1 false) (mP c s fL) () (mP c s (updL fL 1 ZlY)) 1 0:=Zwr (k:=1) b.1 b.2 (Zmr c s) (by omega) rfl false;have kP:Ex (ZjW ⟨4,0,0⟩) (mP c s (updL fL 1 ZlY)) ⟨0,ZlO,[],s.fBook⟩ (mP c s (updL fL 1 ZlY)) 1 0:=Zsa b.1 b.2 (Zmr c s) (by omega) hs.2.1.2;have hfr:∀(book:List Zaa)(af:Bool),Ex (keyP 3 1 af) (memM (cntP s.fPeers true) (cntP s.fPeers false+Zcz s.fBook 2) s.fBans book (shP (lP c s)) (ZaT c.fShards) (updL fL 1 ZlY)) () (memM (cntP s.fPeers true) (cntP s.fPeers false+Zcz s.fBook 2) s.fBans book (shP (lP c s)) (ZaT c.fShards) fL) 1 (bn af):=
  fun book af=>Ztg (k:=1) b.1 b.2 (Zmr c s) (by omega) rfl af
 have hal:=ZIR s.fBook (newE x) c.fMaxBook;by_cases d:(addS s.fBook (newE x) c.fMaxBook).2=0
 .rw[if_pos d]at g;have hc2:=ZCs s.fBook (newE x) c.fMaxBook (by show (1:Int)≠2;decide) d;refine⟨Zef 0,_,_,s.fBans,(addS s.fBook (newE x) c.fMaxBook).1,lP c s,s.fPeers,10,?_,by omega,g,hR.peers,Zlj hs.2.2.1.2 _ _,h,j,rfl,by rw[hc2],by omega,by omega,by omega,Nat.zero_le _⟩;unfold ZzX;refine hlk.seq (s2:=4) (c2:=1) ?_ (by omega) rfl;refine kP.seq (s2:=3) (c2:=1) ?_ (by omega) rfl;show Ex (if(addS s.fBook (newE x) c.fMaxBook).2=0 then _ else _) _ _ _ _ _;rw[if_pos d];refine(ZnA b.1 b.2 (Zmr c s) _ true).seq (s2:=2) (c2:=0) ?_ (by omega) rfl;exact(hfr _ false).seq (.ret _ _ 0) (by omega) rfl
 .rw[if_neg d]at g;refine⟨Zef (addS s.fBook (newE x) c.fMaxBook).2,_,_,s.fBans,s.fBook,lP c s,s.fPeers,10,?_,by omega,g,hR.peers,Zlj hs.2.2.1.2 _ _,h,j,rfl,rfl,by omega,by omega,by omega,Nat.zero_le _⟩;unfold ZzX;refine hlk.seq (s2:=4) (c2:=1) ?_ (by omega) rfl;refine kP.seq (s2:=3) (c2:=1) ?_ (by omega) rfl;show Ex (if(addS s.fBook (newE x) c.fMaxBook).2=0 then _ else _) _ _ _ _ _;rw[if_neg d];exact(hfr _ true).seq (.ret _ _ 0) (by omega) rfl
end
def sh0:Zat:=⟨0,[0]⟩
def fL1:Nat->Zat:=updL fL 0 sh0
def fL2:Nat->Zat:=updL fL1 1 ZlY
def fL3(i:Nat):Nat->Zat:=updL fL2 (2+i) ZlY
theorem ZDn(i:Nat):fL2 (2+i)=ZhK:=by
 unfold fL2 fL1;rw[ZxP _ _ (by omega),ZxP _ _ (by omega)];rfl
section
variable {c:Zau} {s:Zas} {x:ZaB} (hx:x.ok) (hs:s.ok) (hR:RtS c s) (aQ:s.fBans.length<=20/\s.fBook.length<=20/\s.fPeers.length<=20)
include hx hs hR aQ
theorem ZHy{q:Pr (Zaq×Bool)}{r:Zaq×Bool}{ah out:Int}{bans:List Zaf}{book:List Zaa}{ps:PPs}(az:ps.length=ZaT c.fShards){st cn:Nat}
  (g:Ex q (mP c s (fL3 (iP c x))) r (memM ah out bans book (shP ps) (ZaT c.fShards) (fL3 (iP c x))) st cn) (h:cn+bn r.2=1) :
  Ex ((keyP 2 0 false).bind fun _=>(keyP 1 1 false).bind fun _=>(keyP 1 (2+(iP c x:Int)) false).bind fun _=>q.bind fun r=>ZDl (iP c x:Int) r) (mP c s fL) r.1 (memM ah out bans book (shP ps) (ZaT c.fShards) fL) (st+6) 1:=by
 have _u:=hs;have _v:=hR;have _w:=aQ;have b:=ZgD c.fShards;have hi:=(Zvu (c:=c) hx).1;have ej:(shP ps).length=ZaT c.fShards:=by rw[ZoI];exact az
 have j:Ex (ZDl (iP c x:Int) r) (memM ah out bans book (shP ps) (ZaT c.fShards) (fL3 (iP c x))) r.1 (memM ah out bans book (shP ps) (ZaT c.fShards) fL) 3 (bn r.2):=by
  unfold ZDl;rw[ZLp];have d:=ZHB (ah:=ah) (out:=out) (bans:=bans) (book:=book) (f:=fL1) b.1 b.2 ej rfl false;rw[show updL fL1 0 ZhK=fL from ZuF (f:=fL) rfl sh0]at d;have o:Ex (keyP 3 1 false) (memM ah out bans book (shP ps) (ZaT c.fShards) fL2) () (memM ah out bans book (shP ps) (ZaT c.fShards) fL1) 1 (bn false):=Ztg (k:=1) b.1 b.2 ej (by omega) rfl false;have p:=Ztg (ah:=ah) (out:=out) (bans:=bans) (book:=book) (k:=2+iP c x) (f:=fL2) b.1 b.2 ej (by omega) (ZDn _) r.2;refine p.seq (s2:=2) (c2:=0) ?_ (by omega) (Nat.add_zero _);refine o.seq (s2:=1) (c2:=0) ?_ (by omega) rfl;exact d.seq (.ret _ _ 0) (by omega) rfl
 have t:Ex (keyP 2 0 false) (mP c s fL) () (mP c s fL1) 1 0:=ZDJ (f:=fL) b.1 b.2 (Zmr c s) rfl false;have u:Ex (keyP 1 1 false) (mP c s fL1) () (mP c s fL2) 1 0:=Zwr (k:=1) (f:=fL1) b.1 b.2 (Zmr c s) (by omega) rfl false;have v:Ex (keyP 1 (2+(iP c x:Int)) false) (mP c s fL2) () (mP c s (fL3 (iP c x))) 1 0:=by
  rw[ZLp];exact Zwr (k:=2+iP c x) (f:=fL2) b.1 b.2 (Zmr c s) (by omega) (ZDn _) false
 refine t.seq (s2:=st+5) (c2:=1) ?_ (by omega) rfl;refine u.seq (s2:=st+4) (c2:=1) ?_ (by omega) rfl;refine v.seq (s2:=st+3) (c2:=1) ?_ (by omega) rfl;exact g.seq j (by omega) h
theorem ZtP{r:Zaq×Bool}{ah out:Int}{book:List Zaa}{ps:PPs}{peers:Prs}{st cn:Nat}(az:ps.length=ZaT c.fShards)
  (b:Ex (resP (iP c x:Int) c x) (mP c s (fL3 (iP c x))) r (memM ah out s.fBans book (shP ps) (ZaT c.fShards) (fL3 (iP c x))) st cn) (d:cn+bn r.2=1) (cj:st<=380)
  (g:ZbE c s x=some (⟨s.fBans,book,peers⟩,r.1)) (h:StrP peers) (j:((ps.map (·.1)).flatten).Perm peers) (o:∀y∈ps,(y.1++y.2).length<=1000) (p:ah=cntP peers true) (q:out=cntP peers false+Zcz book 2) (t:book.length<=1000) (u:peers.length<=1000) (jc:r.1.fPeers.length<=1000):ZCy c s x (mP c s fL) (ZuO c x):=by
 have v:=ZgD c.fShards;obtain⟨hi,ii⟩:=Zvu (c:=c) hx;have b8:=ZHy hx hs hR aQ az b d;refine⟨r.1,_,_,s.fBans,book,ps,peers,st+6,?_,by omega,g,h,j,by omega,o,p,q,by omega,t,u,jc⟩;unfold ZuO;rw[ii];exact b8
theorem ZHY:∀p∈bP c s x,p.ok:=fun p hp=>by
 have _u:=hx
 have _v:=hR
 have _w:=aQ
 exact hs.2.2.1.2 p (Zyj hp)
theorem ZFf(D:ZiQ x=true)(E:x.fKind=4):ZCy c s x (mP c s fL) (ZuO c x):=by
 have g:=ZgD c.fShards;obtain⟨hi,ii⟩:=Zvu (c:=c) hx;obtain⟨J,p⟩:=Zsi (c:=c) aQ.2.2;have eN:(lP c s).length=ZaT c.fShards:=Ztl _ _ _ _;have b:=ZCi hx hs hR aQ D E (c:=c) (s:=s);have dJ:=ZtX hs ⟨aQ.2.1,aQ.2.2⟩;have hlt:=ZrP s.fBook x.fEnd;have K:=ZLq c s x;have kP:Ex (ZjW ⟨4,0,0⟩) (mP c s (fL3 (iP c x))) ⟨0,ZlO,[],s.fBook⟩ (mP c s (fL3 (iP c x))) 1 0:=Zsa g.1 g.2 (Zmr c s) (by omega) hs.2.1.2;have ja:Ex (ZjW ⟨3,0,0⟩) (mP c s (fL3 (iP c x))) ⟨0,ZlO,s.fBans,[]⟩ (mP c s (fL3 (iP c x))) 1 0:=Zws g.1 g.2 (Zmr c s) (by omega) hs.1.2;have bL:∀{r:Zaq×Bool}{m:ZaC}{st cn:Nat},Ex (if ZiO s.fBook x.fEnd<0 then .ret (Zef 6,true)else if(entA s.fBook x.fEnd).fState=2 then ZBJ (iP c x:Int) c x s.fBook (entA s.fBook x.fEnd)else .ret (Zef 6,true)) (mP c s (fL3 (iP c x))) r m st cn->Ex (resP (iP c x:Int) c x) (mP c s (fL3 (iP c x))) r m (st+1) cn:=fun h=>by
  unfold resP;exact kP.seq h (by omega) (Nat.zero_add _)
 unfold Zfv at b;rw[Zsf _ _ (by unfold maxLen;omega),ZaK,Zam]at b;by_cases o:ZiO s.fBook x.fEnd<0
 .rw[if_pos o,no35,ZaK]at b;refine ZtP hx hs hR aQ eN (bL (st:=0) (cn:=0) (by rw[if_pos o];exact .ret (Zef 6,true) _ 0)) rfl (by omega) b hR.peers (Zlj hs.2.2.1.2 _ _) p rfl rfl (by omega) (by omega) (Nat.zero_le _)
 have hf0:0<=ZiO s.fBook x.fEnd:=by omega
 have ee:s.fBook.getD (ZiO s.fBook x.fEnd).toNat Zaa.d=entA s.fBook x.fEnd:=rfl;rw[if_neg o,Zax ⟨hf0,hlt⟩,ee]at b;by_cases j:(entA s.fBook x.fEnd).fState=2;rotate_left
 .have v:((entA s.fBook x.fEnd).fState != 2)=true:=by rw[bne_iff_ne];exact j
  rw[v,cond_true,no35,ZaK]at b;refine ZtP hx hs hR aQ eN (bL (st:=0) (cn:=0) (by rw[if_neg o,if_neg j];exact .ret (Zef 6,true) _ 0)) rfl (by omega) b hR.peers (Zlj hs.2.2.1.2 _ _) p rfl rfl (by omega) (by omega) (Nat.zero_le _)
 have v:((entA s.fBook x.fEnd).fState != 2)=false:=by rw[j];rfl
 have hend:(entA s.fBook x.fEnd).fEnd=x.fEnd:=(ZDr hf0).1;rw[v,cond_false,(Zzg s.fBans x.fEnd.fAddr x.fNow (by unfold maxLen;omega) hs.1.2 hx.2.1.1).2,ZaK,(ZBK c _ x.fNow x.fNum).2]at b
 -- the entry is turned,and one flies less
 have gT:∀(e:Zaa),e.fEnd=x.fEnd->e.fState=1->Ex (Zxs s.fBook e) (mP c s (fL3 (iP c x))) () (memM (cntP s.fPeers true) (cntP s.fPeers false+Zcz (setS s.fBook e) 2) s.fBans (setS s.fBook e) (shP (lP c s)) (ZaT c.fShards) (fL3 (iP c x))) 3 1:=fun e he L=>by
  have y:=ZqI (l:=s.fBook) (e:=e) (by rw[he];exact hf0);rw[he]at y;have i1:is2 (entA s.fBook x.fEnd)=1:=if_pos j;have i2:is2 e=0:=if_neg (by omega);have A:=ZxN (ah:=cntP s.fPeers true) (out:=cntP s.fPeers false+Zcz s.fBook 2) (bans:=s.fBans) (book:=setS s.fBook e) (f:=fL3 (iP c x)) g.1 g.2 (Zmr c s) (by omega) (-1) (by omega) true;rw[show cntP s.fPeers false+Zcz s.fBook 2 + -1=cntP s.fPeers false+Zcz (setS s.fBook e) 2 by omega]at A;unfold Zxs Zrz;exact(ZnA g.1 g.2 (Zmr c s) _ false).seq A (by omega) rfl
 have hbl:∀e,(setS s.fBook e).length<=1000:=fun e=>by rw[ZCF];omega
 obtain⟨F,G⟩:=ZEG c (entA s.fBook x.fEnd) x.fNow x.fNum;have gU:∀k:Int,Ex (ZAp c x s.fBook (entA s.fBook x.fEnd) k) (mP c s (fL3 (iP c x))) (⟨k,endZ,(ZqD c (entA s.fBook x.fEnd) x.fNow x.fNum).fFails,(ZqD c (entA s.fBook x.fEnd) x.fNow x.fNum).fNext,[]⟩,false) (memM (cntP s.fPeers true) (cntP s.fPeers false+Zcz (setS s.fBook (ZqD c (entA s.fBook x.fEnd) x.fNow x.fNum)) 2) s.fBans (setS s.fBook (ZqD c (entA s.fBook x.fEnd) x.fNow x.fNum)) (shP (lP c s)) (ZaT c.fShards) (fL3 (iP c x))) 3 1:=fun k=>by
  unfold ZAp;exact(gT _ (F.trans hend) G).seq (.ret _ _ 0) (by omega) rfl
 cases t:x.fGood with
 |false=>
  rw[t,Bool.not_false,cond_true,ZaK,ZuS _ _ (by omega),ZaK,cond_false]at b;refine ZtP hx hs hR aQ eN (bL (st:=3) (cn:=1) (by rw[if_neg o,if_pos j];unfold ZBJ;rw[t,if_neg (by decide)];exact gU 0)) rfl (by omega) b hR.peers (Zlj hs.2.2.1.2 _ _) p rfl rfl (hbl _) (by omega) (Nat.zero_le _)
 |true=>
  rw[t,Bool.not_true,cond_false,Zam]at b;by_cases u:ZtQ s.fBans x.fEnd.fAddr x.fNow>0
  .rw[if_pos u,ZaK,ZuS _ _ (by omega),ZaK,cond_true]at b;refine ZtP hx hs hR aQ (r:=(⟨8,endZ,(ZqD c (entA s.fBook x.fEnd) x.fNow x.fNum).fFails,(ZqD c (entA s.fBook x.fEnd) x.fNow x.fNum).fNext,[]⟩,false)) eN (bL (st:=4) (cn:=1) ?_) rfl (by omega) b hR.peers (Zlj hs.2.2.1.2 _ _) p rfl rfl (hbl _) (by omega) (Nat.zero_le _);rw[if_neg o,if_pos j];unfold ZBJ;rw[t,if_pos rfl];refine ja.seq (s2:=3) (c2:=1) ?_ (by omega) rfl;show Ex (if ZtQ s.fBans x.fEnd.fAddr x.fNow>0 then _ else _) _ _ _ _ _;rw[if_pos u];exact gU 8
  rw[if_neg u,ZpZ _ _ (by unfold maxLen;omega),ZaK,Zam]at b;have hrd:Ex (ZtZ (iP c x:Int)) (mP c s (fL3 (iP c x))) (bP c s x) (mP c s (fL3 (iP c x))) ((bP c s x).length+1) 0:=ZHz g.1 g.2 (Zmr c s) hi (ZJo hx) (ZHY hx hs hR aQ) (by omega);have hnf:=ZKT hx hs hR aQ (c:=c) (s:=s);have cX:∀{r:Zaq×Bool}{m:ZaC}{st cn:Nat},Ex (if ZkJ (bP c s x) x.fEnd>=0 then(Zxs s.fBook (stE (entA s.fBook x.fEnd) 1)).bind fun _=>.ret (Zef 7,false)else(Zrz s.fBook (ZwA (entA s.fBook x.fEnd))).bind fun _=>(ZwS (iP c x:Int) (bP c s x) (bP c s x++[Zre x])).bind fun _=>.ret (repZ,true)) (mP c s (fL3 (iP c x))) r m st cn->Ex (if ZiO s.fBook x.fEnd<0 then .ret (Zef 6,true)else if(entA s.fBook x.fEnd).fState=2 then ZBJ (iP c x:Int) c x s.fBook (entA s.fBook x.fEnd)else .ret (Zef 6,true)) (mP c s (fL3 (iP c x))) r m (st+30) cn:=fun{r m st cn} h=>by
   rw[if_neg o,if_pos j];unfold ZBJ;rw[t,if_pos rfl];refine ja.seq (s2:=st+29) (c2:=cn) ?_ (by omega) (Nat.zero_add _);show Ex (if ZtQ s.fBans x.fEnd.fAddr x.fNow>0 then _ else _) _ _ _ _ _;rw[if_neg u];unfold ZKk;exact hrd.seq h (by omega) (Nat.zero_add _)
  by_cases hp:ZkJ s.fPeers x.fEnd>=0
  .have ed:ZeF (entA s.fBook x.fEnd) 1=some (stE (entA s.fBook x.fEnd) 1):=rfl;have z:ZkJ (bP c s x) x.fEnd>=0:=by
    have:¬ZkJ (bP c s x) x.fEnd<0:=fun h=>by have:=hnf.1 h;omega
    omega
   rw[if_pos hp,ed,ZaK,ZuS _ _ (by omega),ZaK,no35,ZaK]at b;refine ZtP hx hs hR aQ (r:=(Zef 7,false)) eN (bL (cX (st:=3) (cn:=1) ?_)) rfl (by omega) b hR.peers (Zlj hs.2.2.1.2 _ _) p rfl rfl (hbl _) (by omega) (Nat.zero_le _);rw[if_pos z];exact(gT (stE (entA s.fBook x.fEnd) 1) hend rfl).seq (.ret _ _ 0) (by omega) rfl
  .have eg:ZhR (entA s.fBook x.fEnd)=some (ZwA (entA s.fBook x.fEnd)):=rfl;have en:ZgW x.fEnd false x.fNow=some (Zre x):=by unfold ZgW;rw[Zqb];rfl
   have z:¬ZkJ (bP c s x) x.fEnd>=0:=by
    have h:ZkJ (bP c s x) x.fEnd<0:=hnf.2 (by omega);omega
   have hne:∀q∈s.fPeers,q.fEnd≠(Zre x).fEnd:=ZsP.1 (show ZkJ s.fPeers x.fEnd<0 by omega);obtain⟨p1,p2⟩:=ZJG hR.peers hne;rw[if_neg hp,eg,ZaK,ZuS _ _ (by omega),ZaK,en,ZaK,ZCL _ _ (ZFu hR.peers) (by omega),ZaK]at b;have y:=ZqI (l:=s.fBook) (e:=ZwA (entA s.fBook x.fEnd)) (by show 0<=ZiO s.fBook (entA s.fBook x.fEnd).fEnd;rw[hend];exact hf0);rw[show (ZwA (entA s.fBook x.fEnd)).fEnd=x.fEnd from hend]at y;have i1:is2 (entA s.fBook x.fEnd)=1:=if_pos j;have i2:is2 (ZwA (entA s.fBook x.fEnd))=0:=if_neg (by show ¬(3:Int)=2;decide);have hl2:(mrg s.fPeers [Zre x]).length=s.fPeers.length+1:=by rw[p2.length_eq];rfl
   have hsh:(shP (lP c s)).getD (iP c x) Zad.d=⟨((bP c s x).length:Int),bP c s x++[]⟩:=ZJo hx;have B:=ZIX (ah:=cntP s.fPeers true) (out:=cntP s.fPeers false+Zcz s.fBook 2) (bans:=s.fBans) (book:=setS s.fBook (ZwA (entA s.fBook x.fEnd))) (f:=fL3 (iP c x)) g.1 g.2 (Zmr c s) hi (bP c s x) [] (bP c s x++[Zre x]) (by rw[List.append_nil];omega) (by simp;omega) hsh;rw[List.append_nil]at B;have e:=ZJL (lP c s) (iP c x) (bP c s x++[Zre x]) ((bP c s x).drop (bP c s x++[Zre x]).length);have kz:Ex (ZwS (iP c x:Int) (bP c s x) (bP c s x++[Zre x])) (memM (cntP s.fPeers true) (cntP s.fPeers false+Zcz s.fBook 2) s.fBans (setS s.fBook (ZwA (entA s.fBook x.fEnd))) (shP (lP c s)) (ZaT c.fShards) (fL3 (iP c x))) ()
     (memM (cntP s.fPeers true) (cntP s.fPeers false+Zcz s.fBook 2) s.fBans (setS s.fBook (ZwA (entA s.fBook x.fEnd))) (shP ((lP c s).set (iP c x) (bP c s x++[Zre x],(bP c s x).drop (bP c s x++[Zre x]).length))) (ZaT c.fShards) (fL3 (iP c x))) ((bP c s x++[Zre x]).length+1) 0:=by
    rw[<-e];exact B
   have hl3:(bP c s x++[Zre x]).length<=21:=by simp;omega
   have hl4:((bP c s x++[Zre x])++(bP c s x).drop (bP c s x++[Zre x]).length).length<=1000:=by simp;omega
   obtain⟨M,H⟩:=ZHW (c:=c) (s:=s) hl4 aQ.2.2 (iP c x);refine ZtP hx hs hR aQ (r:=(repZ,true)) (ah:=cntP s.fPeers true) (out:=cntP s.fPeers false+Zcz s.fBook 2) (by rw[List.length_set];exact eN) (bL (cX (st:=30) (cn:=0) ?_)) rfl (by omega) b p1 ?_ H ?_ ?_ (hbl _) (by omega) (Nat.zero_le _)
   .rw[if_neg z];unfold Zrz;refine(ZnA g.1 g.2 (Zmr c s) _ false).seq (s2:=29) (c2:=0) ?_ (by omega) rfl;exact kz.seq (.ret _ _ 0) (by omega) rfl
   .refine(Zxg hs.2.2.1.2 c.fSecret c.fShards hi _ _).1.trans ?_;have I:=(Zxg hs.2.2.1.2 c.fSecret c.fShards hi [] []).2;refine List.Perm.trans ?_ p2.symm;rw[List.append_assoc];exact List.perm_middle.trans ((I.symm).cons _)
   .rw[ZAI p2,ZAJ];show _=(0:Int)+_;omega
   .rw[ZAI p2,ZAJ];show _=(1:Int)+_+_;omega
end
end Go.Proofs.YtdjfoojllbfcgaaGreat
