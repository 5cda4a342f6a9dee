import Derived.Test.YtdjfoojllbfcgaaGreatUPlMc
import Derived.Test.YtdjfoojllbfcgaaGreatUPlU
namespace Go.Proofs.YtdjfoojllbfcgaaGreat
set_option linter.unusedVariables false
set_option linter.unusedSimpArgs false
theorem Zzq(n a b:Int):Zbu n a b=some (decide (n>=a)&&decide (n<=b)):=by
 unfold Zbu;cases decide (n>=a)<;>rfl
theorem ZwO{α:Type}{c:Bool}{x y:Option α}(h1:∃b,x=some b)(h2:∃b,y=some b):∃b,(bif c then x else y)=some b:=by
 cases c
 ·exact h2
 ·exact h1
theorem ZHk(c:ZaA):∃b,Zdq c=some b:=by
 unfold Zdq;simp only[ZbY,ZcE,Zzq,ZaS]
 repeat' first|exact⟨_,rfl⟩|apply ZwO
theorem ZBz(c:ZaA):ZbY false c=some false:=by
 simp[ZbY,ZcE,Zzq]
theorem ZAo{c:ZaA}(h:Zdq c=some true):1<=c.fShards/\c.fShards<=8:=by
 unfold Zdq at h;simp only[Zzq,ZaS,ZBz]at h;cases h1:(decide (c.fMaxIn>=0)&&decide (c.fMaxIn<=65535))with
 |false=>rw[h1]at h;simp at h
 |true=>
  rw[h1,cond_true]at h;cases h2:(decide (c.fMaxOut>=0)&&decide (c.fMaxOut<=65535))with
  |false=>rw[h2]at h;simp at h
  |true=>
   rw[h2,cond_true]at h;cases h3:(decide (c.fShards>=1)&&decide (c.fShards<=8))with
   |false=>rw[h3]at h;simp at h
   |true=>
    rw[Bool.and_eq_true,decide_eq_true_eq,decide_eq_true_eq]at h3;omega
theorem ZHl(p:Zaa)(h:p.ok):∃b,ZfL p=some b:=by
 unfold ZfL;rw[Zpn _ h.1,ZaS]
 repeat' first|exact⟨_,rfl⟩|apply ZwO
theorem ZHj(l:Prs)(hl:l.length<=1000)(ay:∀p∈l,p.ok):∃b,Zhj l=some b/\(b=true->StrP l):=by
 have dB:∀(v3:Nat)(kg:Int->Option Bool)(Q:Prop),v3<l.length->(∃b,kg ((v3+1:Nat):Int)=some b/\(b=true->Q))->∀(k i fu:Nat),v3-i=k->i<=v3->k+1<=fu ->
   ∃b,ZcD l (v3:Int) kg fu (i:Int)=some b/\(b=true->Q/\∀j,i<=j->j<v3->cmpE (l.getD j Zaa.d).fEnd (l.getD v3 Zaa.d).fEnd<0):=by
  intro v3 kg Q hv hkg k;induction k with
  |zero=>
   intro i fu hk hi hf;obtain⟨fu,rfl⟩ : ∃x,fu=x+1:=⟨fu-1,by omega⟩;have e1:Zar (v3:Int) 1=((v3+1:Nat):Int):=add1 (n:=v3+1) (by omega) (by simp only[maxLen];omega);unfold ZcD;rw[Zal,if_neg (by omega),e1];obtain⟨b,h1,h2⟩:=hkg;exact⟨b,h1,fun hb=>⟨h2 hb,fun j h3 h4=>by omega⟩⟩
  |succ k ih=>
   intro i fu hk hi hf;obtain⟨fu,rfl⟩ : ∃x,fu=x+1:=⟨fu-1,by omega⟩;have e1:Zar (i:Int) 1=((i+1:Nat):Int):=add1 (n:=i+1) (by omega) (by simp only[maxLen];omega);unfold ZcD;rw[Zal,if_pos (by omega),Zaw ⟨by omega,by omega⟩,Zaw ⟨by omega,by omega⟩,Int.toNat_natCast,Int.toNat_natCast,Zwi,ZaS,Zal,e1];by_cases h:cmpE (l.getD i Zaa.d).fEnd (l.getD v3 Zaa.d).fEnd>=0
   ·rw[if_pos h];exact⟨_,rfl,fun e=>by cases e⟩
   ·rw[if_neg h];obtain⟨b,h1,h2⟩:=ih (i+1) fu (by omega) (by omega) (by omega);refine⟨b,h1,fun hb=>⟨(h2 hb).1,fun j h3 h4=>?_⟩⟩;by_cases hj:j=i
    ·subst hj;omega
    ·exact(h2 hb).2 j (by omega) h4
 have fk:∀(k i fu:Nat),l.length-i=k->i<=l.length->k+1<=fu->∃b,ZbX l fu (i:Int)=some b/\(b=true->∀q j,i<=q->j<q->q<l.length->cmpE (l.getD j Zaa.d).fEnd (l.getD q Zaa.d).fEnd<0):=by
  intro k;induction k with
  |zero=>
   intro i fu hk hi hf;obtain⟨fu,rfl⟩ : ∃x,fu=x+1:=⟨fu-1,by omega⟩;unfold ZbX;rw[Zal,if_neg (by omega)];exact⟨_,rfl,fun _ q j h1 h2 h3=>by omega⟩
  |succ k ih=>
   intro i fu hk hi hf;obtain⟨fu,rfl⟩ : ∃x,fu=x+1:=⟨fu-1,by omega⟩;obtain⟨b1,bJ⟩:=ZHl _ (ay _ (Zgq l Zaa.d i (by omega)));unfold ZbX;rw[Zal,if_pos (by omega),Zaw ⟨by omega,by omega⟩,Int.toNat_natCast,bJ,ZaS];cases b1 with
   |false=>exact⟨_,rfl,fun e=>by cases e⟩
   |true=>
    rw[Bool.not_true,cond_false];obtain⟨b,h1,h2⟩:=dB i (ZbX l fu) _ (by omega) (ih (i+1) fu (by omega) (by omega) (by omega)) i 0 (((i:Int)-(0:Int)).toNat+2) (by omega) (by omega) (by omega);refine⟨b,h1,fun hb q j h3 h4 h5=>?_⟩;obtain⟨h6,h7⟩:=h2 hb;by_cases hq:q=i
    ·subst hq;exact h7 j (Nat.zero_le _) h4
    ·exact h6 q j (by omega) h4 h5
 obtain⟨b,h1,h2⟩:=fk l.length 0 ((((l.length:Nat):Int)-(0:Int)).toNat+2) (by omega) (by omega) (by omega);refine⟨b,h1,fun hb=>?_⟩;unfold StrP;rw[List.pairwise_iff_getElem];intro j q hj hq hlt;have:=h2 hb q j (Nat.zero_le _) hlt hq;rw[Zdf l _ j hj,Zdf l _ q hq]at this;exact ZlO.2 this
def upR(l:Prs)(e:Zac):Prop:=e.fState=3↔0<=Zui l e.fEnd/\(l.getD (Zui l e.fEnd).toNat Zaa.d).fIn=false
structure iY (c:ZaA) (s:Zas):Prop where
 conf:Zdq c=some true
 peers:StrP s.fPeers
 book:ZCT s.fBook=true
 up:∀e∈s.fBook,upR s.fPeers e
theorem ZHi(c:ZaA)(s:Zas)(hs:s.ok)(h1:s.fBans.length<=20)(h2:s.fBook.length<=20)(h3:s.fPeers.length<=20):∃b,ZfD c s=some b/\(b=true->iY c s):=by
 obtain⟨⟨_,okb⟩,⟨_,oke⟩,⟨_,okp⟩,_⟩:=hs;have c1:∀(v5:Int)(kg:Int->Zas->Option Bool)(k i fu:Nat),s.fPeers.length-i=k->i<=s.fPeers.length->k+1<=fu->∃b,Zch v5 s kg fu (i:Int)=some b:=by
  intro v5 kg k;induction k with
  |zero=>
   intro i fu hk hi hf;obtain⟨fu,rfl⟩ : ∃x,fu=x+1:=⟨fu-1,by omega⟩;unfold Zch;rw[Zal,if_neg (by omega)];exact⟨_,rfl⟩
  |succ k ih=>
   intro i fu hk hi hf;obtain⟨fu,rfl⟩ : ∃x,fu=x+1:=⟨fu-1,by omega⟩;have e1:Zar (i:Int) 1=((i+1:Nat):Int):=add1 (n:=i+1) (by omega) (by simp only[maxLen];omega);unfold Zch;rw[Zal,if_pos (by omega),Zaw ⟨by omega,by omega⟩,Int.toNat_natCast,e1,ZFm _ _ (by unfold maxLen;omega),ZaS];exact ZwO (ZwO ⟨_,rfl⟩ (ih (i+1) fu (by omega) (by omega) (by omega))) (ih (i+1) fu (by omega) (by omega) (by omega))
 have c0:∀(k i fu:Nat),s.fBook.length-i=k->i<=s.fBook.length->k+1<=fu->∃b,ZbA fu (i:Int) s=some b/\(b=true->∀j,i<=j->j<s.fBook.length->upR s.fPeers (s.fBook.getD j Zac.d)):=by
  intro k;induction k with
  |zero=>
   intro i fu hk hi hf;obtain⟨fu,rfl⟩ : ∃x,fu=x+1:=⟨fu-1,by omega⟩;unfold ZbA;rw[Zal,if_neg (by omega)];obtain⟨b,hb⟩:=c1 (i:Int) (ZbA fu) s.fPeers.length 0 1000000 (by omega) (by omega) (by omega);exact⟨b,hb,fun _ j h4 h5=>by omega⟩
  |succ k ih=>
   intro i fu hk hi hf;obtain⟨fu,rfl⟩ : ∃x,fu=x+1:=⟨fu-1,by omega⟩;have e1:Zar (i:Int) 1=((i+1:Nat):Int):=add1 (n:=i+1) (by omega) (by simp only[maxLen];omega);obtain⟨b,bJ,bw⟩:=ih (i+1) fu (by omega) (by omega) (by omega);have hlt:=ZFJ s.fPeers (s.fBook.getD i Zac.d).fEnd;have bx:∀{P:Prop},(P↔upR s.fPeers (s.fBook.getD i Zac.d))->P->b=true->∀j,i<=j->j<s.fBook.length->upR s.fPeers (s.fBook.getD j Zac.d):=fun hP hp hb j h4 h5=>by
    by_cases hj:j=i
    ·subst hj;exact hP.1 hp
    ·exact bw hb j (by omega) h5
   unfold ZbA;rw[Zal,if_pos (by omega),Zaw ⟨by omega,by omega⟩,Int.toNat_natCast,e1,ZCZ _ _ (by unfold maxLen;omega),ZaS,Zal];by_cases hf0:Zui s.fPeers (s.fBook.getD i Zac.d).fEnd>=0
   ·rw[if_pos hf0,Zaw ⟨hf0,hlt⟩];cases hq:(((s.fBook.getD i Zac.d).fState==3) == !(s.fPeers.getD (Zui s.fPeers (s.fBook.getD i Zac.d).fEnd).toNat Zaa.d).fIn)with
    |false=>exact⟨_,rfl,fun e=>by cases e⟩
    |true=>
     refine⟨b,bJ,bx Iff.rfl ?_⟩;rw[beq_iff_eq]at hq;unfold upR;rw[<-beq_iff_eq,hq];generalize (s.fPeers.getD (Zui s.fPeers (s.fBook.getD i Zac.d).fEnd).toNat Zaa.d).fIn=z;exact⟨fun h=>⟨hf0,by cases z<;>first|rfl|cases h⟩,fun h=>by rw[h.2];rfl⟩
   ·rw[if_neg hf0];cases hq:(((s.fBook.getD i Zac.d).fState==3)==false)with
    |false=>exact⟨_,rfl,fun e=>by cases e⟩
    |true=>
     refine⟨b,bJ,bx Iff.rfl ?_⟩;rw[beq_iff_eq]at hq;unfold upR;rw[<-beq_iff_eq,hq];exact⟨fun h=>(by cases h),fun h=>absurd h.1 hf0⟩
 obtain⟨b1,bJ⟩:=ZHk c;obtain⟨b2,bw,_⟩:=ZBD s.fBans (by unfold maxLen;omega) okb;obtain⟨b4,hb4,lN⟩:=ZHj s.fPeers (by omega) okp;obtain⟨b7,hb7,lO⟩:=c0 s.fBook.length 0 1000000 (by omega) (by omega) (by omega);unfold ZfD;rw[bJ,ZaS];cases b1 with
 |false=>exact⟨_,rfl,fun e=>by cases e⟩
 |true=>
  rw[Bool.not_true,cond_false,bw,ZaS];cases b2 with
  |false=>exact⟨_,rfl,fun e=>by cases e⟩
  |true=>
   rw[Bool.not_true,cond_false,Zwj _ (by unfold maxLen;omega) oke,ZaS];cases hb3:ZCT s.fBook with
   |false=>exact⟨_,rfl,fun e=>by cases e⟩
   |true=>
    rw[Bool.not_true,cond_false,hb4,ZaS];cases b4 with
    |false=>exact⟨_,rfl,fun e=>by cases e⟩
    |true=>
     rw[Bool.not_true,cond_false,ZnY _ _ (by unfold maxLen;omega),ZaS,ZsG _ (by omega) (by omega),ZaS];cases decide (((s.fBans.length:Nat):Int)>c.fMaxBans)with
     |true=>exact⟨_,rfl,fun e=>by cases e⟩
     |false=>
      rw[cond_false];cases decide (((s.fBook.length:Nat):Int)>c.fMaxBook)with
      |true=>exact⟨_,rfl,fun e=>by cases e⟩
      |false=>
       rw[cond_false];cases decide (cntP s.fPeers true>c.fMaxIn)with
       |true=>exact⟨_,rfl,fun e=>by cases e⟩
       |false=>
        rw[cond_false];cases decide (cntP s.fPeers false+Zfc s.fBook 2>c.fMaxOut)with
        |true=>exact⟨_,rfl,fun e=>by cases e⟩
        |false=>
         rw[cond_false];refine⟨b7,hb7,fun hb=>⟨bJ,lN rfl,hb3,fun e he=>?_⟩⟩;obtain⟨j,hj,rfl⟩:=List.getElem_of_mem he;have:=lO hb j (Nat.zero_le _) hj;rwa [Zdf s.fBook _ j hj]at this
theorem ZHb(s:Zas):∃b,ZfP s=some b/\(b=true->s.fBans.length<=20/\s.fBook.length<=20/\s.fPeers.length<=20):=by
 unfold ZfP;rw[Zal,Zal];by_cases h1:((s.fBans.length:Nat):Int)<=20
 ·rw[if_pos h1];by_cases h2:((s.fBook.length:Nat):Int)<=20
  ·rw[if_pos h2];exact⟨_,rfl,fun h=>by rw[decide_eq_true_eq]at h;omega⟩
  ·rw[if_neg h2];exact⟨_,rfl,fun e=>by cases e⟩
 ·rw[if_neg h1];exact⟨_,rfl,fun e=>by cases e⟩
theorem ZFK{l:Prs}{e:Zah}(h:0<=Zui l e):∃k:Nat,k<l.length/\Zui l e=(k:Int)/\(l.getD k Zaa.d).fEnd=e/\∀j,j<k->(l.getD j Zaa.d).fEnd≠e:=by
 obtain⟨k,h1,h2,⟨x,h3,h4⟩,h5⟩:=Zrr (fun x:Zaa=>decide (x.fEnd=e)) l 0 h;refine⟨k,h1,by unfold Zui;rw[h2,Nat.zero_add],?_,fun j hj=>?_⟩
 ·have:l.getD k Zaa.d=x:=by rw[List.getD_eq_getElem?_getD,h3];rfl
  rw[this];exact of_decide_eq_true h4
 ·have:=h5 j hj;obtain⟨y,h6,h7⟩:=this;have e2:l.getD j Zaa.d=y:=by rw[List.getD_eq_getElem?_getD,h6];rfl
  rw[e2];exact of_decide_eq_false h7
theorem StrP.set{l:Prs}(h:StrP l){k:Nat}(hk:k<l.length){y:Zaa}(he:y.fEnd=(l.getD k Zaa.d).fEnd):StrP (l.set k y):=by
 unfold StrP at h ⊢;rw[List.pairwise_iff_getElem]at h ⊢;intro i j hi hj hij;simp only[List.length_set]at hi hj;have hh:=ZlO.1 (h i j hi hj hij);rw[Zdf l _ k hk]at he;rw[ZlO];simp only[List.getElem_set];by_cases h1:k=i<;>by_cases h2:k=j
 ·omega
 ·subst h1;rw[if_pos rfl,if_neg h2,he];exact hh
 ·subst h2;rw[if_neg h1,if_pos rfl,he];exact hh
 ·rw[if_neg h1,if_neg h2];exact hh
theorem Zux{a b:Prs}(h:a.Perm b)(t:Bool):cntP a t=cntP b t:=by
 unfold cntP;rw[h.countP_eq]
theorem ZFT(a b:Prs)(t:Bool):cntP (a++b) t=cntP a t+cntP b t:=by
 unfold cntP;rw[List.countP_append];omega
theorem ZzS(l:List Zac)(ends:List Zah):Zfc (l.map (Zlk ends)) 2=Zfc l 2:=by
 unfold Zfc;rw[List.countP_map];congr 2;funext e;simp only[Function.comp,Zlk];split
 ·rename_i h;split
  ·simp[h]
  ·rfl
 ·rfl
theorem ZEd{l:List Zac}{ends:List Zah}(h:∀e∈l,e.fState=3->e.fEnd ∉ ends):l.map (Zlk ends)=l:=by
 have:l.map (Zlk ends)=l.map id:=by
  apply List.map_congr_left;intro e he;unfold Zlk;split
  ·rename_i h3;rw[if_neg (by simpa using h e he h3)];rfl
  ·rfl
 rw[this,List.map_id]
theorem ZCg{l:List Zac}{a b:List Zah}(h:∀e,e∈a↔e∈b):l.map (Zlk a)=l.map (Zlk b):=by
 apply List.map_congr_left;intro e _;unfold Zlk;have:a.contains e.fEnd=b.contains e.fEnd:=by
  rw[Bool.eq_iff_iff];simp[h]
 rw[this]
section
variable {l:Prs} {bm aX:Int} {n i:Nat} (hi:i < n) {e:Zah} (he:Znd e.fAddr bm aX = (i:Int))
include hi he
omit hi he in
theorem ZFu{p:Zaa}(h:p∈Zmr l bm aX i):p∈l:=(List.mem_filter.1 h).1
end
def ZAd(c:ZaA)(s:Zas)(x:Zaz)(m0:ZaD)(p:Pr Zap):Prop:=∃(r:Zap)(al out:Int)(bans:List Zab)(book:List Zac)(ps:PPs)(peers:Prs)(st:Nat),Ex p m0 r (memM al out bans book (shP ps) (Zbr c.fShards) fun _=>ZhE) st 1/\st<=390/\Zcz c s x=some (⟨bans,book,peers⟩,r)/\StrP peers/\((ps.map (·.1)).flatten).Perm peers/\ps.length<=100/\(∀y∈ps,(y.1++y.2).length<=1000)/\al=cntP peers true/\out=cntP peers false+Zfc book 2/\bans.length<=1000/\book.length<=1000/\peers.length<=1000/\r.fPeers.length<=1000
theorem Ztl{f:Nat->Zat}{k:Nat}(h:f k=ZhE)(a:Zat):updL (updL f k a) k ZhE=f:=by rw[<-h];exact ZCE f k a
theorem ZpN{al out:Int}{bans:List Zab}{book:List Zac}{sh:List Zad}{n:Nat}{f:Nat->Zat}(aT:1<=n)(aS:n<=8)(aO:sh.length=n){k:Nat}(hk:k<n+2)(hf:f k=ZhE)(ag:Bool) :
  Ex (keyP 3 (k:Int) ag) (memM al out bans book sh n (updL f k ZfU)) () (memM al out bans book sh n f) 1 (bn ag):=by
 have h:=ZET (al:=al) (out:=out) (bans:=bans) (book:=book) (f:=updL f k ZfU) aT aS aO hk [] (ZCD f k ZfU) ag;have e:updL (updL f k ZfU) k ⟨0,[]⟩=f:=Ztl hf ZfU;rwa [e]at h
theorem no35(k:Int):Zem k=some (ZiL k):=rfl
section
variable {c:ZaA} {s:Zas} {x:Zaz} (hx:x.ok) (hs:s.ok) (hR:iY c s) (aW:s.fBans.length<=20/\s.fBook.length<=20/\s.fPeers.length<=20)
def lP(c:ZaA)(s:Zas):PPs:=ps0 s.fPeers c.fSecret c.fShards (Zbr c.fShards)
def mP(c:ZaA)(s:Zas)(f:Nat->Zat):ZaD:=memM (cntP s.fPeers true) (cntP s.fPeers false+Zfc s.fBook 2) s.fBans s.fBook (shP (lP c s)) (Zbr c.fShards) f
def fL:Nat->Zat:=fun _=>ZhE
theorem Zmt(c:ZaA)(s:Zas):(shP (lP c s)).length=Zbr c.fShards:=by rw[Znb];exact Zwl _ _ _ _
theorem Znt(aW:s.fPeers.length<=20):(lP c s).length<=100/\∀y∈lP c s,(y.1++y.2).length<=1000:=by
 have h8:=ZgD c.fShards;refine⟨by simp[lP,ps0];omega,fun y hy=>?_⟩;unfold lP ps0 at hy;obtain⟨k,_,rfl⟩:=List.mem_map.1 hy;have:=List.length_filter_le (Zqw c.fSecret c.fShards k) s.fPeers;simp only[List.append_nil];unfold Zmr;omega
include hx hs aW
omit aW hx in
theorem Zyu(aW:s.fBook.length<=20/\s.fPeers.length<=20):(0<=cntP s.fPeers true/\cntP s.fPeers true<=20)/\(0<=cntP s.fPeers false+Zfc s.fBook 2/\cntP s.fPeers false+Zfc s.fBook 2<=40):=by
 have _u:=hs;have h1:=Zmn s.fPeers true;have h2:=Zmn s.fPeers false;have h3:=List.countP_le_length (p:=fun x:Zac=>decide (x.fState=2)) (l:=s.fBook);have h4:0<=Zfc s.fBook 2/\Zfc s.fBook 2<=20:=by unfold Zfc;omega
 omega
omit hs aW in
theorem ZCh(hB:ZiI x=false):Zcz c s x=some (s,ZiL 1):=by
 unfold Zcz;rw[ZqM x hx,ZaS,hB,Bool.not_false,cond_true];rfl
include hR
theorem ZEN(hB:ZiI x=false):ZAd c s x (mP c s fL) Zxf:=by
 have h8:=ZgD c.fShards;obtain⟨q1,q2⟩:=Znt (c:=c) aW.2.2;have hp:Ex Zxf (mP c s fL) (ZiL 1) (mP c s fL) 390 1:=(ZEQ h8.1 h8.2 (Zmt c s) true).seq (.ret _ _ 0) (by omega) rfl;exact⟨ZiL 1,_,_,s.fBans,s.fBook,lP c s,s.fPeers,390,hp,Nat.le_refl _,ZCh hx hB,hR.peers,ZnZ hs.2.2.1.2 _ _,q1,q2,rfl,rfl,by omega,by omega,by omega,Nat.zero_le _⟩
end
section
variable {al out:Int} {bans:List Zab} {book:List Zac} {sh:List Zad} {n:Nat} {f:Nat->Zat} (aT:1<=n) (aS:n<=8) (aO:sh.length = n)
include aT aS aO
theorem ZER(hi : -1000000<=al/\al<=1000000)(b:Int)(hb : -1000000<=b/\b<=1000000)(ag:Bool):Ex (Zwy 1 b ag 1000000) (memM al out bans book sh n f) () (memM (al+b) out bans book sh n f) 2 (bn ag):=by
 have h:=ZES (al:=al) (out:=out) (bans:=bans) (book:=book) (f:=f) aT aS aO 1 (.inl rfl) (by rw[if_pos rfl];exact ZtH (by omega) (by omega)) b ag;rw[if_pos rfl,if_pos rfl,Zcx (by omega) (by omega)]at h;exact h
theorem ZCw(hi : -1000000<=out/\out<=1000000)(b:Int)(hb : -1000000<=b/\b<=1000000)(ag:Bool):Ex (Zwy 2 b ag 1000000) (memM al out bans book sh n f) () (memM al (out+b) bans book sh n f) 2 (bn ag):=by
 have h:=ZES (al:=al) (out:=out) (bans:=bans) (book:=book) (f:=f) aT aS aO 2 (.inr rfl) (by rw[if_neg (by decide)];exact ZtH (by omega) (by omega)) b ag;rw[if_neg (by decide),if_neg (by decide),Zcx (by omega) (by omega)]at h;exact h
theorem ZHV(h1:book.length<=800)(h2:∀b∈book,b.ok)(aK:List Zah):Ex (ZFP aK) (memM al out bans book sh n f) () (memM al out bans (book.map (Zlk aK)) sh n f) 2 0:=by
 unfold ZFP;exact(ZuL aT aS aO h1 h2).seq (ZyP aT aS aO _ false) (by omega) rfl
theorem ZHW(h1:book.length<=800)(h2:∀b∈book,b.ok)(hi : -1000<=al/\al<=1000)(ho : -1000<=out/\out<=1000)(aK:Prs)(hg:aK.length<=1000) :
  Ex (ZCq aK) (memM al out bans book sh n f) () (memM (al-cntP aK true) (out-cntP aK false) bans (if cntP aK false>0 then book.map (Zlk (Zlj aK))else book) sh n f) 6 0:=by
 have c1:=Zmn aK true;have c2:=Zmn aK false;have hC:∀i2:Int,Ex (ZEC aK) (memM i2 out bans book sh n f) () (memM i2 (out-cntP aK false) bans (if cntP aK false>0 then book.map (Zlk (Zlj aK))else book) sh n f) 4 0:=fun i2=>by
  unfold ZEC;by_cases h:cntP aK false>0
  ·rw[if_pos h,if_pos h];refine(ZHV aT aS aO h1 h2 _).seq (s2:=2) (c2:=0) ?_ (by omega) rfl;have:=ZCw (al:=i2) (out:=out) (bans:=bans) (book:=book.map (Zlk (Zlj aK))) (f:=f) aT aS aO (by omega) (-(cntP aK false)) (by omega) false;rw[show out + -(cntP aK false)=out-cntP aK false by omega]at this;exact this
  ·rw[if_neg h,if_neg h,show out-cntP aK false=out by omega];exact .ret _ _ _
 unfold ZCq;by_cases h:cntP aK true>0
 ·rw[if_pos h];have:=ZER (al:=al) (out:=out) (bans:=bans) (book:=book) (f:=f) aT aS aO (by omega) (-(cntP aK true)) (by omega) false;rw[show al + -(cntP aK true)=al-cntP aK true by omega]at this;exact this.seq (hC _) (by omega) rfl
 ·rw[if_neg h,Pr.bind_ret,show al-cntP aK true=al by omega];exact(hC al).more (by omega)
end
section
variable {c:ZaA} {s:Zas} {x:Zaz} (hx:x.ok) (hs:s.ok) (hR:iY c s) (aW:s.fBans.length<=20/\s.fBook.length<=20/\s.fPeers.length<=20)
include hx hs aW hR
omit hx hs hR aW in
theorem ZIx(l:Prs)(hl:l.length<=1000000):Zgg l=some (Zlj l):=by
 have hL:l.length<=maxLen:=by unfold maxLen;omega
 have aP:∀fu (i:Nat) w,i<=l.length->l.length-i<fu->w=Zlj (l.take i)->Zds l fu (i:Int) w=some (Zlj l):=by
  intro fu;induction fu with
  |zero=>intro i w _ h;omega
  |succ fu ih=>
   intro i w hi hf hw;unfold Zds;simp only[Zal];by_cases h:i<l.length
   ·have hwl:w.length<=1000000:=by rw[hw];unfold Zlj;simp;omega
    rw[if_pos (by omega),Zaw ⟨by omega,by omega⟩,add1 h hL,Zaw ⟨by simp;omega,by simp[maxLen];omega⟩];refine ih (i+1) _ (by omega) (by omega) ?_;rw[hw];unfold Zlj;rw[List.take_succ_eq_append_getElem h,List.map_append,Int.toNat_natCast,Zdf l _ i h];rfl
   ·rw[if_neg (by omega),hw];have:i=l.length:=by omega
    rw[this,List.take_length]
 exact aP _ 0 [] (by omega) (by omega) rfl
omit hx in
theorem ZIp(bans:List Zab)(bu:Zao)(hn:bu.fAddr.ok):Zgh ⟨bans,s.fBook,s.fPeers⟩ bu=some (⟨bans,s.fBook.map (Zlk (Zlj (ofP s.fPeers bu true))),ofP s.fPeers bu false⟩,((ofP s.fPeers bu true).length:Int)):=by
 have _u:=hR;have ay:∀p∈s.fPeers,p.fEnd.fAddr.ok:=fun p hp=>(hs.2.2.1.2 p hp).1.1;have h1:=ZtI s.fPeers bu true;unfold Zgh;dsimp only;rw[ZAu _ _ _ hn (by omega) ay,ZaS,ZAu _ _ _ hn (by omega) ay,ZaS,ZIx _ (by omega),ZaS,ZFn _ _ (by omega) (by simp[Zlj,maxLen];omega),ZaS]
omit hx hs hR aW in
theorem ZGN(l:Prs)(n:Zao)(t:Bool):cntP l t=cntP (ofP l n true) t+cntP (ofP l n false) t:=by
 rw[<-ZFT];apply Zux;unfold ofP;have h:=Zuj (fun p:Zaa=>hasS n p.fEnd.fAddr==true) (fun p=>hasS n p.fEnd.fAddr==false) l fun p _ h=>by
  rw[beq_iff_eq]at h;rw[h];rfl
 have e:(l.filter fun p=>(hasS n p.fEnd.fAddr==true)||(hasS n p.fEnd.fAddr==false))=l:=by
  rw[List.filter_eq_self];intro p _;cases hasS n p.fEnd.fAddr<;>rfl
 rw[e]at h;exact h.symm
end
section
variable {aV:List Zae} (hL:aV.length<=900000) {a:Nat} (ha:a<=aV.length)
include hL ha
end
structure Gl (l:List Zae):Prop where
 len:l.length<=800
 val:∀v∈l,v.ok/\v.fBans.length<=800/\v.fBook.length<=800
theorem Gl.drop{l:List Zae}(h:Gl l)(a:Nat):Gl (l.drop a):=⟨by have:=h.len;simp;omega,fun v hv=>h.val v (List.mem_of_mem_drop hv)⟩
theorem ZDu{c:Zay}{l:List Zae}{x:Zae}{g:Zan}(h:runT (Zms c) l=some (.ret x g))(hl:Gl l):x.ok/\x.fBans.length<=800/\x.fBook.length<=800:=by
 obtain⟨r,rfl,_⟩:=ZwC h;exact hl.val x (by simp)
theorem ZCL{α β:Type}{p:Pr α}{f:α->Pr β}:∀{l:List Zae}{y:β}{g:Zan},runT (p.bind f) l=some (.ret y g)->∃x g1,runT p l=some (.ret x g1)/\runT (f x) g1.fgot=some (.ret y g):=by
 induction p with
 |ret x=>intro l y g h;exact⟨x,⟨l⟩,rfl,h⟩
 |ask o k ih=>
  intro l y g h;cases l with
  |nil=>simp[Pr.bind,runT]at h
  |cons v l=>exact ih v h
 |no=>intro l y g h;simp[Pr.bind,runT]at h
theorem ZDe{part:Int}{l:List Zae}{x:List Zaa}{g:Zan}(h:runT (ZxJ part) l=some (.ret x g)):x.length+g.fgot.length<=l.length:=by
 cases l with
 |nil=>simp[ZxJ,runT,Zms,Pr.bind]at h
 |cons v l=>
  have:=ZxI part _ _ _ l x g h;simp only[List.length_cons,List.length_nil]at this ⊢;omega
section
variable {c:ZaA} {x:Zaz} (hx:x.ok) (ce:0<=c.fShards) (hs:c.fShards<=1000) {aV:List Zae} (hG:Gl aV) {a:Nat} (ha:a<=aV.length)
include ce hs hG
end
section
variable {aV:List Zae} (hG:Gl aV) {a:Nat} (ha:a<=aV.length)
include hG ha
end
def Zsw:Nat->Nat->List (List Zaa)->Pr (List (List Zaa))|0,_,w=>.ret w|k+1,i,w=>(ZxJ (i:Int)).bind fun x=>Zsw k (i+1) (w++[x])
theorem Zrb:∀(k i:Nat)(w:List (List Zaa))(l:List Zae)(x:List (List Zaa))(g:Zan),runT (Zsw k i w) l=some (.ret x g)->x.length=w.length+k/\x.flatten.length+g.fgot.length<=w.flatten.length+l.length/\∀Q:Zaa->Prop,(∀p∈w.flatten,Q p)->(∀v∈l,Q v.fPeer)->∀p∈x.flatten,Q p
 | 0,i,w,l,x,g,h=>by
  simp only[Zsw,runT,Option.some.injEq,Tout.ret.injEq]at h
  obtain⟨rfl,rfl⟩:=h
  exact⟨rfl,Nat.le_refl _,fun Q hw _=>hw⟩
 |k+1,i,w,l,x,g,h=>by
  obtain⟨y,g1,h1,h2⟩:=ZCL h
  have h3:=ZDe h1
  obtain⟨h0,h4,h5⟩:=Zrb k (i+1) (w++[y]) g1.fgot x g h2
  obtain⟨a,ha,rfl⟩:=ZCN _ _ _ _ h1
  simp only at h3 h4
  refine⟨by rw[h0];simp;omega,by simp only[List.flatten_append,List.length_append,List.flatten_cons,List.flatten_nil,List.append_nil]at h4;omega,fun Q hw hl=>h5 Q (fun p hp=>?_) (fun v hv=>hl v (List.mem_of_mem_drop hv))⟩
  simp only[List.flatten_append,List.flatten_cons,List.flatten_nil,List.append_nil,List.mem_append]at hp
  rcases hp with hp|hp
  ·exact hw p hp
  ·exact ZFq h1 hl p hp
theorem Zvm(c:ZaA)(x:Zaz)(ce:0<=c.fShards)(hs:c.fShards<=1000)(l:List Zae)(hl:l.length<=800):Zga ⟨c,x⟩ ⟨l⟩=runT (Zsw c.fShards.toNat 0 []) l:=by
 obtain⟨n,hn⟩ : ∃n:Nat,c.fShards=(n:Int):=⟨c.fShards.toNat,by omega⟩;have aP:∀(k i fu:Nat)(w:List (List Zaa))(l:List Zae),n-i=k->i<=n->k+1<=fu->w.length=i->l.length<=800 ->
   Zdk fu (n:Int) (i:Int) (w++List.replicate k []) ⟨l⟩=runT (Zsw k i w) l:=by
  intro k;induction k with
  |zero=>
   intro i fu w l hk hi hf hw hl;obtain⟨fu,rfl⟩ : ∃x,fu=x+1:=⟨fu-1,by omega⟩;unfold Zdk;rw[Zal,if_neg (by omega)];simp[Zsw,runT]
  |succ k ih=>
   intro i fu w l hk hi hf hw hl;obtain⟨fu,rfl⟩ : ∃x,fu=x+1:=⟨fu-1,by omega⟩;unfold Zdk Zsw;have e1:Zar (i:Int) 1=((i+1:Nat):Int):=add1 (n:=i+1) (by omega) (by simp only[maxLen];omega);rw[Zal,if_pos (by omega),ZGk _ _ (by omega)];refine ZbH (fun y a ha h=>?_) (fun _=>rfl);dsimp only;have es:(w++List.replicate (k+1) []).set (i:Int).toNat y=w++[y]++List.replicate k []:=by
    rw[Int.toNat_natCast,<-hw,List.replicate_succ,List.set_append_right _ _ (Nat.le_refl _)];simp
   rw[Zaw ⟨by omega,by simp;omega⟩,e1,es];exact ih (i+1) fu (w++[y]) (l.drop a) (by omega) (by omega) (by omega) (by simp;omega) (by simp;omega)
 unfold Zga;simp only[hn,Int.toNat_natCast];rw[Zaw ⟨by omega,by omega,by omega,by omega⟩];have:=aP n 0 (((n:Int)-(0:Int)).toNat+2) [] l (by omega) (by omega) (by omega) rfl hl;rw[List.nil_append]at this;exact this
def Zxk(l:List Zab)(a:Zag)(aj:Int):Int:=(ZiF l a aj).getD 0
theorem Zxj(l:List Zab)(a:Zag)(aj:Int)(hl:l.length<=maxLen)(ay:∀b∈l,b.ok)(ha:a.ok):ZiF l a aj=some (Zxk l a aj)/\ZfM l a aj=some (Zxk l a aj):=by
 obtain⟨r,u1,u2⟩:=ZEX l a aj hl ay ha;obtain⟨s,u3,u4⟩:=Zzc l a aj hl ay ha;have hrs:r=s:=ZBR u2 u4 fun b=>Iff.rfl;subst hrs;unfold Zxk;rw[u1,u3];exact⟨rfl,rfl⟩
theorem ZwH(i j:Nat)(h:i+j<=10000000):IntKind.wrap .i64 (Int.fdiv (IntKind.wrap .u64 (Zar (i:Int) (j:Int))) (2 ^ (min (1:Int).toNat (IntKind.bits .u64))))=(((i+j) / 2:Nat):Int):=by
 have e1:Zar (i:Int) (j:Int)=((i+j:Nat):Int):=by rw[Zcx (by omega) (by omega)];omega
 have e2:IntKind.wrap .u64 ((i+j:Nat):Int)=((i+j:Nat):Int):=by
  simp only[IntKind.wrap,IntKind.bits,IntKind.signed];simp;omega
 have e3:(2:Int) ^ (min (1:Int).toNat (IntKind.bits .u64))=2:=rfl;rw[e1,e2,e3,Int.fdiv_eq_ediv_of_nonneg _ (by omega),ZlB (by omega) (by omega)];omega
theorem ZAF{x y z:Zaa}(h1:ltP z x=true)(h2:ltP z y=false):ltP y x=true:=by
 cases h:ltP y x with
 |true=>rfl
 |false=>rw[ZlN h2 h]at h1;cases h1
theorem ZHs(x:Zaa):ltP x x=false:=by rw[ZsB,Zuy.2 rfl];omega
theorem Zna{Y:Prs}(h:SrtP Y){i j:Nat}(hi:i<=j)(hj:j<Y.length):ltP (Y.getD j Zaa.d) (Y.getD i Zaa.d)=false:=by
 by_cases e:i=j
 ·rw[e];exact ZHs _
 ·rw[Zdf Y _ j hj,Zdf Y _ i (by omega)];exact List.pairwise_iff_getElem.1 h i j (by omega) hj (by omega)
theorem ZsQ{Y:Prs}{k:Nat}{y:Zaa}(h:y∈Y.take k):∃i,i<k/\i<Y.length/\y=Y.getD i Zaa.d:=by
 obtain⟨i,hi,rfl⟩:=List.getElem_of_mem h;rw[List.length_take]at hi;exact⟨i,by omega,by omega,by rw[Zdf Y _ i (by omega),List.getElem_take]⟩
theorem Ztf{Y:Prs}{k:Nat}{y:Zaa}(h:y∈Y.drop k):∃i,k<=i/\i<Y.length/\y=Y.getD i Zaa.d:=by
 obtain⟨i,hi,rfl⟩:=List.getElem_of_mem h;rw[List.length_drop]at hi;exact⟨k+i,by omega,by omega,by rw[Zdf Y _ (k+i) (by omega),List.getElem_drop]⟩
theorem ZAP{P Y Q:Prs}{i k:Nat}(hk:k=P.length+i)(hi:i<Y.length):(P++(Y++Q)).getD k Zaa.d=Y.getD i Zaa.d:=by
 have:=Zee Y Zaa.d i hi;have e:P++(Y++Q)=(P++Y.take i)++Y.getD i Zaa.d :: (Y.drop (i+1)++Q):=by
  rw[List.append_assoc,<-List.cons_append,<-this,<-List.append_assoc (Y.take i),List.take_append_drop]
 exact Zqx e (by simp;omega)
theorem mv1(P R:Prs)(x:Zaa)(v11:Int)(k:Int->Int->Prs->Option Prs):∀(Y2 Y1:Prs)(fu:Nat),Y2.length+1<=fu->P.length+Y1.length+Y2.length+R.length<=900000 ->
  Zbf (P.length:Int) ((P.length+Y1.length+Y2.length+1:Nat):Int) v11 k fu ((P.length+Y1.length:Nat):Int) (P++(Y1++(x :: (Y2++R))))=some (P++(Y1++(Y2++(x :: R)))):=by
 intro Y2;induction Y2 with
 |nil=>
  intro Y1 fu hf hb;obtain⟨fu,rfl⟩ : ∃x,fu=x+1:=⟨fu-1,by omega⟩;unfold Zbf;simp only[List.length_nil,Nat.add_zero];rw[Zal,if_neg (by rw[ZdK (by omega) (by omega)];omega)];rfl
 |cons y Y2 ih=>
  intro Y1 fu hf hb;obtain⟨fu,rfl⟩ : ∃x,fu=x+1:=⟨fu-1,by omega⟩;simp only[List.length_cons]at hf hb ⊢;have e1:Zar ((P.length+Y1.length:Nat):Int) 1=((P.length+Y1.length+1:Nat):Int):=by rw[Zcx (by omega) (by omega)];omega
  have hl:(P++(Y1++(x :: (y :: Y2++R)))).length=P.length+Y1.length+Y2.length+R.length+2:=by simp;omega
  unfold Zbf;rw[Zal,if_pos (by rw[ZdK (by omega) (by omega)];omega),e1,Zaw (by rw[hl];omega),Zaw (by rw[hl];omega)];simp only[Int.toNat_natCast];have g1:(P++(Y1++(x :: (y :: Y2++R)))).getD (P.length+Y1.length+1) Zaa.d=y:=Zqx (L:=P++(Y1++[x])) (R:=Y2++R) (by simp) (by simp;omega);have g2:(P++(Y1++(x :: (y :: Y2++R)))).getD (P.length+Y1.length) Zaa.d=x:=Zqx (L:=P++Y1) (R:=y :: (Y2++R)) (by simp) (by simp);have s1:(P++(Y1++(x :: (y :: Y2++R)))).set (P.length+Y1.length) y=P++(Y1++(y :: (y :: Y2++R))):=by
   rw[Zsz (L:=P++Y1) (x:=x) (R:=y :: (Y2++R)) (by simp) (by simp)];simp
  have s2:(P++(Y1++(y :: (y :: Y2++R)))).set (P.length+Y1.length+1) x=P++(Y1++(y :: (x :: (Y2++R)))):=by
   rw[Zsz (L:=P++(Y1++[y])) (x:=y) (R:=Y2++R) (by simp) (by simp;omega)];simp
  rw[g1,g2,s1,s2];have:=ih (Y1++[y]) fu (by omega) (by simp only[List.length_append,List.length_singleton];omega);simp only[List.length_append,List.length_singleton,List.append_assoc,List.singleton_append]at this;have x1:P.length+(Y1.length+1)+Y2.length+1=P.length+Y1.length+(Y2.length+1)+1:=by omega
  have x2:P.length+(Y1.length+1)=P.length+Y1.length+1:=by omega
  rw[x1,x2]at this;exact this
theorem bs1(P Y Q:Prs)(x:Zaa)(hs:SrtP Y)(hb:P.length+Y.length+Q.length<=800000):∀(s lo hi fu:Nat),hi-lo<=s->lo<=hi->hi<=Y.length->s+1<=fu->(∀y∈Y.take lo,ltP y x=true)->(∀y∈Y.drop hi,ltP y x=false) ->
  ZaH (P.length:Int) fu ((P.length+1+lo:Nat):Int) ((P.length+1+hi:Nat):Int) (P++(x :: (Y++Q)))=some (P++(mrg [x] Y++Q)):=by
 intro s;have bx:∀(lo hi fu:Nat),lo=hi->hi<=Y.length->(∀y∈Y.take lo,ltP y x=true)->(∀y∈Y.drop hi,ltP y x=false) ->
   ZaH (P.length:Int) (fu+1) ((P.length+1+lo:Nat):Int) ((P.length+1+hi:Nat):Int) (P++(x :: (Y++Q)))=some (P++(mrg [x] Y++Q)):=by
  intro lo hi fu e hh h1 h2;subst e;unfold ZaH;rw[Zal,if_neg (by omega)];have ho:=ZHn h1 h2;rw[List.take_append_drop]at ho;have:=mv1 P (Y.drop lo++Q) x ((P.length+1+lo:Nat):Int) (ZaH (P.length:Int) fu) (Y.take lo) [] 1000000 (by simp;omega) (by simp;omega);simp only[List.length_take,Nat.min_eq_left hh,List.length_nil,Nat.add_zero,List.nil_append]at this;rw[<-List.append_assoc (Y.take lo),List.take_append_drop,show P.length+lo+1=P.length+1+lo by omega]at this;rw[this,ho];simp
 induction s with
 |zero=>
  intro lo hi fu h0 h1 h2 hf h3 h4;obtain⟨fu,rfl⟩ : ∃x,fu=x+1:=⟨fu-1,by omega⟩;exact bx lo hi fu (by omega) h2 h3 h4
 |succ s ih=>
  intro lo hi fu h0 h1 h2 hf h3 h4;obtain⟨fu,rfl⟩ : ∃x,fu=x+1:=⟨fu-1,by omega⟩;by_cases e:lo=hi
  ·exact bx lo hi fu e h2 h3 h4
  ·have hm:(P.length+1+lo+(P.length+1+hi)) / 2=P.length+1+(lo+hi) / 2:=by omega
   have ht:(lo+hi) / 2<Y.length:=by omega
   have hl:(P++(x :: (Y++Q))).length=P.length+1+Y.length+Q.length:=by simp;omega
   unfold ZaH;rw[Zal,if_pos (by omega),ZwH _ _ (by omega),hm,Zaw (by rw[hl];omega),Zaw (by rw[hl];omega)];simp only[Int.toNat_natCast];have g1:(P++(x :: (Y++Q))).getD (P.length+1+(lo+hi) / 2) Zaa.d=Y.getD ((lo+hi) / 2) Zaa.d:=by
    have:=ZAP (P:=P++[x]) (Y:=Y) (Q:=Q) (i:=(lo+hi) / 2) (k:=P.length+1+(lo+hi) / 2) (by simp) ht;simpa using this
   rw[g1,ZDJ,ZsU,ZaS,Zal];have e1:Zar ((P.length+1+(lo+hi) / 2:Nat):Int) 1=((P.length+1+((lo+hi) / 2+1):Nat):Int):=by rw[Zcx (by omega) (by omega)];omega
   by_cases hc:cmpE (Y.getD ((lo+hi) / 2) Zaa.d).fEnd x.fEnd<0
   ·rw[if_pos hc,e1];refine ih _ _ fu (by omega) (by omega) h2 (by omega) (fun y hy=>?_) h4;obtain⟨i,i1,i2,rfl⟩:=ZsQ hy;exact ZAF (ZlO.2 hc) (Zna hs (by omega) ht)
   ·rw[if_neg hc];refine ih _ _ fu (by omega) (by omega) (by omega) (by omega) h3 (fun y hy=>?_);obtain⟨i,i1,i2,rfl⟩:=Ztf hy;exact ZlN (Zna hs i1 i2) (ZsB.2 hc)
theorem mv2(P Q:Prs)(y:Zaa)(a2 v15:Int)(k:Int->Int->Prs->Option Prs):∀(n:Nat)(T U:Prs)(fu:Nat),T.length=n->n+1<=fu->P.length+T.length+U.length+Q.length<=900000 ->
  Zbe a2 (P.length:Int) v15 k fu ((P.length+n:Nat):Int) (P++(T++(y :: (U++Q))))=some (P++(y :: (T++(U++Q)))):=by
 intro n;induction n with
 |zero=>
  intro T U fu h1 hf hb;obtain⟨fu,rfl⟩ : ∃x,fu=x+1:=⟨fu-1,by omega⟩;obtain rfl:=List.eq_nil_of_length_eq_zero h1;unfold Zbe;rw[Zal,if_neg (by omega)];rfl
 |succ n ih=>
  intro T U fu h1 hf hb;obtain⟨fu,rfl⟩ : ∃x,fu=x+1:=⟨fu-1,by omega⟩;obtain⟨T,s,rfl⟩:=snoc T (by omega);have hT:T.length=n:=by simpa using h1
  simp only[List.length_append,List.length_singleton]at hb;have e1:ZaV ((P.length+(n+1):Nat):Int) 1=((P.length+n:Nat):Int):=by rw[ZdK (by omega) (by omega)];omega
  have hl:(P++(T++[s]++(y :: (U++Q)))).length=P.length+(n+1)+1+U.length+Q.length:=by simp;omega
  unfold Zbe;rw[Zal,if_pos (by omega),e1,Zaw (by rw[hl];omega),Zaw (by rw[hl];omega)];simp only[Int.toNat_natCast];have g1:(P++(T++[s]++(y :: (U++Q)))).getD (P.length+(n+1)) Zaa.d=y:=Zqx (L:=P++(T++[s])) (R:=U++Q) (by simp) (by simp;omega);have g2:(P++(T++[s]++(y :: (U++Q)))).getD (P.length+n) Zaa.d=s:=Zqx (L:=P++T) (R:=y :: (U++Q)) (by simp) (by simp;omega);have s1:(P++(T++[s]++(y :: (U++Q)))).set (P.length+(n+1)) s=P++(T++(s :: (s :: (U++Q)))):=by
   rw[Zsz (L:=P++(T++[s])) (x:=y) (R:=U++Q) (by simp) (by simp;omega)];simp
  have s2:(P++(T++(s :: (s :: (U++Q))))).set (P.length+n) y=P++(T++(y :: (s :: U++Q))):=by
   rw[Zsz (L:=P++T) (x:=s) (R:=s :: (U++Q)) (by simp) (by simp;omega)];simp
  rw[g1,g2,s1,s2,ih T (s :: U) fu hT (by omega) (by simp only[List.length_cons];omega)];simp
theorem bs2(P X Q:Prs)(y:Zaa)(hs:SrtP X)(hb:P.length+X.length+Q.length<=800000):∀(s lo hi fu:Nat),hi-lo<=s->lo<=hi->hi<=X.length->s+1<=fu->(∀x∈X.take lo,ltP y x=false)->(∀x∈X.drop hi,ltP y x=true) ->
  ZaG ((P.length+X.length:Nat):Int) fu ((P.length+lo:Nat):Int) ((P.length+hi:Nat):Int) (P++(X++(y :: Q)))=some (P++(mrg X [y]++Q)):=by
 intro s;have bx:∀(lo hi fu:Nat),lo=hi->hi<=X.length->(∀x∈X.take lo,ltP y x=false)->(∀x∈X.drop hi,ltP y x=true) ->
   ZaG ((P.length+X.length:Nat):Int) (fu+1) ((P.length+lo:Nat):Int) ((P.length+hi:Nat):Int) (P++(X++(y :: Q)))=some (P++(mrg X [y]++Q)):=by
  intro lo hi fu e hh h1 h2;subst e;unfold ZaG;rw[Zal,if_neg (by omega)];have ho:=Zwx h1 h2;rw[List.take_append_drop]at ho;have:=mv2 (P++X.take lo) Q y ((P.length+X.length:Nat):Int) ((P.length+lo:Nat):Int) (ZaG ((P.length+X.length:Nat):Int) fu) (X.length-lo) (X.drop lo) [] ((((P.length+X.length:Nat):Int)-((P.length+lo:Nat):Int)).toNat+2) (by simp) (by omega) (by simp;omega);simp only[List.length_append,List.length_take,Nat.min_eq_left hh,List.nil_append,List.append_assoc]at this;rw[<-List.append_assoc (X.take lo) (X.drop lo),List.take_append_drop,show P.length+lo+(X.length-lo)=P.length+X.length by omega]at this;rw[this,ho];simp
 induction s with
 |zero=>
  intro lo hi fu h0 h1 h2 hf h3 h4;obtain⟨fu,rfl⟩ : ∃x,fu=x+1:=⟨fu-1,by omega⟩;exact bx lo hi fu (by omega) h2 h3 h4
 |succ s ih=>
  intro lo hi fu h0 h1 h2 hf h3 h4;obtain⟨fu,rfl⟩ : ∃x,fu=x+1:=⟨fu-1,by omega⟩;by_cases e:lo=hi
  ·exact bx lo hi fu e h2 h3 h4
  ·have hm:(P.length+lo+(P.length+hi)) / 2=P.length+(lo+hi) / 2:=by omega
   have ht:(lo+hi) / 2<X.length:=by omega
   have hl:(P++(X++(y :: Q))).length=P.length+X.length+1+Q.length:=by simp;omega
   unfold ZaG;rw[Zal,if_pos (by omega),ZwH _ _ (by omega),hm,Zaw (by rw[hl];omega),Zaw (by rw[hl];omega)];simp only[Int.toNat_natCast];have g1:(P++(X++(y :: Q))).getD (P.length+(lo+hi) / 2) Zaa.d=X.getD ((lo+hi) / 2) Zaa.d:=ZAP rfl ht;have g2:(P++(X++(y :: Q))).getD (P.length+X.length) Zaa.d=y:=Zqx (L:=P++X) (R:=Q) (by simp) (by simp);rw[g1,g2,ZsU,ZaS];have e1:Zar ((P.length+(lo+hi) / 2:Nat):Int) 1=((P.length+((lo+hi) / 2+1):Nat):Int):=by rw[Zcx (by omega) (by omega)];omega
   by_cases hc:cmpE y.fEnd (X.getD ((lo+hi) / 2) Zaa.d).fEnd<0
   ·rw[decide_eq_true hc,Bool.not_true,cond_false];refine ih _ _ fu (by omega) (by omega) (by omega) (by omega) h3 (fun x hx=>?_);obtain⟨i,i1,i2,rfl⟩:=Ztf hx;exact ZwB (ZlO.2 hc) (Zna hs i1 i2)
   ·rw[decide_eq_false hc,Bool.not_false,cond_true,e1];refine ih _ _ fu (by omega) (by omega) h2 (by omega) (fun x hx=>?_) h4;obtain⟨i,i1,i2,rfl⟩:=ZsQ hx;exact ZlN (ZsB.2 hc) (Zna hs (by omega) ht)
def Mg(gr:Prs->Int->Int->Int->Option Prs)(N:Nat):Prop:=∀(P X Y Q:Prs),0<X.length->0<Y.length->SrtP X->SrtP Y->X.length+Y.length<=N->P.length+X.length+Y.length+Q.length<=700000->gr (P++(X++(Y++Q))) (P.length:Int) ((P.length+X.length:Nat):Int) ((P.length+X.length+Y.length:Nat):Int)=some (P++(mrg X Y++Q))
theorem c7_eq{gr:Prs->Int->Int->Int->Option Prs}{N:Nat}(bv:Mg gr N)(P X Y Q:Prs)(hX:SrtP X)(hY:SrtP Y)(hN:X.length+Y.length<=N)(hb:P.length+X.length+Y.length+Q.length<=700000)(a1 a2 jM v20 fR fS:Int)(k:Int->Int->Int->Prs->Option Prs) :
  Zbd a1 a2 ((P.length+X.length+Y.length:Nat):Int) gr (P.length:Int) jM v20 fR fS ((P.length+X.length:Nat):Int) k (P++(X++(Y++Q)))=some (P++(mrg X Y++Q)):=by
 unfold Zbd;rw[Zal,Zal];by_cases h1:X.length=0
 ·rw[if_neg (by omega)];obtain rfl:=List.eq_nil_of_length_eq_zero h1;rw[Zgf];rfl
 ·rw[if_pos (by omega)];by_cases h2:Y.length=0
  ·rw[if_neg (by omega)];obtain rfl:=List.eq_nil_of_length_eq_zero h2;rw[Zjx];rfl
  ·rw[if_pos (by omega),bv P X Y Q (by omega) (by omega) hX hY hN hb];rfl
theorem c6_eq{gr:Prs->Int->Int->Int->Option Prs}{N:Nat}(bv:Mg gr N)(P X1 Y1 X2 Y2 Q:Prs)(hX1:SrtP X1)(hY1:SrtP Y1)(fo:SrtP X2)(ft:SrtP Y2)(hN1:X1.length+Y1.length<=N)(hN2:X2.length+Y2.length<=N)
  (hb:P.length+X1.length+Y1.length+X2.length+Y2.length+Q.length<=700000) (a2 jM fR fS:Int) (k:Int->Int->Int->Prs->Option Prs) :
  ZaR (P.length:Int) a2 ((P.length+X1.length+Y1.length+X2.length+Y2.length:Nat):Int) gr ((P.length+X1.length+Y1.length:Nat):Int) jM ((P.length+X1.length:Nat):Int) fR fS k ((P.length+X1.length+Y1.length+X2.length:Nat):Int) (P++(X1++(Y1++(X2++(Y2++Q))))) =
   some (P++(mrg X1 Y1++(mrg X2 Y2++Q))):=by
 have hm:=ZDq _ X1 Y1 (Nat.le_refl _);have next:Zbd (P.length:Int) a2 ((P.length+X1.length+Y1.length+X2.length+Y2.length:Nat):Int) gr ((P.length+X1.length+Y1.length:Nat):Int) jM ((P.length+X1.length:Nat):Int) fR fS ((P.length+X1.length+Y1.length+X2.length:Nat):Int) k (P++(mrg X1 Y1++(X2++(Y2++Q)))) =
   some (P++(mrg X1 Y1++(mrg X2 Y2++Q))):=by
  have:=c7_eq bv (P++mrg X1 Y1) X2 Y2 Q fo ft hN2 (by simp only[List.length_append,hm];omega) (P.length:Int) a2 jM ((P.length+X1.length:Nat):Int) fR fS k;simp only[List.length_append,hm,List.append_assoc]at this;rw[show P.length+(X1.length+Y1.length)=P.length+X1.length+Y1.length by omega]at this;exact this
 unfold ZaR;rw[Zal,Zal];by_cases h1:X1.length=0
 ·rw[if_neg (by omega)];obtain rfl:=List.eq_nil_of_length_eq_zero h1;rw[Zgf]at next ⊢
  exact next
 ·rw[if_pos (by omega)];by_cases h2:Y1.length=0
  ·rw[if_neg (by omega)];obtain rfl:=List.eq_nil_of_length_eq_zero h2;rw[Zjx]at next ⊢
   exact next
  ·rw[if_pos (by omega),bv P X1 Y1 (X2++(Y2++Q)) (by omega) (by omega) hX1 hY1 hN1 (by simp only[List.length_append];omega),ZaS];exact next
theorem SrtP.take{l:Prs}(h:SrtP l)(k:Nat):SrtP (l.take k):=List.Pairwise.sublist (List.take_sublist k l) h
theorem SrtP.drop{l:Prs}(h:SrtP l)(k:Nat):SrtP (l.drop k):=List.Pairwise.sublist (List.drop_sublist k l) h
section
variable {gr:Prs->Int->Int->Int->Option Prs} {N:Nat} (bv:Mg gr N) (P X Y Q:Prs) (hX:SrtP X) (hY:SrtP Y) (fo:0 < X.length) (ft:0 < Y.length) (hN:X.length + Y.length<=N + 1) (hb:P.length + X.length + Y.length + Q.length<=700000)
 (mid s0 r0:Nat) (hmid:mid=(P.length+(P.length+X.length+Y.length)) / 2)
 (h0:(mid<P.length+X.length/\s0+(P.length+X.length+Y.length)=mid+(P.length+X.length)/\r0=mid)\/(P.length+X.length<=mid/\s0=P.length/\r0=P.length+X.length))
include bv hX hY fo ft hN hb hmid h0
def okAt(P X Y:Prs)(mid c:Nat):Bool:=ltP (Y.getD (mid-1-c) Zaa.d) (X.getD (c-P.length) Zaa.d)
theorem ZIy(st:Nat)(h1:s0<=st)(h2:st<=r0)(jN:∀c,s0<=c->c<st->okAt P X Y mid c=false)(dH:∀c,st<=c->c<r0->okAt P X Y mid c=true)(fR fS:Int)(k:Int->Int->Int->Prs->Option Prs) :
  (bif(decide ((st:Int)<((P.length+X.length:Nat):Int)))then
    bif(decide (((P.length+X.length:Nat):Int)<(ZaV ((mid+(P.length+X.length):Nat):Int) (st:Int))))then
     (ZbS (P++(X++(Y++Q))) (st:Int) ((P.length+X.length:Nat):Int) (ZaV ((mid+(P.length+X.length):Nat):Int) (st:Int))).bind fun x2=>
     ZaR (P.length:Int) ((P.length+X.length:Nat):Int) ((P.length+X.length+Y.length:Nat):Int) gr (mid:Int) ((mid+(P.length+X.length):Nat):Int) (st:Int) fR fS k (ZaV ((mid+(P.length+X.length):Nat):Int) (st:Int)) x2
    else
     ZaR (P.length:Int) ((P.length+X.length:Nat):Int) ((P.length+X.length+Y.length:Nat):Int) gr (mid:Int) ((mid+(P.length+X.length):Nat):Int) (st:Int) fR fS k (ZaV ((mid+(P.length+X.length):Nat):Int) (st:Int)) (P++(X++(Y++Q)))
   else
    ZaR (P.length:Int) ((P.length+X.length:Nat):Int) ((P.length+X.length+Y.length:Nat):Int) gr (mid:Int) ((mid+(P.length+X.length):Nat):Int) (st:Int) fR fS k (ZaV ((mid+(P.length+X.length):Nat):Int) (st:Int)) (P++(X++(Y++Q))))=some (P++(mrg X Y++Q)):=by
 have ha:P.length<=st:=by omega
 have hmm:st<=mid:=by omega
 have b6:st-P.length<=X.length:=by omega
 have hk2:mid-st<=Y.length:=by omega
 obtain⟨k1,e1⟩ : ∃k1,st=P.length+k1:=⟨st-P.length,by omega⟩;obtain⟨k2,e2⟩ : ∃k2,mid=st+k2:=⟨mid-st,by omega⟩;have ee:ZaV ((mid+(P.length+X.length):Nat):Int) (st:Int)=((P.length+X.length+k2:Nat):Int):=by rw[ZdK (by omega) (by omega)];omega
 have hA:∀y∈Y.take k2,∀x∈X.drop k1,ltP y x=true:=by
  intro y hy x hx;obtain⟨i,i1,i2,rfl⟩:=ZsQ hy;obtain⟨j,j1,j2,rfl⟩:=Ztf hx;have h:=dH st (Nat.le_refl _) (by omega);unfold okAt at h;rw[show mid-1-st=k2-1 by omega,show st-P.length=k1 by omega]at h;exact ZwB (ZAF h (Zna hY (by omega) (by omega))) (Zna hX j1 j2)
 have hB:∀x∈X.take k1,∀y∈Y.drop k2,ltP y x=false:=by
  intro x hx y hy;obtain⟨i,i1,i2,rfl⟩:=ZsQ hx;obtain⟨j,j1,j2,rfl⟩:=Ztf hy;have h:=jN (st-1) (by omega) (by omega);unfold okAt at h;rw[show mid-1-(st-1)=k2 by omega,show st-1-P.length=k1-1 by omega]at h;exact ZlN (ZlN (Zna hY j1 j2) h) (Zna hX (by omega) (by omega))
 have hM:mrg X Y=mrg (X.take k1) (Y.take k2)++mrg (X.drop k1) (Y.drop k2):=by
  have:=Zpt _ (X.take k1) (X.drop k1) (Y.take k2) (Y.drop k2) (Nat.le_refl _) hA hB;rwa [List.take_append_drop,List.take_append_drop]at this
 have l1:(X.take k1).length=k1:=by simp;omega
 have l2:(Y.take k2).length=k2:=by simp;omega
 have l3:(X.drop k1).length=X.length-k1:=by simp
 have l4:(Y.drop k2).length=Y.length-k2:=by simp
 have last:=c6_eq bv P (X.take k1) (Y.take k2) (X.drop k1) (Y.drop k2) Q (hX.take _) (hY.take _) (hX.drop _) (hY.drop _) (by omega) (by omega) (by omega) ((P.length+X.length:Nat):Int) ((mid+(P.length+X.length):Nat):Int) fR fS k;rw[l1,l2,l3,l4,show P.length+k1+k2+(X.length-k1)+(Y.length-k2)=P.length+X.length+Y.length by omega,show P.length+k1+k2+(X.length-k1)=P.length+X.length+k2 by omega,show P.length+k1+k2=mid by omega,<-e1]at last;have hw:P++(X++(Y++Q))=P++X.take k1++(X.drop k1++(Y.take k2++(Y.drop k2++Q))):=by
  rw[<-List.append_assoc (Y.take k2),List.take_append_drop,List.append_assoc,<-List.append_assoc (X.take k1),List.take_append_drop]
 have hR:some (P++(mrg (X.take k1) (Y.take k2)++(mrg (X.drop k1) (Y.drop k2)++Q)))=some (P++(mrg X Y++Q)):=by rw[hM,List.append_assoc]
 rw[hR]at last;rw[ee,Zal,Zal];by_cases q1:k1<X.length
 ·rw[if_pos (by omega)];by_cases q2:0<k2
  ·rw[if_pos (by omega),hw,ZId (P++X.take k1) (X.drop k1) (Y.take k2) (Y.drop k2++Q) (by omega) (by omega) (by simp only[List.length_append];omega) _ _ _ (by simp only[List.length_append];omega) (by simp only[List.length_append];omega) (by simp only[List.length_append];omega),ZaS];simp only[List.append_assoc]at last ⊢;exact last
  ·obtain rfl:k2=0:=by omega
   rw[if_neg (by omega),hw];simp only[List.append_assoc,List.take_zero,List.nil_append]at last ⊢;exact last
 ·rw[if_neg (by omega),hw,show k1=X.length by omega];rw[show k1=X.length by omega]at last;simp only[List.append_assoc,List.drop_length,List.nil_append]at last ⊢;exact last
end
section
variable {gr:Prs->Int->Int->Int->Option Prs} {N:Nat} (bv:Mg gr N) (P X Y Q:Prs) (hX:SrtP X) (hY:SrtP Y) (fo:0 < X.length) (ft:0 < Y.length) (hN:X.length + Y.length<=N + 1) (hb:P.length + X.length + Y.length + Q.length<=700000)
 (mid s0 r0:Nat) (hmid:mid=(P.length+(P.length+X.length+Y.length)) / 2)
 (h0:(mid<P.length+X.length/\s0+(P.length+X.length+Y.length)=mid+(P.length+X.length)/\r0=mid)\/(P.length+X.length<=mid/\s0=P.length/\r0=P.length+X.length))
include bv hX hY fo ft hN hb hmid h0
omit bv hN hb in
theorem ZxT{c c':Nat}(h1:s0<=c')(h2:c'<=c)(h3:c<r0)(h:okAt P X Y mid c=false):okAt P X Y mid c'=false:=by
 unfold okAt at *
 exact ZlN (ZlN (Zna hY (by omega) (by omega)) h) (Zna hX (by omega) (by omega))
theorem ZEv:∀(s lo hi fu:Nat),hi-lo<=s->s0<=lo->lo<=hi->hi<=r0->s+1<=fu->(∀c,s0<=c->c<lo->okAt P X Y mid c=false)->(∀c,hi<=c->c<r0->okAt P X Y mid c=true) ->
  ZaB (P.length:Int) ((P.length+X.length:Nat):Int) ((P.length+X.length+Y.length:Nat):Int) gr (mid:Int) ((mid+(P.length+X.length):Nat):Int) fu (lo:Int) (hi:Int) ((mid+(P.length+X.length)-1:Nat):Int) (P++(X++(Y++Q)))=some (P++(mrg X Y++Q)):=by
 intro s;have bx:∀(lo fu:Nat),s0<=lo->lo<=r0->(∀c,s0<=c->c<lo->okAt P X Y mid c=false)->(∀c,lo<=c->c<r0->okAt P X Y mid c=true) ->
   ZaB (P.length:Int) ((P.length+X.length:Nat):Int) ((P.length+X.length+Y.length:Nat):Int) gr (mid:Int) ((mid+(P.length+X.length):Nat):Int) (fu+1) (lo:Int) (lo:Int) ((mid+(P.length+X.length)-1:Nat):Int) (P++(X++(Y++Q)))=some (P++(mrg X Y++Q)):=by
  intro lo fu h1 h2 h3 h4;unfold ZaB;rw[Zal,if_neg (by omega)];exact ZIy bv P X Y Q hX hY fo ft hN hb mid s0 r0 hmid h0 lo h1 h2 h3 h4 _ _ _
 induction s with
 |zero=>
  intro lo hi fu e1 e2 e3 e4 hf h1 h2;obtain⟨fu,rfl⟩ : ∃x,fu=x+1:=⟨fu-1,by omega⟩;obtain rfl:lo=hi:=by omega
  exact bx lo fu e2 e4 h1 h2
 |succ s ih=>
  intro lo hi fu e1 e2 e3 e4 hf h1 h2;obtain⟨fu,rfl⟩ : ∃x,fu=x+1:=⟨fu-1,by omega⟩;by_cases e:lo=hi
  ·subst e;exact bx lo fu e2 e4 h1 h2
  ·have t1:(lo+hi) / 2<r0:=by omega
   have t2:s0<=(lo+hi) / 2:=by omega
   have ep:ZaV ((mid+(P.length+X.length)-1:Nat):Int) (((lo+hi) / 2:Nat):Int)=((P.length+X.length+(mid-1-(lo+hi) / 2):Nat):Int):=by rw[ZdK (by omega) (by omega)];omega
   have hl:(P++(X++(Y++Q))).length=P.length+X.length+Y.length+Q.length:=by simp;omega
   have e1':Zar (((lo+hi) / 2:Nat):Int) 1=(((lo+hi) / 2+1:Nat):Int):=by rw[Zcx (by omega) (by omega)];omega
   unfold ZaB;rw[Zal,if_pos (by omega),ZwH _ _ (by omega),ep,Zaw (by rw[hl];omega),Zaw (by rw[hl];omega)];simp only[Int.toNat_natCast];have g1:(P++(X++(Y++Q))).getD (P.length+X.length+(mid-1-(lo+hi) / 2)) Zaa.d=Y.getD (mid-1-(lo+hi) / 2) Zaa.d:=by
    have:=ZAP (P:=P++X) (Y:=Y) (Q:=Q) (i:=mid-1-(lo+hi) / 2) (k:=P.length+X.length+(mid-1-(lo+hi) / 2)) (by simp) (by omega);simpa using this
   have g2:(P++(X++(Y++Q))).getD ((lo+hi) / 2) Zaa.d=X.getD ((lo+hi) / 2-P.length) Zaa.d:=ZAP (by omega) (by omega);rw[g1,g2,ZsU,ZaS,e1'];by_cases hc:cmpE (Y.getD (mid-1-(lo+hi) / 2) Zaa.d).fEnd (X.getD ((lo+hi) / 2-P.length) Zaa.d).fEnd<0
   ·have ok:okAt P X Y mid ((lo+hi) / 2)=true:=ZlO.2 hc;rw[decide_eq_true hc,Bool.not_true,cond_false];refine ih lo _ fu (by omega) e2 (by omega) (by omega) (by omega) h1 (fun c c1 c2=>?_);cases q:okAt P X Y mid c with
    |true=>rfl
    |false=>
     have:=ZxT P X Y hX hY fo ft mid s0 r0 hmid h0 t2 c1 c2 q;rw[ok]at this;cases this
   ·have ok:okAt P X Y mid ((lo+hi) / 2)=false:=ZsB.2 hc;rw[decide_eq_false hc,Bool.not_false,cond_true];exact ih _ hi fu (by omega) (by omega) (by omega) e4 (by omega) (fun c c1 c2=>ZxT P X Y hX hY fo ft mid s0 r0 hmid h0 c1 (by omega) t1 ok) h2
end
theorem ZHR{gr:Prs->Int->Int->Int->Option Prs}{N:Nat}(bv:Mg gr N):Mg (Zcb gr) (N+1):=by
 intro P X Y Q fo ft hX hY hN hb;unfold Zcb;have e1:ZaV ((P.length+X.length:Nat):Int) (P.length:Int)=(X.length:Int):=by rw[ZdK (by omega) (by omega)];omega
 have e2:ZaV ((P.length+X.length+Y.length:Nat):Int) ((P.length+X.length:Nat):Int)=(Y.length:Int):=by rw[ZdK (by omega) (by omega)];omega
 rw[e1,e2,ZdI,ZdI];by_cases h1:X.length=1
 ·rw[if_pos (by omega)];obtain⟨x,rfl⟩ : ∃x,X=[x]:=by
   cases X with
   |nil=>cases h1
   |cons x X=>exact⟨x,by rw[List.eq_nil_of_length_eq_zero (show X.length=0 by simpa using h1)]⟩
  have:=bs1 P Y Q x hY (by omega) Y.length 0 Y.length ((((P.length+[x].length+Y.length:Nat):Int)-((P.length+[x].length:Nat):Int)).toNat+2) (by omega) (by omega) (Nat.le_refl _) (by simp only[List.length_singleton];omega) (by simp) (by simp);exact this
 ·rw[if_neg (by omega)];by_cases h2:Y.length=1
  ·rw[if_pos (by omega)];obtain⟨y,rfl⟩ : ∃y,Y=[y]:=by
    cases Y with
    |nil=>cases h2
    |cons y Y=>exact⟨y,by rw[List.eq_nil_of_length_eq_zero (show Y.length=0 by simpa using h2)]⟩
   have:=bs2 P X Q y hX (by omega) X.length 0 X.length ((((P.length+X.length:Nat):Int)-(P.length:Int)).toNat+2) (by omega) (by omega) (Nat.le_refl _) (by omega) (by simp) (by simp);exact this
  ·rw[if_neg (by omega)];rw[ZwH _ _ (by omega)];obtain⟨mid,hmid⟩ : ∃mid,mid=(P.length+(P.length+X.length+Y.length)) / 2:=⟨_,rfl⟩;rw[<-hmid];have en:Zar (mid:Int) ((P.length+X.length:Nat):Int)=((mid+(P.length+X.length):Nat):Int):=by rw[Zcx (by omega) (by omega)];omega
   have ep:ZaV ((mid+(P.length+X.length):Nat):Int) 1=((mid+(P.length+X.length)-1:Nat):Int):=by rw[ZdK (by omega) (by omega)];omega
   rw[en,Zal];by_cases h3:mid<P.length+X.length
   ·have es:ZaV ((mid+(P.length+X.length):Nat):Int) ((P.length+X.length+Y.length:Nat):Int)=((mid+(P.length+X.length)-(P.length+X.length+Y.length):Nat):Int):=by rw[ZdK (by omega) (by omega)];omega
    rw[if_pos (by omega),es];unfold ZbC;rw[ep];exact ZEv bv P X Y Q hX hY fo ft hN hb mid (mid+(P.length+X.length)-(P.length+X.length+Y.length)) mid hmid (.inl ⟨h3,by omega,rfl⟩) _ _ _ _ (Nat.le_refl _) (Nat.le_refl _) (by omega) (Nat.le_refl _) (by omega) (fun c c1 c2=>by omega) (fun c c1 c2=>by omega)
   ·rw[if_neg (by omega)];unfold ZbC;rw[ep];exact ZEv bv P X Y Q hX hY fo ft hN hb mid P.length (P.length+X.length) hmid (.inr ⟨by omega,rfl,rfl⟩) _ _ _ _ (Nat.le_refl _) (Nat.le_refl _) (by omega) (Nat.le_refl _) (by omega) (fun c c1 c2=>by omega) (fun c c1 c2=>by omega)
theorem ZEM:∀fu,Mg (Zbb fu) fu
 | 0=>fun P X Y Q h1 h2 _ _ h3=>by omega
 |fu+1=>fun P X Y Q h1 h2 h3 h4 h5 h6=>by
  unfold Zbb
  exact ZHR (ZEM fu) P X Y Q h1 h2 h3 h4 h5 h6
inductive Blk (B:Nat):Prs->Prs->Prop
 |last (L:Prs) (h:L.length<=B):Blk B L (Zer L)
 |more (L D:Prs) (h:B<=L.length) (r:Blk B (L.drop B) D):Blk B L (Zer (L.take B)++D)
theorem Blk.len{B:Nat}{L D:Prs}(h:Blk B L D):D.length=L.length:=by
 induction h with
 |last L h=>exact Zja L
 |more L D h r ih=>rw[List.length_append,Zja,ih];simp;omega
theorem Blk.one{B:Nat}(hB:0<B){L D:Prs}(h:Blk B L D)(hl:L.length<=B):D=Zer L:=by
 cases h with
 |last _ h=>rfl
 |more _ D h r=>
  have:L.length=B:=by omega
  have hd:L.drop B=[]:=List.drop_eq_nil_of_le (by omega);have hr:=r.len;rw[hd]at hr;rw[List.eq_nil_of_length_eq_zero hr,List.take_of_length_le (by omega),List.append_nil]
theorem Blk.split{B:Nat}{L D:Prs}(h:Blk B L D)(hl:B<=L.length):∃D1,D=Zer (L.take B)++D1/\Blk B (L.drop B) D1:=by
 cases h with
 |last _ h=>
  have e:L.length=B:=by omega
  refine⟨[],by rw[List.take_of_length_le (by omega),List.append_nil],?_⟩;rw[List.drop_eq_nil_of_le (by omega)];exact Blk.last [] (by simp)
 |more _ D h r=>exact⟨D,rfl,r⟩
theorem st_c2(B:Nat)(hB:0<B)(hB2:B<=800)(k0:Int->Int->Int->Prs->Option Prs)(k1:Int->Prs->Option Prs):∀(s:Nat)(L P D:Prs)(fu:Nat),L.length<2*B*(s+1)->s+1<=fu->P.length+L.length<=900->Blk B L D ->
  ∃D',Blk (2*B) L D'/\ZaU ((P.length+L.length:Nat):Int) (B:Int) k0 k1 fu (P.length:Int) ((P.length+2*B:Nat):Int) (P++D)=k1 ((2*B:Nat):Int) (P++D'):=by
 intro s;induction s with
 |zero=>
  intro L P D fu h1 hf hb h;obtain⟨fu,rfl⟩ : ∃x,fu=x+1:=⟨fu-1,by omega⟩;have e1:Zar (P.length:Int) (B:Int)=((P.length+B:Nat):Int):=by rw[Zcx (by omega) (by omega)];omega
  have e2:Zrk (B:Int) 2=((2*B:Nat):Int):=by rw[Zwv (by omega) (by omega)];omega
  unfold ZaU;rw[Zal,if_neg (by omega),e1,e2,Zal];refine⟨Zer L,Blk.last L (by omega),?_⟩;by_cases h3:B<L.length
  ·obtain⟨D1,rfl,r1⟩:=h.split (by omega);have e:=r1.one hB (by simp;omega);subst e;have l1:(Zer (L.take B)).length=B:=by rw[Zja];simp;omega
   have l2:(Zer (L.drop B)).length=L.length-B:=by rw[Zja];simp
   have hm:=ZEM 1000 P (Zer (L.take B)) (Zer (L.drop B)) [] (by omega) (by omega) (ZlP _) (ZlP _) (by omega) (by simp;omega);rw[l1,l2,show P.length+B+(L.length-B)=P.length+L.length by omega,<-ZsD,List.take_append_drop,List.append_nil,List.append_nil]at hm;rw[if_pos (by omega),hm,ZaS]
  ·rw[if_neg (by omega),h.one hB (by omega)]
 |succ s ih=>
  intro L P D fu h1 hf hb h;rw[Nat.mul_succ]at h1;by_cases h2:2*B<=L.length
  ·obtain⟨fu,rfl⟩ : ∃x,fu=x+1:=⟨fu-1,by omega⟩;have e1:Zar (P.length:Int) (B:Int)=((P.length+B:Nat):Int):=by rw[Zcx (by omega) (by omega)];omega
   have e3:Zrk (2:Int) (B:Int)=((2*B:Nat):Int):=by rw[Zwv (by omega) (by omega)];omega
   have e4:Zar ((P.length+2*B:Nat):Int) ((2*B:Nat):Int)=((P.length+2*B+2*B:Nat):Int):=by rw[Zcx (by omega) (by omega)];omega
   unfold ZaU;rw[Zal,e1,e3,e4];obtain⟨D1,rfl,r1⟩:=h.split (by omega);obtain⟨D2,rfl,r2⟩:=r1.split (by simp;omega);have l1:(Zer (L.take B)).length=B:=by rw[Zja];simp;omega
   have l2:(Zer ((L.drop B).take B)).length=B:=by rw[Zja];simp;omega
   have lD:=r2.len;simp only[List.length_drop]at lD;have hm:=ZEM 1000 P (Zer (L.take B)) (Zer ((L.drop B).take B)) D2 (by omega) (by omega) (ZlP _) (ZlP _) (by omega) (by omega);rw[l1,l2,show P.length+B+B=P.length+2*B by omega,<-ZsD]at hm;have et:L.take B++(L.drop B).take B=L.take (2*B):=by rw[show 2*B=B+B by omega,List.take_add]
   have ed:(L.drop B).drop B=L.drop (2*B):=by rw[List.drop_drop];congr 1;omega
   rw[et]at hm;rw[ed]at r2;rw[if_pos (by omega),hm,ZaS];have lt:(Zer (L.take (2*B))).length=2*B:=by rw[Zja];simp;omega
   obtain⟨D',d1,d2⟩:=ih (L.drop (2*B)) (P++Zer (L.take (2*B))) D2 fu (by rw[List.length_drop];omega) (by omega) (by simp only[List.length_append,lt,List.length_drop];omega) r2;refine⟨Zer (L.take (2*B))++D',Blk.more L D' h2 d1,?_⟩;simp only[List.length_append,lt,List.length_drop,List.append_assoc]at d2;rw[show P.length+2*B+(L.length-2*B)=P.length+L.length by omega]at d2;exact d2
  ·obtain⟨fu,rfl⟩ : ∃x,fu=x+1:=⟨fu-1,by omega⟩;have hp:L.length<2*B*(s+1):=by
    have:2*B<=2*B*(s+1):=Nat.le_mul_of_pos_right _ (by omega);omega
   exact ih L P D (fu+1) hp (by omega) hb h
theorem st_c1(v7 v8:Int)(k0:Int->Int->Int->Prs->Option Prs)(L:Prs)(hL:L.length<=800):∀(s B:Nat)(D:Prs)(fu:Nat),L.length-B<=s->0<B->B<=1600->s+1<=fu->Blk B L D ->
  ZaQ (L.length:Int) v7 v8 k0 fu (B:Int) D=some (Zer L):=by
 intro s;induction s with
 |zero=>
  intro B D fu h1 hB hB2 hf h;obtain⟨fu,rfl⟩ : ∃x,fu=x+1:=⟨fu-1,by omega⟩;unfold ZaQ;rw[Zal,if_neg (by omega),h.one hB (by omega)]
 |succ s ih=>
  intro B D fu h1 hB hB2 hf h;obtain⟨fu,rfl⟩ : ∃x,fu=x+1:=⟨fu-1,by omega⟩;unfold ZaQ;rw[Zal];by_cases h2:B<L.length
  ·have e3:Zrk (2:Int) (B:Int)=((2*B:Nat):Int):=by rw[Zwv (by omega) (by omega)];omega
   rw[if_pos (by omega),e3];have hq:L.length / (2*B)+1<=(((L.length:Nat):Int)-((2*B:Nat):Int)).toNat+2:=by
    by_cases h4:L.length<2*B
    ·rw[Nat.div_eq_of_lt h4];omega
    ·rw[Nat.div_eq_sub_div (by omega) (by omega)];have:=Nat.div_le_self (L.length-2*B) (2*B);omega
   obtain⟨D',d1,d2⟩:=st_c2 B hB (by omega) k0 (ZaQ (L.length:Int) v7 v8 k0 fu) (L.length / (2*B)) L [] D _ (Nat.lt_mul_div_succ _ (by omega)) hq (by simp;omega) h;simp only[List.length_nil,Nat.zero_add,List.nil_append]at d2;have d2':ZaU (L.length:Int) (B:Int) k0 (ZaQ (L.length:Int) v7 v8 k0 fu) ((((L.length:Nat):Int)-((2*B:Nat):Int)).toNat+2) 0 ((2*B:Nat):Int) D=_:=d2;rw[d2'];exact ih (2*B) D' fu (by omega) (by omega) (by omega) (by omega) d1
  ·rw[if_neg (by omega),h.one hB (by omega)]
theorem st_c0(A:Prs)(hA:A.length<=800):∀(s:Nat)(L P:Prs)(fu:Nat),L.length<20*(s+1)->s+1<=fu->P.length+L.length=A.length->(∀D,Blk 20 L D->Blk 20 A (P++D)) ->
  ZaN (A.length:Int) fu 20 (P.length:Int) ((P.length+20:Nat):Int) (P++L)=some (Zer A):=by
 intro s;have bx:∀(L P:Prs)(fu:Nat),L.length<20->P.length+L.length=A.length->(∀D,Blk 20 L D->Blk 20 A (P++D)) ->
   ZaN (A.length:Int) (fu+1) 20 (P.length:Int) ((P.length+20:Nat):Int) (P++L)=some (Zer A):=by
  intro L P fu h1 hl hP;unfold ZaN;have hi:=ZGG P L [] (by simp;omega) (P.length:Int) (A.length:Int) rfl (by omega);simp only[List.append_nil]at hi;rw[Zal,if_neg (by omega),hi,ZaS];exact st_c1 _ _ _ A hA (A.length-20) 20 _ _ (Nat.le_refl _) (by omega) (by omega) (by omega) (hP _ (Blk.last L (by omega)))
 induction s with
 |zero=>
  intro L P fu h1 hf hl hP;obtain⟨fu,rfl⟩ : ∃x,fu=x+1:=⟨fu-1,by omega⟩;exact bx L P fu (by omega) hl hP
 |succ s ih=>
  intro L P fu h1 hf hl hP;obtain⟨fu,rfl⟩ : ∃x,fu=x+1:=⟨fu-1,by omega⟩;by_cases h2:L.length<20
  ·exact bx L P fu h2 hl hP
  ·unfold ZaN;have lt:(L.take 20).length=20:=by simp;omega
   have hi:=ZGG P (L.take 20) (L.drop 20) (by simp;omega) (P.length:Int) ((P.length+20:Nat):Int) rfl (by rw[lt]);rw[List.take_append_drop]at hi;have e1:Zar ((P.length+20:Nat):Int) 20=((P.length+20+20:Nat):Int):=by rw[Zcx (by omega) (by omega)];omega
   rw[Zal,if_pos (by omega),hi,ZaS,e1];have li:(Zer (L.take 20)).length=20:=by rw[Zja,lt]
   have:=ih (L.drop 20) (P++Zer (L.take 20)) fu (by rw[List.length_drop];omega) (by omega) (by simp only[List.length_append,li,List.length_drop];omega) (fun D hD=>by
    have:=hP _ (Blk.more L D (by omega) hD);rwa [<-List.append_assoc]at this)
   simp only[List.length_append,li,List.append_assoc]at this;exact this
theorem ZyX(A:Prs)(hA:A.length<=800):ZbF A=some (Zer A):=by
 unfold ZbF Zda;have hq:A.length / 20+1<=(((A.length:Nat):Int)-(20:Int)).toNat+2:=by omega
 have:=st_c0 A hA (A.length / 20) A [] ((((A.length:Nat):Int)-(20:Int)).toNat+2) (by omega) hq (by simp) (fun D h=>h);simp only[List.length_nil,Nat.zero_add,List.nil_append]at this;have jO:ZaN (A.length:Int) ((((A.length:Nat):Int)-(20:Int)).toNat+2) 20 0 20 A=some (Zer A):=this;rw[jO];rfl
theorem Zxp(A:Prs)(hA:A.length<=800):Zjc A=some (Zer A):=by
 unfold Zjc;have ec:ZbR A=some A:=by
  unfold ZbR;rw[Zaw ⟨by omega,by unfold maxLen;omega⟩]
 rw[ec,ZaS,ZyX A hA];rfl
theorem ZCQ(l:List Zaa)(hl:l.length<=1000000):ZlX l=some (Zlj l):=by
 have hL:l.length<=maxLen:=by unfold maxLen;omega
 have aP:∀fu (i:Nat) w,i<=l.length->l.length-i<fu->w=Zlj (l.take i)->Zhb fu l (l.length:Int) (i:Int) w=some (Zlj l):=by
  intro fu;induction fu with
  |zero=>intro i w _ h;omega
  |succ fu ih=>
   intro i w hi hf hw;unfold Zhb;simp only[Zal];by_cases h:i<l.length
   ·have hwl:w.length<=1000000:=by rw[hw];unfold Zlj;simp;omega
    rw[if_pos (by omega),Zaw ⟨by omega,by omega⟩,add1 h hL,Zaw ⟨by simp;omega,by simp[maxLen];omega⟩];refine ih (i+1) _ (by omega) (by omega) ?_;rw[hw];unfold Zlj;rw[List.take_succ_eq_append_getElem h,List.map_append,Int.toNat_natCast,Zdf l _ i h];rfl
   ·rw[if_neg (by omega),hw];have:i=l.length:=by omega
    rw[this,List.take_length]
 exact aP _ 0 [] (by omega) (by omega) rfl
def ZwD:Pr (List Zab):=(Zms ⟨3,0,0⟩).bind fun v=>.ret v.fBans
def Zxl(x:Zaz):Pr Zap:=(keyP 1 0 false).bind fun _=>ZwD.bind fun l=>if(Zqp l x.fNet).2=0 then(Zkl ⟨3,0,0⟩ ⟨0,Zkk,(Zqp l x.fNet).1,[]⟩ true).bind fun _=>(keyP 3 0 false).bind fun _=>.ret (ZiL 0)else(keyP 3 0 true).bind fun _=>.ret (ZiL (Zqp l x.fNet).2)
def ZwZ(x:Zaz):Pr Zap:=(keyP 2 0 false).bind fun _=>ZwD.bind fun l=>(keyP 4 0 true).bind fun _=>.ret ⟨0,endZ,0,Zxk l x.fEnd.fAddr x.fNow,[]⟩
def ZCH(x:Zaz):Pr Zap:=(keyP 1 0 false).bind fun _=>ZwD.bind fun l=>if(l.length:Int)-((ZgA l x.fNow).length:Int)>0 then(Zkl ⟨3,0,0⟩ ⟨0,Zkk,ZgA l x.fNow,[]⟩ true).bind fun _=>(keyP 3 0 false).bind fun _=>.ret ⟨0,endZ,(l.length:Int)-((ZgA l x.fNow).length:Int),0,[]⟩else(keyP 3 0 true).bind fun _=>.ret ⟨0,endZ,(l.length:Int)-((ZgA l x.fNow).length:Int),0,[]⟩
def ZFD(c:ZaA):Pr Zap:=(keyP 2 0 false).bind fun _=>(keyP 1 1 false).bind fun _=>(ZmQ c.fShards).bind fun _=>ZwD.bind fun b=>(Zms ⟨4,0,0⟩).bind fun v=>(Zsw c.fShards.toNat 0 []).bind fun all=>(ZoF c.fShards true).bind fun _=>(keyP 3 1 false).bind fun _=>(keyP 4 0 false).bind fun _=>.ret ⟨0,endZ,(b.length:Int),(v.fBook.length:Int),Zer all.flatten⟩
theorem ZpM(l:List Zae):ZhK ⟨l⟩=runT ZwD l:=by
 unfold ZhK;have e:Zjg=some ⟨3,0,0⟩:=rfl;rw[e,ZaS,Zqd];exact ZbH (fun _ _ _ _=>rfl) (fun _=>rfl)
theorem ZsZ{l:List Zae}{b:List Zab}{g:Zan}(h:runT ZwD l=some (.ret b g))(hl:Gl l):b.length<=800/\∀x∈b,x.ok:=by
 obtain⟨v,g1,h1,h2⟩:=ZCL h;have hv:=ZDu h1 hl;simp only[runT,Option.some.injEq,Tout.ret.injEq]at h2;rw[<-h2.1];exact⟨hv.2.1,hv.1.2.2.1.2⟩
section
variable {c:ZaA} {x:Zaz} (hx:x.ok) {l:List Zae} (hl:Gl l)
include hx hl
theorem ZEK:Zhu ⟨c,x⟩ ⟨l⟩=runT (Zxl x) l:=by
 have _u:=hx;unfold Zhu;rw[Zqc];refine ZbH (fun _ a ha _=>?_) (fun _=>rfl);dsimp only;rw[ZpM];refine ZbH (fun v d hd h=>?_) (fun _=>rfl);have hv:=ZsZ h (hl.drop a);dsimp only;have e:Zjg=some ⟨3,0,0⟩:=rfl;rw[ZEA _ _ (by omega),ZaS,ZdI];by_cases h0:(Zqp v x.fNet).2=0
 ·have e2:((Zqp v x.fNet).2 != 0)=false:=by rw[h0];rfl
  rw[if_pos h0,if_pos h0,e,ZaS,ZnU];refine ZbH (p:=Zkl ⟨3,0,0⟩ ⟨0,Zkk,(Zqp v x.fNet).1,[]⟩ true) (fun _ _ _ _=>?_) (fun _=>rfl);dsimp only;rw[e2,ZmZ];refine ZbH (fun _ _ _ _=>?_) (fun _=>rfl);dsimp only;rw[h0];rfl
 ·have e2:((Zqp v x.fNet).2 != 0)=true:=by rw[bne_iff_ne];exact h0
  rw[if_neg h0,if_neg h0,e2,ZmZ];exact ZbH (fun _ _ _ _=>rfl) (fun _=>rfl)
theorem ZCx:ZgM ⟨c,x⟩ ⟨l⟩=runT (ZwZ x) l:=by
 unfold ZgM;rw[ZyL];refine ZbH (fun _ a ha _=>?_) (fun _=>rfl);dsimp only;rw[ZpM];refine ZbH (fun v d hd h=>?_) (fun _=>rfl);have hv:=ZsZ h (hl.drop a);dsimp only;rw[(Zxj v x.fEnd.fAddr x.fNow (by unfold maxLen;omega) hv.2 hx.2.1.1).1,ZaS,ZBn];exact ZbH (fun _ _ _ _=>rfl) (fun _=>rfl)
theorem ZGi:ZhZ ⟨c,x⟩ ⟨l⟩=runT (ZCH x) l:=by
 have _u:=hx;unfold ZhZ;rw[Zqc];refine ZbH (fun _ a ha _=>?_) (fun _=>rfl);dsimp only;rw[ZpM];refine ZbH (fun v d hd h=>?_) (fun _=>rfl);have hv:=ZsZ h (hl.drop a);have lC:=Zvh v x.fNow;dsimp only;have e:Zjg=some ⟨3,0,0⟩:=rfl;rw[ZCn _ _ (by omega),ZaS,Zal];generalize ZgA v x.fNow=sw at lC;by_cases h0:(v.length:Int)-(sw.length:Int)>0
 ·have e2:((v.length:Int)-(sw.length:Int)==0)=false:=beq_false_of_ne (by omega);rw[if_pos h0,if_pos h0,e,ZaS,ZnU];refine ZbH (p:=Zkl ⟨3,0,0⟩ ⟨0,Zkk,sw,[]⟩ true) (fun _ _ _ _=>?_) (fun _=>rfl);dsimp only;rw[e2,ZmZ];exact ZbH (fun _ _ _ _=>rfl) (fun _=>rfl)
 ·have e2:((v.length:Int)-(sw.length:Int)==0)=true:=by rw[beq_iff_eq];omega
  rw[if_neg h0,if_neg h0,e2,ZmZ];exact ZbH (fun _ _ _ _=>rfl) (fun _=>rfl)
omit hl in
theorem ZAc(all:List (List Zaa))(bV:all.length<=1000)(b4:Zap)(p0:Int)(p1:Zah)(p2 p3:Int)(l:List Zae):∀(k i fu:Nat)(w:List Zaa),all.length-i=k->i<=all.length->k+1<=fu->w.length+(all.drop i).flatten.length<=800 ->
  ZdA fu all (all.length:Int) (i:Int) ⟨l⟩ ⟨c,x⟩ b4 p0 p1 p2 p3 w=runT ((ZoF c.fShards true).bind fun _=>(keyP 3 1 false).bind fun _=>(keyP 4 0 false).bind fun _=>.ret (⟨p0,p1,p2,p3,Zer (w++(all.drop i).flatten)⟩ : Zap)) l:=by
 have _u:=hx;intro k;induction k with
 |zero=>
  intro i fu w hk hi hf hb;obtain⟨fu,rfl⟩ : ∃x,fu=x+1:=⟨fu-1,by omega⟩;unfold ZdA;rw[Zal,if_neg (by omega),List.drop_eq_nil_of_le (by omega),ZuJ];refine ZbH (fun _ _ _ _=>?_) (fun _=>rfl);dsimp only;rw[ZmZ];refine ZbH (fun _ _ _ _=>?_) (fun _=>rfl);dsimp only;rw[ZBn];refine ZbH (fun _ _ _ _=>?_) (fun _=>rfl);dsimp only;rw[Zxp _ (by omega)];simp[runT]
 |succ k ih=>
  intro i fu w hk hi hf hb;obtain⟨fu,rfl⟩ : ∃x,fu=x+1:=⟨fu-1,by omega⟩;unfold ZdA;have e1:Zar (i:Int) 1=((i+1:Nat):Int):=add1 (n:=i+1) (by omega) (by simp only[maxLen];omega);have hd:=Zee all [] i (by omega);rw[hd,List.flatten_cons,List.length_append]at hb;rw[Zal,if_pos (by omega),Zaw ⟨by omega,by omega⟩];simp only[Int.toNat_natCast];rw[Zaw ⟨by rw[List.length_append];omega,by rw[List.length_append];unfold maxLen;omega⟩,e1,ih (i+1) fu _ (by omega) (by omega) (by omega) (by rw[List.length_append];omega),hd,List.flatten_cons,List.append_assoc]
theorem ZGl(ce:0<=c.fShards)(hs:c.fShards<=1000):Zia ⟨c,x⟩ ⟨l⟩=runT (ZFD c) l:=by
 unfold Zia;rw[ZyL];refine ZbH (fun _ a1 _ _=>?_) (fun _=>rfl);dsimp only;rw[Zqc];refine ZbH (fun _ a2 _ _=>?_) (fun _=>rfl);dsimp only;rw[ZuI];refine ZbH (fun _ a3 _ _=>?_) (fun _=>rfl);dsimp only;rw[ZpM];refine ZbH (fun b a4 _ _=>?_) (fun _=>rfl);dsimp only;rw[Zqd];refine ZbH (fun v a5 _ _=>?_) (fun _=>rfl);dsimp only;have hl5:=((((hl.drop a1).drop a2).drop a3).drop a4).drop a5;rw[Zvm c x ce hs _ hl5.len];refine ZbH (fun all a6 _ h=>?_) (fun _=>rfl);obtain⟨f1,f2,_⟩:=Zrb _ _ _ _ _ _ h;have:=hl5.len;simp only[List.length_nil,List.flatten_nil,Nat.zero_add]at f1 f2;dsimp only;have hr:=ZAc hx (c:=c) all (by omega) ⟨0,endZ,0,0,[]⟩ 0 endZ (b.length:Int) (v.fBook.length:Int) ((((((l.drop a1).drop a2).drop a3).drop a4).drop a5).drop a6) all.length 0 ((((all.length:Nat):Int)-(0:Int)).toNat+2) [] (by omega) (by omega) (by omega) (by simp only[List.length_nil,List.drop_zero];omega);rw[List.drop_zero,List.nil_append]at hr;exact hr
end
theorem ZvU{l:List Zae}(hl:Gl l)(aK:List Zaa)(hg:aK.length<=800):Zih aK ⟨l⟩=runT (ZEC aK) l:=by
 have hc:=Zmn aK false;have he:=ZEb aK;unfold Zih ZEC;rw[Ztm _ _ (by unfold maxLen;omega),ZaS,ZdI];by_cases h0:cntP aK false=0
 ·rw[if_pos h0,if_neg (by omega)];rfl
 ·rw[if_neg h0,if_pos (by omega),Zqd];unfold ZFP;rw[Pr.bind_assoc];refine ZbH (fun v a ha h=>?_) (fun _=>rfl);have hv:=ZDu h hl;dsimp only;rw[ZCQ _ (by omega),ZaS,ZEz _ _ (by omega) (by unfold maxLen;omega),ZaS,ZnU];refine ZbH (p:=Zkl ⟨4,0,0⟩ ⟨0,Zkk,[],v.fBook.map (Zlk (Zlj aK))⟩ false) (fun _ _ _ _=>?_) (fun _=>rfl);dsimp only;rw[ZBh,ZAC (by omega) (by omega)];exact ZjL (fun _ _=>rfl) (fun _=>rfl)
theorem ZEW{l:List Zae}(hl:Gl l)(aK:List Zaa)(hg:aK.length<=800):ZlY ⟨l⟩ aK=runT (ZCq aK) l:=by
 have hc:=Zmn aK true;unfold ZlY ZCq;rw[Ztm _ _ (by unfold maxLen;omega),ZaS,Zal];by_cases h0:cntP aK true>0
 ·rw[if_pos h0,if_pos h0,ZBh,ZAC (by omega) (by omega)];refine ZbH (fun _ e he _=>?_) (fun _=>rfl);dsimp only;exact ZvU (hl.drop e) aK hg
 ·rw[if_neg h0,if_neg h0,Pr.bind_ret];exact ZvU hl aK hg
def ZBp(n:Zao):Nat->List (List Zaa)->Pr Unit|_,[]=>.ret ()|i,was :: r=>(if 0<(ofP was n true).length then Zxg (i:Int) was (ofP was n false)else .ret ()).bind fun _=>ZBp n (i+1) r
theorem ZBM(a b:List Zaa)(n:Zao)(t:Bool):ofP (a++b) n t=ofP a n t++ofP b n t:=by unfold ofP;rw[List.filter_append]
theorem ZsV(a:List Zaa)(n:Zao):(ofP a n true).length+(ofP a n false).length=a.length:=by
 unfold ofP;induction a with
 |nil=>rfl
 |cons x a ih=>
  cases h:hasS n x.fEnd.fAddr<;>simp[h]at ih ⊢<;>omega
def ZCp(c:ZaA)(x:Zaz):Pr Zap:=ZwD.bind fun l=>if(addB l ⟨x.fNet,x.fNum⟩ c.fMaxBans).2=0 then(Zsw c.fShards.toNat 0 []).bind fun all=>(Zkl ⟨3,0,0⟩ ⟨0,Zkk,(addB l ⟨x.fNet,x.fNum⟩ c.fMaxBans).1,[]⟩ false).bind fun _=>(ZBp x.fNet 0 all).bind fun _=>(ZCq (ofP all.flatten x.fNet true)).bind fun _=>.ret ⟨0,endZ,((ofP all.flatten x.fNet true).length:Int),0,[]⟩else .ret (ZiL (addB l ⟨x.fNet,x.fNum⟩ c.fMaxBans).2)
def banP(c:ZaA)(x:Zaz):Pr Zap:=if x.fNum<=x.fNow then(keyP 8 0 true).bind fun _=>.ret (ZiL 3)else(keyP 1 0 false).bind fun _=>(keyP 1 1 false).bind fun _=>(ZmQ c.fShards).bind fun _=>(ZCp c x).bind fun r=>(ZoF c.fShards true).bind fun _=>(keyP 3 1 false).bind fun _=>(keyP 3 0 false).bind fun _=>.ret r
theorem ZAg{c:ZaA}{x:Zaz}(hx:x.ok)(all:List (List Zaa))(bV:all.length<=1000)(ay:∀p∈all.flatten,p.fEnd.fAddr.ok)(hf8:all.flatten.length<=800)(b4:Zap):∀(k i fu:Nat)(l:List Zae),Gl l->all.length-i=k->i<=all.length->k+1<=fu ->
  Zdb fu all (all.length:Int) (i:Int) (ofP (all.take i).flatten x.fNet true) ⟨l⟩ ⟨c,x⟩ b4=runT ((ZBp x.fNet i (all.drop i)).bind fun _=>(ZCq (ofP all.flatten x.fNet true)).bind fun _=>.ret (⟨0,endZ,((ofP all.flatten x.fNet true).length:Int),0,[]⟩ : Zap)) l:=by
 intro k;induction k with
 |zero=>
  intro i fu l hl hk hi hf;obtain⟨fu,rfl⟩ : ∃x,fu=x+1:=⟨fu-1,by omega⟩;have hb:=ZsV all.flatten x.fNet;unfold Zdb;rw[Zal,if_neg (by omega),List.take_of_length_le (by omega),List.drop_eq_nil_of_le (by omega),ZEW hl _ (by omega)];exact ZbH (fun _ _ _ _=>rfl) (fun _=>rfl)
 |succ k ih=>
  intro i fu l hl hk hi hf;obtain⟨fu,rfl⟩ : ∃x,fu=x+1:=⟨fu-1,by omega⟩;have hlt:i<all.length:=by omega
  have ff:all.getD i []∈all:=Zgq all [] i hlt;have bZ:∀p∈all.getD i [],p∈all.flatten:=fun p hp=>List.mem_flatten.2 ⟨_,ff,hp⟩;have hd:=Zee all [] i hlt;have dw:all.take (i+1)=all.take i++[all.getD i []]:=by rw[List.take_succ_eq_append_getElem hlt,Zdf all _ i hlt]
  have e3:all.flatten=(all.take (i+1)).flatten++(all.drop (i+1)).flatten:=by rw[<-List.flatten_append,List.take_append_drop]
  have hle:(all.take i).flatten.length+(all.getD i []).length<=800:=by
   rw[dw]at e3;have:=congrArg List.length e3;simp only[List.flatten_append,List.length_append,List.flatten_cons,List.flatten_nil,List.append_nil]at this;omega
  have h1:=ZsV (all.take i).flatten x.fNet;have h2:=ZsV (all.getD i []) x.fNet;have e1:Zar (i:Int) 1=((i+1:Nat):Int):=add1 (n:=i+1) (by omega) (by simp only[maxLen];omega);have fv:ofP (all.take i).flatten x.fNet true++ofP (all.getD i []) x.fNet true=ofP (all.take (i+1)).flatten x.fNet true:=by
   rw[dw,List.flatten_append,ZBM];simp
  unfold Zdb;rw[Zal,if_pos (by omega),Zaw ⟨by omega,by omega⟩];simp only[Int.toNat_natCast];rw[ZyR _ _ hx.2.2.1.1 (by omega) (fun p hp=>ay p (bZ p hp)),ZaS,Zal,hd];simp only[ZBp];by_cases h0:0<(ofP (all.getD i []) x.fNet true).length
  ·rw[if_pos (by omega),if_pos h0,ZEJ _ _ _ _ (by omega),Pr.bind_assoc];refine ZbH (fun _ a ha _=>?_) (fun _=>rfl);dsimp only;rw[Zaw ⟨by rw[List.length_append];omega,by rw[List.length_append];unfold maxLen;omega⟩,e1,fv];exact ih (i+1) fu _ (hl.drop a) (by omega) (by omega) (by omega)
  ·have hn:ofP (all.getD i []) x.fNet true=[]:=List.eq_nil_of_length_eq_zero (by omega);rw[hn,List.append_nil]at fv;rw[if_neg (by omega),if_neg h0,Pr.bind_assoc,Pr.bind_ret,e1,fv];exact ih (i+1) fu l hl (by omega) (by omega) (by omega)
section
variable {c:ZaA} {x:Zaz} (hx:x.ok) (ce:0<=c.fShards) (hs:c.fShards<=1000) {l:List Zae} (hl:Gl l)
include hx ce hs hl
theorem ZEV:Zib ⟨c,x⟩ ⟨l⟩=runT (ZCp c x) l:=by
 have iC:(⟨x.fNet,x.fNum⟩ : Zab).ok:=⟨hx.2.2.1,hx.2.2.2.2.1,trivial⟩;unfold Zib;rw[ZpM];refine ZbH (fun b a _ h=>?_) (fun _=>rfl);have hv:=ZsZ h hl;dsimp only;rw[ZGb _ _ _ (by omega) iC,ZaS];by_cases h0:(addB b ⟨x.fNet,x.fNum⟩ c.fMaxBans).2=0
 ·have e2:((addB b ⟨x.fNet,x.fNum⟩ c.fMaxBans).2 != 0)=false:=by rw[h0];rfl
  rw[if_pos h0,e2,cond_false,Zvm c x ce hs _ (hl.drop a).len];refine ZbH (fun all d _ h3=>?_) (fun _=>rfl);obtain⟨f1,f2,f3⟩:=Zrb _ _ _ _ _ _ h3;have hlen:=(hl.drop a).len;simp only[List.length_nil,List.flatten_nil,Nat.zero_add]at f1 f2;have e:Zjg=some ⟨3,0,0⟩:=rfl;dsimp only;rw[e,ZaS,ZnU];refine ZbH (p:=Zkl ⟨3,0,0⟩ ⟨0,Zkk,(addB b ⟨x.fNet,x.fNum⟩ c.fMaxBans).1,[]⟩ false) (fun _ e he _=>?_) (fun _=>rfl);dsimp only;have hr:=ZAg hx (c:=c) all (by omega) (f3 (fun p=>p.fEnd.fAddr.ok) (by simp) fun v hv=>((hl.drop a).val v hv).1.2.1.1.1) (by omega) ⟨0,endZ,0,0,[]⟩ all.length 0 ((((all.length:Nat):Int)-(0:Int)).toNat+2) _ (((hl.drop a).drop d).drop e) (by omega) (by omega) (by omega);rw[List.take_zero,List.drop_zero]at hr;exact hr
 ·have e2:((addB b ⟨x.fNet,x.fNum⟩ c.fMaxBans).2 != 0)=true:=by rw[bne_iff_ne];exact h0
  rw[if_neg h0,e2,cond_true];rfl
theorem ZGq:Zix ⟨c,x⟩ ⟨l⟩=runT (banP c x) l:=by
 unfold Zix banP;rw[Zal];by_cases h0:x.fNum<=x.fNow
 ·rw[if_pos h0,if_pos h0,ZBg];exact ZbH (fun _ _ _ _=>rfl) (fun _=>rfl)
 ·rw[if_neg h0,if_neg h0,Zqc];refine ZbH (fun _ a _ _=>?_) (fun _=>rfl);dsimp only;rw[Zqc];refine ZbH (fun _ b _ _=>?_) (fun _=>rfl);dsimp only;rw[ZuI];refine ZbH (fun _ d _ _=>?_) (fun _=>rfl);dsimp only;rw[ZEV hx ce hs (((hl.drop a).drop b).drop d)];refine ZbH (fun _ _ _ _=>?_) (fun _=>rfl);dsimp only;rw[ZuJ];refine ZbH (fun _ _ _ _=>?_) (fun _=>rfl);dsimp only;rw[ZmZ];refine ZbH (fun _ _ _ _=>?_) (fun _=>rfl);dsimp only;rw[ZmZ];exact ZbH (fun _ _ _ _=>rfl) (fun _=>rfl)
omit hx ce hs hl in
theorem ZvR(c:ZaA)(x:Zaz)(l:List Zae):Zht ⟨c,x⟩ ⟨l⟩=runT Zxf l:=by
 unfold Zht;rw[ZBg];exact ZbH (fun _ _ _ _=>rfl) (fun _=>rfl)
def Zzb(c:ZaA)(x:Zaz):Pr Zap:=if ZiI x=true then(if x.fKind=6 then banP c x else if x.fKind=7 then Zxl x else if x.fKind=8 then ZwZ x else if x.fKind=9 then ZCH x else if x.fKind=10 then ZFD c else Zxf)else Zxf
theorem ZEL:ZhL c x l=(runT (Zzb c x) l).map Zsa:=by
 have bx:∀t:Option Zco,(t.bind fun y=>some y)=t:=fun t=>by cases t<;>rfl
 unfold ZhL Zkz ZmT Zzb;rw[ZCl x hx,ZaS];cases ZiI x with
 |false=>
  simp only[Bool.not_false,cond_true,ZaS,bx,Bool.false_eq_true,if_false];unfold Zea Zfe;simp only[ZvR];exact congrArg (Option.map Zsa) (ZjL (fun _ _=>rfl) (fun _=>rfl))
 |true=>
  simp only[Bool.not_true,cond_false,if_true,ZdI];by_cases h6:x.fKind=6
  ·simp only[if_pos h6,ZaS,bx];unfold Zea Zfe;simp only[ZGq hx ce hs hl];exact congrArg (Option.map Zsa) (ZjL (fun _ _=>rfl) (fun _=>rfl))
  ·by_cases h7:x.fKind=7
   ·simp only[if_neg h6,if_pos h7,ZaS,bx];unfold Zea Zfe;simp only[ZEK hx hl];exact congrArg (Option.map Zsa) (ZjL (fun _ _=>rfl) (fun _=>rfl))
   ·by_cases h8:x.fKind=8
    ·simp only[if_neg h6,if_neg h7,if_pos h8,ZaS,bx];unfold Zea Zfe;simp only[ZCx hx hl];exact congrArg (Option.map Zsa) (ZjL (fun _ _=>rfl) (fun _=>rfl))
    ·by_cases h9:x.fKind=9
     ·simp only[if_neg h6,if_neg h7,if_neg h8,if_pos h9,ZaS,bx];unfold Zea Zfe;simp only[ZGi hx hl];exact congrArg (Option.map Zsa) (ZjL (fun _ _=>rfl) (fun _=>rfl))
     ·by_cases h10:x.fKind=10
      ·simp only[if_neg h6,if_neg h7,if_neg h8,if_neg h9,if_pos h10,ZaS,bx];unfold Zea Zfe;simp only[ZGl hx hl ce hs];exact congrArg (Option.map Zsa) (ZjL (fun _ _=>rfl) (fun _=>rfl))
      ·simp only[if_neg h6,if_neg h7,if_neg h8,if_neg h9,if_neg h10,ZaS,bx];unfold Zea Zfe;simp only[ZvR];exact congrArg (Option.map Zsa) (ZjL (fun _ _=>rfl) (fun _=>rfl))
end
def sh0:Zat:=⟨0,[0]⟩
def fB1(l:Zat):Nat->Zat:=updL fL 0 l
def fB2(l:Zat):Nat->Zat:=updL (fB1 l) 1 ZfU
theorem ZDN(l:Zat)(i:Nat)(h:2<=i):fB2 l i=ZhE:=by
 unfold fB2 fB1;rw[ZvW _ _ (by omega),ZvW _ _ (by omega)];rfl
def fBA(l:Zat)(n:Nat):Nat->Zat:=updR (fB2 l) 2 (n+2) ZfU
theorem ZGJ{l:Zat}{n q:Nat}(h:2<=q)(h2:q<n+2):fBA l n q=ZfU:=if_pos ⟨h,h2⟩
theorem ZAR(l:Zat)(n:Nat):updR (fBA l n) 2 (n+2) ZhE=fB2 l:=by
 funext q;unfold fBA updR;by_cases h:2<=q/\q<n+2
 ·rw[if_pos h];exact(ZDN l q h.1).symm
 ·rw[if_neg h,if_neg h]
theorem Zxe{al out:Int}{bans:List Zab}{book:List Zac}{ps:PPs}{n:Nat}{f:Nat->Zat}(aT:1<=n)(aS:n<=8)(aO:ps.length=n)(ay:∀y∈ps,(∀p∈y.1,p.ok)/\y.1.length<=100):∀(k i:Nat)(w:List Prs),i+k=n ->
  Ex (Zsw k i w) (memM al out bans book (shP ps) n f) (w++(ps.map (·.1)).drop i) (memM al out bans book (shP ps) n f) (k+((ps.map (·.1)).drop i).flatten.length) 0
 | 0,i,w,h=>by
  rw[List.drop_eq_nil_of_le (by simp;omega),List.append_nil]
  exact .ret _ _ _
 |k+1,i,w,h=>by
  have hi:i<ps.length:=by omega
  have e:(ps.map (·.1)).drop i=(ps.getD i ([],[])).1 :: (ps.map (·.1)).drop (i+1):=by
   rw[Zee (ps.map (·.1)) [] i (by simpa using hi)];congr 1;simp[List.getD_eq_getElem?_getD,hi]
  have hm:=ay _ (Zgq ps ([],[]) i hi);have hr:=ZHU (al:=al) (out:=out) (bans:=bans) (book:=book) (f:=f) aT aS (by rw[Znb];exact aO) (i:=i) (by omega) (l:=(ps.getD i ([],[])).1) (r:=(ps.getD i ([],[])).2) (Zza ps hi) hm.1 (by omega);have ih:=Zxe (al:=al) (out:=out) (bans:=bans) (book:=book) (f:=f) aT aS aO ay k (i+1) (w++[(ps.getD i ([],[])).1]) (by omega);rw[List.append_assoc]at ih;rw[e];unfold Zsw;exact hr.seq ih (by rw[List.flatten_cons,List.length_append];omega) rfl
section
variable {c:ZaA} {s:Zas} {x:Zaz} (hx:x.ok) (hs:s.ok) (hR:iY c s) (aW:s.fBans.length<=20/\s.fBook.length<=20/\s.fPeers.length<=20)
include hx hs hR aW
theorem fin35(r:Option (Zas×Zap)):(r.bind fun y=>some (y.1,y.2))=r:=by
 have _u:=hx;have _v:=hs;have _w:=hR;have _z:=aW;cases r<;>rfl
theorem ZrM(hB:ZiI x=true)(hk:x.fKind=6\/x.fKind=7\/x.fKind=8\/x.fKind=9):Zcz c s x=ZdC c s x:=by
 have bx:=fin35 hx hs hR aW;have e6:∀k:Int,x.fKind=k->(x.fKind==k)=true:=fun k h=>beq_iff_eq.2 h;have n6:∀k:Int,x.fKind≠k->(x.fKind==k)=false:=fun k h=>beq_false_of_ne h;unfold Zcz Zdm;rw[ZqM x hx,ZaS,hB,Bool.not_true,cond_false,n6 1 (by omega),cond_false,n6 3 (by omega),cond_false,n6 4 (by omega),cond_false,n6 5 (by omega),cond_false];rcases hk with h|h|h|h
 ·rw[e6 6 h,cond_true,cond_true,bx]
 ·rw[n6 6 (by omega),cond_false,e6 7 h,cond_true,cond_true,bx]
 ·rw[n6 6 (by omega),cond_false,n6 7 (by omega),cond_false,e6 8 h,cond_true,cond_true,bx]
 ·rw[n6 6 (by omega),cond_false,n6 7 (by omega),cond_false,n6 8 (by omega),cond_false,e6 9 h,cond_true,bx]
theorem ZEe(hB:ZiI x=true)(hk:x.fKind=10):Zcz c s x=some (s,⟨0,endZ,(s.fBans.length:Int),(s.fBook.length:Int),s.fPeers⟩):=by
 have _u:=hR;have _w:=hs;have _z:=aW;have n6:∀k:Int,x.fKind≠k->(x.fKind==k)=false:=fun k h=>beq_false_of_ne h;have e6:∀k:Int,x.fKind=k->(x.fKind==k)=true:=fun k h=>beq_iff_eq.2 h;unfold Zcz Zdm;rw[ZqM x hx,ZaS,hB,Bool.not_true,cond_false,n6 1 (by omega),cond_false,n6 3 (by omega),cond_false,n6 4 (by omega),cond_false,n6 5 (by omega),cond_false,n6 6 (by omega),cond_false,n6 7 (by omega),cond_false,n6 8 (by omega),cond_false,n6 9 (by omega),cond_false,e6 10 hk,cond_true];rfl
omit hx in
theorem ZrV(f:Nat->Zat):Ex ZwD (mP c s f) s.fBans (mP c s f) 1 0:=by
 have _u:=hR;have h8:=ZgD c.fShards;unfold ZwD;exact(ZAe h8.1 h8.2 (Zmt c s) (by omega) hs.1.2).seq (.ret _ _ 0) (by omega) rfl
theorem ZEO(hB:ZiI x=true)(hk:x.fKind=7):ZAd c s x (mP c s fL) (Zxl x):=by
 have h8:=ZgD c.fShards;obtain⟨q1,q2⟩:=Znt (c:=c) aW.2.2;have hd:=ZrM hx hs hR aW hB (.inr (.inl hk)) (c:=c) (s:=s);have iD:Ex (keyP 1 0 false) (mP c s fL) () (mP c s (updL fL 0 ZfU)) 1 0:=Zsx (k:=0) h8.1 h8.2 (Zmt c s) (by omega) rfl false;have iE:=ZrV hs hR aW (c:=c) (updL fL 0 ZfU);have gR:∀(bans:List Zab)(ag:Bool),Ex (keyP 3 0 ag) (memM (cntP s.fPeers true) (cntP s.fPeers false+Zfc s.fBook 2) bans s.fBook (shP (lP c s)) (Zbr c.fShards) (updL fL 0 ZfU)) () (memM (cntP s.fPeers true) (cntP s.fPeers false+Zfc s.fBook 2) bans s.fBook (shP (lP c s)) (Zbr c.fShards) fL) 1 (bn ag):=
  fun bans ag=>ZpN (k:=0) h8.1 h8.2 (Zmt c s) (by omega) rfl ag
 have gQ:=ZEc s.fBans x.fNet;unfold ZdC at hd;rw[ZdI,if_neg (by omega),ZdI,if_pos hk,ZDb _ _ (by omega),ZaS,ZdI]at hd;by_cases h0:(Zqp s.fBans x.fNet).2=0
 ·rw[if_pos h0,no35,ZaS,h0]at hd;refine⟨ZiL 0,_,_,(Zqp s.fBans x.fNet).1,s.fBook,lP c s,s.fPeers,10,?_,by omega,hd,hR.peers,ZnZ hs.2.2.1.2 _ _,q1,q2,rfl,rfl,by omega,by omega,by omega,Nat.zero_le _⟩;unfold Zxl;refine iD.seq (s2:=4) (c2:=1) ?_ (by omega) rfl;refine iE.seq (s2:=3) (c2:=1) ?_ (by omega) rfl;rw[if_pos h0];refine(ZpO h8.1 h8.2 (Zmt c s) _ true).seq (s2:=2) (c2:=0) ?_ (by omega) rfl;exact(gR _ false).seq (.ret _ _ 0) (by omega) rfl
 ·rw[if_neg h0,no35,ZaS]at hd;refine⟨ZiL (Zqp s.fBans x.fNet).2,_,_,s.fBans,s.fBook,lP c s,s.fPeers,10,?_,by omega,hd,hR.peers,ZnZ hs.2.2.1.2 _ _,q1,q2,rfl,rfl,by omega,by omega,by omega,Nat.zero_le _⟩;unfold Zxl;refine iD.seq (s2:=4) (c2:=1) ?_ (by omega) rfl;refine iE.seq (s2:=3) (c2:=1) ?_ (by omega) rfl;rw[if_neg h0];exact(gR _ true).seq (.ret _ _ 0) (by omega) rfl
theorem ZCv(hB:ZiI x=true)(hk:x.fKind=8):ZAd c s x (mP c s fL) (ZwZ x):=by
 have h8:=ZgD c.fShards;obtain⟨q1,q2⟩:=Znt (c:=c) aW.2.2;have hd:=ZrM hx hs hR aW hB (.inr (.inr (.inl hk))) (c:=c) (s:=s);have iD:Ex (keyP 2 0 false) (mP c s fL) () (mP c s (updL fL 0 sh0)) 1 0:=ZBj (f:=fL) h8.1 h8.2 (Zmt c s) rfl false;have iE:=ZrV hs hR aW (c:=c) (updL fL 0 sh0);have gR:=ZEU (al:=cntP s.fPeers true) (out:=cntP s.fPeers false+Zfc s.fBook 2) (bans:=s.fBans) (book:=s.fBook) (f:=updL fL 0 sh0) h8.1 h8.2 (Zmt c s) rfl true;rw[show updL (updL fL 0 sh0) 0 ZhE=fL from Ztl (f:=fL) rfl sh0]at gR;unfold ZdC at hd;rw[ZdI,if_neg (by omega),ZdI,if_neg (by omega),ZdI,if_pos hk,(Zxj s.fBans x.fEnd.fAddr x.fNow (by unfold maxLen;omega) hs.1.2 hx.2.1.1).2,ZaS]at hd;refine⟨⟨0,endZ,0,Zxk s.fBans x.fEnd.fAddr x.fNow,[]⟩,_,_,s.fBans,s.fBook,lP c s,s.fPeers,10,?_,by omega,hd,hR.peers,ZnZ hs.2.2.1.2 _ _,q1,q2,rfl,rfl,by omega,by omega,by omega,Nat.zero_le _⟩;unfold ZwZ;refine iD.seq (s2:=4) (c2:=1) ?_ (by omega) rfl;refine iE.seq (s2:=3) (c2:=1) ?_ (by omega) rfl;exact gR.seq (.ret _ _ 0) (by omega) rfl
theorem ZGm(hB:ZiI x=true)(hk:x.fKind=9):ZAd c s x (mP c s fL) (ZCH x):=by
 have h8:=ZgD c.fShards;obtain⟨q1,q2⟩:=Znt (c:=c) aW.2.2;have hd:=ZrM hx hs hR aW hB (.inr (.inr (.inr hk))) (c:=c) (s:=s);have iD:Ex (keyP 1 0 false) (mP c s fL) () (mP c s (updL fL 0 ZfU)) 1 0:=Zsx (k:=0) h8.1 h8.2 (Zmt c s) (by omega) rfl false;have iE:=ZrV hs hR aW (c:=c) (updL fL 0 ZfU);have gR:∀(bans:List Zab)(ag:Bool),Ex (keyP 3 0 ag) (memM (cntP s.fPeers true) (cntP s.fPeers false+Zfc s.fBook 2) bans s.fBook (shP (lP c s)) (Zbr c.fShards) (updL fL 0 ZfU)) () (memM (cntP s.fPeers true) (cntP s.fPeers false+Zfc s.fBook 2) bans s.fBook (shP (lP c s)) (Zbr c.fShards) fL) 1 (bn ag):=
  fun bans ag=>ZpN (k:=0) h8.1 h8.2 (Zmt c s) (by omega) rfl ag
 have gQ:=Zvh s.fBans x.fNow;unfold ZdC at hd;rw[ZdI,if_neg (by omega),ZdI,if_neg (by omega),ZdI,if_neg (by omega),ZCY _ _ (by omega),ZaS]at hd;by_cases h0:(s.fBans.length:Int)-((ZgA s.fBans x.fNow).length:Int)>0
 ·refine⟨⟨0,endZ,(s.fBans.length:Int)-((ZgA s.fBans x.fNow).length:Int),0,[]⟩,_,_,ZgA s.fBans x.fNow,s.fBook,lP c s,s.fPeers,10,?_,by omega,hd,hR.peers,ZnZ hs.2.2.1.2 _ _,q1,q2,rfl,rfl,by omega,by omega,by omega,Nat.zero_le _⟩;unfold ZCH;refine iD.seq (s2:=4) (c2:=1) ?_ (by omega) rfl;refine iE.seq (s2:=3) (c2:=1) ?_ (by omega) rfl;rw[if_pos h0];refine(ZpO h8.1 h8.2 (Zmt c s) _ true).seq (s2:=2) (c2:=0) ?_ (by omega) rfl;exact(gR _ false).seq (.ret _ _ 0) (by omega) rfl
 ·have es:ZgA s.fBans x.fNow=s.fBans:=(List.filter_sublist (l:=s.fBans)).eq_of_length (by show (ZgA s.fBans x.fNow).length=_;omega);refine⟨⟨0,endZ,(s.fBans.length:Int)-((ZgA s.fBans x.fNow).length:Int),0,[]⟩,_,_,ZgA s.fBans x.fNow,s.fBook,lP c s,s.fPeers,10,?_,by omega,hd,hR.peers,ZnZ hs.2.2.1.2 _ _,q1,q2,rfl,rfl,by omega,by omega,by omega,Nat.zero_le _⟩;unfold ZCH;refine iD.seq (s2:=4) (c2:=1) ?_ (by omega) rfl;refine iE.seq (s2:=3) (c2:=1) ?_ (by omega) rfl;rw[if_neg h0];have h:=gR s.fBans true;refine h.seq (s2:=1) (c2:=0) ?_ (by omega) rfl
  conv=>arg 4;rw[es]
  exact .ret _ _ _
omit hx in
theorem ZyI:(lP c s).length=Zbr c.fShards/\c.fShards.toNat=Zbr c.fShards/\((lP c s).map (·.1)).flatten.Perm s.fPeers/\(∀y∈lP c s,(∀p∈y.1,p.ok)/\y.1.length<=100)/\∀y∈lP c s,y.2=[]:=by
 have hsh:=ZAo hR.conf;refine⟨Zwl _ _ _ _,by unfold Zbr;rw[if_neg (by omega),if_neg (by omega)],ZnZ hs.2.2.1.2 _ _,fun y hy=>?_,fun y hy=>?_⟩
 ·unfold lP ps0 at hy;obtain⟨k,_,rfl⟩:=List.mem_map.1 hy;have:=List.length_filter_le (Zqw c.fSecret c.fShards k) s.fPeers;exact⟨fun p hp=>hs.2.2.1.2 p (ZFu hp),by show (Zmr s.fPeers c.fSecret c.fShards k).length<=100;unfold Zmr;omega⟩
 ·unfold lP ps0 at hy;obtain⟨k,_,rfl⟩:=List.mem_map.1 hy;rfl
theorem ZGn(hB:ZiI x=true)(hk:x.fKind=10):ZAd c s x (mP c s fL) (ZFD c):=by
 have h8:=ZgD c.fShards;obtain⟨q1,q2⟩:=Znt (c:=c) aW.2.2;have hd:=ZEe hx hs hR aW hB hk (c:=c) (s:=s);obtain⟨jP,gh,bV,fw,_⟩:=ZyI hs hR aW (c:=c);have gQ:=bV.length_eq;have hso:Zer ((lP c s).map (·.1)).flatten=s.fPeers:=ZsC hR.peers bV;have a1:Ex (keyP 2 0 false) (mP c s fL) () (mP c s (fB1 sh0)) 1 0:=ZBj (f:=fL) h8.1 h8.2 (Zmt c s) rfl false;have a2:Ex (keyP 1 1 false) (mP c s (fB1 sh0)) () (mP c s (fB2 sh0)) 1 0:=Zsx (k:=1) (f:=fB1 sh0) h8.1 h8.2 (Zmt c s) (by omega) rfl false;have a3:Ex (ZmQ c.fShards) (mP c s (fB2 sh0)) () (mP c s (fBA sh0 (Zbr c.fShards))) (Zbr c.fShards) 0:=ZvS (f:=fB2 sh0) h8.1 h8.2 (Zmt c s) c.fShards rfl fun q g1 g2=>ZDN _ q g1;have a4:=ZrV hs hR aW (c:=c) (fBA sh0 (Zbr c.fShards));have a5:Ex (Zms ⟨4,0,0⟩) (mP c s (fBA sh0 (Zbr c.fShards))) ⟨0,Zkk,[],s.fBook⟩ (mP c s (fBA sh0 (Zbr c.fShards))) 1 0:=ZuL h8.1 h8.2 (Zmt c s) (by omega) hs.2.1.2;have a6:Ex (Zsw c.fShards.toNat 0 []) (mP c s (fBA sh0 (Zbr c.fShards))) ((lP c s).map (·.1)) (mP c s (fBA sh0 (Zbr c.fShards))) 30 0:=by
  have ha:=Zxe (al:=cntP s.fPeers true) (out:=cntP s.fPeers false+Zfc s.fBook 2) (bans:=s.fBans) (book:=s.fBook) (f:=fBA sh0 (Zbr c.fShards)) h8.1 h8.2 jP fw (Zbr c.fShards) 0 [] (by omega);rw[List.drop_zero,List.nil_append]at ha;rw[gh];exact ha.more (by omega)
 have a7:=ZvT (al:=cntP s.fPeers true) (out:=cntP s.fPeers false+Zfc s.fBook 2) (bans:=s.fBans) (book:=s.fBook) (f:=fBA sh0 (Zbr c.fShards)) h8.1 h8.2 (Zmt c s) c.fShards rfl true (fun q g1 g2=>ZGJ g1 g2);rw[ZAR]at a7;have a8:Ex (keyP 3 1 false) (mP c s (fB2 sh0)) () (mP c s (fB1 sh0)) 1 (bn false):=ZpN (k:=1) h8.1 h8.2 (Zmt c s) (by omega) rfl false;have a9:=ZEU (al:=cntP s.fPeers true) (out:=cntP s.fPeers false+Zfc s.fBook 2) (bans:=s.fBans) (book:=s.fBook) (f:=fB1 sh0) h8.1 h8.2 (Zmt c s) rfl false;rw[show updL (fB1 sh0) 0 ZhE=fL from Ztl (f:=fL) rfl sh0]at a9;refine⟨⟨0,endZ,(s.fBans.length:Int),(s.fBook.length:Int),s.fPeers⟩,_,_,s.fBans,s.fBook,lP c s,s.fPeers,100,?_,by omega,hd,hR.peers,bV,q1,q2,rfl,rfl,by omega,by omega,by omega,by show s.fPeers.length<=1000;omega⟩;unfold ZFD;refine a1.seq (s2:=90) (c2:=1) ?_ (by omega) rfl;refine a2.seq (s2:=80) (c2:=1) ?_ (by omega) rfl;refine a3.seq (s2:=60) (c2:=1) ?_ (by omega) rfl;refine a4.seq (s2:=50) (c2:=1) ?_ (by omega) rfl;refine a5.seq (s2:=48) (c2:=1) ?_ (by omega) rfl;refine a6.seq (s2:=16) (c2:=1) ?_ (by omega) rfl;refine a7.seq (s2:=3) (c2:=0) ?_ (by omega) rfl;refine a8.seq (s2:=2) (c2:=0) ?_ (by omega) rfl;refine a9.seq (s2:=1) (c2:=0) ?_ (by omega) rfl;dsimp only;rw[hso];exact .ret _ _ _
end
def cutP(bu:Zao)(y:Prs×Prs):Prs×Prs:=if 0<(ofP y.1 bu true).length then(ofP y.1 bu false,y.1.drop (ofP y.1 bu false).length)else y
theorem ZFS(bu:Zao)(y:Prs×Prs):(cutP bu y).1=ofP y.1 bu false:=by
 unfold cutP;by_cases h:0<(ofP y.1 bu true).length
 ·rw[if_pos h]
 ·rw[if_neg h];have h1:=ZsV y.1 bu;exact((List.filter_sublist (l:=y.1)).eq_of_length (by show (ofP y.1 bu false).length=_;omega)).symm
theorem ZEi(bu:Zao)(ps:PPs):((ps.map (cutP bu)).map (·.1)).flatten=ofP (ps.map (·.1)).flatten bu false:=by
 unfold ofP;rw[List.filter_flatten,List.map_map,List.map_map];congr 1;apply List.map_congr_left;intro y _;exact ZFS bu y
theorem ZBi{al out:Int}{bans:List Zab}{book:List Zac}{n:Nat}{f:Nat->Zat}(aT:1<=n)(aS:n<=8)(bu:Zao):∀(todo done:PPs),done.length+todo.length=n->(∀y∈todo,y.2=[]/\y.1.length<=100) ->
  Ex (ZBp bu done.length (todo.map (·.1))) (memM al out bans book (shP (done++todo)) n f) () (memM al out bans book (shP (done++todo.map (cutP bu))) n f) (todo.length+(todo.map (·.1)).flatten.length) 0
 | [],done,h,hy=>.ret _ _ _
 | (a,b) :: todo,done,h,hy=>by
  obtain⟨hb,ha⟩:=hy (a,b) (by simp)
  dsimp only at hb ha
  subst hb
  simp only[List.length_cons]at h
  have ih:=ZBi (al:=al) (out:=out) (bans:=bans) (book:=book) (f:=f) aT aS bu todo (done++[cutP bu (a,[])]) (by simp;omega) (fun y hq=>hy y (by simp[hq]))
  have e1:done++[cutP bu (a,[])]++todo=done++cutP bu (a,[]) :: todo:=by simp
  have e2:done++[cutP bu (a,[])]++todo.map (cutP bu)=done++((a,[]) :: todo).map (cutP bu):=by simp
  have e3:(done++[cutP bu (a,[])]).length=done.length+1:=by simp
  rw[e1,e2,e3]at ih
  have hlen:(done++(a,([]:Prs)) :: todo).length=n:=by simp;omega
  have hget:(done++(a,([]:Prs)) :: todo).getD done.length ([],[])=(a,[]):=by simp[List.getD_eq_getElem?_getD]
  have ho:=ZtI a bu false
  show Ex ((if 0<(ofP a bu true).length then Zxg (done.length:Int) a (ofP a bu false)else .ret ()).bind fun _=>ZBp bu (done.length+1) (todo.map (·.1))) _ _ _ _ _
  by_cases h0:0<(ofP a bu true).length
  ·have hs:=Zza (done++(a,([]:Prs)) :: todo) (i:=done.length) (by omega)
   rw[hget]at hs
   have hw:=ZGo (al:=al) (out:=out) (bans:=bans) (book:=book) (f:=f) aT aS (sh:=shP (done++(a,([]:Prs)) :: todo)) (by rw[Znb];exact hlen) (i:=done.length) (by omega) a [] (ofP a bu false) (by rw[List.append_nil];omega) (by omega) hs
   rw[List.append_nil]at hw
   have e4:(⟨((ofP a bu false).length:Int),ofP a bu false++a.drop (ofP a bu false).length⟩ : Zad)=shF (ofP a bu false) (a.drop (ofP a bu false).length):=rfl
   have e5:cutP bu (a,[])=(ofP a bu false,a.drop (ofP a bu false).length):=by unfold cutP;rw[if_pos h0]
   rw[e4,ZHd,show (done++(a,([]:Prs)) :: todo).set done.length (ofP a bu false,a.drop (ofP a bu false).length)=done++cutP bu (a,[]) :: todo by rw[e5];simp]at hw
   rw[if_pos h0]
   refine hw.seq ih ?_ rfl
   simp only[List.length_cons,List.map_cons,List.flatten_cons,List.length_append]
   omega
  ·have e5:cutP bu (a,[])=(a,[]):=by unfold cutP;rw[if_neg h0]
   rw[if_neg h0]
   rw[e5]at ih
   refine Ex.more (s:=0+(todo.length+(todo.map (·.1)).flatten.length)) ?_ (by simp only[List.length_cons,List.map_cons,List.flatten_cons,List.length_append];omega)
   exact(Ex.ret () _ 0).seq ih (Nat.le_refl _) rfl
section
variable {c:ZaA} {s:Zas} {x:Zaz} (hx:x.ok) (hs:s.ok) (hR:iY c s) (aW:s.fBans.length<=20/\s.fBook.length<=20/\s.fPeers.length<=20)
include hx hs hR aW
theorem ZGR{q:Pr Zap}{r:Zap}{al out:Int}{bans:List Zab}{book:List Zac}{ps:PPs}(aO:ps.length=Zbr c.fShards){st:Nat}
  (hq:Ex q (mP c s (fBA ZfU (Zbr c.fShards))) r (memM al out bans book (shP ps) (Zbr c.fShards) (fBA ZfU (Zbr c.fShards))) st 0) :
  Ex ((keyP 1 0 false).bind fun _=>(keyP 1 1 false).bind fun _=>(ZmQ c.fShards).bind fun _=>q.bind fun r=>(ZoF c.fShards true).bind fun _=>(keyP 3 1 false).bind fun _=>(keyP 3 0 false).bind fun _=>.ret r) (mP c s fL) r (memM al out bans book (shP ps) (Zbr c.fShards) fL) (st+20) 1:=by
 have _u:=hs;have _v:=hR;have _w:=aW;have _z:=hx;have h8:=ZgD c.fShards;have ev:(shP ps).length=Zbr c.fShards:=by rw[Znb];exact aO
 have a1:Ex (keyP 1 0 false) (mP c s fL) () (mP c s (fB1 ZfU)) 1 0:=Zsx (k:=0) (f:=fL) h8.1 h8.2 (Zmt c s) (by omega) rfl false;have a2:Ex (keyP 1 1 false) (mP c s (fB1 ZfU)) () (mP c s (fB2 ZfU)) 1 0:=Zsx (k:=1) (f:=fB1 ZfU) h8.1 h8.2 (Zmt c s) (by omega) rfl false;have a3:Ex (ZmQ c.fShards) (mP c s (fB2 ZfU)) () (mP c s (fBA ZfU (Zbr c.fShards))) (Zbr c.fShards) 0:=ZvS (f:=fB2 ZfU) h8.1 h8.2 (Zmt c s) c.fShards rfl fun q g1 g2=>ZDN _ q g1;have a7:=ZvT (al:=al) (out:=out) (bans:=bans) (book:=book) (f:=fBA ZfU (Zbr c.fShards)) h8.1 h8.2 ev c.fShards rfl true (fun q g1 g2=>ZGJ g1 g2);rw[ZAR]at a7;have a8:Ex (keyP 3 1 false) (memM al out bans book (shP ps) (Zbr c.fShards) (fB2 ZfU)) () (memM al out bans book (shP ps) (Zbr c.fShards) (fB1 ZfU)) 1 (bn false):=ZpN (k:=1) h8.1 h8.2 ev (by omega) rfl false;have a9:Ex (keyP 3 0 false) (memM al out bans book (shP ps) (Zbr c.fShards) (fB1 ZfU)) () (memM al out bans book (shP ps) (Zbr c.fShards) fL) 1 (bn false):=ZpN (k:=0) (f:=fL) h8.1 h8.2 ev (by omega) rfl false;refine a1.seq (s2:=st+19) (c2:=1) ?_ (by omega) rfl;refine a2.seq (s2:=st+18) (c2:=1) ?_ (by omega) rfl;refine a3.seq (s2:=st+10) (c2:=1) ?_ (by omega) rfl;refine hq.seq (s2:=10) (c2:=1) ?_ (by omega) rfl;refine a7.seq (s2:=2) (c2:=0) ?_ (by omega) rfl;refine a8.seq (s2:=1) (c2:=0) ?_ (by omega) rfl;exact a9.seq (.ret _ _ 0) (by omega) rfl
theorem ZHS(hB:ZiI x=true)(hk:x.fKind=6):ZAd c s x (mP c s fL) (banP c x):=by
 have h8:=ZgD c.fShards;obtain⟨q1,q2⟩:=Znt (c:=c) aW.2.2;have hd:=ZrM hx hs hR aW hB (.inl hk) (c:=c) (s:=s);obtain⟨jP,gh,bV,fw,eu⟩:=ZyI hs hR aW (c:=c);have gQ:=bV.length_eq;have ez:=Zyu hs ⟨aW.2.1,aW.2.2⟩;have iC:(⟨x.fNet,x.fNum⟩ : Zab).ok:=⟨hx.2.2.1,hx.2.2.2.2.1,trivial⟩;unfold ZdC at hd;rw[ZdI,if_pos hk,Zal]at hd;unfold banP;by_cases hu:x.fNum<=x.fNow
 ·rw[if_pos hu,no35,ZaS]at hd;rw[if_pos hu];exact⟨ZiL 3,_,_,s.fBans,s.fBook,lP c s,s.fPeers,2,(ZEQ h8.1 h8.2 (Zmt c s) true).seq (.ret _ _ 0) (by omega) rfl,by omega,hd,hR.peers,bV,q1,q2,rfl,rfl,by omega,by omega,by omega,Nat.zero_le _⟩
 rw[if_neg hu,ZFp _ _ _ (by omega) iC,ZaS]at hd;rw[if_neg hu];have a4:=ZrV hs hR aW (c:=c) (fBA ZfU (Zbr c.fShards));have hbn:=ZGh s.fBans ⟨x.fNet,x.fNum⟩ c.fMaxBans;by_cases h0:(addB s.fBans ⟨x.fNet,x.fNum⟩ c.fMaxBans).2=0;rotate_left
 ·have e2:((addB s.fBans ⟨x.fNet,x.fNum⟩ c.fMaxBans).2 != 0)=true:=by rw[bne_iff_ne];exact h0
  rw[e2,cond_true,no35,ZaS]at hd;have hq:Ex (ZCp c x) (mP c s (fBA ZfU (Zbr c.fShards))) (ZiL (addB s.fBans ⟨x.fNet,x.fNum⟩ c.fMaxBans).2) (mP c s (fBA ZfU (Zbr c.fShards))) 1 0:=by
   unfold ZCp;refine a4.seq (s2:=0) (c2:=0) ?_ (by omega) rfl;rw[if_neg h0];exact .ret _ _ _
  exact⟨_,_,_,s.fBans,s.fBook,lP c s,s.fPeers,1+20,ZGR hx hs hR aW jP hq,by omega,hd,hR.peers,bV,q1,q2,rfl,rfl,by omega,by omega,by omega,Nat.zero_le _⟩
 have e2:((addB s.fBans ⟨x.fNet,x.fNum⟩ c.fMaxBans).2 != 0)=false:=by rw[h0];rfl
 rw[e2,cond_false,ZIp hs hR aW _ _ hx.2.2.1.1,ZaS]at hd;have kG:(ofP ((lP c s).map (·.1)).flatten x.fNet true).Perm (ofP s.fPeers x.fNet true):=bV.filter _;have lQ:(ofP ((lP c s).map (·.1)).flatten x.fNet false).Perm (ofP s.fPeers x.fNet false):=bV.filter _;have hgl:=kG.length_eq;have hg1:=ZtI s.fPeers x.fNet true;have hg2:=ZtI s.fPeers x.fNet false;have c1:=Zux kG true;have c2:=Zux kG false;have jQ:∀e,e∈Zlj (ofP ((lP c s).map (·.1)).flatten x.fNet true)↔e∈Zlj (ofP s.fPeers x.fNet true):=fun e=>(kG.map _).mem_iff;have jR:(if cntP (ofP ((lP c s).map (·.1)).flatten x.fNet true) false>0 then s.fBook.map (Zlk (Zlj (ofP ((lP c s).map (·.1)).flatten x.fNet true)))else s.fBook)=s.fBook.map (Zlk (Zlj (ofP s.fPeers x.fNet true))):=by
  by_cases h:cntP (ofP ((lP c s).map (·.1)).flatten x.fNet true) false>0
  ·rw[if_pos h];exact ZCg jQ
  ·rw[if_neg h];symm;refine ZEd fun e he gH ff=>h ?_;obtain⟨p,bg,bp⟩:=List.mem_map.1 ff;have hp3:p∈s.fPeers:=(List.mem_filter.1 bg).1;obtain⟨hu1,hu2⟩:=(hR.up e he).1 gH;obtain⟨j,j1,j2,j3,_⟩:=ZFK hu1;rw[j2,Int.toNat_natCast]at hu2;have:p=s.fPeers.getD j Zaa.d:=hR.peers.inj hp3 (Zgq _ _ j j1) (bp.trans j3.symm);have hcp:0<(ofP s.fPeers x.fNet true).countP (fun p=>p.fIn==false):=List.countP_pos_iff.2 ⟨p,bg,by rw[this,hu2];rfl⟩;rw[c2];unfold cntP;omega
 have kC:Zfc (s.fBook.map (Zlk (Zlj (ofP s.fPeers x.fNet true)))) 2=Zfc s.fBook 2:=ZzS s.fBook _;have k1:=ZGN s.fPeers x.fNet true;have k2:=ZGN s.fPeers x.fNet false;have k3:=Zmn (ofP s.fPeers x.fNet true) true;have k4:=Zmn (ofP s.fPeers x.fNet true) false;have ev:((lP c s).map (cutP x.fNet)).length=Zbr c.fShards:=by rw[List.length_map];exact jP
 have jS:∀y∈(lP c s).map (cutP x.fNet),(y.1++y.2).length<=1000:=fun y hy=>by
  obtain⟨z,hz,rfl⟩:=List.mem_map.1 hy;have h1:=(fw z hz).2;have h2:=ZtI z.1 x.fNet false;have h3:=eu z hz;unfold cutP;split
  ·simp only[List.length_append,List.length_drop];omega
  ·simp only[List.length_append,h3,List.length_nil];omega
 have a6:Ex (Zsw c.fShards.toNat 0 []) (mP c s (fBA ZfU (Zbr c.fShards))) ((lP c s).map (·.1)) (mP c s (fBA ZfU (Zbr c.fShards))) 30 0:=by
  have ha:=Zxe (al:=cntP s.fPeers true) (out:=cntP s.fPeers false+Zfc s.fBook 2) (bans:=s.fBans) (book:=s.fBook) (f:=fBA ZfU (Zbr c.fShards)) h8.1 h8.2 jP fw (Zbr c.fShards) 0 [] (by omega);rw[List.drop_zero,List.nil_append]at ha;rw[gh];exact ha.more (by omega)
 have a8:=ZBi (al:=cntP s.fPeers true) (out:=cntP s.fPeers false+Zfc s.fBook 2) (bans:=(addB s.fBans ⟨x.fNet,x.fNum⟩ c.fMaxBans).1) (book:=s.fBook) (n:=Zbr c.fShards) (f:=fBA ZfU (Zbr c.fShards)) h8.1 h8.2 x.fNet (lP c s) [] (by simp only[List.length_nil];omega) (fun y hy=>⟨eu y hy,(fw y hy).2⟩);rw[List.nil_append,List.nil_append]at a8;have a9:=ZHW (al:=cntP s.fPeers true) (out:=cntP s.fPeers false+Zfc s.fBook 2) (bans:=(addB s.fBans ⟨x.fNet,x.fNum⟩ c.fMaxBans).1) (book:=s.fBook) (sh:=shP ((lP c s).map (cutP x.fNet))) (n:=Zbr c.fShards) (f:=fBA ZfU (Zbr c.fShards)) h8.1 h8.2 (by rw[Znb];exact ev) (by omega) hs.2.1.2 (by omega) (by omega) (ofP ((lP c s).map (·.1)).flatten x.fNet true) (by omega);rw[jR,c1,c2]at a9;have hq:Ex (ZCp c x) (mP c s (fBA ZfU (Zbr c.fShards))) ⟨0,endZ,((ofP s.fPeers x.fNet true).length:Int),0,[]⟩ (memM (cntP s.fPeers true-cntP (ofP s.fPeers x.fNet true) true) (cntP s.fPeers false+Zfc s.fBook 2-cntP (ofP s.fPeers x.fNet true) false) (addB s.fBans ⟨x.fNet,x.fNum⟩ c.fMaxBans).1 (s.fBook.map (Zlk (Zlj (ofP s.fPeers x.fNet true)))) (shP ((lP c s).map (cutP x.fNet))) (Zbr c.fShards) (fBA ZfU (Zbr c.fShards))) 100 0:=by
  unfold ZCp;refine a4.seq (s2:=90) (c2:=0) ?_ (by omega) rfl;rw[if_pos h0];refine a6.seq (s2:=60) (c2:=0) ?_ (by omega) rfl;refine(ZpO h8.1 h8.2 (Zmt c s) _ false).seq (s2:=59) (c2:=0) ?_ (by omega) rfl;refine Ex.seq a8 (s2:=10) (c2:=0) ?_ (by omega) rfl;refine a9.seq (s2:=0) (c2:=0) ?_ (by omega) rfl;rw[hgl];exact .ret _ _ _
 refine⟨_,_,_,_,_,(lP c s).map (cutP x.fNet),ofP s.fPeers x.fNet false,100+20,ZGR hx hs hR aW ev hq,by omega,hd,hR.peers.filter _,?_,by omega,jS,by omega,by omega,by omega,by rw[List.length_map];omega,by omega,Nat.zero_le _⟩;rw[ZEi];exact lQ
end
theorem Zxa:Zdr=some true:=by decide +kernel
def ZDL(c:ZaA)(s:Zas)(x:Zaz)(mk:Int)(r:Zap)(m:ZaD):Option Bool:=(Zcz c s x).bind fun iZ=>bif(mk==(1:Int))then(ZeW r iZ.2).bind fun x12=>bif x12 then(ZeA m).bind fun x13=>(ZeV x13 iZ.1).bind fun x14=>bif x14 then(Zdt iZ.1).bind fun x15=>(Zgn m iZ.1 x15).bind fun x16=>bif x16 then(Zdr).bind fun x17=>some x17 else some false else some false else some false else some false
theorem ZGu{c:ZaA}{s:Zas}{x:Zaz}{aV:List Zae}{t:Zco}(h:ZhL c x aV=some t)(fu:Nat)(mk i:Int)(hi:i<400)(m:ZaD) :
  ZaJ (fu+1) mk i aV c s x m=bif t.fDone then ZDL c s x mk t.fReply m else bif t.fBroken then some false else(Zbn m t.fOp).bind fun lR=>bif(!lR)then some false else
   (Zbc m t.fOp 0).bind fun cJ=>need ((aV++([cJ.2]:List Zae)).length * 136<=140737488355328/\(aV++([cJ.2]:List Zae)).length<=maxLen) <|
   bif t.fOp.fMark then bif(t.fOp.fKind != (7:Int))then ZaJ fu (Zar mk 1) (Zar i 1) (aV++[cJ.2]) c s x cJ.1 else bif(cJ.2.fN==(1:Int))then ZaJ fu (Zar mk 1) (Zar i 1) (aV++[cJ.2]) c s x cJ.1
    else ZaJ fu mk (Zar i 1) (aV++[cJ.2]) c s x cJ.1
   else ZaJ fu mk (Zar i 1) (aV++[cJ.2]) c s x cJ.1:=by
 have bx:∀r:Option Zco,(r.bind fun y=>some y)=r:=fun r=>by cases r<;>rfl
 unfold ZhL at h
 conv=>lhs;unfold ZaJ
 rw[Zal,if_pos hi];cases hc:Zkz c x with
 |none=>rw[hc]at h;cases h
 |some code=>
  rw[hc]at h;rw[ZaS]at h ⊢;cases code<;>(dsimp only at h ⊢;rw[bx]at h;rw[h,ZaS];rfl)
theorem ZIl{c:ZaA}{s:Zas}{x:Zaz}(hx:x.ok)(ce:0<=c.fShards)(hsh:c.fShards<=1000){m:ZaD}{r:Zap}{m':ZaD}{st cn:Nat}(h:Ex (Zzb c x) m r m' st cn)(bU:st<=390) :
  ZaJ 402 0 0 [] c s x m=ZDL c s x (cn:Int) r m':=by
 have gd:∀aV:List Zae,aV.length<=400->(∀v∈aV,gv0 v)->Gl aV:=fun aV h1 h2=>⟨by omega,fun v hv=>h2 v hv⟩;have nx:∀aV:List Zae,aV.length<=400->(∀v∈aV,gv0 v)->ZhL c x aV=(runT (Zzb c x) aV).map Zsa:=fun aV h1 h2=>ZEL hx ce hsh (gd aV h1 h2);have hl:=ZFC (p:=Zzb c x) (c0:=fun fu mk i aV m=>ZaJ fu mk i aV c s x m) (F:=fun mk r m=>ZDL c s x mk r m)
  (fun fu mk i aV m r g hi h1 h2 h3=>by
   have h4:=nx aV h1 h2;rw[h3]at h4;rw[ZGu h4 fu _ _ (by omega) m];rfl)
  (fun fu mk i aV m q m' v hi h1 i3 h2 h3 h5 h6=>by
   have h4:=nx aV h1 h2;rw[h3]at h4;have e1:Zar (mk:Int) 1=((mk+1:Nat):Int):=by rw[Zcx (by omega) (by omega)];omega
   have e2:Zar (i:Int) 1=((i+1:Nat):Int):=by rw[Zcx (by omega) (by omega)];omega
   rw[ZGu h4 fu _ _ (by omega) m];show ((Zbn m q).bind fun lR=>bif(!lR)then some false else(Zbc m q 0).bind fun cJ=>need ((aV++([cJ.2]:List Zae)).length * 136<=140737488355328/\(aV++([cJ.2]:List Zae)).length<=maxLen) <|
    bif q.fMark then bif(q.fKind != (7:Int))then ZaJ fu (Zar (mk:Int) 1) (Zar (i:Int) 1) (aV++[cJ.2]) c s x cJ.1 else bif(cJ.2.fN==(1:Int))then ZaJ fu (Zar (mk:Int) 1) (Zar (i:Int) 1) (aV++[cJ.2]) c s x cJ.1
     else ZaJ fu (mk:Int) (Zar (i:Int) 1) (aV++[cJ.2]) c s x cJ.1
    else ZaJ fu (mk:Int) (Zar (i:Int) 1) (aV++[cJ.2]) c s x cJ.1)=_
   rw[h5,ZaS,Bool.not_true,cond_false,h6,ZaS,Zaw ⟨by simp;omega,by simp[maxLen];omega⟩,e1,e2];unfold mkd;cases hq:q.fMark with
   |false=>rw[cond_false,if_neg (fun h=>by cases h.1)];rfl
   |true=>
    rw[cond_true];by_cases h7:q.fKind=7
    ·have e3:(q.fKind != 7)=false:=by rw[h7];rfl
     rw[e3,cond_false];by_cases h8:v.fN=1
     ·rw[if_pos ⟨rfl,.inr h8⟩];dsimp only;rw[h8];rfl
     ·rw[if_neg (fun h=>h.2.elim (fun h=>h h7) h8),Nat.add_zero];dsimp only;rw[beq_false_of_ne h8];rfl
    ·have e3:(q.fKind != 7)=true:=by rw[bne_iff_ne];exact h7
     rw[e3,cond_true,if_pos ⟨rfl,.inl h7⟩])
  h 402 0 0 [] (Rs.nil _) (fun v hv=>by cases hv) rfl (Nat.le_refl _) (by omega) (by omega)
 rw[Nat.zero_add]at hl;exact hl
section
variable {c:ZaA} {s:Zas} {x:Zaz} (hx:x.ok) (hs:s.ok) (hR:iY c s) (aW:s.fBans.length<=20/\s.fBook.length<=20/\s.fPeers.length<=20)
include hx hs hR aW
theorem ZEP(hk:x.fKind=6\/x.fKind=7\/x.fKind=8\/x.fKind=9\/x.fKind=10):ZAd c s x (mP c s fL) (Zzb c x):=by
 unfold Zzb;cases hB:ZiI x with
 |false=>rw[if_neg (by decide)];exact ZEN hx hs hR aW hB
 |true=>
  rw[if_pos rfl];by_cases h6:x.fKind=6
  ·rw[if_pos h6];exact ZHS hx hs hR aW hB h6
  rw[if_neg h6];by_cases h7:x.fKind=7
  ·rw[if_pos h7];exact ZEO hx hs hR aW hB h7
  rw[if_neg h7];by_cases h8:x.fKind=8
  ·rw[if_pos h8];exact ZCv hx hs hR aW hB h8
  rw[if_neg h8];by_cases h9:x.fKind=9
  ·rw[if_pos h9];exact ZGm hx hs hR aW hB h9
  rw[if_neg h9,if_pos (by omega)];exact ZGn hx hs hR aW hB (by omega)
omit hx hs hR aW in
theorem ZFL{r:Zap}{al out:Int}{bans:List Zab}{book:List Zac}{ps:PPs}{peers:Prs}(hd:Zcz c s x=some (⟨bans,book,peers⟩,r))(h1:StrP peers)(h2:((ps.map (·.1)).flatten).Perm peers)(h3:ps.length<=100)(h4:∀y∈ps,(y.1++y.2).length<=1000)
  (h5:al=cntP peers true) (h6:out=cntP peers false+Zfc book 2) (h7:bans.length<=1000) (h8:book.length<=1000) (h9:peers.length<=1000) (h10:r.fPeers.length<=1000):ZDL c s x 1 r (memM al out bans book (shP ps) (Zbr c.fShards) fun _=>ZhE)=some true:=by
 have h8':=ZgD c.fShards;unfold ZDL;rw[hd,ZaS];show (bif((1:Int)==1)then _ else _)=_;rw[show ((1:Int)==1)=true from rfl,cond_true];dsimp only;rw[ZuO r (by omega),ZaS,cond_true,ZBw h3 h4 h1 h2,ZaS,ZuN _ (by show bans.length<=_;omega) (by show book.length<=_;omega) (by show peers.length<=_;omega),ZaS,cond_true,ZsG _ (by show peers.length<=_;omega) (by show book.length<=_;omega),ZaS,ZEu (by omega) h9 h5 h6,ZaS,cond_true,Zxa];rfl
end
theorem ZIj(x:Zaz):∃b,Zgm x=some b/\(b=true->x.fKind=6\/x.fKind=7\/x.fKind=8\/x.fKind=9\/x.fKind=10):=by
 unfold Zgm;rw[Zal];by_cases h:x.fKind>=6
 ·rw[if_pos h];refine⟨_,rfl,fun h2=>?_⟩;have:=of_decide_eq_true h2;omega
 ·rw[if_neg h];exact⟨false,rfl,fun h=>by cases h⟩
theorem ZuH(c:ZaA)(s:Zas)(x:Zaz)(hc:c.ok)(hs:s.ok)(hx:x.ok):Zfw c s x=some true:=by
 obtain⟨b1,h1,h1'⟩:=ZHb s;unfold Zfw;rw[h1,ZaS];cases b1 with
 |false=>rw[Bool.not_false,cond_true,Zxa];rfl
 |true=>
  obtain⟨n1,n2,n3⟩:=h1' rfl;obtain⟨b2,h2,kp⟩:=ZHi c s hs n1 n2 n3;rw[Bool.not_true,cond_false,h2,ZaS];cases b2 with
  |false=>rw[Bool.not_false,cond_true,Zxa];rfl
  |true=>
   obtain⟨b3,h3,gH⟩:=ZIj x;rw[Bool.not_true,cond_false,h3,ZaS];cases b3 with
   |false=>rw[Bool.not_false,cond_true,Zxa];rfl
   |true=>
    rw[Bool.not_true,cond_false,ZFz c s hs.2.2.1.2 (by omega) (by omega),ZaS];obtain⟨r,al,out,bans,book,ps,peers,st,q1,q2,q3,q4,q5,q6,q7,q8,q9,q10,q11,q12,q13⟩:=ZEP hx hs (kp rfl) ⟨n1,n2,n3⟩ (gH rfl) (c:=c);have hsh:=ZAo (kp rfl).conf;have hl:=ZIl (s:=s) hx (by omega) (by omega) q1 q2;refine Eq.trans hl ?_;exact ZFL q3 q4 q5 q6 q7 q8 q9 q10 q11 q12 q13
end Go.Proofs.YtdjfoojllbfcgaaGreat
