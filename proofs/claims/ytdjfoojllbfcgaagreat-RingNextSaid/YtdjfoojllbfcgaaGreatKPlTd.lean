import Derived.Test.YtdjfoojllbfcgaaGreatKPlEc
import Derived.Test.YtdjfoojllbfcgaaGreatKRngA3
import Derived.Test.YtdjfoojllbfcgaaGreatKPlA
namespace Go.Proofs.YtdjfoojllbfcgaaGreat
set_option linter.unusedSimpArgs false
set_option linter.unusedVariables false
theorem ZBC{n:Nat}(h:n≤1000000):n≤maxLen:=by simp only[maxLen];omega
theorem Zxh{a:Int}(h : -1000000000000000000≤a)(h':a≤1000000000000000000):IntKind.i64.wrap a=a:=by
 simp only[IntKind.wrap,IntKind.bits,IntKind.signed];simp;omega
abbrev Itm:=Zaf
def cmpH(a b:Itm):Int:=orI (cmpI a.fKey b.fKey) (cmpE a.fEnd b.fEnd)
theorem ZCd(a b:Itm):ZkM a b=some (cmpH a b):=by
 simp only[ZkM,ZwW,ZBc,or2,Option.bind_some,cmpH]
theorem ZvC(a b:Itm):ZkN a b=some (decide (cmpH a b<0)):=by
 simp only[ZkN,ZCd,Option.bind_some]
theorem ZEx{a b:Itm}:cmpH a b<0↔a.fKey<b.fKey∨(a.fKey=b.fKey∧cmpE a.fEnd b.fEnd<0):=by simp only[cmpH,ZxM,Zul,ZkX]
theorem Zun{a b:Itm}:0<cmpH a b↔cmpH b a<0:=by
 simp only[cmpH,ZxM,ZAE,Zul,ZwX,ZkX,ZrA];constructor<;>rintro (h|⟨h1,h2⟩)<;>first|exact .inl h|exact .inr ⟨h1.symm,h2⟩
theorem Zum{a b:Itm}:cmpH a b=0↔a=b:=by
 simp only[cmpH,ZsO,ZkX,ZEy];obtain⟨x,p⟩:=a;obtain⟨y,q⟩:=b;simp
theorem ZvN{a b c:Itm}(h1:cmpH a b<0)(h2:cmpH b c<0):cmpH a c<0:=by
 rw[ZEx]at *
 rcases h1 with h1|⟨h1,h3⟩<;>rcases h2 with h2|⟨h2,h4⟩
 ·exact .inl (by omega)
 ·exact .inl (by omega)
 ·exact .inl (by omega)
 ·exact .inr ⟨by omega,ZCt h3 h4⟩
def leH(a b:Itm):Prop:=¬cmpH b a<0
theorem ZpE(a:Itm):leH a a:=by unfold leH;rw[Zum.2 rfl];omega
theorem ZtI{a b:Itm}(h:cmpH a b<0):leH a b:=by
 unfold leH;intro h2;have:=Zun.2 h2;omega
theorem ZtH{a b c:Itm}(h1:leH a b)(h2:leH b c):leH a c:=by
 unfold leH at *
 intro h;have e1:cmpH a b≤0:=by
  by_cases q:0<cmpH a b
  ·exact absurd (Zun.1 q) h1
  ·omega
 by_cases q:cmpH a b=0
 ·have:=Zum.1 q;subst this;exact h2 h
 ·exact h2 (ZvN h (by omega))
theorem ZqV{a b:Itm}(h:¬cmpH a b<0):leH b a:=h
abbrev ixH(h:List Itm)(i:Nat):Itm:=h.getD i Zaf.d
def HF(lo:Nat)(h:List Itm):Prop:=∀k,0<k→k<h.length→lo≤(k-1) / 2→leH (ixH h ((k-1) / 2)) (ixH h k)
structure HB (lo i:Nat) (h:List Itm):Prop where
 ge:lo≤i
 up:∀k,0<k→k<h.length→lo≤(k-1) / 2→(k-1) / 2≠i→leH (ixH h ((k-1) / 2)) (ixH h k)
 over:∀k,0<k→k<h.length→(k-1) / 2=i→0<i→lo≤(i-1) / 2→leH (ixH h ((i-1) / 2)) (ixH h k)
def ZwZ(h:List Itm)(i b:Nat):Nat:=if 2*i+2<h.length∧cmpH (ixH h (2*i+2)) (ixH h b)<0 then 2*i+2 else b
def Zmj(h:List Itm)(i:Nat):Nat:=ZwZ h i (if 2*i+1<h.length∧cmpH (ixH h (2*i+1)) (ixH h i)<0 then 2*i+1 else i)
theorem ZyO(h:List Itm)(i:Nat)(e:¬2*i+1<h.length):Zmj h i=i:=by
 unfold Zmj ZwZ;rw[if_neg (fun x:2*i+1<h.length∧_=>e x.1),if_neg (fun x=>by have:=x.1;omega)]
theorem Zut(h:List Itm)(i:Nat)(hi:i<h.length):(Zmj h i=i∨(Zmj h i=2*i+1∨Zmj h i=2*i+2)∧Zmj h i<h.length∧cmpH (ixH h (Zmj h i)) (ixH h i)<0)∧Zmj h i<h.length ∧
  ∀k,k<h.length→0<k→(k-1) / 2=i→leH (ixH h (Zmj h i)) (ixH h k):=by
 have hk:∀k,0<k→(k-1) / 2=i→k=2*i+1∨k=2*i+2:=by intro k h1 h2;omega
 unfold Zmj ZwZ;by_cases c1:2*i+1<h.length∧cmpH (ixH h (2*i+1)) (ixH h i)<0
 ·rw[if_pos c1];by_cases c2:2*i+2<h.length∧cmpH (ixH h (2*i+2)) (ixH h (2*i+1))<0
  ·rw[if_pos c2];refine⟨.inr ⟨.inr rfl,c2.1,ZvN c2.2 c1.2⟩,c2.1,fun k h1 h2 h3=>?_⟩;rcases hk k h2 h3 with e|e
   ·subst e;exact ZtI c2.2
   ·subst e;exact ZpE _
  ·rw[if_neg c2];refine⟨.inr ⟨.inl rfl,c1.1,c1.2⟩,c1.1,fun k h1 h2 h3=>?_⟩;rcases hk k h2 h3 with e|e
   ·subst e;exact ZpE _
   ·subst e;exact ZqV fun q=>c2 ⟨h1,q⟩
 ·rw[if_neg c1];by_cases c2:2*i+2<h.length∧cmpH (ixH h (2*i+2)) (ixH h i)<0
  ·rw[if_pos c2];refine⟨.inr ⟨.inr rfl,c2.1,c2.2⟩,c2.1,fun k h1 h2 h3=>?_⟩;rcases hk k h2 h3 with e|e
   ·subst e;exact ZtH (ZtI c2.2) (ZqV fun q=>c1 ⟨h1,q⟩)
   ·subst e;exact ZpE _
  ·rw[if_neg c2];refine⟨.inl rfl,hi,fun k h1 h2 h3=>?_⟩;rcases hk k h2 h3 with e|e
   ·subst e;exact ZqV fun q=>c1 ⟨h1,q⟩
   ·subst e;exact ZqV fun q=>c2 ⟨h1,q⟩
def Zsx(h:List Itm)(i b:Nat):List Itm:=(h.set i (ixH h b)).set b (ixH h i)
theorem ZoJ(h:List Itm)(i b:Nat):(Zsx h i b).length=h.length:=by simp[Zsx]
theorem ZqD(h:List Itm)(i b k:Nat)(hi:i<h.length)(hb:b<h.length):ixH (Zsx h i b) k=if k=b then ixH h i else if k=i then ixH h b else ixH h k:=by
 simp only[ixH,Zsx,List.getD_eq_getElem?_getD,List.getElem?_set,List.length_set];by_cases h1:k=b
 ·subst h1;simp[hb]
 ·rw[if_neg (Ne.symm h1),if_neg h1];by_cases h2:k=i
  ·subst h2;simp[hi]
  ·rw[if_neg (Ne.symm h2),if_neg h2]
theorem ZBy(h:List Itm)(i b:Nat)(hi:i<h.length)(hb:b<h.length):(Zsx h i b).Perm h:=by
 rw[List.perm_iff_count];intro a;unfold Zsx;have e1:ixH h i=h[i]:=Zjh h _ i hi;have e2:ixH h b=h[b]:=Zjh h _ b hb;rw[e1,e2];by_cases hib:i=b
 ·subst hib;simp
 ·rw[List.count_set (by simpa using hb),List.count_set hi,List.getElem_set_ne hib];have m1:(if(h[i]==a)=true then 1 else 0)≤h.count a:=by
   split
   ·rename_i q;have:h[i]=a:=by simpa using q
    exact List.one_le_count_iff.2 (this ▸ List.getElem_mem hi)
   ·omega
  have m2:(if(h[b]==a)=true then 1 else 0)≤h.count a:=by
   split
   ·rename_i q;have:h[b]=a:=by simpa using q
    exact List.one_le_count_iff.2 (this ▸ List.getElem_mem hb)
   ·omega
  by_cases q1:(h[i]==a)=true<;>by_cases q2:(h[b]==a)=true<;>simp only[q1,q2]at m1 m2 ⊢<;>omega
theorem HB.step{lo i:Nat}{h:List Itm}(H:HB lo i h)(hi:i<h.length)(hne:Zmj h i≠i):HB lo (Zmj h i) (Zsx h i (Zmj h i)):=by
 obtain⟨c,hb,hm⟩:=Zut h i hi;generalize hbe:Zmj h i=b at *
 rcases c with c|⟨c,_,hlt⟩
 ·exact absurd c hne
 have hpar:(b-1) / 2=i:=by omega
 have hib:i<b:=by omega
 refine⟨by have:=H.ge;omega,fun k h1 h2 h3 h4=>?_,fun k h1 h2 h3 h4 h5=>?_⟩
 ·rw[ZoJ]at h2;rw[ZqD h i b _ hi hb,ZqD h i b _ hi hb,if_neg h4];by_cases e1:(k-1) / 2=i
  ·rw[if_pos e1];by_cases e2:k=b
   ·rw[if_pos e2];exact ZtI hlt
   ·rw[if_neg e2,if_neg (by omega)];exact hm k h2 h1 e1
  ·rw[if_neg e1,if_neg (by omega:k≠b)];by_cases e2:k=i
   ·rw[if_pos e2];subst e2;exact H.over b (by omega) hb hpar h1 h3
   ·rw[if_neg e2];exact H.up k h1 h2 h3 e1
 ·rw[ZoJ]at h2;rw[ZqD h i b _ hi hb,ZqD h i b _ hi hb,if_neg (by omega),if_pos hpar,if_neg (by omega),if_neg (by omega)];have:=H.up k h1 h2 (by have:=H.ge;omega) (by omega);rw[h3]at this;exact this
theorem HB.done{lo i:Nat}{h:List Itm}(H:HB lo i h)(hi:i<h.length)(he:Zmj h i=i):HF lo h:=by
 obtain⟨c,hb,hm⟩:=Zut h i hi;intro k h1 h2 h3;by_cases e:(k-1) / 2=i
 ·rw[e];rw[he]at hm;exact hm k h2 h1 e
 ·exact H.up k h1 h2 h3 e
theorem mul2{i:Nat}(h:i≤1000000):ZrN (2:Int) (i:Int)=((2*i:Nat):Int):=by
 simp only[ZrN];rw[show (2:Int)*(i:Int)=((2*i:Nat):Int)by omega];exact Zxh (by omega) (by omega)
theorem add2{i k:Nat}(h:i≤3000000)(hk:k≤2):ZaC (i:Int) (k:Int)=((i+k:Nat):Int):=by rw[ZgM (by omega) (by omega)];omega
theorem ZHt(i:Nat)(h:List Itm)(hi:i<h.length)(hl:h.length≤1000000)(kk:Int→List Itm→Option (List Itm))(fu:Nat)(hf:3≤fu) :
  ZcR (i:Int) kk fu (i:Int) ((2*i+1:Nat):Int) h=if Zmj h i=i then some h else kk ((Zmj h i:Nat):Int) (Zsx h i (Zmj h i)):=by
 obtain⟨fu,rfl⟩ : ∃n,fu=n+3:=⟨fu-3,by omega⟩;have two:ZaC (ZrN (2:Int) (i:Int)) (2:Int)=((2*i+2:Nat):Int):=by rw[mul2 (by omega)];exact add2 (k:=2) (by omega) (by omega)
 have ends:∀b:Nat,b<h.length→(bif((b:Int)==(i:Int))then some h else need (0≤(b:Int)∧(b:Int)<((h.length:Nat):Int))<|need (0≤(i:Int)∧(i:Int)<((h.length:Nat):Int))<|kk (b:Int) ((h.set (i:Int).toNat (h.getD (b:Int).toNat Zaf.d)).set (b:Int).toNat (h.getD (i:Int).toNat Zaf.d))) =
   if b=i then some h else kk ((b:Nat):Int) (Zsx h i b):=by
  intro b hb;by_cases e:b=i
  ·subst e;simp
  ·rw[show ((b:Int)==(i:Int))=false by rw[beq_eq_false_iff_ne];omega,cond_false,Zaz ⟨by omega,by omega⟩,Zaz ⟨by omega,by omega⟩,if_neg e];rfl
 -- the second one below,or none
 have second:∀(b fu:Nat),b<h.length→ZcR (i:Int) kk (fu+2) (b:Int) ((2*i+2:Nat):Int) h=if ZwZ h i b=i then some h else kk ((ZwZ h i b:Nat):Int) (Zsx h i (ZwZ h i b)):=by
  intro b fu hb;have third:∀c:Nat,c<h.length→ZcR (i:Int) kk (fu+1) (c:Int) ((2*i+3:Nat):Int) h=if c=i then some h else kk ((c:Nat):Int) (Zsx h i c):=by
   intro c hc;simp only[ZcR,Zao,two];rw[if_neg (by omega)];exact ends c hc
  unfold ZcR;simp only[Zao,two];rw[if_pos (by omega)];by_cases e:2*i+2<h.length
  ·rw[if_pos (by omega),Zaz ⟨by omega,by omega⟩,Zaz ⟨by omega,by omega⟩,ZvC];simp only[Option.bind_some,Int.toNat_natCast,Zao];rw[show ZaC ((2*i+2:Nat):Int) (1:Int)=((2*i+3:Nat):Int)from add2 (i:=2*i+2) (k:=1) (by omega) (by omega)];by_cases q:cmpH (ixH h (2*i+2)) (ixH h b)<0
   ·rw[if_pos q,show ZwZ h i b=2*i+2 from if_pos ⟨e,q⟩];exact third _ e
   ·rw[if_neg q,show ZwZ h i b=b from if_neg (fun x=>q x.2)];exact third _ hb
  ·rw[if_neg (by omega),show ZwZ h i b=b from if_neg (fun x=>e x.1)];exact ends b hb
 unfold ZcR;simp only[Zao,two];rw[if_pos (by omega)];by_cases e:2*i+1<h.length
 ·rw[if_pos (by omega),Zaz ⟨by omega,by omega⟩,Zaz ⟨by omega,by omega⟩,ZvC];simp only[Option.bind_some,Int.toNat_natCast,Zao];rw[show ZaC ((2*i+1:Nat):Int) (1:Int)=((2*i+2:Nat):Int)from add2 (i:=2*i+1) (k:=1) (by omega) (by omega)];by_cases q:cmpH (ixH h (2*i+1)) (ixH h i)<0
  ·rw[if_pos q,second _ fu e];unfold Zmj;rw[if_pos (show 2*i+1<h.length∧cmpH (ixH h (2*i+1)) (ixH h i)<0 from⟨e,q⟩)]
  ·rw[if_neg q,second _ fu hi];unfold Zmj;rw[if_neg (show ¬(2*i+1<h.length∧cmpH (ixH h (2*i+1)) (ixH h i)<0)from fun x=>q x.2)]
 ·rw[if_neg (by omega),ends i hi,ZyO h i e]
theorem ZEk:∀fu (lo i:Nat) (h:List Itm),i<h.length→h.length≤1000000→HB lo i h→h.length-i<fu→∃h',ZdO fu (i:Int) h=some h'∧h'.Perm h∧HF lo h':=by
 intro fu;induction fu with
 |zero=>intro _ _ _ _ _ _ h;omega
 |succ fu ih=>
  intro lo i h hi hl H hf;simp only[ZdO];have e1:ZaC (ZrN (2:Int) (i:Int)) (1:Int)=((2*i+1:Nat):Int):=by rw[mul2 (by omega)];exact add2 (k:=1) (by omega) (by omega)
  obtain⟨c,hb,_⟩:=Zut h i hi;rw[e1];by_cases hc:2*i+1<h.length
  ·rw[ZHt i h hi hl _ _ (by omega)];by_cases e:Zmj h i=i
   ·rw[if_pos e];exact⟨h,rfl,List.Perm.refl _,H.done hi e⟩
   ·rw[if_neg e];obtain⟨h',h1,h2,h3⟩:=ih lo (Zmj h i) (Zsx h i (Zmj h i)) (by rw[ZoJ];exact hb) (by rw[ZoJ];exact hl) (H.step hi e) (by rw[ZoJ];omega);exact⟨h',h1,h2.trans (ZBy h i _ hi hb),h3⟩
  ·-- no kids: the fuel is small
   have e:=ZyO h i hc;refine⟨h,?_,List.Perm.refl _,H.done hi e⟩;have two:ZaC (ZrN (2:Int) (i:Int)) (2:Int)=((2*i+2:Nat):Int):=by rw[mul2 (by omega)];exact add2 (k:=2) (by omega) (by omega)
   obtain⟨n,hn⟩ : ∃n,((((h.length:Nat):Int)-((2*i+1:Nat):Int)).toNat+2)=n+1:=⟨_,rfl⟩;rw[hn];simp only[ZcR,Zao,two];rw[if_pos (by omega),if_neg (by omega)];simp
theorem Zyf(lo i:Nat)(h:List Itm)(hi:i<h.length)(hl:h.length≤900000)(H:HB lo i h):∃h',Zjk h (i:Int)=some h'∧h'.Perm h∧HF lo h':=
 ZEk 1000000 lo i h hi (by omega) H (by omega)
theorem ZFJ:Zjk [] 0=some []:=by
 have:∀fu,ZdO (fu+1) 0 []=some []:=fun fu=>by
  rw[ZdO];rw[show ((((([]:List Itm).length:Nat):Int)-(ZaC (ZrN (2:Int) (0:Int)) (1:Int))).toNat+2)=1+1 from rfl];rfl
 exact this 999999
theorem ZyE(l:List Itm)(h:l.length≤1000000):Zbh l=some l:=by
 unfold Zbh;rw[Zaz ⟨by omega,ZBC h⟩]
theorem ZDy:∀fu (i:Nat) (h:List Itm),i≤h.length / 2→h.length≤900000→HF i h→i<fu→∃h',ZgC fu ((i:Int)-1) h=some h'∧h'.Perm h∧HF 0 h':=by
 intro fu;induction fu with
 |zero=>intro _ _ _ _ _ h;omega
 |succ fu ih=>
  intro i h hi hl H hf;simp only[ZgC,Zao];by_cases e:i=0
  ·subst e;rw[if_neg (by omega)];exact⟨h,rfl,List.Perm.refl _,H⟩
  ·rw[if_pos (by omega)];obtain⟨j,rfl⟩ : ∃j,i=j+1:=⟨i-1,by omega⟩;rw[show ((j+1:Nat):Int)-1=(j:Int)by omega];have HBj:HB j j h:=⟨Nat.le_refl _,fun k h1 h2 h3 h4=>H k h1 h2 (by omega),fun k h1 h2 h3 h4 h5=>by omega⟩;obtain⟨h',d1,d2,d3⟩:=Zyf j j h (by omega) hl HBj;rw[d1];simp only[Option.bind_some];rw[show Zby (j:Int) (1:Int)=(j:Int)-1 from ZhO (by omega) (by omega)];obtain⟨h'',m1,m2,m3⟩:=ih j h' (by rw[d2.length_eq];omega) (by rw[d2.length_eq];exact hl) d3 (by omega);exact⟨h'',m1,m2.trans d2,m3⟩
theorem tdiv2(n:Nat)(h:n≤1000000):IntKind.wrap .i64 (Int.tdiv (n:Int) (2:Int))=((n / 2:Nat):Int):=by
 rw[show Int.tdiv (n:Int) (2:Int)=((n / 2:Nat):Int)by rw[Int.tdiv_eq_ediv_of_nonneg (by omega)];omega];exact Zxh (by omega) (by omega)
theorem Zye(l:List Itm)(hl:l.length≤900000):∃h,Zid l=some h∧h.Perm l∧HF 0 h:=by
 simp only[Zid,ZyE l (by omega),Option.bind_some];rw[tdiv2 _ (by omega),show Zby ((l.length / 2:Nat):Int) (1:Int)=((l.length / 2:Nat):Int)-1 from ZhO (by omega) (by omega)];exact ZDy _ (l.length / 2) l (Nat.le_refl _) hl (fun k h1 h2 h3=>by omega) (by omega)
theorem ZFC{h:List Itm}(H:HF 0 h):∀n k,k≤n→k<h.length→leH (ixH h 0) (ixH h k):=by
 intro n;induction n with
 |zero=>intro k h1 h2;rw[show k=0 by omega];exact ZpE _
 |succ n ih=>
  intro k h1 h2;by_cases e:k=0
  ·rw[e];exact ZpE _
  ·exact ZtH (ih ((k-1) / 2) (by omega) (by omega)) (H k (by omega) h2 (Nat.zero_le _))
theorem Zsp:Zkt []=some (⟨0,⟨⟨false,0,0⟩,0⟩⟩,[],false):=rfl
theorem ZAS(h:List Itm)(hl:h.length≤900000)(H:HF 0 h)(hne:h≠[]):∃x r,Zkt h=some (x,r,true)∧h.Perm (x :: r)∧HF 0 r∧∀y∈h,leH x y:=by
 have hpos:0<h.length:=List.length_pos_iff.2 hne;have es:Zby ((h.length:Nat):Int) (1:Int)=((h.length-1:Nat):Int):=by rw[ZhO (by omega) (by omega)];omega
 -- the rest ahead of sinking
 have hx:∀(l:List Itm),(hlp:0<l.length)→l.Perm (ixH l 0 :: (l.set 0 (ixH l (l.length-1))).take (l.length-1)):=by
  intro l hlp;cases l with
  |nil=>simp at hlp
  |cons a t=>
   simp only[ixH,List.getD_cons_zero,List.length_cons,Nat.add_sub_cancel,List.set_cons_zero];rcases t.eq_nil_or_concat with e|⟨t',z,e⟩
   ·subst e;simp
   ·subst e;simp only[List.concat_eq_append,List.length_append,List.length_singleton];rw[show ((a :: (t'++[z])).getD (t'.length+1) Zaf.d)=z by simp[List.getD_eq_getElem?_getD]];rw[show List.take (t'.length+1) (z :: (t'++[z]))=z :: t' by simp];refine List.Perm.cons a ?_;exact List.perm_append_comm
 have hin:∀y∈h,leH (ixH h 0) y:=by
  intro y hy;obtain⟨k,h1,h2⟩:=List.getElem_of_mem hy;have:=ZFC H k k (Nat.le_refl _) h1;rw[show ixH h k=y by rw[←h2];exact Zjh h _ k h1]at this;exact this
 let r0:=(h.set 0 (ixH h (h.length-1))).take (h.length-1)
 have hr0:r0.length=h.length-1:=by simp[r0]
 have hd:∃r,Zjk r0 (0:Int)=some r∧r.Perm r0∧HF 0 r:=by
  by_cases e:h.length=1
  ·have:r0=[]:=List.eq_nil_of_length_eq_zero (by omega);rw[this];exact⟨[],ZFJ,List.Perm.refl _,fun k _ h2=>by simp at h2⟩
  ·refine Zyf 0 0 r0 (by omega) (by omega) ⟨Nat.le_refl _,fun k h1 h2 h3 h4=>?_,fun k h1 h2 h3 h4=>by omega⟩;have e1:∀j,0<j→j<r0.length→ixH r0 j=ixH h j:=by
    intro j j1 j2;rw[hr0]at j2;simp only[ixH,r0,List.getD_eq_getElem?_getD,List.getElem?_take,if_pos j2,List.getElem?_set,if_neg (show ¬0=j by omega)]
   rw[e1 k h1 h2,e1 _ (by omega) (by omega)];exact H k h1 (by rw[hr0]at h2;omega) h3
 obtain⟨r,d1,d2,d3⟩:=hd;refine⟨ixH h 0,r,?_,(hx h hpos).trans (List.Perm.cons _ d2.symm),d3,hin⟩;simp only[Zkt];rw[show (((h.length:Nat):Int)==(0:Int))=false by rw[beq_eq_false_iff_ne];omega,cond_false,ZyE h (by omega)];simp only[Option.bind_some,es,Int.toNat_natCast];rw[Zaz ⟨by omega,by omega⟩,Zaz ⟨by omega,by omega⟩,Zaz ⟨by omega,by omega,by omega⟩,Zaz (by simp)];rw[show (h.set ((0:Int).toNat) (h.getD (h.length-1) Zaf.d)).take (h.length-1)=r0 from rfl,d1];simp only[Option.bind_some];rw[Zaz ⟨by omega,by omega⟩];rfl
def grp(a:Zag):Zai:=if ZcP a then(if a.fV6 then⟨⟨true,a.fHi-a.fHi % 4294967296,0⟩,32⟩else⟨⟨false,0,a.fLo-a.fLo % 65536⟩,16⟩)else⟨⟨false,0,0⟩,0⟩
theorem top16:ZeI 16=some 18446462598732840960:=by decide +kernel
theorem top32:ZeI 32=some 18446744069414584320:=by decide +kernel
theorem topm:ZeI (Zby 32 64)=some 0:=by decide +kernel
theorem ZBo(n k:Nat)(hk:k≤64)(h:n<2 ^ 64):n &&& (2 ^ 64-2 ^ k)=n-n % 2 ^ k:=by
 have h1:n-n % 2 ^ k=2 ^ k*(n / 2 ^ k):=by have:=Nat.div_add_mod n (2 ^ k);omega
 rw[h1];apply Nat.eq_of_testBit_eq;intro i;have h2:2 ^ 64-2 ^ k=2 ^ k*(2 ^ (64-k)-1):=by
  rw[Nat.mul_sub,←Nat.pow_add,Nat.mul_one];congr 2;omega
 rw[Nat.testBit_and,h2,Nat.testBit_two_pow_mul,Nat.testBit_two_pow_mul,Nat.testBit_two_pow_sub_one,Nat.testBit_div_two_pow];by_cases hi:k≤i
 ·by_cases h3:i<64
  ·simp[hi,show i-k<64-k by omega,show i-k+k=i by omega]
  ·have:n.testBit i=false:=Nat.testBit_lt_two_pow (Nat.lt_of_lt_of_le h (Nat.pow_le_pow_right (by omega) (by omega)));simp[hi,this,show i-k+k=i by omega]
 ·simp[hi]
theorem ZIh(n:Nat)(h:n<4294967296):n &&& 4294901760=n-n % 65536:=by
 have h1:=ZBo n 16 (by omega) (by omega);have h2:n &&& 4294901760=n &&& (2 ^ 64-2 ^ 16):=by
  apply Nat.eq_of_testBit_eq;intro i;rw[Nat.testBit_and,Nat.testBit_and];by_cases hi:i<32
  ·congr 1;have:∀i:Fin 32,Nat.testBit 4294901760 i.val=Nat.testBit (2 ^ 64-2 ^ 16) i.val:=by decide
   exact this ⟨i,hi⟩
  ·have:n.testBit i=false:=Nat.testBit_lt_two_pow (Nat.lt_of_lt_of_le h (Nat.pow_le_pow_right (n:=2) (by omega) (show 32≤i by omega)));rw[this];rfl
 rw[h2,h1]
theorem Zxb(a b:Nat)(ha:a<2 ^ 64)(hb:b<2 ^ 64):IntKind.u64.wrap (((BitVec.ofInt (IntKind.bits .u64) (a:Int)) &&& (BitVec.ofInt (IntKind.bits .u64) (b:Int))).toNat:Int)=((a &&& b:Nat):Int):=by
 rw[ZAg a b ha hb];have:a &&& b<2 ^ 64:=Nat.and_lt_two_pow _ hb;exact Zhi (by omega) (by omega)
theorem ZwE(a:Zag)(h:a.ok):Ziu a=some (grp a):=by
 have hr:=Zjy a h;obtain⟨v,hi,lo⟩:=a;obtain⟨_,h1,h2,_⟩:=h;have h1:=ZjC h1;have h2:=ZjC h2;simp only at h1 h2;obtain⟨n,hn⟩:=ZiK h1.1;obtain⟨m,hm⟩:=ZiK h2.1;subst hn hm;cases hv:ZcP ⟨v,n,m⟩with
 |false=>
  cases v<;>simp[Ziu,Zju,Zfd,hr,hv,grp]
 |true=>
  cases v with
  |false=>
   have hc:(n:Int)=0∧(m:Int)<4294967296:=by simpa[ZcP]using hv
   have e2:(m &&& 4294901760:Nat)=m-m % 65536:=ZIh m (by omega);have e1:=Zxb m 4294901760 (by omega) (by omega);rw[e2]at e1;have e3:Int.fdiv (18446462598732840960:Int) (2 ^ (min (32:Int).toNat (IntKind.bits .u64)))=((4294901760:Nat):Int):=by decide +kernel
   simp only[Ziu,Zju,Zfd,hr,hv,Option.bind_some,cond_false,Bool.not_true,Zdt,Zhu,Bool.not_false,cond_true,grp,if_true,Bool.false_eq_true,if_false];simp only[show (decide ((16:Int)<0))=false from rfl,show decide ((16:Int)>32)=false from rfl,cond_false,Option.bind_some];rw[show (if(32:Int)<(if(0:Int)>16 then(0:Int)else 16)then(32:Int)else(if(0:Int)>16 then(0:Int)else 16))=16 from rfl,top16];simp only[Option.bind_some,e3,e1,hc.1];congr 4;omega
  |true=>
   have e1:=Zxb n 18446744069414584320 (by omega) (by omega);have e2:=ZBo n 32 (by omega) (by omega);rw[show (2:Nat) ^ 64-2 ^ 32=18446744069414584320 from rfl,show (2:Nat) ^ 32=4294967296 from rfl]at e2;rw[e2]at e1;have e3:=Zxb m 0 (by omega) (by omega);rw[Nat.and_zero]at e3;simp only[Ziu,Zju,Zfd,hr,hv,Option.bind_some,cond_false,Bool.not_true,Zdt,Zhu,Bool.not_false,cond_true,grp,if_true,Bool.false_eq_true,if_false];simp only[show (decide ((32:Int)<0))=false from rfl,show decide ((32:Int)>128)=false from rfl,cond_false,Option.bind_some];rw[show (if(128:Int)<(if(0:Int)>32 then(0:Int)else 32)then(128:Int)else(if(0:Int)>32 then(0:Int)else 32))=32 from rfl];simp only[Zka,top32,topm,Option.bind_some];simp only[show ((18446744069414584320:Int))=((18446744069414584320:Nat):Int)from rfl,show (0:Int)=((0:Nat):Int)from rfl,e1,e3];congr 4;omega
def Srt(l:List Zai):Prop:=l.Pairwise fun a b=>cmpN a b<0
theorem Srt.nodup{l:List Zai}(h:Srt l):l.Nodup:=List.Pairwise.imp (fun{a b} hab e=>by subst e;have:=(ZiW (a:=a) (b:=a)).2 rfl;omega) h
def ddN(l:List Zai):Nat→List Zai|0=>[]|m+1=>if 0<m∧l.getD m Zai.d=l.getD (m-1) Zai.d then ddN l m else ddN l m++[l.getD m Zai.d]
theorem ZsW(l:List Zai):∀m,m≤l.length→(∀i,0<i→i<m→l.getD i Zai.d≠l.getD (i-1) Zai.d)→ddN l m=l.take m
 | 0,_,_=>by simp[ddN]
 |m+1,h,hn=>by
  rw[ddN,if_neg (fun hh=>hn m hh.1 (by omega) hh.2),ZsW l m (by omega) (fun i h1 h2=>hn i h1 (by omega)),List.take_succ_eq_append_getElem (by omega),Zjh l _ m (by omega)]
theorem ZEs(l:List Zai):∀m,m≤l.length→∀x,x∈ddN l m↔x∈l.take m
 | 0,_,x=>by simp[ddN]
 |m+1,h,x=>by
  have ih:=ZEs l m (by omega)
  rw[List.take_succ_eq_append_getElem (by omega),List.mem_append,ddN]
  have e:=Zjh l Zai.d m (by omega)
  split
  ·rename_i hh
   rw[ih x]
   constructor
   ·exact .inl
   ·rintro (h1|h1)
    ·exact h1
    ·rw[List.mem_singleton]at h1
     rw[h1,←e,hh.2,Zjh l Zai.d (m-1) (by omega)]
     exact List.mem_take_iff_getElem.2 ⟨m-1,by omega,rfl⟩
  ·rw[List.mem_append,ih x,e]
theorem ZEr(l:List Zai)(hs:l.Pairwise fun a b=>cmpN a b≤0):∀m,m≤l.length→Srt (ddN l m)∧∀x∈ddN l m,cmpN x (l.getD (m-1) Zai.d)≤0
 | 0,_=>by simp[ddN,Srt]
 |m+1,h=>by
  obtain⟨h1,h2⟩:=ZEr l hs m (by omega)
  rw[ddN]
  by_cases hm:m=0
  ·subst hm
   rw[if_neg (by simp)]
   simp only[ddN,List.nil_append]
   exact⟨List.pairwise_singleton _ _,fun x hx=>by rw[List.mem_singleton]at hx;rw[hx];have:=(ZiW (a:=l.getD 0 Zai.d) (b:=l.getD 0 Zai.d)).2 rfl;simp at this ⊢;omega⟩
  ·split
   ·rename_i hh
    refine⟨h1,fun x hx=>?_⟩
    rw[Nat.add_sub_cancel,hh.2]
    exact h2 x hx
   ·rename_i hh
    have hne:l.getD m Zai.d≠l.getD (m-1) Zai.d:=fun e=>hh ⟨by omega,e⟩
    have hle:cmpN (l.getD (m-1) Zai.d) (l.getD m Zai.d)≤0:=by
     rw[Zjh l _ m (by omega),Zjh l _ (m-1) (by omega)];exact List.pairwise_iff_getElem.1 hs (m-1) m (by omega) (by omega) (by omega)
    have hlt:cmpN (l.getD (m-1) Zai.d) (l.getD m Zai.d)<0:=by
     have:cmpN (l.getD (m-1) Zai.d) (l.getD m Zai.d)≠0:=fun e=>hne (ZiW.1 e).symm;omega
    have hall:∀x∈ddN l m,cmpN x (l.getD m Zai.d)<0:=fun x hx=>by
     have h3:=h2 x hx;by_cases h4:cmpN x (l.getD (m-1) Zai.d)=0
     ·rw[ZiW.1 h4];exact hlt
     ·exact ZpJ (by omega) hlt
    refine⟨List.pairwise_append.2 ⟨h1,List.pairwise_singleton _ _,fun x hx y hy=>by rw[List.mem_singleton]at hy;rw[hy];exact hall x hx⟩,fun x hx=>?_⟩;rw[Nat.add_sub_cancel];rcases List.mem_append.1 hx with hx|hx
    ·have:=hall x hx;omega
    ·rw[List.mem_singleton]at hx;rw[hx];have:=(ZiW (a:=l.getD m Zai.d) (b:=l.getD m Zai.d)).2 rfl;omega
theorem sub1{i:Nat}(h:0<i)(hm:i≤maxLen):Zby (i:Int) 1=((i-1:Nat):Int):=by
 unfold maxLen at hm;rw[ZhO (by omega) (by omega)];omega
theorem ZCp(l:List Zai)(hl:l.length≤maxLen)(k0:Nat)(hk0:0<k0)(hk0l:k0<l.length)(k:Int→List Zai→Option (List Zai)):∀fu (j kk:Nat) (w:List Zai),0<j→k0+j≤l.length→l.length-(k0+j)<fu →
  w.length=l.length→(∀i,k0+j-1≤i→w.getD i Zai.d=l.getD i Zai.d)→kk<k0+j→w.take kk=ddN l (k0+j)→kk≤w.length →
  Zbd k fu (kk:Int) k0 (l.length-k0) l.length (j:Int) w=some (ddN l l.length):=by
 intro fu;induction fu with
 |zero=>intro _ _ _ _ _ h;omega
 |succ fu ih=>
  intro j kk w hj hjl hf hw hsame hkk htake hkl;simp only[Zbd,Zao];by_cases h:k0+j<l.length
  ·rw[if_pos (by omega),Zaz ⟨by omega,by omega⟩,Zaz (by simp;omega),sub1 hj (by omega),Zaz ⟨by omega,by omega⟩,Zaz (by simp;omega)];simp only[Int.toNat_natCast];simp only[show k0+(j-1)=k0+j-1 by omega,hsame (k0+j) (by omega),hsame (k0+j-1) (by omega)];have ha:ZaC (j:Int) 1=((j+1:Nat):Int):=add1 (n:=l.length) (by omega) hl;have hdd:ddN l (k0+(j+1))=if 0<k0+j∧l.getD (k0+j) Zai.d=l.getD (k0+j-1) Zai.d then ddN l (k0+j)else ddN l (k0+j)++[l.getD (k0+j) Zai.d]:=rfl;by_cases he:l.getD (k0+j) Zai.d=l.getD (k0+j-1) Zai.d
   ·rw[if_pos ⟨by omega,he⟩]at hdd;rw[decide_eq_true he];simp only[Bool.not_true,cond_false];rw[ha];exact ih (j+1) kk w (by omega) (by omega) (by omega) hw (fun i hi=>hsame i (by omega)) (by omega) (by rw[hdd];exact htake) hkl
   ·rw[if_neg (fun hh=>he hh.2)]at hdd;rw[decide_eq_false he];simp only[Bool.not_false,cond_true];rw[Zaz ⟨by omega,by omega⟩,ha,show ZaC (kk:Int) 1=((kk+1:Nat):Int)from add1 (n:=l.length) (by omega) hl];have hkw:kk<w.length:=by omega
    refine ih (j+1) (kk+1) _ (by omega) (by omega) (by omega) (by simp[hw]) (fun i hi=>?_) (by omega) ?_ (by simp;omega)
    ·rw[←hsame i (by omega)];simp only[List.getD_eq_getElem?_getD,Int.toNat_natCast];rw[List.getElem?_set_ne (by omega)]
    ·rw[hdd,←htake]
     (try simp only[Int.toNat_natCast])
     rw[List.take_succ_eq_append_getElem (by simp;omega),List.take_set_of_le (by omega)];simp
  ·have e:k0+j=l.length:=by omega
   rw[if_neg (by omega),Zaz ⟨by omega,by omega,by omega⟩,Zaz (by simp;omega),Zaz ⟨by omega,by omega,by omega⟩];simp only[Int.toNat_natCast];rw[Zaz (by rw[ZyF _ _ _ _ (by omega)];exact hkl)];rw[←e,←htake];congr 1;simp only[Zkh,List.append_assoc];rw[List.take_append_of_le_length (by simp;omega),List.take_take,Nat.min_self]
theorem ZAb(l:List Zai)(hl:l.length<999999):∀fu (i:Nat),0<i→i≤l.length→l.length-i<fu→(∀q,0<q→q<i→l.getD q Zai.d≠l.getD (q-1) Zai.d) →
  ZaS fu (i:Int) l=some (ddN l l.length):=by
 have hm:l.length≤maxLen:=by unfold maxLen;omega
 intro fu;induction fu with
 |zero=>intro _ _ _ h;omega
 |succ fu ih=>
  intro i hi hil hf hn;simp only[ZaS,Zao];by_cases h:i<l.length
  ·rw[if_pos (by omega),Zaz ⟨by omega,by omega⟩,sub1 hi (by omega),Zaz ⟨by omega,by omega⟩];simp only[Int.toNat_natCast];by_cases he:l.getD i Zai.d=l.getD (i-1) Zai.d
   ·rw[if_pos he,Zaz ⟨by omega,by omega,by omega⟩];refine ZCp l hm i hi h _ 1000000 1 i l (by omega) (by omega) (by omega) rfl (fun _ _=>rfl) (by omega) ?_ (by omega);rw[ddN,if_pos ⟨hi,he⟩,ZsW l i (by omega) hn]
   ·rw[if_neg he,add1 h hm];refine ih (i+1) (by omega) (by omega) (by omega) fun q h1 h2=>?_;by_cases h3:q=i
    ·subst h3;exact he
    ·exact hn q h1 (by omega)
  ·have e:i=l.length:=by omega
   rw[if_neg (by omega)];congr 1;rw[ZsW l l.length (Nat.le_refl _) (fun q h1 h2=>hn q h1 (by omega)),List.take_length]
theorem ZCq(l:List Zai)(hl:l.length<999999):Zbr l=some (ddN l l.length):=by
 simp only[Zbr,Zao];split
 ·rename_i h;congr 1;rw[ZsW l l.length (Nat.le_refl _) (fun i h1 h2=>by omega),List.take_length]
 ·rename_i h;exact ZAb l hl _ 1 (by omega) (by omega) (by omega) (fun q h1 h2=>by omega)
theorem ZFb(l:List Zai)(h:l.length<999999):∃L,(ZgB l).bind Zbr=some L∧Srt L∧∀x,x∈L↔x∈l:=by
 unfold ZgB;rw[Zaz (by omega)];simp only[Option.bind_some];have hp:=List.mergeSort_perm l (fun x y=>!(Go.Proofs.ltOf cmpN) y x);have hs:=List.pairwise_mergeSort (le:=fun x y=>!(Go.Proofs.ltOf cmpN) y x) (fun a b c h1 h2=>by
   have:=ZBi.ntrans c b a (by simpa using h2) (by simpa using h1);simpa using this) (fun a b=>by
   rw[ltN,ltN,Bool.or_eq_true,Bool.not_eq_true',Bool.not_eq_true',decide_eq_false_iff_not,decide_eq_false_iff_not];by_cases h1:cmpN b a<0
   ·refine .inr fun h2=>?_;have:=ZpJ h1 h2;have:=(ZiW (a:=b) (b:=b)).2 rfl;omega
   ·exact .inl h1) l
 generalize l.mergeSort (fun x y=>!(Go.Proofs.ltOf cmpN) y x)=m at hp hs;rw[ZCq m (by rw[hp.length_eq];exact h)];refine⟨_,rfl,(ZEr m (hs.imp fun{a b} hab=>?_) m.length (Nat.le_refl _)).1,fun x=>?_⟩
 ·rw[ltN,Bool.not_eq_true',decide_eq_false_iff_not]at hab;have:¬0<cmpN a b:=fun h=>hab (Zpt.1 h);omega
 ·rw[ZEs m m.length (Nat.le_refl _),List.take_length];exact hp.mem_iff
def outP(p:Zab):Bool:=!p.fIn
def outE(e:Zaa):Bool:=e.fState==2
def gsP(l:List Zab):List Zai:=(l.filter outP).map fun p=>grp p.fEnd.fAddr
def gsE(l:List Zaa):List Zai:=(l.filter outE).map fun e=>grp e.fEnd.fAddr
theorem ZCS(n:Nat)(h:n<999999):n * 32≤140737488355328∧n≤maxLen:=⟨by omega,by unfold maxLen;omega⟩
theorem ZDI(l:List Zaa):(gsE l).length≤l.length:=by simp only[gsE,List.length_map];exact List.length_filter_le _ _
theorem ZDH(l:List Zab):(gsP l).length≤l.length:=by simp only[gsP,List.length_map];exact List.length_filter_le _ _
theorem ZAV(l:List Zaa)(i:Nat)(h:i<l.length):gsE (l.drop i)=(if outE (l.getD i Zaa.d)then[grp (l.getD i Zaa.d).fEnd.fAddr]else[])++gsE (l.drop (i+1)):=by
 rw[Zgx l Zaa.d i h];unfold gsE;generalize l.getD i Zaa.d=e;cases hq:outE e<;>simp[hq]
theorem ZAU(l:List Zab)(i:Nat)(h:i<l.length):gsP (l.drop i)=(if outP (l.getD i Zab.d)then[grp (l.getD i Zab.d).fEnd.fAddr]else[])++gsP (l.drop (i+1)):=by
 rw[Zgx l Zab.d i h];unfold gsP;generalize l.getD i Zab.d=e;cases hq:outP e<;>simp[hq]
theorem ZFa(es:List Zaa)(hes:es.length≤1000)(hok:∀e∈es,e.ok)(v10:List Zab)(v11 v12:Int)(k:List Zab→Int→Int→List Zai→Option (List Zai)) :
  ∀fu (i:Nat) (w:List Zai),i≤es.length→es.length-i<fu→w.length≤1000+i →
   ZdH es v10 v11 v12 k fu es (es.length:Int) (i:Int) w=(ZgB (w++gsE (es.drop i))).bind Zbr:=by
 have hm:es.length≤maxLen:=by unfold maxLen;omega
 intro fu;induction fu with
 |zero=>intro _ _ _ h;omega
 |succ fu ih=>
  intro i w hi hf hw;simp only[ZdH,Zao];by_cases h:i<es.length
  ·rw[if_pos (by omega),Zaz ⟨by omega,by omega⟩,ZAV es i h];simp only[Int.toNat_natCast];have hko:=hok _ (Zga es Zaa.d i h);cases hq:outE (es.getD i Zaa.d)
   ·have hq':((es.getD i Zaa.d).fState==(2:Int))=false:=hq;rw[hq',cond_false,add1 h hm,ih (i+1) w (by omega) (by omega) (by omega)];simp
   ·have hq':((es.getD i Zaa.d).fState==(2:Int))=true:=hq;rw[hq',cond_true,ZwE _ hko.1.1];simp only[Option.bind_some];rw[Zaz (ZCS _ (by simp;omega)),add1 h hm,ih (i+1) _ (by omega) (by omega) (by simp;omega)];simp
  ·have e:i=es.length:=by omega
   rw[if_neg (by omega),e,List.drop_length];simp[gsE]
theorem ZCP(ps:List Zab)(es:List Zaa)(hps:ps.length≤1000)(hes:es.length≤1000)(hokp:∀p∈ps,p.ok)(hok:∀e∈es,e.ok) :
  ∀fu (i:Nat) (w:List Zai),i≤ps.length→ps.length-i<fu→w.length≤i →
   Zcz es fu ps (ps.length:Int) (i:Int) w=(ZgB (w++gsP (ps.drop i)++gsE es)).bind Zbr:=by
 have hm:ps.length≤maxLen:=by unfold maxLen;omega
 intro fu;induction fu with
 |zero=>intro _ _ _ h;omega
 |succ fu ih=>
  intro i w hi hf hw;simp only[Zcz,Zao];by_cases h:i<ps.length
  ·rw[if_pos (by omega),Zaz ⟨by omega,by omega⟩,ZAU ps i h];simp only[Int.toNat_natCast];have hko:=hokp _ (Zga ps Zab.d i h);cases hq:outP (ps.getD i Zab.d)
   ·have hq':(!(ps.getD i Zab.d).fIn)=false:=hq;rw[hq',cond_false,add1 h hm,ih (i+1) w (by omega) (by omega) (by omega)];simp
   ·have hq':(!(ps.getD i Zab.d).fIn)=true:=hq;rw[hq',cond_true,ZwE _ hko.1.1];simp only[Option.bind_some];rw[Zaz (ZCS _ (by simp;omega)),add1 h hm,ih (i+1) _ (by omega) (by omega) (by simp;omega)];simp
  ·have e:i=ps.length:=by omega
   rw[if_neg (by omega),e,List.drop_length];have:=ZFa es hes hok ps (ps.length:Int) (ps.length:Int) (Zcz es fu) ((((es.length:Nat):Int)-(0:Int)).toNat+2) 0 w (by omega) (by omega) (by omega);simp only[Int.natCast_zero,List.drop_zero]at this;rw[this];simp[gsP]
theorem Zxt(ps:List Zab)(es:List Zaa)(hps:ps.length≤1000)(hes:es.length≤1000)(hokp:∀p∈ps,p.ok)(hok:∀e∈es,e.ok) :
  ∃L,ZhG ps es=some L∧Srt L∧∀x,x∈L↔x∈gsP ps++gsE es:=by
 have h:=ZCP ps es hps hes hokp hok ((((ps.length:Nat):Int)-(0:Int)).toNat+2) 0 [] (by omega) (by omega) (by simp);simp only[Int.natCast_zero,List.drop_zero,List.nil_append]at h;unfold ZhG;rw[h];refine ZFb _ ?_;have:=ZDI es;have:=ZDH ps;simp only[List.length_append];omega
theorem ZyC(l:List Zai)(e:Zai)(hl:l.length≤maxLen):Zci l e=some (l.contains e):=by
 simp only[Zci,Zdv];have:=ZrP l Zai.d (fun x=>decide (e=x)) hl (fun fu i=>Zbl l fu (l.length:Int) i e) (fun i=>i) (fun fu i hi=>by
   simp only[Zbl,Zao];rw[if_pos (by omega),Zaz ⟨by omega,by omega⟩];simp) (fun fu=>by
   simp only[Zbl,Zao];rw[if_neg (by omega)]) ((((l.length:Nat):Int)-(0:Int)).toNat+2) 0 (by omega) (by omega)
 simp only[Int.natCast_zero,List.drop_zero]at this;rw[this];simp only[Option.bind_some,Option.some.injEq];rw[Bool.eq_iff_iff,decide_eq_true_eq,List.contains_iff_mem];have hn:=ZsR (fun x=>decide (e=x)) l 0;constructor
 ·intro h;obtain⟨k,h1,_,⟨x,h3,h4⟩,_⟩:=ZAO _ l 0 h;rw[of_decide_eq_true h4];exact List.mem_of_getElem? h3
 ·intro h;apply Int.not_lt.1;intro h1;have:=hn.1 h1 e h;simp at this
theorem ZxR{α:Type}[DecidableEq α]:∀(L l:List α),L.Nodup→(∀x∈L,x∈l)→L.length≤l.length
 | [],_,_,_=>by simp
 |a :: r,l,hn,hs=>by
  have hn':=List.nodup_cons.1 hn
  have ha:=hs a (by simp)
  have:=ZxR r (l.erase a) hn'.2 fun x hx=>(List.mem_erase_of_ne (show x≠a from fun e=>hn'.1 (e ▸ hx))).2 (hs x (by simp[hx]))
  have:=List.length_erase_of_mem ha
  have:=List.length_pos_of_mem ha
  simp only[List.length_cons]
  omega
theorem ZGO{L:List Zai}(hs:Srt L){l:List Zai}(h:∀x,x∈L↔x∈l):L.length≤l.length:=
 ZxR L l hs.nodup fun x hx=>(h x).1 hx
theorem Ztc(ps:List Zab)(es:List Zaa)(a:Zag)(hps:ps.length≤1000)(hes:es.length≤1000)(hokp:∀p∈ps,p.ok)(hok:∀e∈es,e.ok)(ha:a.ok) :
  ZjM ps es a=some (ZcP a && !decide (grp a∈gsP ps++gsE es)):=by
 obtain⟨L,h1,h2,h3⟩:=Zxt ps es hps hes hokp hok;have hl:L.length≤2000:=by
  have:=ZGO h2 h3;have:=ZDI es;have:=ZDH ps;simp only[List.length_append]at *
  omega
 simp only[ZjM,Zjy a ha,h1,ZwE a ha,Option.bind_some,ZyC L _ (by unfold maxLen;omega)];cases ZcP a
 ·rfl
 ·simp only[cond_true,Bool.true_and,Option.some.injEq];congr 1;rw[Bool.eq_iff_iff,decide_eq_true_eq,List.contains_iff_mem,h3]
def bitA(a:Zag)(j:Nat):Int:=if a.fV6 then a.fHi / 2 ^ (63-j) % 2 else a.fLo / 2 ^ (31-j) % 2
theorem ZGE(n k:Nat)(hk:k<64)(hn:n<2 ^ 64):IntKind.i64.wrap (IntKind.u64.wrap (((BitVec.ofInt (IntKind.bits .u64) (Int.fdiv (n:Int) (2 ^ (min (IntKind.u64.wrap (k:Int)).toNat (IntKind.bits .u64))))) &&& (BitVec.ofInt (IntKind.bits .u64) (1:Int))).toNat:Int))=(n:Int) / 2 ^ k % 2:=by
 have e0:(IntKind.u64.wrap (k:Int)).toNat=k:=by rw[Zhi (by omega) (by omega)];rfl
 rw[e0,show min k (IntKind.bits .u64)=k from Nat.min_eq_left (by simp[IntKind.bits];omega)];have e:Int.fdiv (n:Int) (2 ^ k)=((n / 2 ^ k:Nat):Int):=by
  rw[Int.fdiv_eq_ediv_of_nonneg _ (by have:(0:Int)<2 ^ k:=Int.pow_pos (by omega);omega)];simp
 have h1:n / 2 ^ k<2 ^ 64:=Nat.lt_of_le_of_lt (Nat.div_le_self _ _) hn;rw[e,show (1:Int)=((1:Nat):Int)from rfl,Zxb _ 1 h1 (by omega),Nat.and_one_is_mod];have h2:n / 2 ^ k % 2<2:=Nat.mod_lt _ (by omega);have h3:IntKind.i64.wrap ((n / 2 ^ k % 2:Nat):Int)=((n / 2 ^ k % 2:Nat):Int):=by
  simp only[IntKind.wrap,IntKind.bits,IntKind.signed];simp;omega
 rw[h3];simp
theorem ZGD(a:Zag)(h:a.ok)(j:Nat)(hj:j<if a.fV6 then 32 else 16):Zbn a (j:Int)=some (bitA a j):=by
 obtain⟨v,hi,lo⟩:=a;obtain⟨_,h1,h2,_⟩:=h;have h1:=ZjC h1;have h2:=ZjC h2;simp only at h1 h2;obtain⟨n,hn⟩:=ZiK h1.1;obtain⟨m,hm⟩:=ZiK h2.1;subst hn hm;cases v with
 |false=>
  have hj:j<16:=by simpa using hj
  have e:Zby (31:Int) (j:Int)=((31-j:Nat):Int):=by rw[ZhO (by omega) (by omega)];omega
  simp only[Zbn,Zbx,Zcm,Zao,Option.bind_some,cond_false,Bool.not_false,cond_true,e];rw[if_neg (by omega),if_neg (by omega),Zaz (by rw[Zhi (by omega) (by omega)];omega),ZGE m (31-j) (by omega) (by omega)];simp[bitA]
 |true=>
  have hj:j<32:=by simpa using hj
  have et:Int.tmod (j:Int) 64=(j:Int):=by rw[Int.tmod_eq_emod_of_nonneg (by omega)];omega
  have e:Zby (63:Int) (j:Int)=((63-j:Nat):Int):=by rw[ZhO (by omega) (by omega)];omega
  simp only[Zbn,Zbx,Zcm,Zao,Option.bind_some,cond_false,Bool.not_true,cond_true,et,e];rw[if_neg (by omega),if_neg (by omega),if_pos (by omega),Zaz (by rw[Zhi (by omega) (by omega)];omega),ZGE n (63-j) (by omega) (by omega)];simp[bitA]
theorem Zyd(n m t b:Nat)(hb:b≤t)(hn:n<2 ^ t)(hm:m<2 ^ t):(∀j,j<b→n / 2 ^ (t-1-j) % 2=m / 2 ^ (t-1-j) % 2)↔n / 2 ^ (t-b)=m / 2 ^ (t-b):=by
 constructor
 ·intro h;apply Nat.eq_of_testBit_eq;intro i;rw[Nat.testBit_div_two_pow,Nat.testBit_div_two_pow];by_cases hi:i<b
  ·have:=h (b-1-i) (by omega);rw[show t-1-(b-1-i)=i+(t-b)by omega]at this;rw[Nat.testBit_eq_decide_div_mod_eq,Nat.testBit_eq_decide_div_mod_eq,this]
  ·rw[Nat.testBit_lt_two_pow (Nat.lt_of_lt_of_le hn (Nat.pow_le_pow_right (by omega) (by omega))),Nat.testBit_lt_two_pow (Nat.lt_of_lt_of_le hm (Nat.pow_le_pow_right (by omega) (by omega)))]
 ·intro h j hj;have e:2 ^ (t-1-j)=2 ^ (t-b) * 2 ^ (b-1-j):=by rw[←Nat.pow_add];congr 1;omega
  rw[e,←Nat.div_div_eq_div_mul,←Nat.div_div_eq_div_mul,h]
theorem ZCU(a b:Zag)(ha:a.ok)(hb:b.ok)(hv:a.fV6=b.fV6):∀fu (i:Nat),i≤32→32-i<fu →
  ∃r,ZbD fu (i:Int) a b=some r∧(r=true↔∀j,i≤j→j<(if a.fV6 then 32 else 16)→bitA a j=bitA b j):=by
 intro fu;induction fu with
 |zero=>intro _ _ h;omega
 |succ fu ih=>
  intro i hi hf;simp only[ZbD,Zao];by_cases h:i<32
  ·rw[if_pos (by omega)];have ha1:ZaC (i:Int) 1=((i+1:Nat):Int):=add1 (n:=32) h (by unfold maxLen;omega);rw[ha1];obtain⟨r,h1,h2⟩:=ih (i+1) (by omega) (by omega);by_cases hr:i<(if a.fV6 then 32 else 16)
   ·have e1:=ZGD a ha i hr;have e2:=ZGD b hb i (by rw[←hv];exact hr);have step:∃r,((Zbn a (i:Int)).bind fun x3=>(Zbn b (i:Int)).bind fun x4=>bif(x3 != x4)then some false else ZbD fu ((i+1:Nat):Int) a b)=some r∧(r=true↔∀j,i≤j→j<(if a.fV6 then 32 else 16)→bitA a j=bitA b j):=by
     rw[e1,e2];simp only[Option.bind_some];by_cases he:bitA a i=bitA b i
     ·rw[show (bitA a i != bitA b i)=false by simp[he],cond_false];refine⟨r,h1,h2.trans ⟨fun q j h3 h4=>?_,fun q j h3 h4=>q j (by omega) h4⟩⟩;by_cases h5:j=i
      ·subst h5;exact he
      ·exact q j (by omega) h4
     ·rw[show (bitA a i != bitA b i)=true by simp[he],cond_true];exact⟨false,rfl,by simp;exact⟨i,Nat.le_refl _,hr,he⟩⟩
    cases hq:a.fV6
    ·rw[hq]at hr;have hr:i<16:=by simpa using hr
     simp only[cond_false];rw[if_pos (by omega)];rw[hq]at step;exact step
    ·simp only[cond_true];rw[hq]at step;exact step
   ·cases hq:a.fV6
    ·rw[hq]at hr h2;have hr:16≤i:=by simpa using hr
     simp only[cond_false];rw[if_neg (by omega)];refine⟨r,h1,h2.trans ⟨fun q j h3 h4=>?_,fun q j h3 h4=>q j (by omega) h4⟩⟩;have:j<16:=by simpa using h4
     omega
    ·rw[hq]at hr;exact absurd h (by simpa using hr)
  ·rw[if_neg (by omega)];refine⟨true,rfl,by simp;intro j h3 h4;split at h4<;>omega⟩
theorem ZAs(a b:Zag)(ha:a.ok)(hb:b.ok)(hr:ZcP b=true):ZeH a b=some (decide (grp a=grp b)):=by
 have hs:=ZCU a b ha hb;simp only[ZeH,ZjB a ha,ZjB b hb,hr,Option.bind_some,Bool.not_true,cond_false];cases hra:ZcP a with
 |false=>
  simp only[Bool.not_false,cond_true,Option.some.injEq];rw[eq_comm,decide_eq_false_iff_not];unfold grp;rw[hra,hr];intro e;have:=congrArg Zai.fBits e;simp only[Bool.false_eq_true,if_false,if_true]at this;split at this<;>simp at this
 |true=>
  simp only[Bool.not_true,cond_false];by_cases hv:a.fV6=b.fV6
  ·rw[show (!(a.fV6==b.fV6))=false by simp[hv],cond_false];obtain⟨r,h1,h2⟩:=hs hv (((32:Int)-(0:Int)).toNat+2) 0 (by omega) (by omega);have h1:ZbD (((32:Int)-(0:Int)).toNat+2) 0 a b=some r:=h1;rw[h1,Option.some.injEq,Bool.eq_iff_iff,h2,decide_eq_true_eq];obtain⟨v,hi,lo⟩:=a;obtain⟨v',hi',lo'⟩:=b;simp only at hv;subst hv;have ha1:=ZjC ha.2.1;have ha2:=ZjC ha.2.2.1;have hb1:=ZjC hb.2.1;have hb2:=ZjC hb.2.2.1;simp only at ha1 ha2 hb1 hb2;obtain⟨n,hn⟩:=ZiK ha1.1;obtain⟨m,hm⟩:=ZiK ha2.1;obtain⟨n',hn'⟩:=ZiK hb1.1;obtain⟨m',hm'⟩:=ZiK hb2.1;subst hn hm hn' hm';cases v with
   |false=>
    have c1:(n:Int)=0∧(m:Int)<4294967296:=by simpa[ZcP]using hra
    have c2:(n':Int)=0∧(m':Int)<4294967296:=by simpa[ZcP]using hr
    have hb:=Zyd m m' 32 16 (by omega) (by omega) (by omega);simp only[grp,hra,hr,if_true,Bool.false_eq_true,if_false,Zai.mk.injEq,Zag.mk.injEq,true_and,and_true];have e:(∀j,0≤j→j<16→bitA ⟨false,n,m⟩ j=bitA ⟨false,n',m'⟩ j)↔∀j,j<16→m / 2 ^ (32-1-j) % 2=m' / 2 ^ (32-1-j) % 2:=by
     constructor
     ·intro q j h;have:=q j (by omega) h;simp only[bitA,Bool.false_eq_true,if_false]at this;rw[show 32-1-j=31-j by omega]
      exact_mod_cast this
     ·intro q j _ h;have:=q j h;rw[show 32-1-j=31-j by omega]at this;simp only[bitA,Bool.false_eq_true,if_false]
      exact_mod_cast this
    rw[e,hb];rw[show (2:Nat) ^ (32-16)=65536 from rfl];constructor<;>intro q<;>omega
   |true=>
    have hb:=Zyd n n' 64 32 (by omega) (by omega) (by omega);simp only[grp,hra,hr,if_true,Bool.false_eq_true,if_false,Zai.mk.injEq,Zag.mk.injEq,true_and,and_true];have e:(∀j,0≤j→j<32→bitA ⟨true,n,m⟩ j=bitA ⟨true,n',m'⟩ j)↔∀j,j<32→n / 2 ^ (64-1-j) % 2=n' / 2 ^ (64-1-j) % 2:=by
     constructor
     ·intro q j h;have:=q j (by omega) h;simp only[bitA,if_true]at this;rw[show 64-1-j=63-j by omega]
      exact_mod_cast this
     ·intro q j _ h;have:=q j h;rw[show 64-1-j=63-j by omega]at this;simp only[bitA,if_true]
      exact_mod_cast this
    rw[e,hb];rw[show (2:Nat) ^ (64-32)=4294967296 from rfl];constructor<;>intro q<;>omega
  ·rw[show (!(a.fV6==b.fV6))=true by simp[hv],cond_true,Option.some.injEq,eq_comm,decide_eq_false_iff_not];unfold grp;rw[hra,hr];intro e;have e1:=congrArg (fun x:Zai=>x.fAddr.fV6) e;simp only[if_true]at e1;apply hv;cases h1:a.fV6<;>cases h2:b.fV6<;>simp[h1,h2]at e1 ⊢
theorem ZFg(ps:List Zab)(es:List Zaa)(hes:es.length≤1000)(hok:∀e∈es,e.ok)(a:Zag)(ha:a.ok)(hr:ZcP a=true)(v7:Int)(k:Int→Zag→Option Bool):∀fu (i:Nat),i≤es.length→es.length-i<fu →
  Zcu ps es v7 a k fu (i:Int)=some (!decide (grp a∈gsE (es.drop i))):=by
 have hm:es.length≤maxLen:=by unfold maxLen;omega
 intro fu;induction fu with
 |zero=>intro _ _ h;omega
 |succ fu ih=>
  intro i hi hf;simp only[Zcu,Zao];by_cases h:i<es.length
  ·rw[if_pos (by omega),Zaz ⟨by omega,by omega⟩,ZAV es i h];simp only[Int.toNat_natCast];have hko:=hok _ (Zga es Zaa.d i h);rw[add1 h hm,ih (i+1) (by omega) (by omega)];cases hq:outE (es.getD i Zaa.d)
   ·have hq':((es.getD i Zaa.d).fState==(2:Int))=false:=hq;rw[hq',cond_false];simp
   ·have hq':((es.getD i Zaa.d).fState==(2:Int))=true:=hq;rw[hq',cond_true,ZAs _ _ hko.1.1 ha hr];simp only[Option.bind_some,Zao,if_true,List.mem_append,List.mem_singleton];generalize grp (es.getD i Zaa.d).fEnd.fAddr=g;by_cases he:g=grp a
    ·rw[if_pos he];simp[he]
    ·rw[if_neg he];simp[Ne.symm he]
  ·have e:i=es.length:=by omega
   rw[if_neg (by omega),e,List.drop_length];simp[gsE]
theorem ZDc(ps:List Zab)(es:List Zaa)(hps:ps.length≤1000)(hes:es.length≤1000)(hokp:∀p∈ps,p.ok)(hok:∀e∈es,e.ok)(a:Zag)(ha:a.ok)(hr:ZcP a=true):∀fu (i:Nat),i≤ps.length→ps.length-i<fu →
  ZbC ps es fu (i:Int) a=some (!decide (grp a∈gsP (ps.drop i)++gsE es)):=by
 have hm:ps.length≤maxLen:=by unfold maxLen;omega
 intro fu;induction fu with
 |zero=>intro _ _ h;omega
 |succ fu ih=>
  intro i hi hf;simp only[ZbC,Zao];by_cases h:i<ps.length
  ·rw[if_pos (by omega),Zaz ⟨by omega,by omega⟩,ZAU ps i h];simp only[Int.toNat_natCast];have hko:=hokp _ (Zga ps Zab.d i h);rw[add1 h hm,ih (i+1) (by omega) (by omega)];cases hq:outP (ps.getD i Zab.d)
   ·have hq':(!(ps.getD i Zab.d).fIn)=false:=hq;rw[hq',cond_false];simp
   ·have hq':(!(ps.getD i Zab.d).fIn)=true:=hq;rw[hq',cond_true,ZAs _ _ hko.1.1 ha hr];simp only[Option.bind_some,Zao,if_true,List.mem_append,List.mem_singleton];generalize grp (ps.getD i Zab.d).fEnd.fAddr=g;by_cases he:g=grp a
    ·rw[if_pos he];simp[he]
    ·rw[if_neg he];simp[Ne.symm he]
  ·have e:i=ps.length:=by omega
   rw[if_neg (by omega),e,List.drop_length];have:=ZFg ps es hes hok a ha hr (ps.length:Int) (ZbC ps es fu) ((((es.length:Nat):Int)-(0:Int)).toNat+2) 0 (by omega) (by omega);simp only[Int.natCast_zero,List.drop_zero]at this;rw[this];simp[gsP]
theorem ZFp(ps:List Zab)(es:List Zaa)(a:Zag)(hps:ps.length≤1000)(hes:es.length≤1000)(hokp:∀p∈ps,p.ok)(hok:∀e∈es,e.ok)(ha:a.ok) :
  ZfN ps es a=some (ZcP a && !decide (grp a∈gsP ps++gsE es)):=by
 simp only[ZfN,ZjB a ha,Option.bind_some];cases hr:ZcP a
 ·rfl
 ·have:=ZDc ps es hps hes hokp hok a ha hr ((((ps.length:Nat):Int)-(0:Int)).toNat+2) 0 (by omega) (by omega);simp only[Int.natCast_zero,List.drop_zero]at this;simp only[Bool.not_true,cond_false,Bool.true_and];exact this
def conn(l:List Zab)(e:Zaj):Bool:=l.any fun p=>decide (p.fEnd=e)
theorem ZEt(l:List Zab)(e:Zaj)(hl:l.length≤maxLen):∀fu (i:Nat),i≤l.length→l.length-i<fu→ZcA fu l (l.length:Int) (i:Int) e=some (conn (l.drop i) e):=by
 intro fu;induction fu with
 |zero=>intro _ _ h;omega
 |succ fu ih=>
  intro i hi hf;simp only[ZcA,Zao];by_cases h:i<l.length
  ·rw[if_pos (by omega),Zaz ⟨by omega,by omega⟩,Zgx l Zab.d i h];simp only[Int.toNat_natCast];rw[add1 h hl,ih (i+1) (by omega) (by omega)];rw[show ∀(x:Zab) r,conn (x :: r) e=(decide (x.fEnd=e)||conn r e)from fun _ _=>rfl];by_cases q:(l.getD i Zab.d).fEnd=e
   ·rw[if_pos q,decide_eq_true q];rfl
   ·rw[if_neg q,decide_eq_false q];rfl
  ·rw[if_neg (by omega),List.drop_eq_nil_of_le (by omega)];rfl
theorem ZyA(v:ZaD)(e:Zaj)(hl:v.fPeers.length≤maxLen):ZeV v e=some (conn v.fPeers e):=by
 have:=ZEt v.fPeers e hl ((((v.fPeers.length:Nat):Int)-(0:Int)).toNat+2) 0 (by omega) (by omega);simpa[ZeV]using this
structure Zpy (v:ZaD):Prop where
 book:v.fBook.length≤900
 peers:v.fPeers.length≤900
 bans:v.fBans.length≤900
 bookOk:∀e∈v.fBook,e.ok
 peersOk:∀p∈v.fPeers,p.ok
 bansOk:∀b∈v.fBans,b.ok
def ZFG(v:ZaD)(a:Zag):Bool:=ZcP a && !decide (grp a∈gsP v.fPeers++gsE v.fBook)
def Zsz(v:ZaD)(e:Zaj)(now:Int):Bool:=(Zem v e now).getD false
theorem ZEo{v:ZaD}(h:Zpy v)(e:Zaj)(he:e.ok)(now:Int):Zem v e now=some (Zsz v e now) ∧
  (Zsz v e now=true→conn v.fPeers e=false∧Zux v.fBans e.fAddr now 0∧ZFG v e.fAddr=true):=by
 obtain⟨r,u1,u2⟩:=ZvV v.fBans e.fAddr now (by have:=h.bans;unfold maxLen;omega) h.bansOk he.1;have hf:=Ztc v.fPeers v.fBook e.fAddr (by have:=h.peers;omega) (by have:=h.book;omega) h.peersOk h.bookOk he.1;have main:Zem v e now=some (!conn v.fPeers e&&(r==0)&&ZFG v e.fAddr):=by
  simp only[Zem,ZyA v e (by have:=h.peers;unfold maxLen;omega),u1,hf,Option.bind_some];cases conn v.fPeers e
  ·simp only[Bool.not_false,cond_true,Bool.true_and];cases(r==(0:Int))
   ·rfl
   ·simp only[cond_true,Bool.true_and];rfl
  ·rfl
 refine⟨by unfold Zsz;rw[main];rfl,fun ho=>?_⟩;unfold Zsz at ho;rw[main]at ho;simp only[Option.getD_some,Bool.and_eq_true,Bool.not_eq_true',beq_iff_eq]at ho;refine⟨ho.1.1,?_,ho.2⟩;rw[←ho.1.2];exact u2
def dueS(e:Zaa)(now:Int):Bool:=(e.fState==1)&&decide (e.fNext≤now)
theorem ZEj(e:Zaa)(now:Int):ZlV e now=some (dueS e now):=by
 simp only[ZlV,dueS];cases(e.fState==(1:Int))<;>rfl
theorem ZGW(e:Zaa)(now:Int):Zgs e now=some (dueS e now):=by
 simp only[Zgs,dueS];cases(e.fState==(1:Int))<;>rfl
def ZAJ(now:Int)(e:Zaa):Bool:=ZlF e&&dueS e now
def Zhx(e:Zaa):Itm:=⟨e.fNext,e.fEnd⟩
def Zlf(l:List Zaa)(now:Int):List Itm:=(l.filter (ZAJ now)).map Zhx
theorem ZCa(l:List Zaa)(now:Int)(hl:l.length≤900)(hok:∀e∈l,e.ok):∀fu (i:Nat) (w:List Itm),i≤l.length→l.length-i<fu→w.length≤i →
  ZbM now fu l (l.length:Int) (i:Int) w=(Zid (w++Zlf (l.drop i) now)).bind fun x=>some x:=by
 have hm:l.length≤maxLen:=by unfold maxLen;omega
 intro fu;induction fu with
 |zero=>intro _ _ _ h;omega
 |succ fu ih=>
  intro i w hi hf hw;simp only[ZbM,Zao];by_cases h:i<l.length
  ·rw[if_pos (by omega),Zaz ⟨by omega,by omega⟩,Zgx l Zaa.d i h];simp only[Int.toNat_natCast];have hko:=hok _ (Zga l Zaa.d i h);rw[add1 h hm,ih (i+1) w (by omega) (by omega) (by omega),Zqz _ hko];simp only[Option.bind_some,Zln,ZEj];rw[Zaz ⟨by simp;omega,by unfold maxLen;simp;omega⟩,ih (i+1) _ (by omega) (by omega) (by simp;omega)];generalize l.getD i Zaa.d=e;have e1:Zlf (e :: l.drop (i+1)) now=(if ZAJ now e then[Zhx e]else[])++Zlf (l.drop (i+1)) now:=by
    unfold Zlf;cases q:ZAJ now e<;>simp[q]
   rw[e1];unfold ZAJ;cases ZlF e
   ·simp
   ·cases dueS e now
    ·simp
    ·simp[Zhx]
  ·rw[if_neg (by omega),List.drop_eq_nil_of_le (by omega)];simp[Zlf]
theorem ZCo{v:ZaD}(h:Zpy v)(now:Int):∃L,ZdK v now=some L∧L.Perm (Zlf v.fBook now)∧HF 0 L:=by
 have:=ZCa v.fBook now h.book h.bookOk ((((v.fBook.length:Nat):Int)-(0:Int)).toNat+2) 0 [] (by omega) (by omega) (by simp);simp only[Int.natCast_zero,List.drop_zero,List.nil_append]at this;unfold ZdK;rw[this];obtain⟨L,h1,h2,h3⟩:=Zye (Zlf v.fBook now) (by
  have:(Zlf v.fBook now).length≤v.fBook.length:=by simp only[Zlf,List.length_map];exact List.length_filter_le _ _
  have:=h.book;omega)
 exact⟨L,by rw[h1];rfl,h2,h3⟩
def zE:Zaj:=⟨⟨false,0,0⟩,0⟩
def ZvS(v:ZaD)(now:Int)(L:List Itm)(e:Zaj)(ok:Bool):Prop:=(ok=true∧∃x∈L,x.fEnd=e∧Zsz v e now=true∧∀y∈L,Zsz v y.fEnd now=true→leH x y)∨(ok=false∧e=zE∧∀y∈L,Zsz v y.fEnd now=false)
theorem ZvS.perm{v:ZaD}{now:Int}{L L':List Itm}{e:Zaj}{ok:Bool}(h:ZvS v now L e ok)(hp:∀x,x∈L'↔x∈L):ZvS v now L' e ok:=by
 rcases h with⟨h1,x,h2,h3,h4,h5⟩|⟨h1,h2,h3⟩
 ·exact .inl ⟨h1,x,(hp x).2 h2,h3,h4,fun y hy=>h5 y ((hp y).1 hy)⟩
 ·exact .inr ⟨h1,h2,fun y hy=>h3 y ((hp y).1 hy)⟩
theorem ZDp{v:ZaD}(h:Zpy v)(now:Int)(z:Zaj):∀fu (L:List Itm),L.length<fu→L.length≤900→HF 0 L→(∀x∈L,x.fEnd.ok)→∃e ok,ZgF now fu L v z=some (e,ok)∧ZvS v now L e ok:=by
 intro fu;induction fu with
 |zero=>intro _ h;omega
 |succ fu ih=>
  intro L hf hl H hok;simp only[ZgF];by_cases hn:L=[]
  ·subst hn;rw[Zsp];exact⟨zE,false,rfl,.inr ⟨rfl,rfl,by simp⟩⟩
  ·obtain⟨x,r,p1,p2,p3,p4⟩:=ZAS L (by omega) H hn;rw[p1];simp only[Option.bind_some,Bool.not_true,cond_false];have hx:x∈L:=p2.mem_iff.2 (by simp);have hlr:L.length=r.length+1:=by simpa using p2.length_eq
   rw[(ZEo h x.fEnd (hok x hx) now).1];simp only[Option.bind_some];cases ho:Zsz v x.fEnd now with
   |true=>
    simp only[cond_true];exact⟨x.fEnd,true,rfl,.inl ⟨rfl,x,hx,rfl,ho,fun y hy _=>p4 y hy⟩⟩
   |false=>
    simp only[cond_false];obtain⟨e,ok,g1,g2⟩:=ih r (by omega) (by omega) p3 fun y hy=>hok y (p2.mem_iff.2 (by simp[hy]));refine⟨e,ok,g1,?_⟩;have hm:∀y,y∈L↔y=x∨y∈r:=fun y=>by rw[p2.mem_iff];simp
    rcases g2 with⟨q1,y,q2,q3,q4,q5⟩|⟨q1,q2,q3⟩
    ·refine .inl ⟨q1,y,(hm y).2 (.inr q2),q3,q4,fun t ht hto=>?_⟩;rcases(hm t).1 ht with e1|e1
     ·subst e1;rw[ho]at hto;cases hto
     ·exact q5 t e1 hto
    ·refine .inr ⟨q1,q2,fun t ht=>?_⟩;rcases(hm t).1 ht with e1|e1
     ·subst e1;exact ho
     ·exact q3 t e1
theorem ZEn{v:ZaD}(h:Zpy v)(now:Int):∃e ok,Zjm v now=some (e,ok)∧ZvS v now (Zlf v.fBook now) e ok:=by
 obtain⟨L,l1,l2,l3⟩:=ZCo h now;have hlen:(Zlf v.fBook now).length≤v.fBook.length:=by simp only[Zlf,List.length_map];exact List.length_filter_le _ _
 have hb:=h.book;obtain⟨e,ok,g1,g2⟩:=ZDp h now zE 1000000 L (by rw[l2.length_eq];omega) (by rw[l2.length_eq];omega) l3 fun x hx=>by
  have:=l2.mem_iff.1 hx;simp only[Zlf,List.mem_map,List.mem_filter]at this;obtain⟨a,⟨a1,_⟩,rfl⟩:=this;exact(h.bookOk a a1).1
 refine⟨e,ok,?_,g2.perm fun x=>l2.mem_iff.symm⟩;simp only[Zjm,l1,Option.bind_some];rw[show (Zaj.mk (Zag.mk false (0:Int) (0:Int)) (0:Int))=zE from rfl];exact g1
def mayS(v:ZaD)(now:Int)(x:Zaa):Bool:=ZlF x&&dueS x now&&Zsz v x.fEnd now
def ZqL:Zab:=⟨⟨⟨false,0,0⟩,0⟩,false,0,⟨0,0⟩,0,0⟩
def valZ:Zad:=⟨0,ZqL,[],[]⟩
def locZ:Zap:=⟨0,0,0⟩
def opZ:Zas:=⟨0,0,locZ,0,0,valZ,false⟩
def endZ:Zaj:=⟨⟨false,0,0⟩,0⟩
def repZ:Zaq:=⟨0,endZ,0,0,[]⟩
def locN(l:Zap):Zap:=if l.fKind=1∨l.fKind=2∨l.fKind=3∨l.fKind=4 then⟨l.fKind,0,0⟩else if l.fKind=5 then⟨l.fKind,l.fShard,0⟩else if l.fKind=6 then l else locZ
def valN(k:Int)(v:Zad):Zad:=if k=1∨k=2∨k=5 then⟨v.fN,ZqL,[],[]⟩else if k=3 then⟨0,ZqL,v.fBans,[]⟩else if k=4 then⟨0,ZqL,[],v.fBook⟩else if k=6 then⟨0,v.fPeer,[],[]⟩else valZ
def opN(o:Zas):Zas:=if o.fKind=1∨o.fKind=2∨o.fKind=3∨o.fKind=4 then⟨o.fKind,o.fLock,locZ,0,0,valZ,o.fMark⟩else if o.fKind=5 then⟨o.fKind,0,locN o.fLoc,0,0,valZ,o.fMark⟩else if o.fKind=6 then⟨o.fKind,0,locN o.fLoc,0,0,valN o.fLoc.fKind o.fVal,o.fMark⟩else if o.fKind=7 then⟨o.fKind,0,locN o.fLoc,o.fOld,o.fNew,valZ,o.fMark⟩else if o.fKind=8 then⟨o.fKind,0,locZ,0,0,valZ,o.fMark⟩else opZ
theorem ZhN(a b:Int){α:Type}(x y:α):(bif a==b then x else y)=if a=b then x else y:=by
 by_cases h:a=b
 ·subst h;simp
 ·rw[if_neg h,beq_false_of_ne h];rfl
theorem ZBN(l:Zap):Zks l=some (locN l):=by
 obtain⟨k,s,t⟩:=l;unfold Zks Zhl locN;simp only[ZhN]
 repeat' split
 all_goals first|rfl | (simp_all [locZ];done) | (exfalso;omega)
theorem ZBu(k:Int)(v:Zad):Znh k v=some (valN k v):=by
 unfold Znh Zit valN;simp only[ZhN]
 repeat' split
 all_goals first|rfl | (simp_all [valZ,ZqL];done) | (exfalso;omega)
theorem ZCu(o:Zas):Zni o=some (opN o):=by
 unfold Zni Zhm opN;simp only[ZhN,ZBN,ZBu,Option.bind_some]
 repeat' split
 all_goals first|rfl | (simp_all [opZ,locZ,valZ,ZqL];done) | (exfalso;omega)
theorem Zzh(l:Zap):Zgo l=some (locN l):=by
 obtain⟨k,s,t⟩:=l;unfold Zgo ZeR locN;simp only[Zao]
 repeat' split
 all_goals first|rfl | (simp_all [locZ];done) | (exfalso;omega) | (simp only[Option.some.injEq,Zap.mk.injEq,locZ];omega)
theorem Zwj(k:Int)(v:Zad):Zfk k v=some (valN k v):=by
 unfold Zfk ZcL ZdU ZdT valN;simp only[ZhN]
 repeat' split
 all_goals first|rfl | (simp_all [valZ,ZqL];done) | (exfalso;omega)
theorem Zwm(o:Zas):Zfl o=some (opN o):=by
 unfold Zfl ZdW Zdl ZdV opN;simp only[Zao,ZhN,Zzh,Zwj,Option.bind_some]
 repeat' split
 all_goals first|rfl | (exfalso;omega)
def okV(v:Zad):Prop:=v.fBans.length≤1000000∧v.fBook.length≤1000000
theorem Zwu:okV valZ:=⟨by simp[valZ],by simp[valZ]⟩
theorem okV_N{k:Int}{v:Zad}(h:okV v):okV (valN k v):=by
 unfold valN
 repeat' split
 all_goals first|exact Zwu|exact⟨Nat.zero_le _,Nat.zero_le _⟩|exact⟨h.1,Nat.zero_le _⟩|exact⟨Nat.zero_le _,h.2⟩
theorem Zvt{o:Zas}(h:okV o.fVal):okV (opN o).fVal:=by
 unfold opN
 repeat' split
 all_goals first|exact Zwu|exact okV_N h
theorem ZaN{α β:Type}(x:α)(f:α→Option β):(some x).bind f=f x:=by simp
def wk(got:List Zad)(a:Nat):Zac:=⟨got,(a:Int),opZ,false⟩
def wt(got:List Zad)(o:Zas):Zac:=⟨got,(got.length:Int),o,true⟩
theorem ZEI(o:Zas):ZbP ⟨[]⟩ o=some (.pan (opN o)):=by
 simp[ZbP,ZCu]
theorem ZBn(v:Zad)(r:List Zad)(o:Zas):ZbP ⟨v :: r⟩ o=some (.ret v ⟨r⟩):=by
 have h:(((v :: r).length:Nat):Int)≠0:=by simp only[List.length_cons];omega
 unfold ZbP;simp only[ZhN,if_neg h];rw[Zaz (by simp only[List.length_cons];omega),Zaz (by simp only[List.length_cons];omega)];rfl
theorem ZyQ(got:List Zad)(a:Nat)(o:Zas):ZbP ⟨got.drop a⟩ o=some (if a<got.length then .ret (got.getD a Zad.d) ⟨got.drop (a+1)⟩else .pan (opN o)):=by
 split
 ·rename_i h;rw[Zgx got Zad.d a h,ZBn]
 ·rename_i h;rw[List.drop_eq_nil_of_le (by omega),ZEI]
theorem ZlG(got:List Zad)(a:Nat)(o:Zas)(hL:got.length≤1000000)(ha:a≤got.length):Zcj (wk got a) o=some (if a<got.length then(wk got (a+1),got.getD a Zad.d)else(wt got (opN o),valZ)):=by
 unfold Zcj wk;simp only[cond_false,Zao,Zwm,Option.bind_some];by_cases h:a<got.length
 ·rw[if_pos (by omega),if_pos h];have e1:ZaC (a:Int) 1=((a+1:Nat):Int):=add1 (n:=got.length) h (by simp only[maxLen];omega);have e2:Zby ((a+1:Nat):Int) 1=(a:Int):=by
   unfold Zby
   have:IntKind.i64.wrap (((a+1:Nat):Int)-1)=((a+1:Nat):Int)-1:=Zlr (by omega) (by omega);exact this.trans (by omega)
  rw[e1,e2,Zaz (by omega)];rfl
 ·rw[if_neg (by omega),if_neg h];have:a=got.length:=by omega
  subst this;rfl
theorem ZnG(got:List Zad)(q o:Zas):Zcj (wt got q) o=some (wt got q,valZ):=by
 unfold Zcj wt;simp only[cond_true];rfl
def Lka{α β:Type}(got:List Zad)(a0:Nat)(P:α→β→Prop)(W:β→Prop)(t:Option (Tout α))(r:Option (Zac×β)):Prop:=(∃v b a,t=some (.ret v ⟨got.drop a⟩)∧r=some (wk got a,b)∧a0≤a∧a≤got.length∧P v b)∨∃q b,t=some (.pan q)∧r=some (wt got q,b)∧okV q.fVal∧W b
def eqP{α:Type}:α→α→Prop:=fun x y=>x=y
def anyP{α β:Type}:α→β→Prop:=fun _ _=>True
def anyW{β:Type}:β→Prop:=fun _=>True
theorem Lka.weak{α β:Type}{got:List Zad}{a0 a1:Nat}{P:α→β→Prop}{W:β→Prop}{t:Option (Tout α)}{r:Option (Zac×β)}(h:Lka got a1 P W t r)(ha:a0≤a1):Lka got a0 P W t r:=by
 rcases h with⟨v,b,a,h1,h2,h3,h4,h5⟩|h
 ·exact .inl ⟨v,b,a,h1,h2,by omega,h4,h5⟩
 ·exact .inr h
section
variable {got:List Zad} (hL:got.length≤1000000) {a:Nat} (ha:a≤got.length)
include hL ha
theorem ZAm(l:Zap)(hl:True):Lka got (a+1) eqP anyW (ZbU ⟨got.drop a⟩ l false) (ZaW (wk got a) l):=by
 unfold ZbU ZaW;rw[ZyQ,ZlG _ _ _ hL ha];by_cases h:a<got.length
 ·simp only[if_pos h,Option.bind_some];exact .inl ⟨_,_,a+1,rfl,rfl,Nat.le_refl _,h,rfl⟩
 ·simp only[if_neg h,Option.bind_some];exact .inr ⟨_,_,rfl,rfl,Zvt Zwu,trivial⟩
theorem ZHC(k old now:Int)(mark:Bool):Lka got (a+1) eqP anyW (ZfW ⟨got.drop a⟩ ⟨k,0,0⟩ old now mark) (ZdF (wk got a) k old now mark):=by
 unfold ZfW ZdF;rw[ZyQ,ZlG _ _ _ hL ha];by_cases h:a<got.length
 ·simp only[if_pos h,Option.bind_some];exact .inl ⟨_,_,a+1,rfl,rfl,Nat.le_refl _,h,rfl⟩
 ·simp only[if_neg h,Option.bind_some];exact .inr ⟨_,_,rfl,rfl,Zvt Zwu,trivial⟩
theorem ZBr(l:Zap)(v:Zad)(mark:Bool)(hv:okV v):Lka got (a+1) anyP anyW (Zcx ⟨got.drop a⟩ l v mark) ((Zbk (wk got a) l v mark).map fun w=>(w,())):=by
 unfold Zcx Zbk;rw[ZyQ,ZlG _ _ _ hL ha];by_cases h:a<got.length
 ·simp only[if_pos h,Option.bind_some,Option.map_some];exact .inl ⟨_,_,a+1,rfl,rfl,Nat.le_refl _,h,trivial⟩
 ·simp only[if_neg h,Option.bind_some,Option.map_some];exact .inr ⟨_,_,rfl,rfl,Zvt hv,trivial⟩
theorem ZHF(k:Int)(mark:Bool):Lka got (a+1) anyP anyW (Zdi ⟨got.drop a⟩ k mark) ((ZaA (wk got a) 1 k mark).map fun w=>(w,())):=by
 unfold Zdi ZaA;rw[ZyQ,ZlG _ _ _ hL ha];by_cases h:a<got.length
 ·simp only[if_pos h,Option.bind_some,Option.map_some];exact .inl ⟨_,_,a+1,rfl,rfl,Nat.le_refl _,h,trivial⟩
 ·simp only[if_neg h,Option.bind_some,Option.map_some];exact .inr ⟨_,_,rfl,rfl,Zvt Zwu,trivial⟩
theorem ZHG(k:Int)(mark:Bool):Lka got (a+1) anyP anyW (ZbV ⟨got.drop a⟩ k mark) ((ZaA (wk got a) 3 k mark).map fun w=>(w,())):=by
 unfold ZbV ZaA;rw[ZyQ,ZlG _ _ _ hL ha];by_cases h:a<got.length
 ·simp only[if_pos h,Option.bind_some,Option.map_some];exact .inl ⟨_,_,a+1,rfl,rfl,Nat.le_refl _,h,trivial⟩
 ·simp only[if_neg h,Option.bind_some,Option.map_some];exact .inr ⟨_,_,rfl,rfl,Zvt Zwu,trivial⟩
end
theorem Zio(got:List Zad)(q:Zas)(l:Zap):ZaW (wt got q) l=some (wt got q,valZ):=by
 unfold ZaW;rw[ZnG];rfl
theorem ZEM(got:List Zad)(q:Zas)(k old now:Int)(mark:Bool):ZdF (wt got q) k old now mark=some (wt got q,false):=by
 unfold ZdF;rw[ZnG];rfl
theorem ZlD(got:List Zad)(q:Zas)(l:Zap)(v:Zad)(mark:Bool):Zbk (wt got q) l v mark=some (wt got q):=by
 unfold Zbk;rw[ZnG];rfl
theorem ZhS(got:List Zad)(q:Zas)(k l:Int)(mark:Bool):ZaA (wt got q) k l mark=some (wt got q):=by
 unfold ZaA;rw[ZnG];rfl
theorem Zmx{r:Option Zac}{w:Zac}{b:Unit}(h:r.map (fun w=>(w,()))=some (w,b)):r=some w:=by
 cases r with
 |none=>cases h
 |some x=>simp at h;rw[h]
theorem ZhT(got:List Zad)(q:Zas):(wt got q).fWait=true:=rfl
theorem Zqm(got:List Zad)(a:Nat):(wk got a).fWait=false:=rfl
theorem ZEP{got:List Zad}(hL:got.length≤1000000)(part n:Int)(b4:Zac)(b7:Zad)(hn:∀i:Nat,(i:Int)<n↔(i:Int)<b7.fN):∀(k a i:Nat)(w:List Zab)(fu F:Nat),got.length-a=k→a≤got.length→i≤a→w.length=i →
  (n-(i:Int)).toNat+1≤fu→k+3≤F→Lka got a (fun x y=>x=y∧x.length≤got.length) (fun b=>b.length≤got.length+1) (ZdM part fu n i w ⟨got.drop a⟩) (ZbN part F i w b4 (wk got a) b7):=by
 intro k;induction k using Nat.strongRecOn with
 |ind k ih=>
  intro a i w fu F hk ha hi hw hfu hF;obtain⟨fu,rfl⟩ : ∃x,fu=x+1:=⟨fu-1,by omega⟩;obtain⟨F,rfl⟩ : ∃x,F=x+1:=⟨F-1,by omega⟩;unfold ZdM ZbN;simp only[Zao,Zqm,Bool.not_false,cond_true];by_cases h:(i:Int)<n
  ·rw[if_pos h,if_pos ((hn i).1 h)];have e:ZhW part i=some ⟨6,part,i⟩:=rfl;simp only[e,Option.bind_some];have hlen:∀p:Zab,(w++[p]).length * 80≤140737488355328∧(w++[p]).length≤maxLen:=fun p=>by simp only[List.length_append,List.length_singleton,maxLen];omega
   have e1:ZaC (i:Int) 1=((i+1:Nat):Int):=add1 (n:=i+1) (by omega) (by simp only[maxLen];omega);rcases ZAm hL ha ⟨6,part,i⟩ trivial with⟨v,b,a',h1,h2,h3,h4,rfl⟩|⟨q,b,h1,h2,hq,hW⟩
   ·simp only[h1,h2,Option.bind_some];rw[Zaz (hlen _),Zaz (hlen _),e1];rcases ih (got.length-a') (by omega) a' (i+1) (w++[v.fPeer]) fu F rfl h4 (by omega) (by simp[hw]) (by omega) (by omega)with⟨x,y,a2,q1,q2,q3,q4,q5⟩|hq
    ·exact .inl ⟨x,y,a2,q1,q2,by omega,q4,q5⟩
    ·exact .inr hq
   ·simp only[h1,h2,Option.bind_some];rw[Zaz (hlen _),e1];obtain⟨F,rfl⟩ : ∃x,F=x+1:=⟨F-1,by omega⟩;unfold ZbN;simp only[Zao,ZhT,Bool.not_true,cond_false];refine .inr ⟨q,w++[b.fPeer],rfl,?_,hq,by simp only[List.length_append,List.length_singleton];omega⟩;split<;>rfl
  ·rw[if_neg h,if_neg (fun h'=>h ((hn i).2 h'))];exact .inl ⟨w,w,a,rfl,rfl,Nat.le_refl _,ha,rfl,by omega⟩
theorem Zst(got:List Zad)(q:Zas)(part i:Int)(w:List Zab)(b4:Zac)(b7:Zad)(F:Nat)(hF:1≤F):ZbN part F i w b4 (wt got q) b7=some (wt got q,w):=by
 obtain⟨F,rfl⟩ : ∃x,F=x+1:=⟨F-1,by omega⟩;unfold ZbN;simp only[Zao,ZhT,Bool.not_true,cond_false];split<;>rfl
theorem ZHD{got:List Zad}(hL:got.length≤900000){a:Nat}(ha:a≤got.length)(part:Int):Lka got a (fun x y=>x=y∧x.length≤got.length) (fun b=>b.length≤got.length+1) (Zhj ⟨got.drop a⟩ part) (ZcK (wk got a) part):=by
 unfold Zhj ZcK;have e:ZhX part=some ⟨5,part,0⟩:=rfl;simp only[e,ZaN];rcases ZAm (by omega) ha ⟨5,part,0⟩ trivial with⟨v,b,a',h1,h2,h3,h4,rfl⟩|⟨q,b,h1,h2,hq,hW⟩
 ·simp only[h1,h2,ZaN];rcases ZEP (by omega) part (if(0:Int)>v.fN then 0 else v.fN) ⟨[],0,⟨0,0,⟨0,0,0⟩,0,0,⟨0,⟨⟨⟨false,0,0⟩,0⟩,false,0,⟨0,0⟩,0,0⟩,[],[]⟩,false⟩,false⟩ v (fun i=>by split<;>omega) (got.length-a') a' 0 [] _ 1000000 rfl h4 (by omega) rfl (Nat.le_succ _) (by omega)with⟨x,y,a2,q1,q2,q3,q4,q5⟩|hq
  ·exact .inl ⟨x,y,a2,q1,q2,by omega,q4,q5⟩
  ·exact .inr hq
 ·simp only[h1,h2,ZaN];have hb:b=valZ:=by
   unfold ZaW at h2;rw[ZlG _ _ _ (by omega) ha]at h2;by_cases h:a<got.length
   ·simp only[if_pos h,ZaN,Option.some.injEq,Prod.mk.injEq]at h2;exact absurd h2.1 (by simp[wk,wt])
   ·simp only[if_neg h,ZaN,Option.some.injEq,Prod.mk.injEq]at h2;exact h2.2.symm
  subst hb;exact .inr ⟨q,[],rfl,Zst got q part 0 [] _ valZ 1000000 (by omega),hq,Nat.zero_le _⟩
theorem ZEO(got:List Zad)(q:Zas)(part:Int):ZcK (wt got q) part=some (wt got q,[]):=by
 unfold ZcK;simp only[Zio,ZaN];exact Zst got q part 0 [] _ valZ 1000000 (by omega)
theorem ZAi(was now:List Zab)(hn:now.length≤1000000):∀(k i:Nat)(w:List Int)(f g:Nat),now.length-i=k→i≤now.length→w.length≤i→(∀x∈w,0≤x∧x<(now.length:Int))→k+1≤f→k+1≤g →
  ∃l:List Int,ZbT was f now (now.length:Int) i w=some l∧ZbB was now g i w=some l∧l.length≤now.length∧∀x∈l,0≤x∧x<(now.length:Int):=by
 intro k;induction k with
 |zero=>
  intro i w f g hk hi hw hx hf hg;obtain⟨f,rfl⟩ : ∃x,f=x+1:=⟨f-1,by omega⟩;obtain⟨g,rfl⟩ : ∃x,g=x+1:=⟨g-1,by omega⟩;unfold ZbT ZbB;simp only[Zao];rw[if_neg (by omega),if_neg (by omega)];exact⟨w,rfl,rfl,by omega,hx⟩
 |succ k ih=>
  intro i w f g hk hi hw hx hf hg;obtain⟨f,rfl⟩ : ∃x,f=x+1:=⟨f-1,by omega⟩;obtain⟨g,rfl⟩ : ∃x,g=x+1:=⟨g-1,by omega⟩;unfold ZbT ZbB;simp only[Zao];have c1:(i:Int)<(now.length:Int):=by omega
  rw[if_pos c1,if_pos c1,Zaz (by omega)];have e1:ZaC (i:Int) 1=((i+1:Nat):Int):=add1 (n:=i+1) (by omega) (by simp only[maxLen];omega);have hlen:(w++[(i:Int)]).length * 8≤140737488355328∧(w++[(i:Int)]).length≤maxLen:=by simp only[List.length_append,List.length_singleton,maxLen];omega
  have hx2:∀x∈w++[(i:Int)],0≤x∧x<(now.length:Int):=fun x hm=>by
   rcases List.mem_append.1 hm with hm|hm
   ·exact hx x hm
   ·simp only[List.mem_singleton]at hm;omega
  have hadd:=ih (i+1) (w++[(i:Int)]) f g (by omega) (by omega) (by simp only[List.length_append,List.length_singleton];omega) hx2 (by omega) (by omega);have hsame:=ih (i+1) w f g (by omega) (by omega) (by omega) hx (by omega) (by omega);by_cases h:(i:Int)≥(was.length:Int)
  ·rw[if_pos h,if_pos h,Zaz hlen,e1,Zaz hlen];exact hadd
  ·rw[if_neg h,if_neg h,Zaz (show 0≤(i:Int)∧(i:Int)<(was.length:Int)by omega),Zaz (show 0≤(i:Int)∧(i:Int)<(was.length:Int)by omega),Zaz (show 0≤(i:Int)∧(i:Int)<(now.length:Int)by omega)];by_cases h2:was.getD ((i:Int)).toNat Zab.d=now.getD ((i:Int)).toNat Zab.d
   ·simp only[h2,decide_true,Bool.not_true,cond_false,e1];exact hsame
   ·simp only[h2,decide_false,Bool.not_false,cond_true];rw[Zaz hlen,Zaz hlen,e1];exact hadd
theorem ZyT(was now:List Zab)(hn:now.length≤1000000):∃l:List Int,ZhH was now=some l∧ZeS was now=some l∧l.length≤now.length∧∀x∈l,0≤x∧x<(now.length:Int):=
 ZAi was now hn now.length 0 [] _ _ (by omega) (by omega) (by simp) (by simp) (by omega) (by omega)
theorem ZCz(got:List Zad)(q:Zas)(part:Int)(was now:List Zab)(hn:now.length≤1000000):ZcT (wt got q) part was now=some (wt got q):=by
 obtain⟨l,-,h2,h3,h4⟩:=ZyT was now hn;unfold ZcT;rw[h2];simp only[Option.bind_some];generalize hb:(Zac.mk _ _ _ _)=b8;have main:∀(k i f:Nat),l.length-i=k→i≤l.length→k+1≤f→ZaZ part was now f l i (wt got q) b8=some (wt got q):=by
  intro k;induction k with
  |zero=>
   intro i f hk hi hf;obtain⟨f,rfl⟩ : ∃x,f=x+1:=⟨f-1,by omega⟩;unfold ZaZ;simp only[Zao,ZlD,Option.bind_some];rw[if_neg (by omega)];simp
  |succ k ih=>
   intro i f hk hi hf;obtain⟨f,rfl⟩ : ∃x,f=x+1:=⟨f-1,by omega⟩;unfold ZaZ;simp only[Zao,ZlD,Option.bind_some];have e1:ZaC (i:Int) 1=((i+1:Nat):Int):=add1 (n:=i+1) (by omega) (by simp only[maxLen];omega);have hm:=h4 _ (Zga l (0:Int) i (by omega));rw[if_pos (by omega),Zaz (by omega),Zaz (by simpa using hm),e1];exact ih (i+1) f (by omega) (by omega) (by omega)
 exact main l.length 0 _ (by omega) (by omega) (by omega)
theorem ZGb{got:List Zad}(hL:got.length≤1000000){a:Nat}(ha:a≤got.length)(part:Int)(was now:List Zab)(hn:now.length≤1000000) :
  Lka got a anyP anyW (Zhe ⟨got.drop a⟩ part was now) ((ZcT (wk got a) part was now).map fun w=>(w,())):=by
 obtain⟨l,h1,h2,h3,h4⟩:=ZyT was now hn;unfold Zhe ZcT;rw[h1,h2];simp only[Option.bind_some];generalize hb:(Zac.mk _ _ _ _)=b8;have main:∀(k i f g a:Nat),a≤got.length→l.length-i=k→i≤l.length→k+1≤f→k+1≤g →
   Lka got a anyP anyW (ZcZ part was now f l (l.length:Int) i ⟨got.drop a⟩) ((ZaZ part was now g l i (wk got a) b8).map fun w=>(w,())):=by
  intro k;induction k with
  |zero=>
   intro i f g a ha hk hi hf hg;obtain⟨f,rfl⟩ : ∃x,f=x+1:=⟨f-1,by omega⟩;obtain⟨g,rfl⟩ : ∃x,g=x+1:=⟨g-1,by omega⟩;unfold ZcZ ZaZ;simp only[Zao];rw[if_neg (by omega),if_neg (by omega)];have e:ZhX part=some ⟨5,part,0⟩:=rfl;simp only[e,Option.bind_some];cases hc:(((was.length:Nat):Int) != ((now.length:Nat):Int))with
   |false=>
    simp only[cond_false];exact .inl ⟨(),(),a,rfl,rfl,Nat.le_refl _,ha,trivial⟩
   |true=>
    simp only[cond_true];rcases ZBr hL ha ⟨5,part,0⟩ ⟨(now.length:Int),ZqL,[],[]⟩ false ⟨Nat.zero_le _,Nat.zero_le _⟩with⟨v,b,a',q1,q2,q3,q4,-⟩|⟨q,b,q1,q2,hq,hW⟩
    ·have q2:=Zmx q2;have q1':Zcx ⟨got.drop a⟩ ⟨5,part,0⟩ ⟨(now.length:Int),⟨⟨⟨false,0,0⟩,0⟩,false,0,⟨0,0⟩,0,0⟩,[],[]⟩ false=_:=q1;have q2':Zbk (wk got a) ⟨5,part,0⟩ ⟨(now.length:Int),⟨⟨⟨false,0,0⟩,0⟩,false,0,⟨0,0⟩,0,0⟩,[],[]⟩ false=_:=q2;simp only[q1',q2',Option.bind_some,Option.map_some];exact .inl ⟨(),(),a',rfl,rfl,by omega,q4,trivial⟩
    ·have q2:=Zmx q2;have q1':Zcx ⟨got.drop a⟩ ⟨5,part,0⟩ ⟨(now.length:Int),⟨⟨⟨false,0,0⟩,0⟩,false,0,⟨0,0⟩,0,0⟩,[],[]⟩ false=_:=q1;have q2':Zbk (wk got a) ⟨5,part,0⟩ ⟨(now.length:Int),⟨⟨⟨false,0,0⟩,0⟩,false,0,⟨0,0⟩,0,0⟩,[],[]⟩ false=_:=q2;simp only[q1',q2',Option.bind_some,Option.map_some];exact .inr ⟨q,(),rfl,rfl,hq,trivial⟩
  |succ k ih=>
   intro i f g a ha hk hi hf hg;obtain⟨f,rfl⟩ : ∃x,f=x+1:=⟨f-1,by omega⟩;obtain⟨g,rfl⟩ : ∃x,g=x+1:=⟨g-1,by omega⟩;unfold ZcZ ZaZ;simp only[Zao];have e1:ZaC (i:Int) 1=((i+1:Nat):Int):=add1 (n:=i+1) (by omega) (by simp only[maxLen];omega);have hm:=h4 _ (Zga l (0:Int) i (by omega));have hm':0≤l.getD ((i:Int)).toNat (0:Int)∧l.getD ((i:Int)).toNat (0:Int)<(now.length:Int):=by simpa using hm
   have e:∀x,ZhW part x=some ⟨6,part,x⟩:=fun _=>rfl;rw[if_pos (by omega),if_pos (by omega),Zaz (by omega),Zaz (by omega)];simp only[e,Option.bind_some];rw[Zaz hm',Zaz hm'];rcases ZBr hL ha ⟨6,part,l.getD ((i:Int)).toNat (0:Int)⟩ ⟨0,now.getD (l.getD ((i:Int)).toNat (0:Int)).toNat Zab.d,[],[]⟩ false ⟨Nat.zero_le _,Nat.zero_le _⟩with⟨v,b,a',q1,q2,q3,q4,-⟩|⟨q,b,q1,q2,hq,hW⟩
   ·have q2:=Zmx q2;simp only[q1,q2,Option.bind_some,e1];rcases ih (i+1) f g a' q4 (by omega) (by omega) (by omega) (by omega)with⟨x,y,a2,r1,r2,r3,r4,r5⟩|hq
    ·exact .inl ⟨x,y,a2,r1,r2,by omega,r4,r5⟩
    ·exact .inr hq
   ·have q2:=Zmx q2;simp only[q1,q2,Option.bind_some,e1];have hw:∀(k i f:Nat),l.length-i=k→i≤l.length→k+1≤f→ZaZ part was now f l i (wt got q) b8=some (wt got q):=by
     intro k;induction k with
     |zero=>
      intro i f hk hi hf;obtain⟨f,rfl⟩ : ∃x,f=x+1:=⟨f-1,by omega⟩;unfold ZaZ;simp only[Zao,ZlD,Option.bind_some];rw[if_neg (by omega)];simp
     |succ k ih=>
      intro i f hk hi hf;obtain⟨f,rfl⟩ : ∃x,f=x+1:=⟨f-1,by omega⟩;unfold ZaZ;simp only[Zao,ZlD,Option.bind_some];have e1:ZaC (i:Int) 1=((i+1:Nat):Int):=add1 (n:=i+1) (by omega) (by simp only[maxLen];omega);have hm:=h4 _ (Zga l (0:Int) i (by omega));rw[if_pos (by omega),Zaz (by omega),Zaz (by simpa using hm),e1];exact ih (i+1) f (by omega) (by omega) (by omega)
    rw[hw k (i+1) g (by omega) (by omega) (by omega)];exact .inr ⟨q,(),rfl,rfl,hq,trivial⟩
 exact main l.length 0 _ _ a ha (by omega) (by omega) (by omega) (by omega)
def ZcU(p:Int):Nat:=if p<1 then 1 else if p>8 then 8 else p.toNat
theorem ZkH(p:Int):1≤ZcU p∧ZcU p≤8:=by unfold ZcU;split<;>(try split)<;>omega
theorem ZlC(p:Int):ZhY p=some (ZcU p:Int):=by
 unfold ZhY ZcU;congr 1
 repeat' split
 all_goals omega
theorem Zlw(p:Int):Zcw p=some (ZcU p:Int):=by
 unfold Zcw ZcU;simp only[Zao]
 repeat' split
 all_goals first|rfl | (congr 1;omega)|omega
theorem Zsv{got:List Zad}(hL:got.length≤1000000)(p:Int)(b:Zac):∀(k i a f g:Nat),ZcU p-i=k→i≤ZcU p→a≤got.length→k+1≤f→k+1≤g →
  Lka got a anyP anyW (Zcy f (ZcU p:Int) i ⟨got.drop a⟩) ((Zbq p g i (wk got a) b).map fun w=>(w,()))∧∀q,Zbq p g i (wt got q) b=some (wt got q):=by
 have h8:=(ZkH p).2;intro k;induction k with
 |zero=>
  intro i a f g hk hi ha hf hg;obtain⟨f,rfl⟩ : ∃x,f=x+1:=⟨f-1,by omega⟩;obtain⟨g,rfl⟩ : ∃x,g=x+1:=⟨g-1,by omega⟩;have hc:¬((i:Int)<(ZcU p:Int)):=by omega
  refine⟨?_,fun q=>?_⟩
  ·unfold Zcy Zbq;simp only[Zao,Zlw,ZaN,if_neg hc];exact .inl ⟨(),(),a,rfl,rfl,Nat.le_refl _,ha,trivial⟩
  ·unfold Zbq;simp only[Zao,Zlw,ZaN,if_neg hc]
 |succ k ih=>
  intro i a f g hk hi ha hf hg;obtain⟨f,rfl⟩ : ∃x,f=x+1:=⟨f-1,by omega⟩;obtain⟨g,rfl⟩ : ∃x,g=x+1:=⟨g-1,by omega⟩;have hc:(i:Int)<(ZcU p:Int):=by omega
  have e1:ZaC (i:Int) 1=((i+1:Nat):Int):=add1 (n:=i+1) (by omega) (by simp only[maxLen];omega);refine⟨?_,fun q=>?_⟩
  ·unfold Zcy Zbq;simp only[Zao,Zlw,ZaN,if_pos hc,e1];rcases ZHF hL ha (ZaC 2 (i:Int)) false with⟨v,b',a',q1,q2,q3,q4,-⟩|⟨q,b',q1,q2,hq,hW⟩
   ·have q2:=Zmx q2;simp only[q1,q2,ZaN];rcases(ih (i+1) a' f g (by omega) (by omega) q4 (by omega) (by omega)).1 with⟨x,y,a2,r1,r2,r3,r4,r5⟩|hq
    ·exact .inl ⟨x,y,a2,r1,r2,by omega,r4,r5⟩
    ·exact .inr hq
   ·have q2:=Zmx q2;simp only[q1,q2,ZaN];rw[(ih (i+1) a f g (by omega) (by omega) ha (by omega) (by omega)).2 q];exact .inr ⟨q,(),rfl,rfl,hq,trivial⟩
  ·unfold Zbq;simp only[Zao,Zlw,ZaN,if_pos hc,e1,ZhS];exact(ih (i+1) a f g (by omega) (by omega) ha (by omega) (by omega)).2 q
theorem ZCD{got:List Zad}(hL:got.length≤1000000){a:Nat}(ha:a≤got.length)(p:Int):Lka got a anyP anyW (Zgz ⟨got.drop a⟩ p) ((Zcs (wk got a) p).map fun w=>(w,())):=by
 have h8:=(ZkH p).2;unfold Zgz Zcs;rw[ZlC,ZaN];exact(Zsv hL p _ (ZcU p) 0 a _ 1000000 (by omega) (by omega) ha (by omega) (by omega)).1
theorem Zsu(got:List Zad)(hL:got.length≤1000000)(q:Zas)(p:Int):Zcs (wt got q) p=some (wt got q):=by
 have h8:=(ZkH p).2;unfold Zcs;exact(Zsv hL p _ (ZcU p) 0 0 (ZcU p+1) 1000000 (by omega) (by omega) (by omega) (by omega) (by omega)).2 q
theorem Zpx(got:List Zad)(q:Zas)(k by_:Int)(mark:Bool)(b8:Zac)(g:Nat)(hg:1≤g):Zcb k by_ mark g (wt got q) b8=some (wt got q):=by
 obtain⟨g,rfl⟩ : ∃x,g=x+1:=⟨g-1,by omega⟩;unfold Zcb;simp only[ZhT,Bool.not_true,cond_false]
theorem ZES(got:List Zad)(q:Zas)(k by_:Int)(mark:Bool):ZbG (wt got q) k by_ mark=some (wt got q):=by
 unfold ZbG;exact Zpx got q k by_ mark _ 1000000 (by omega)
theorem ZET{got:List Zad}(hL:got.length≤900000)(kind by_:Int)(mark:Bool)(b8:Zac):∀(k a f g:Nat),got.length-a=k→a≤got.length→k+1≤f→k+2≤g →
  Lka got a anyP anyW (ZeL by_ mark f ⟨got.drop a⟩ ⟨kind,0,0⟩) ((Zcb kind by_ mark g (wk got a) b8).map fun w=>(w,())):=by
 intro k;induction k using Nat.strongRecOn with
 |ind k ih=>
  intro a f g hk ha hf hg;obtain⟨f,rfl⟩ : ∃x,f=x+1:=⟨f-1,by omega⟩;obtain⟨g,rfl⟩ : ∃x,g=x+1:=⟨g-1,by omega⟩;unfold ZeL Zcb;simp only[Zqm,Bool.not_false,cond_true];rcases ZAm (by omega) ha ⟨kind,0,0⟩ trivial with⟨v,b,a',h1,h2,h3,h4,rfl⟩|⟨q,b,h1,h2,hq,hW⟩
  ·simp only[h1,h2,ZaN];rcases ZHC (by omega) h4 kind v.fN (ZaC v.fN by_) mark with⟨v2,b2,a2,r1,r2,r3,r4,rfl⟩|⟨q,b2,r1,r2,hq,hW⟩
   ·simp only[r1,r2,ZaN];cases v2 with
    |true=>exact .inl ⟨(),(),a2,rfl,rfl,by omega,r4,trivial⟩
    |false=>
     simp only[cond_false];rcases ih (got.length-a2) (by omega) a2 f g rfl r4 (by omega) (by omega)with⟨x,y,a3,s1,s2,s3,s4,s5⟩|hq
     ·exact .inl ⟨x,y,a3,s1,s2,by omega,s4,s5⟩
     ·exact .inr hq
   ·simp only[r1,r2,ZaN];cases b2 with
    |true=>exact .inr ⟨q,(),rfl,rfl,hq,trivial⟩
    |false=>
     simp only[cond_false];rw[Zpx got q kind by_ mark b8 g (by omega)];exact .inr ⟨q,(),rfl,rfl,hq,trivial⟩
  ·simp only[h1,h2,ZaN,ZEM,cond_false];rw[Zpx got q kind by_ mark b8 g (by omega)];exact .inr ⟨q,(),rfl,rfl,hq,trivial⟩
theorem ZHE{got:List Zad}(hL:got.length≤900000){a:Nat}(ha:a≤got.length)(kind by_:Int)(mark:Bool):Lka got a anyP anyW (ZhZ ⟨got.drop a⟩ kind by_ mark) ((ZbG (wk got a) kind by_ mark).map fun w=>(w,())):=by
 unfold ZhZ ZbG;exact ZET hL kind by_ mark _ _ a 1000000 1000000 rfl ha (by omega) (by omega)
theorem ZvW{i:Nat}(h:i≤1000000):Zby ((i+1:Nat):Int) 1=(i:Int):=by
 unfold Zby
 have:IntKind.i64.wrap (((i+1:Nat):Int)-1)=((i+1:Nat):Int)-1:=Zlr (by omega) (by omega);exact this.trans (by omega)
theorem sub0:Zby 0 1 = -1:=by decide
theorem Zsw {got : List Zad} (hL : got.length ≤ 1000000) (p : Int) (mark : Bool) (b6 : Zac) : ∀ (n a f g : Nat) (m : Bool), n ≤ ZcU p → a ≤ got.length → n + 1 ≤ f → n + 1 ≤ g → (0 < n → m = (mark && decide (n = ZcU p))) →
    Lka got a anyP anyW (ZbK p mark f ((n:Int) - 1) ⟨got.drop a⟩) ((Zbe g m ((n:Int) - 1) (wk got a) b6).map fun w =>(w,()))∧∀ q m,Zbe g m ((n:Int) - 1) (wt got q) b6 = some (wt got q):=by
  have h8:=ZkH p
  intro n
  induction n with
  | zero =>
    intro a f g m hn ha hf hg hm
    obtain ⟨f,rfl⟩ : ∃ x,f = x + 1:=⟨f - 1,by omega⟩
    obtain ⟨g,rfl⟩ : ∃ x,g = x + 1:=⟨g - 1,by omega⟩
    have hc : ¬ (((0:Nat):Int) - 1 ≥ 0):=by omega
    refine ⟨?_,fun q m =>?_⟩
    · unfold ZbK Zbe
      simp only [Zao,if_neg hc]
      exact .inl ⟨(),(),a,rfl,rfl,Nat.le_refl _,ha,trivial⟩
    · unfold Zbe
      simp only [Zao,if_neg hc]
  | succ n ih =>
    intro a f g m hn ha hf hg hm
    obtain ⟨f,rfl⟩ : ∃ x,f = x + 1:=⟨f - 1,by omega⟩
    obtain ⟨g,rfl⟩ : ∃ x,g = x + 1:=⟨g - 1,by omega⟩
    have hm:=hm (by omega)
    have hc:(n:Int) ≥ 0:=by omega
    have e0:(((n + 1:Nat):Int) - 1) = (n:Int):=by omega
    have e1:Zby (n:Int) 1 = ((n:Int) - 1):=by
      cases n with
      | zero =>exact sub0
      | succ n =>rw [ZvW (by omega)]; omega
    rw [e0]
    refine ⟨?_,fun q m =>?_⟩
    · unfold ZbK Zbe
      simp only [Zao,if_pos hc,e1]
      have hp : ∃ c:Nat,ZcU p = c + 1:=⟨ZcU p - 1,by omega⟩
      obtain ⟨c,hcp⟩:=hp
      have hk : ∀ (v : Unit) (k : Bool), m = k → Lka got a anyP anyW
          ((ZbV ⟨got.drop a⟩ (ZaC 2 (n:Int)) k).bind fun x3 =>match x3 with
            | .ret x3v x3g =>ZbK p mark f ((n:Int) - 1) x3g
            | .pan x3o =>some (Tout.pan x3o)
            | .bad x3s =>some (Tout.bad x3s))
          (Option.map (fun w =>(w,())) ((ZaA (wk got a) 3 (ZaC 2 (n:Int)) m).bind fun x2 =>Zbe g false ((n:Int) - 1) x2 b6)):=by
        rintro v k rfl
        rcases ZHG hL ha (ZaC 2 (n:Int)) m with ⟨v,b',a',q1,q2,q3,q4,-⟩ | ⟨q,b',q1,q2,hq,hW⟩
        · have q2:=Zmx q2
          simp only [q1,q2,ZaN]
          rcases (ih a' f g false (by omega) q4 (by omega) (by omega) (fun _ =>by simp [show ¬ n = ZcU p by omega])).1 with ⟨x,y,a2,r1,r2,r3,r4,r5⟩ | hq
          · exact .inl ⟨x,y,a2,r1,r2,by omega,r4,r5⟩
          · exact .inr hq
        · have q2:=Zmx q2
          simp only [q1,q2,ZaN]
          rw [(ih a f g false (by omega) ha (by omega) (by omega) (fun _ =>by simp [show ¬ n = ZcU p by omega])).2 q false]
          exact .inr ⟨q,(),rfl,rfl,hq,trivial⟩
      cases mark with
      | true =>
        simp only [cond_true,ZlC,ZaN]
        refine hk () _ ?_
        rw [hm,hcp,ZvW (by omega)]
        by_cases h:n = c
        · subst h; simp
        · have h1 : ¬ (n + 1 = c + 1):=by omega
          have h2:((n:Int) == (c:Int)) = false:=beq_false_of_ne (by omega)
          simp [h,h2]
      | false =>
        simp only [cond_false]
        exact hk () _ (by rw [hm]; rfl)
    · unfold Zbe
      simp only [Zao,if_pos hc,e1,ZhS,ZaN]
      exact (ih 0 (n + 1) g (mark && decide (n = ZcU p)) (by omega) (by omega) (by omega) (by omega) (fun _ =>rfl)).2 q false
theorem ZCE{got:List Zad}(hL:got.length≤1000000){a:Nat}(ha:a≤got.length)(p:Int)(mark:Bool):Lka got a anyP anyW (ZgA ⟨got.drop a⟩ p mark) ((Zct (wk got a) p mark).map fun w=>(w,())):=by
 have h8:=ZkH p;unfold ZgA Zct;rw[ZlC,Zlw,ZaN,ZaN];have e:Zby (ZcU p:Int) 1=(ZcU p:Int)-1:=by
  obtain⟨c,hc⟩ : ∃c:Nat,ZcU p=c+1:=⟨ZcU p-1,by omega⟩;rw[hc,ZvW (by omega)];omega
 rw[e];exact(Zsw hL p mark _ (ZcU p) a _ _ mark (by omega) ha (by omega) (by omega) (fun _=>by simp)).1
theorem ZyY(got:List Zad)(hL:got.length≤1000000)(q:Zas)(p:Int)(mark:Bool):Zct (wt got q) p mark=some (wt got q):=by
 have h8:=ZkH p;unfold Zct;rw[Zlw,ZaN];have e:Zby (ZcU p:Int) 1=(ZcU p:Int)-1:=by
  obtain⟨c,hc⟩ : ∃c:Nat,ZcU p=c+1:=⟨ZcU p-1,by omega⟩;rw[hc,ZvW (by omega)];omega
 rw[e];exact(Zsw hL p mark _ (ZcU p) 0 (ZcU p+1) _ mark (by omega) (by omega) (by omega) (by omega) (fun _=>by simp)).2 q mark
theorem Zwc(l:List Zah)(h:l.length≤1000000):Zgm l l=some true:=by
 have main:∀(k i f:Nat),l.length-i=k→i≤l.length→k+1≤f→ZcE l l f i=some true:=by
  intro k;induction k with
  |zero=>
   intro i f hk hi hf;obtain⟨f,rfl⟩ : ∃x,f=x+1:=⟨f-1,by omega⟩;have hc:¬((i:Int)<(l.length:Int)):=by omega
   unfold ZcE;simp only[Zao,if_neg hc]
  |succ k ih=>
   intro i f hk hi hf;obtain⟨f,rfl⟩ : ∃x,f=x+1:=⟨f-1,by omega⟩;have hc:(i:Int)<(l.length:Int):=by omega
   have e1:ZaC (i:Int) 1=((i+1:Nat):Int):=add1 (n:=i+1) (by omega) (by simp only[maxLen];omega);unfold ZcE;simp only[Zao,if_pos hc,e1,decide_true,Bool.not_true,cond_false];rw[Zaz (by omega),Zaz (by omega)];exact ih (i+1) f (by omega) (by omega) (by omega)
 unfold Zgm;simp only[bne_self_eq_false,cond_false];exact main l.length 0 _ (by omega) (by omega) (by omega)
theorem Zwb(l:List Zaa)(h:l.length≤1000000):Zgl l l=some true:=by
 have main:∀(k i f:Nat),l.length-i=k→i≤l.length→k+1≤f→ZcD l l f i=some true:=by
  intro k;induction k with
  |zero=>
   intro i f hk hi hf;obtain⟨f,rfl⟩ : ∃x,f=x+1:=⟨f-1,by omega⟩;have hc:¬((i:Int)<(l.length:Int)):=by omega
   unfold ZcD;simp only[Zao,if_neg hc]
  |succ k ih=>
   intro i f hk hi hf;obtain⟨f,rfl⟩ : ∃x,f=x+1:=⟨f-1,by omega⟩;have hc:(i:Int)<(l.length:Int):=by omega
   have e1:ZaC (i:Int) 1=((i+1:Nat):Int):=add1 (n:=i+1) (by omega) (by simp only[maxLen];omega);unfold ZcD;simp only[Zao,if_pos hc,e1,decide_true,Bool.not_true,cond_false];rw[Zaz (by omega),Zaz (by omega)];exact ih (i+1) f (by omega) (by omega) (by omega)
 unfold Zgl;simp only[bne_self_eq_false,cond_false];exact main l.length 0 _ (by omega) (by omega) (by omega)
theorem ZuD(l:List Zab)(h:l.length≤1000000):ZfI l l=some true:=by
 have main:∀(k i f:Nat),l.length-i=k→i≤l.length→k+1≤f→Zcq l l f i=some true:=by
  intro k;induction k with
  |zero=>
   intro i f hk hi hf;obtain⟨f,rfl⟩ : ∃x,f=x+1:=⟨f-1,by omega⟩;have hc:¬((i:Int)<(l.length:Int)):=by omega
   unfold Zcq;simp only[Zao,if_neg hc]
  |succ k ih=>
   intro i f hk hi hf;obtain⟨f,rfl⟩ : ∃x,f=x+1:=⟨f-1,by omega⟩;have hc:(i:Int)<(l.length:Int):=by omega
   have e1:ZaC (i:Int) 1=((i+1:Nat):Int):=add1 (n:=i+1) (by omega) (by simp only[maxLen];omega);unfold Zcq;simp only[Zao,if_pos hc,e1,decide_true,Bool.not_true,cond_false];rw[Zaz (by omega),Zaz (by omega)];exact ih (i+1) f (by omega) (by omega) (by omega)
 unfold ZfI;simp only[bne_self_eq_false,cond_false];exact main l.length 0 _ (by omega) (by omega) (by omega)
theorem ZuC(v:Zad)(h:okV v):ZfH v v=some true:=by
 unfold ZfH;simp only[beq_self_eq_true,decide_true,cond_true,Zwc _ h.1,Zwb _ h.2,ZaN]
theorem Zte(o:Zas)(h:okV o.fVal):ZdD o o=some true:=by
 unfold ZdD;simp only[beq_self_eq_true,decide_true,cond_true,ZuC _ h,ZaN]
theorem Zqa(r:Zaq)(h:r.fPeers.length≤1000000):ZdE r r=some true:=by
 unfold ZdE;simp only[beq_self_eq_true,decide_true,cond_true,ZuD _ h,ZaN]
def dblN:Nat→Int→Int|0,x=>x|k+1,x=>dblN k (fitI (2*x))
theorem ZyB:∀k,dblN k 0=0
 | 0=>rfl
 |k+1=>by show dblN k (fitI (2 * 0))=0;exact ZyB k
theorem ZBg:∀k,dblN k 1099511627776=1099511627776
 | 0=>rfl
 |k+1=>by show dblN k (fitI (2 * 1099511627776))=_;exact ZBg k
theorem ZHn{x:Int}(h0:0≤x)(h1:x≤1099511627776):fitI x=x:=by
 unfold fitI;rw[if_neg (by omega),if_neg (by omega)]
theorem Zwa:∀(j:Nat)(x:Int)(n fu:Nat),n≤1000000→0≤x→x≤1099511627776→(x=0∨1099511627776≤x * 2 ^ j)→(1099511627776-x).toNat+1≤fu→Zfw fu x (n:Int)=some (dblN (min n j) x):=by
 intro j;induction j with
 |zero=>
  intro x n fu _ h0 h1 h2 hf;obtain⟨fu,rfl⟩ : ∃y,fu=y+1:=⟨fu-1,by omega⟩;unfold Zfw;simp only[Zao];rw[Nat.min_zero];have h2':x=0∨1099511627776≤x:=by simpa using h2
  split
  ·split
   ·rw[if_neg (by omega)];rfl
   ·rfl
  ·rfl
 |succ j ih=>
  intro x n fu hn h0 h1 h2 hf;obtain⟨fu,rfl⟩ : ∃y,fu=y+1:=⟨fu-1,by omega⟩;unfold Zfw;simp only[Zao];cases n with
  |zero=>rw[if_neg (by omega),Nat.zero_min];rfl
  |succ n=>
   rw[if_pos (by omega)];have hmin:min (n+1) (j+1)=min n j+1:=by omega
   rw[hmin];by_cases hx:x>0
   ·rw[if_pos hx];by_cases ht:x<1099511627776
    ·rw[if_pos ht,ZFy (by omega) (by omega),ZmZ,ZaN,ZvW (by omega)];have hle:=Zsf (2*x);have hge:x+1≤fitI (2*x):=by
      unfold fitI;repeat' split
      all_goals omega
     have h2':fitI (2*x)=0∨1099511627776≤fitI (2*x) * 2 ^ j:=by
      right;have hpw:(1:Int)≤2 ^ j:=Int.pow_pos (by omega);rcases h2 with h2|h2
      ·omega
      ·have e2:x * 2 ^ (j+1)=2*x * 2 ^ j:=by
        rw[Int.pow_succ,←Int.mul_assoc,Int.mul_right_comm,Int.mul_comm x 2]
       rw[e2]at h2;unfold fitI;rw[if_neg (by omega)];split
       ·have:=Int.mul_le_mul_of_nonneg_left hpw (show (0:Int)≤1099511627776 by omega);omega
       ·exact h2
     exact ih (fitI (2*x)) n fu (by omega) hle.1 hle.2 h2' (by omega)
    ·have:x=1099511627776:=by omega
     rw[if_neg ht,this,ZBg]
   ·have:x=0:=by omega
    rw[if_neg hx,this,ZyB]
theorem Zwl(n:Nat):∀(k i:Nat)(x:Int)(fu:Nat),min n 41-i=k→i≤41→0≤x→x≤1099511627776→k+1≤fu→Zcn (n:Int) fu x (i:Int)=some (dblN k x):=by
 intro k;induction k with
 |zero=>
  intro i x fu hk hi h0 h1 hf;obtain⟨fu,rfl⟩ : ∃y,fu=y+1:=⟨fu-1,by omega⟩;unfold Zcn;simp only[Zao];split
  ·rw[if_neg (by omega)];rfl
  ·rfl
 |succ k ih=>
  intro i x fu hk hi h0 h1 hf;obtain⟨fu,rfl⟩ : ∃y,fu=y+1:=⟨fu-1,by omega⟩;unfold Zcn;simp only[Zao];have e1:ZaC (i:Int) 1=((i+1:Nat):Int):=add1 (n:=i+1) (by omega) (by simp only[maxLen];omega);have e2:addT x x=fitI (2*x):=by
   unfold addT;rw[ZHn h0 h1];congr 1;omega
  have hle:=Zsf (2*x);rw[if_pos (by omega),if_pos (by omega),(Zzg _ _).2,ZaN,e1,e2];exact ih (i+1) _ fu (by omega) (by omega) hle.1 hle.2 (by omega)
theorem ZAo(a:Int)(n:Nat)(hn:n≤1000000):ZlQ a (n:Int)=some (dblN (min n 41) (fitI a))∧Zfq a (n:Int)=some (dblN (min n 41) (fitI a)):=by
 have h:=Zsf a;constructor
 ·unfold ZlQ;rw[ZmZ,ZaN];exact Zwa 41 _ n _ hn h.1 h.2 (by omega) (by omega)
 ·unfold Zfq;rw[ZoL,ZaN];exact Zwl n _ 0 _ _ rfl (by omega) h.1 h.2 (by omega)
theorem ZFL(c:Zax)(n:Nat)(hn:n≤1000000):∃t,Zil c (n:Int)=some t∧Zfo c (n:Int)=some t:=by
 unfold Zil Zfo;simp only[Zao];cases n with
 |zero=>exact⟨0,rfl,rfl⟩
 |succ n=>
  rw[if_neg (by omega),if_neg (by omega),ZvW (by omega),ZmZ,ZoL,(ZAo _ n (by omega)).1,(ZAo _ n (by omega)).2];simp only[ZaN];generalize dblN (min n 41) (fitI c.fBase)=a;generalize fitI c.fCap=b;refine⟨if a<b then a else b,rfl,?_⟩;split<;>split<;>first|rfl|omega | (congr 1;omega)
theorem ZDB(c:Zax)(r:Int):∃t,ZhD c r=some t∧ZeT c r=some t:=by
 unfold ZhD ZeT;simp only[Zao];by_cases h:c.fJitter<1
 ·rw[if_pos h];exact⟨_,rfl,rfl⟩
 ·rw[if_neg h,Zaz (by omega)];split<;>exact⟨_,rfl,rfl⟩
theorem ZHb(c:Zax)(n:Nat)(hn:n≤1000000)(now r:Int):∃t,ZiV c (n:Int) now r=some t∧ZdG c (n:Int) now r=some t:=by
 obtain⟨t,h1,h2⟩:=ZFL c n hn;obtain⟨u,h3,h4⟩:=ZDB c r;unfold ZiV ZdG;rw[h1,h2,h3,h4];simp only[ZaN,(Zzg _ _).1,(Zzg _ _).2];exact⟨_,rfl,rfl⟩
def ZwM(c:Zax)(e:Zaa)(now r:Int):Zaa:=(Zhf c e now r).getD e
theorem ZDV(c:Zax)(e:Zaa)(now r:Int):Zhf c e now r=some (ZwM c e now r)∧ZcN c e now r=some (ZwM c e now r):=by
 have main:∀n:Nat,n≤1000→ZaC (if(999:Int)<(if(0:Int)>e.fFails then(0:Int)else e.fFails)then(999:Int)else(if(0:Int)>e.fFails then(0:Int)else e.fFails)) (1:Int)=(n:Int) →
   ZcN c e now r=((ZdG c (n:Int) now r).bind fun x=>some (Zaa.mk e.fEnd 1 (n:Int) x))→Zhf c e now r=some (ZwM c e now r)∧ZcN c e now r=some (ZwM c e now r):=by
  intro n hn h1 h2;obtain⟨t,h3,h4⟩:=ZHb c n (by omega) now r;have h5:Zhf c e now r=some ⟨e.fEnd,1,(n:Int),t⟩:=by
   unfold Zhf;rw[h1,h3];rfl
  have h6:ZwM c e now r=⟨e.fEnd,1,(n:Int),t⟩:=by unfold ZwM;rw[h5];rfl
  rw[h6,h5,h2,h4];exact⟨rfl,rfl⟩
 unfold ZcN Zdx at main ⊢;simp only[Zao]at main ⊢;by_cases h0:e.fFails>0
 ·by_cases h1:e.fFails<1000
  ·obtain⟨n,hn⟩ : ∃n:Nat,e.fFails=(n:Int):=⟨e.fFails.toNat,by omega⟩;have e1:ZaC e.fFails 1=((n+1:Nat):Int):=by rw[hn];exact add1 (n:=n+1) (by omega) (by simp only[maxLen];omega)
   refine main (n+1) (by omega) ?_ ?_
   ·rw[if_neg (show ¬(0:Int)>e.fFails by omega),if_neg (by omega),e1]
   ·rw[if_pos h0,if_pos h1,if_neg (show ¬e.fFails≥1000 by omega),e1]
  ·refine main 1000 (by omega) ?_ ?_
   ·rw[if_neg (show ¬(0:Int)>e.fFails by omega),if_pos (by omega)];exact ZgM (by omega) (by omega)
   ·rw[if_pos h0,if_neg h1,if_pos (show e.fFails≥1000 by omega)];rfl
 ·refine main 1 (by omega) ?_ ?_
  ·have e1:(if(0:Int)>e.fFails then(0:Int)else e.fFails)=0:=by split<;>omega
   rw[e1,if_neg (by omega)];exact ZgM (by omega) (by omega)
  ·rw[if_neg h0,if_neg (show ¬e.fFails≥1000 by omega)];rfl
theorem ZHe(l:List Zab)(e:Zaj):Zyk l e<0↔conn l e=false:=by
 unfold Zyk conn;rw[ZsR,List.any_eq_false];simp
theorem ZGV{v:ZaD}(h:Zpy v)(e:Zaa)(he:e.ok)(now:Int):Zgp v.fBook v.fPeers v.fBans e now=some (mayS v now e):=by
 obtain⟨r,u1,u2⟩:=ZvV v.fBans e.fEnd.fAddr now (by have:=h.bans;unfold maxLen;omega) h.bansOk he.1.1;obtain⟨s,u3,u4⟩:=Ztn v.fBans e.fEnd.fAddr now (by have:=h.bans;unfold maxLen;omega) h.bansOk he.1.1;have hrs:r=s:=Zvx u2 u4 fun b=>Iff.rfl;subst hrs;have hf:=Ztc v.fPeers v.fBook e.fEnd.fAddr (by have:=h.peers;omega) (by have:=h.book;omega) h.peersOk h.bookOk he.1.1;have hf2:=ZFp v.fPeers v.fBook e.fEnd.fAddr (by have:=h.peers;omega) (by have:=h.book;omega) h.peersOk h.bookOk he.1.1;have hp:v.fPeers.length≤maxLen:=by have:=h.peers;unfold maxLen;omega
 have main:Zsz v e.fEnd now=(!conn v.fPeers e.fEnd&&(r==0)&&ZFG v e.fEnd.fAddr):=by
  unfold Zsz;simp only[Zem,ZyA v e.fEnd hp,u1,hf,Option.bind_some];cases conn v.fPeers e.fEnd
  ·simp only[Bool.not_false,cond_true,Bool.true_and];cases(r==(0:Int))
   ·rfl
   ·simp only[cond_true,Bool.true_and];rfl
  ·rfl
 unfold Zgp mayS;rw[ZmD e he,ZaN,ZGW,ZaN,u3,ZaN,ZxC _ _ hp,ZaN,hf2,ZaN,main,Zao];have hneg:=ZHe v.fPeers e.fEnd;unfold ZFG;cases ZlF e
 ·rfl
 ·cases dueS e now
  ·rfl
  ·simp only[cond_true,Bool.true_and];cases(r==(0:Int))
   ·simp
   ·simp only[cond_true,Bool.and_true];by_cases hc:Zyk v.fPeers e.fEnd<0
    ·rw[if_pos hc,hneg.1 hc];rfl
    ·rw[if_neg hc];cases hq:conn v.fPeers e.fEnd
     ·exact absurd (hneg.2 hq) hc
     ·rfl
def Zpw(v:ZaD)(now:Int)(e:Zaj)(ok:Bool):Prop:=(ok=true∧∃x∈v.fBook,x.fEnd=e∧mayS v now x=true∧∀y∈v.fBook,mayS v now y=true→leH (Zhx x) (Zhx y))∨(ok=false∧e=zE∧∀y∈v.fBook,mayS v now y=false)
theorem ZBO{v:ZaD}{now:Int}{e:Zaj}{ok:Bool}(h:ZvS v now (Zlf v.fBook now) e ok):Zpw v now e ok:=by
 have hm:∀y∈v.fBook,mayS v now y=true→Zhx y∈Zlf v.fBook now∧Zsz v (Zhx y).fEnd now=true:=fun y hy hmy=>by
  unfold mayS at hmy;rw[Bool.and_eq_true]at hmy;exact⟨List.mem_map.2 ⟨y,List.mem_filter.2 ⟨hy,hmy.1⟩,rfl⟩,hmy.2⟩
 rcases h with⟨h1,x,h2,h3,h4,h5⟩|⟨h1,h2,h3⟩
 ·have hx:=h2;simp only[Zlf,List.mem_map,List.mem_filter]at hx;obtain⟨a,⟨a1,a2⟩,rfl⟩:=hx;refine .inl ⟨h1,a,a1,h3,?_,fun y hy hmy=>h5 _ (hm y hy hmy).1 (hm y hy hmy).2⟩;unfold mayS;rw[show (ZlF a&&dueS a now)=true from a2,show a.fEnd=e from h3,h4];rfl
 ·refine .inr ⟨h1,h2,fun y hy=>?_⟩;cases hq:mayS v now y with
  |false=>rfl
  |true=>exact absurd (hm y hy hq).2 (by rw[h3 _ (hm y hy hq).1];simp)
theorem Zpw.one{v:ZaD}{now:Int}{e e':Zaj}{ok ok':Bool}(h:Zpw v now e ok)(h':Zpw v now e' ok'):(e,ok)=(e',ok'):=by
 rcases h with⟨h1,x,h2,h3,h4,h5⟩|⟨h1,h2,h3⟩
 ·rcases h' with⟨g1,y,g2,g3,g4,g5⟩|⟨g1,g2,g3⟩
  ·have l1:=h5 y g2 g4;have l2:=g5 x h2 h4;have hz:cmpH (Zhx x) (Zhx y)=0:=by
    unfold leH at l1 l2;rcases Int.lt_trichotomy (cmpH (Zhx x) (Zhx y)) 0 with q|q|q
    ·exact absurd q l2
    ·exact q
    ·exact absurd (Zun.1 q) l1
   have:=Zum.1 hz;simp only[Zhx,Zaf.mk.injEq]at this;rw[h1,g1,←h3,←g3,this.2]
  ·rw[g3 x h2]at h4;cases h4
 ·rcases h' with⟨g1,y,g2,g3,g4,g5⟩|⟨g1,g2,g3⟩
  ·rw[h3 y g2]at g4;cases g4
  ·rw[h1,h2,g1,g2]
theorem ZqW{x y:Zaa}:leH (Zhx x) (Zhx y)↔x.fNext<y.fNext∨(x.fNext=y.fNext∧cmpE x.fEnd y.fEnd≤0):=by
 unfold leH;rw[ZEx];simp only[Zhx];have e:=@ZrA y.fEnd x.fEnd;have e2:=@ZrA x.fEnd y.fEnd;omega
theorem ZBF{v:ZaD}(h:Zpy v)(now:Int)(z:Zaj):∀(fu i:Nat)(b:Int),i≤v.fBook.length→v.fBook.length-i<fu→b<(i:Int)→-1≤b →
  (b<0→∀y∈v.fBook.take i,mayS v now y=false)→(0≤b→mayS v now (v.fBook.getD b.toNat Zaa.d)=true∧∀y∈v.fBook.take i,mayS v now y=true→leH (Zhx (v.fBook.getD b.toNat Zaa.d)) (Zhx y)) →
  ∃e ok,Zbg v.fBook v.fPeers v.fBans now fu b (i:Int) z=some (e,ok)∧Zpw v now e ok:=by
 have hm:v.fBook.length≤maxLen:=by have:=h.book;unfold maxLen;omega
 intro fu;induction fu with
 |zero=>intro _ _ _ h;omega
 |succ fu ih=>
  intro i b hi hf hb hb1 hn hy;unfold Zbg;simp only[Zao];by_cases hlt:i<v.fBook.length
  ·rw[if_pos (by omega),Zaz ⟨by omega,by omega⟩];simp only[Int.toNat_natCast];have hmem:=Zga v.fBook Zaa.d i hlt;have htk:v.fBook.take (i+1)=v.fBook.take i++[v.fBook.getD i Zaa.d]:=by rw[List.take_succ_eq_append_getElem hlt,Zjh v.fBook _ i hlt]
   have in1:∀y,y∈v.fBook.take (i+1)→y∈v.fBook.take i∨y=v.fBook.getD i Zaa.d:=fun y hy=>by
    rw[htk]at hy;rcases List.mem_append.1 hy with q|q
    ·exact .inl q
    ·exact .inr (List.mem_singleton.1 q)
   rw[ZGV h _ (h.bookOk _ hmem),ZaN,add1 hlt hm];have keep:mayS v now (v.fBook.getD i Zaa.d)=false∨(0≤b∧leH (Zhx (v.fBook.getD b.toNat Zaa.d)) (Zhx (v.fBook.getD i Zaa.d)))→∃e ok,Zbg v.fBook v.fPeers v.fBans now fu b ((i+1:Nat):Int) z=some (e,ok)∧Zpw v now e ok:=fun hk=>by
    refine ih (i+1) b (by omega) (by omega) (by omega) hb1 (fun hb0 y hyy=>?_) (fun hb0=>⟨(hy hb0).1,fun y hyy hmy=>?_⟩)
    ·rcases in1 y hyy with q|q
     ·exact hn hb0 y q
     ·rw[q];rcases hk with hk|hk
      ·exact hk
      ·omega
    ·rcases in1 y hyy with q|q
     ·exact(hy hb0).2 y q hmy
     ·rcases hk with hk|hk
      ·rw[q,hk]at hmy;cases hmy
      ·rw[q];exact hk.2
   have move:mayS v now (v.fBook.getD i Zaa.d)=true→(0≤b→leH (Zhx (v.fBook.getD i Zaa.d)) (Zhx (v.fBook.getD b.toNat Zaa.d)))→∃e ok,Zbg v.fBook v.fPeers v.fBans now fu (i:Int) ((i+1:Nat):Int) z=some (e,ok)∧Zpw v now e ok:=fun hk hle=>by
    refine ih (i+1) (i:Int) (by omega) (by omega) (by omega) (by omega) (fun hb0=>by omega) (fun _=>⟨by rw[Int.toNat_natCast];exact hk,fun y hyy hmy=>?_⟩);rw[Int.toNat_natCast];rcases in1 y hyy with q|q
    ·by_cases hb0:b<0
     ·rw[hn hb0 y q]at hmy;cases hmy
     ·exact ZtH (hle (by omega)) ((hy (by omega)).2 y q hmy)
    ·rw[q];exact ZpE _
   cases hk:mayS v now (v.fBook.getD i Zaa.d)with
   |false=>rw[Bool.not_false,cond_true];exact keep (.inl hk)
   |true=>
    rw[Bool.not_true,cond_false];by_cases hb0:b<0
    ·rw[if_pos hb0];exact move hk (fun q=>by omega)
    ·rw[if_neg hb0,Zaz ⟨by omega,by omega⟩];by_cases h1:(v.fBook.getD i Zaa.d).fNext<(v.fBook.getD b.toNat Zaa.d).fNext
     ·rw[if_pos h1];exact move hk fun _=>ZqW.2 (.inl h1)
     ·rw[if_neg h1,ZhN,ZAy,ZaN];by_cases h2:(v.fBook.getD i Zaa.d).fNext=(v.fBook.getD b.toNat Zaa.d).fNext
      ·rw[if_pos h2];by_cases h3:cmpE (v.fBook.getD i Zaa.d).fEnd (v.fBook.getD b.toNat Zaa.d).fEnd<0
       ·rw[if_pos h3];exact move hk fun _=>ZqW.2 (.inr ⟨h2,by omega⟩)
       ·rw[if_neg h3];refine keep (.inr ⟨by omega,ZqW.2 (.inr ⟨h2.symm,?_⟩)⟩);have:=@ZrA (v.fBook.getD b.toNat Zaa.d).fEnd (v.fBook.getD i Zaa.d).fEnd;omega
      ·rw[if_neg h2];exact keep (.inr ⟨by omega,ZqW.2 (.inl (by omega))⟩)
  ·rw[if_neg (by omega)];have et:v.fBook.take i=v.fBook:=List.take_of_length_le (by omega);rw[et]at hn hy;by_cases hb0:b<0
   ·rw[if_pos hb0];exact⟨_,_,rfl,.inr ⟨rfl,rfl,hn hb0⟩⟩
   ·rw[if_neg hb0,Zaz ⟨by omega,by omega⟩];exact⟨_,_,rfl,.inl ⟨rfl,_,Zga v.fBook Zaa.d b.toNat (by omega),rfl,(hy (by omega)).1,(hy (by omega)).2⟩⟩
def ZpM(v:ZaD)(now:Int):Zaj×Bool:=(Zjm v now).getD (zE,false)
theorem ZDq{v:ZaD}(h:Zpy v)(now:Int):Zjm v now=some (ZpM v now)∧ZeG v.fBook v.fPeers v.fBans now=some (ZpM v now)∧((ZpM v now).2=true→0≤ZkW v.fBook (ZpM v now).1):=by
 obtain⟨e,ok,h1,h2⟩:=ZEn h now;have h3:=ZBO h2;obtain⟨e',ok',h4,h5⟩:=ZBF h now ⟨⟨false,0,0⟩,0⟩ ((((v.fBook.length:Nat):Int)-(0:Int)).toNat+2) 0 (-1) (by omega) (by omega) (by omega) (by omega) (fun _=>by simp) (fun q=>by omega);have hq:=Zpw.one h3 h5;have hv:ZpM v now=(e,ok):=by unfold ZpM;rw[h1];rfl
 refine⟨by rw[hv,h1],?_,fun hok=>?_⟩
 ·unfold ZeG;rw[hv,hq];exact h4
 ·rw[hv]at hok ⊢;rcases h3 with⟨_,x,x1,x2,_⟩|⟨q,_⟩
  ·have hx:¬ZkW v.fBook e<0:=fun q=>ZDT.1 q x x1 x2;exact Int.not_lt.1 hx
  ·rw[show ok=true from hok]at q;cases q
def ZnM(now:Int)(e:Zaa):Bool:=ZlF e&&((e.fState==1)&&decide (e.fNext>now))
def ZwB(l:List Zaa)(now:Int):List Itm:=(l.filter (ZnM now)).map Zhx
theorem ZEX(e:Zaa)(now:Int):ZjX e now=some ((e.fState==1)&&decide (e.fNext>now)):=by
 simp only[ZjX];cases(e.fState==(1:Int))<;>rfl
theorem ZDA(l:List Zaa)(now:Int)(hl:l.length≤900)(hok:∀e∈l,e.ok):∀fu (i:Nat) (w:List Itm),i≤l.length→l.length-i<fu→w.length≤i →
  ZbL now fu l (l.length:Int) (i:Int) w=(Zid (w++ZwB (l.drop i) now)).bind fun x=>some x:=by
 have hm:l.length≤maxLen:=by unfold maxLen;omega
 intro fu;induction fu with
 |zero=>intro _ _ _ h;omega
 |succ fu ih=>
  intro i w hi hf hw;simp only[ZbL,Zao];by_cases h:i<l.length
  ·rw[if_pos (by omega),Zaz ⟨by omega,by omega⟩,Zgx l Zaa.d i h];simp only[Int.toNat_natCast];have hko:=hok _ (Zga l Zaa.d i h);rw[add1 h hm,ih (i+1) w (by omega) (by omega) (by omega),Zqz _ hko];simp only[Option.bind_some,ZEX];rw[Zaz ⟨by simp;omega,by unfold maxLen;simp;omega⟩,ih (i+1) _ (by omega) (by omega) (by simp;omega)];generalize l.getD i Zaa.d=e;have e1:ZwB (e :: l.drop (i+1)) now=(if ZnM now e then[Zhx e]else[])++ZwB (l.drop (i+1)) now:=by
    unfold ZwB;cases q:ZnM now e<;>simp[q]
   rw[e1];unfold ZnM;cases ZlF e
   ·simp
   ·cases((e.fState==(1:Int))&&decide (e.fNext>now))
    ·simp
    ·simp[Zhx]
  ·rw[if_neg (by omega),List.drop_eq_nil_of_le (by omega)];simp[ZwB]
def ZqC(S:Zaa→Prop)(r:Int):Prop:=((∀y,¬S y)∧r=0)∨∃x,S x∧r=x.fNext∧∀y,S y→r≤y.fNext
theorem ZqC.one{S:Zaa→Prop}{r s:Int}(h:ZqC S r)(g:ZqC S s):r=s:=by
 rcases h with⟨h1,h2⟩|⟨x,h1,h2,h3⟩
 ·rcases g with⟨g1,g2⟩|⟨y,g1,g2,g3⟩
  ·omega
  ·exact absurd g1 (h1 y)
 ·rcases g with⟨g1,g2⟩|⟨y,g1,g2,g3⟩
  ·exact absurd h1 (g1 x)
  ·have:=h3 y g1;have:=g3 x h1;omega
theorem ZEm{v:ZaD}(h:Zpy v)(now:Int):∃r,Zjl v now=some r∧ZqC (fun y=>y∈v.fBook∧ZnM now y=true) r:=by
 have hlen:(ZwB v.fBook now).length≤v.fBook.length:=by simp only[ZwB,List.length_map];exact List.length_filter_le _ _
 have hb:=h.book;have hl:=ZDA v.fBook now h.book h.bookOk ((((v.fBook.length:Nat):Int)-(0:Int)).toNat+2) 0 [] (by omega) (by omega) (by simp);simp only[Int.natCast_zero,List.drop_zero,List.nil_append]at hl;obtain⟨L,h1,h2,h3⟩:=Zye (ZwB v.fBook now) (by omega);have hin:∀y,y∈v.fBook∧ZnM now y=true→Zhx y∈L:=fun y hy=>h2.mem_iff.2 (List.mem_map.2 ⟨y,List.mem_filter.2 hy,rfl⟩);unfold Zjl ZeU;rw[hl,h1,ZaN,ZaN];by_cases hn:L=[]
 ·subst hn;rw[Zsp,ZaN];exact⟨0,rfl,.inl ⟨fun y hy=>by have:=hin y hy;simp at this,rfl⟩⟩
 ·obtain⟨x,r,p1,p2,p3,p4⟩:=ZAS L (by rw[h2.length_eq];omega) h3 hn;rw[p1,ZaN];have hx:x∈L:=p2.mem_iff.2 (by simp);have hx2:=h2.mem_iff.1 hx;simp only[ZwB,List.mem_map,List.mem_filter]at hx2;obtain⟨a,a1,rfl⟩:=hx2;refine⟨_,rfl,.inr ⟨a,a1,rfl,fun y hy=>?_⟩⟩;have:=ZqW.1 (p4 _ (hin y hy));show a.fNext≤y.fNext;omega
theorem ZBE{l:List Zaa}(hl:l.length≤900)(hok:∀e∈l,e.ok)(now:Int):∀(fu i:Nat)(r:Int)(any:Bool),i≤l.length→l.length-i<fu →
  (any=false→r=0∧∀y∈l.take i,ZnM now y=false)→(any=true→∃x,(x∈l∧ZnM now x=true)∧r=x.fNext∧∀y∈l.take i,ZnM now y=true→r≤y.fNext) →
  ∃r',Zbf l now fu r any (i:Int)=some r'∧ZqC (fun y=>y∈l∧ZnM now y=true) r':=by
 have hm:l.length≤maxLen:=by unfold maxLen;omega
 intro fu;induction fu with
 |zero=>intro _ _ _ _ h;omega
 |succ fu ih=>
  intro i r any hi hf hn hy;unfold Zbf;simp only[Zao,ZhN];by_cases hlt:i<l.length
  ·rw[if_pos (by omega),Zaz ⟨by omega,by omega⟩];simp only[Int.toNat_natCast];have hmem:=Zga l Zaa.d i hlt;have htk:l.take (i+1)=l.take i++[l.getD i Zaa.d]:=by rw[List.take_succ_eq_append_getElem hlt,Zjh l _ i hlt]
   have in1:∀y,y∈l.take (i+1)→y∈l.take i∨y=l.getD i Zaa.d:=fun y hy=>by
    rw[htk]at hy;rcases List.mem_append.1 hy with q|q
    ·exact .inl q
    ·exact .inr (List.mem_singleton.1 q)
   rw[ZmD _ (hok _ hmem),ZaN,add1 hlt hm];generalize l.getD i Zaa.d=e at hmem htk in1 ⊢;have keep:ZnM now e=false∨(any=true∧r≤e.fNext)→∃r',Zbf l now fu r any ((i+1:Nat):Int)=some r'∧ZqC (fun y=>y∈l∧ZnM now y=true) r':=fun hk=>by
    refine ih (i+1) r any (by omega) (by omega) (fun ha=>⟨(hn ha).1,fun y hyy=>?_⟩) (fun ha=>?_)
    ·rcases in1 y hyy with q|q
     ·exact(hn ha).2 y q
     ·rw[q];rcases hk with hk|hk
      ·exact hk
      ·rw[ha]at hk;exact absurd hk.1 (by decide)
    ·obtain⟨x,x1,x2,x3⟩:=hy ha;refine⟨x,x1,x2,fun y hyy hmy=>?_⟩;rcases in1 y hyy with q|q
     ·exact x3 y q hmy
     ·rcases hk with hk|hk
      ·rw[q,hk]at hmy;cases hmy
      ·rw[q];exact hk.2
   have move:ZnM now e=true→(any=true→e.fNext≤r)→∃r',Zbf l now fu e.fNext true ((i+1:Nat):Int)=some r'∧ZqC (fun y=>y∈l∧ZnM now y=true) r':=fun hk hle=>by
    refine ih (i+1) _ true (by omega) (by omega) (fun ha=>by cases ha) (fun _=>⟨e,⟨hmem,hk⟩,rfl,fun y hyy hmy=>?_⟩);rcases in1 y hyy with q|q
    ·cases ha:any with
     |false=>rw[(hn ha).2 y q]at hmy;cases hmy
     |true=>
      obtain⟨x,x1,x2,x3⟩:=hy ha;have:=x3 y q hmy;have:=hle ha;omega
    ·rw[q];exact Int.le_refl _
   cases hr:ZlF e with
   |false=>rw[cond_false];exact keep (.inl (by simp[ZnM,hr]))
   |true=>
    rw[cond_true];by_cases h1:e.fState=1
    ·rw[if_pos h1];by_cases h2:e.fNext>now
     ·rw[if_pos h2];have hk:ZnM now e=true:=by unfold ZnM;rw[hr,h1,decide_eq_true h2];rfl
      cases ha:any with
      |false=>rw[Bool.not_false,cond_true];exact move hk fun q=>by rw[ha]at q;cases q
      |true=>
       rw[Bool.not_true,cond_false];by_cases h3:e.fNext<r
       ·rw[if_pos h3];exact move hk fun _=>by omega
       ·rw[if_neg h3];have hk2:=keep (.inr ⟨ha,by omega⟩);rw[ha]at hk2;exact hk2
     ·rw[if_neg h2];exact keep (.inl (by unfold ZnM;rw[decide_eq_false h2];simp))
    ·rw[if_neg h1];exact keep (.inl (by simp[ZnM,h1]))
  ·rw[if_neg (by omega)];have et:l.take i=l:=List.take_of_length_le (by omega);rw[et]at hn hy;refine⟨r,rfl,?_⟩;cases ha:any with
   |false=>exact .inl ⟨fun y hyy=>(by have h1:=hyy.2;rw[(hn ha).2 y hyy.1]at h1;cases h1),(hn ha).1⟩
   |true=>
    obtain⟨x,x1,x2,x3⟩:=hy ha;exact .inr ⟨x,x1,x2,fun y hyy=>x3 y hyy.1 hyy.2⟩
def Zza(v:ZaD)(now:Int):Int:=(Zjl v now).getD 0
theorem ZCL{v:ZaD}(h:Zpy v)(now:Int):Zjl v now=some (Zza v now)∧ZeF v.fBook now=some (Zza v now):=by
 obtain⟨r,h1,h2⟩:=ZEm h now;obtain⟨s,h3,h4⟩:=ZBE h.book h.bookOk now ((((v.fBook.length:Nat):Int)-(0:Int)).toNat+2) 0 0 false (by omega) (by omega) (fun _=>⟨rfl,by simp⟩) (fun q=>by cases q);have hv:Zza v now=r:=by unfold Zza;rw[h1];rfl
 refine⟨by rw[hv,h1],?_⟩;unfold ZeF;rw[hv,h2.one h4];exact h3
def inI(n a b:Int):Bool:=decide (a≤n)&&decide (n≤b)
def nowB(x:ZaB):Bool:=inI x.fNow 0 1099511627776
def ZkZ(x:ZaB):Bool:=if x.fKind=1∨x.fKind=12∨x.fKind=13 then ZkG x.fEnd&&nowB x else if x.fKind=2 then ZkG x.fEnd else if x.fKind=3∨x.fKind=9 then nowB x else if x.fKind=4 then ZkG x.fEnd&&(nowB x&&inI x.fNum 0 1073741824)else if x.fKind=5 then ZkG x.fEnd&&(inI x.fNum 1 5&&nowB x)else if x.fKind=6 then ZhU x.fNet&&(inI x.fNum 1 1099511627776&&nowB x)else if x.fKind=7 then ZhU x.fNet else if x.fKind=8 then ZcP x.fEnd.fAddr&&nowB x else if x.fKind=10 then true else if x.fKind=11 then ZkG x.fEnd&&inI x.fNum 1 1048576 else false
def Zzo(x:ZaB)(s:Int×Int)(p:Int):Bool:=if p=0 then ZkG x.fEnd else if p=1 then ZhU x.fNet else if p=2 then ZcP x.fEnd.fAddr else if p=3 then nowB x else if p=4 then inI x.fNum s.1 s.2 else true
theorem ZAc(x:ZaB)(hx:x.ok)(s:Int×Int)(hs:Zku x.fKind=some s)(p:Int):ZkS x p=some (Zzo x s p):=by
 have he:x.fEnd.ok:=hx.2.1;have hn:x.fNet.ok:=hx.2.2.1;unfold ZkS Zzo;simp only[ZhN,ZvL _ he,ZnD _ hn.1,Zjy _ he.1,hs,Option.bind_some,nowB,inI,Zao]
 repeat' split
 all_goals first|rfl | (simp_all;done) | (simp_all;omega)
theorem ZAd(x:ZaB)(hx:x.ok)(s:Int×Int)(hs:Zku x.fKind=some s)(l:List Int)(hl:l.length≤100):Zea ((((l.length:Nat):Int)-(0:Int)).toNat+2) l (l.length:Int) 0 x=some (l.all (Zzo x s)):=by
 have hL:l.length≤maxLen:=by unfold maxLen;omega
 have main:∀fu (i:Nat),i≤l.length→l.length-i<fu→Zea fu l (l.length:Int) (i:Int) x=some ((l.drop i).all (Zzo x s)):=by
  intro fu;induction fu with
  |zero=>intro i _ h;omega
  |succ fu ih=>
   intro i hi hf;unfold Zea;simp only[Zao];by_cases h:i<l.length
   ·rw[if_pos (by omega),Zaz ⟨by omega,by omega⟩,ZAc x hx s hs,Option.bind_some,add1 h hL,Zgx l (0:Int) i h,List.all_cons,Int.toNat_natCast];cases Zzo x s (l.getD i 0)with
    |true=>simp only[Bool.not_true,cond_false,Bool.true_and];exact ih (i+1) (by omega) (by omega)
    |false=>rfl
   ·rw[if_neg (by omega),List.drop_of_length_le (by omega)];rfl
 exact main _ 0 (by omega) (by omega)
theorem ZEv(k:Int):∃t,Zmb k=some t∧((t.toList==(⟨#[]⟩ : ByteArray).toList) = !(decide (1≤k)&&decide (k≤13))):=by
 unfold Zmb Zmz Zrj;simp only[Option.bind_some,Zao];by_cases h0:k<0
 ·rw[if_pos h0];refine⟨_,rfl,?_⟩;rw[decide_eq_false (show ¬1≤k by omega)];simp
 ·rw[if_neg h0];by_cases h1:k≥14
  ·have h2:k≥(([(⟨#[]⟩ : ByteArray),(⟨#[97,99,99,101,112,116]⟩ : ByteArray),(⟨#[108,101,97,118,101]⟩ : ByteArray),(⟨#[100,105,97,108]⟩ : ByteArray),(⟨#[114,101,115,117,108,116]⟩ : ByteArray),(⟨#[98,108,97,109,101]⟩ : ByteArray),(⟨#[98,97,110]⟩ : ByteArray),(⟨#[117,110,98,97,110]⟩ : ByteArray),(⟨#[98,97,110,110,101,100]⟩ : ByteArray),(⟨#[116,105,99,107]⟩ : ByteArray),(⟨#[108,105,115,116]⟩ : ByteArray),(⟨#[112,111,110,103]⟩ : ByteArray),(⟨#[119,111,114,107]⟩ : ByteArray),(⟨#[108,101,97,114,110]⟩ : ByteArray)]:List ByteArray).length:Int):=h1;rw[if_pos h2];refine⟨_,rfl,?_⟩;rw[decide_eq_true (show 1≤k by omega),decide_eq_false (show ¬k≤13 by omega)];simp
  ·obtain h|h|h|h|h|h|h|h|h|h|h|h|h|h:k=0∨k=1∨k=2∨k=3∨k=4∨k=5∨k=6∨k=7∨k=8∨k=9∨k=10∨k=11∨k=12∨k=13:=by omega
   all_goals subst h;exact⟨_,rfl,by decide +kernel⟩
theorem ZCv(x:ZaB)(hx:x.ok):ZkT x=some (ZkZ x):=by
 obtain⟨t,h1,h2⟩:=ZEv x.fKind;unfold ZkT;rw[h1,Option.bind_some,h2];by_cases hk:1≤x.fKind∧x.fKind≤13
 ·rw[decide_eq_true hk.1,decide_eq_true hk.2];simp only[Bool.and_self,Bool.not_true,cond_false];have key:∀(k:Int)(l:List Int)(s:Int×Int),x.fKind=k→Zjx k=some l→Zku k=some s→l.length≤100→l.all (Zzo x s)=ZkZ x→((Zjx x.fKind).bind fun x2=>Zea ((((x2.length:Nat):Int)-(0:Int)).toNat+2) x2 ((x2.length:Nat):Int) (0:Int) x)=some (ZkZ x):=by
   intro k l s e h3 h4 h5 h6;rw[e,h3,Option.bind_some,ZAd x hx s (by rw[e];exact h4) l h5,h6]
  obtain h|h|h|h|h|h|h|h|h|h|h|h|h:x.fKind=1∨x.fKind=2∨x.fKind=3∨x.fKind=4∨x.fKind=5∨x.fKind=6∨x.fKind=7∨x.fKind=8∨x.fKind=9∨x.fKind=10∨x.fKind=11∨x.fKind=12∨x.fKind=13:=by omega
  all_goals exact key _ _ _ h rfl rfl (by simp) (by simp[ZkZ,h,Zzo])
 ·have hf:(decide (1≤x.fKind)&&decide (x.fKind≤13))=false:=by
   rw[Bool.and_eq_false_iff,decide_eq_false_iff_not,decide_eq_false_iff_not];omega
  rw[hf];simp only[Bool.not_false,cond_true];unfold ZkZ
  repeat' rw[if_neg (by omega)]
theorem ZBK(x:ZaB)(hx:x.ok)(a b:Int)(s:ByteArray)(L:List Int)(hL:L.length=s.size)(h:∀i:Nat,i<s.size→((Zkp s i:Nat):Int)=L.getD i 0)(hs:s.size≤100) :
  Zba a b x ((((s.size:Nat):Int)-(0:Int)).toNat+2) s 0=some (L.all fun c=>if c=101 then ZkG x.fEnd else if c=110 then ZhU x.fNet else if c=97 then ZcP x.fEnd.fAddr else if c=116 then nowB x else if c=107 then inI x.fNum a b else true):=by
 have he:x.fEnd.ok:=hx.2.1;have hn:x.fNet.ok:=hx.2.2.1;have main:∀fu (i:Nat),i≤s.size→s.size-i<fu→Zba a b x fu s (i:Int)=some ((L.drop i).all fun c=>if c=101 then ZkG x.fEnd else if c=110 then ZhU x.fNet else if c=97 then ZcP x.fEnd.fAddr else if c=116 then nowB x else if c=107 then inI x.fNum a b else true):=by
  intro fu;induction fu with
  |zero=>intro i _ h;omega
  |succ fu ih=>
   intro i hi hf;unfold Zba;simp only[Zao,ZhN,Zso _ he,Zvm _ hn.1,ZjB _ he.1,Option.bind_some];by_cases hlt:i<s.size
   ·rw[if_pos (by omega),Zaz ⟨by omega,by omega⟩,add1 (n:=s.size) hlt (by unfold maxLen;omega),Zgx L (0:Int) i (by omega),List.all_cons,Int.toNat_natCast,h i hlt,ih (i+1) (by omega) (by omega)];generalize hR:((L.drop (i+1)).all fun c=>if c=101 then ZkG x.fEnd else if c=110 then ZhU x.fNet else if c=97 then ZcP x.fEnd.fAddr else if c=116 then nowB x else if c=107 then inI x.fNum a b else true)=R;have two:∀q:Bool,(bif !q then some false else some R)=some (q&&R):=fun q=>by cases q<;>rfl
    simp only[two];have rng:∀n lo hi:Int,(if n<lo then some false else if n>hi then some false else some R)=some (inI n lo hi&&R):=fun n lo hi=>by
     unfold inI;by_cases h1:n<lo
     ·rw[if_pos h1,decide_eq_false (by omega)];rfl
     ·rw[if_neg h1,decide_eq_true (show lo≤n by omega)];by_cases h2:n>hi
      ·rw[if_pos h2,decide_eq_false (by omega)];rfl
      ·rw[if_neg h2,decide_eq_true (show n≤hi by omega)];rfl
    simp only[rng];unfold nowB
    repeat' split
    all_goals first|rfl|omega
   ·rw[if_neg (by omega),List.drop_of_length_le (by omega)];rfl
 exact main _ 0 (by omega) (by omega)
theorem Zzi(x:ZaB)(hx:x.ok):Zfn x=some (ZkZ x):=by
 unfold Zfn ZcM;simp only[Zao,ZhN];by_cases h1:x.fKind<1
 ·rw[if_pos h1];unfold ZkZ
  repeat' rw[if_neg (by omega)]
 ·rw[if_neg h1];by_cases h2:x.fKind>13
  ·rw[if_pos h2];unfold ZkZ
   repeat' rw[if_neg (by omega)]
  ·rw[if_neg h2];have key:∀(k a b:Int)(s:ByteArray)(L:List Int),x.fKind=k→Zfm k=some s→L.length=s.size→(∀i:Nat,i<s.size→((Zkp s i:Nat):Int)=L.getD i 0)→s.size≤100 →
     (L.all fun c=>if c=101 then ZkG x.fEnd else if c=110 then ZhU x.fNet else if c=97 then ZcP x.fEnd.fAddr else if c=116 then nowB x else if c=107 then inI x.fNum a b else true)=ZkZ x →
     ((Zfm x.fKind).bind fun x1=>Zba a b x ((((x1.size:Nat):Int)-(0:Int)).toNat+2) x1 (0:Int))=some (ZkZ x):=by
    intro k a b s L e h3 h4 h5 h6 h7;rw[e,h3,Option.bind_some,ZBK x hx a b s L h4 h5 h6,h7]
   obtain h|h|h|h|h|h|h|h|h|h|h|h|h:x.fKind=1∨x.fKind=2∨x.fKind=3∨x.fKind=4∨x.fKind=5∨x.fKind=6∨x.fKind=7∨x.fKind=8∨x.fKind=9∨x.fKind=10∨x.fKind=11∨x.fKind=12∨x.fKind=13:=by omega
   ·rw[if_neg (by omega),if_neg (by omega),if_neg (by omega)];exact key 1 _ _ _ [101,116] h rfl rfl (by decide) (by decide) (by simp[ZkZ,h])
   ·rw[if_neg (by omega),if_neg (by omega),if_neg (by omega)];exact key 2 _ _ _ [101] h rfl rfl (by decide) (by decide) (by simp[ZkZ,h])
   ·rw[if_neg (by omega),if_neg (by omega),if_neg (by omega)];exact key 3 _ _ _ [116] h rfl rfl (by decide) (by decide) (by simp[ZkZ,h])
   ·rw[if_neg (by omega),if_neg (by omega),if_neg (by omega)];exact key 4 _ _ _ [101,103,116,107] h rfl rfl (by decide) (by decide) (by simp[ZkZ,h])
   ·rw[if_pos h];exact key 5 _ _ _ [101,107,116] h rfl rfl (by decide) (by decide) (by simp[ZkZ,h])
   ·rw[if_neg (by omega),if_pos h];exact key 6 _ _ _ [110,107,116] h rfl rfl (by decide) (by decide) (by simp[ZkZ,h])
   ·rw[if_neg (by omega),if_neg (by omega),if_neg (by omega)];exact key 7 _ _ _ [110] h rfl rfl (by decide) (by decide) (by simp[ZkZ,h])
   ·rw[if_neg (by omega),if_neg (by omega),if_neg (by omega)];exact key 8 _ _ _ [97,116] h rfl rfl (by decide) (by decide) (by simp[ZkZ,h])
   ·rw[if_neg (by omega),if_neg (by omega),if_neg (by omega)];exact key 9 _ _ _ [116] h rfl rfl (by decide) (by decide) (by simp[ZkZ,h])
   ·rw[if_neg (by omega),if_neg (by omega),if_neg (by omega)];exact key 10 _ _ _ [] h rfl rfl (by decide) (by decide) (by simp[ZkZ,h])
   ·rw[if_neg (by omega),if_neg (by omega),if_pos h];exact key 11 _ _ _ [101,107] h rfl rfl (by decide) (by decide) (by simp[ZkZ,h])
   ·rw[if_neg (by omega),if_neg (by omega),if_neg (by omega)];exact key 12 _ _ _ [101,116] h rfl rfl (by decide) (by decide) (by simp[ZkZ,h])
   ·rw[if_neg (by omega),if_neg (by omega),if_neg (by omega)];exact key 13 _ _ _ [101,116] h rfl rfl (by decide) (by decide) (by simp[ZkZ,h])
inductive Pr (α:Type) where
 |ret (x:α)
 |ask (o:Zas) (k:Zad→Pr α)
 |no
def Pr.bind{α β:Type}:Pr α→(α→Pr β)→Pr β | .ret x,f=>f x | .ask o k,f=>.ask o fun v=>(k v).bind f | .no,_=>.no
theorem Pr.bind_ret{α β:Type}(x:α)(f:α→Pr β):(Pr.ret x).bind f=f x:=rfl
theorem Pr.bind_ask{α β:Type}(o:Zas)(k:Zad→Pr α)(f:α→Pr β):(Pr.ask o k).bind f=.ask o fun v=>(k v).bind f:=rfl
theorem Pr.bind_assoc{α β γ:Type}(p:Pr α)(f:α→Pr β)(g:β→Pr γ):(p.bind f).bind g=p.bind fun x=>(f x).bind g:=by
 induction p with
 |ret x=>rfl
 |ask o k ih=>simp only[Pr.bind_ask,ih]
 |no=>rfl
def runT{α:Type}:Pr α→List Zad→Option (Tout α) | .ret x,l=>some (.ret x ⟨l⟩) | .ask o _,[]=>some (.pan (opN o)) | .ask _ k,v :: l=>runT (k v) l | .no,_=>none
theorem ZFe{α:Type}(p:Pr α):∀(l:List Zad)(s:ByteArray),runT p l≠some (.bad s):=by
 induction p with
 |ret x=>intro l s h;simp[runT]at h
 |ask o k ih=>
  intro l s;cases l with
  |nil=>simp[runT]
  |cons v l=>exact ih v l s
 |no=>intro l s h;simp[runT]at h
theorem ZCW{α:Type}(p:Pr α):∀(l:List Zad)(x:α)(g:Zan),runT p l=some (.ret x g)→∃a,a≤l.length∧g=⟨l.drop a⟩:=by
 induction p with
 |ret y=>intro l x g h;simp[runT]at h;exact⟨0,Nat.zero_le _,by rw[←h.2];rfl⟩
 |ask o k ih=>
  intro l x g h;cases l with
  |nil=>simp[runT]at h
  |cons v l=>
   obtain⟨a,h1,h2⟩:=ih v l x g h;exact⟨a+1,by simp only[List.length_cons];omega,h2⟩
 |no=>intro l x g h;simp[runT]at h
theorem ZbH{α β:Type}{p:Pr α}{f:α→Pr β}{l:List Zad}{F:Tout α→Option (Tout β)}(h1:∀x a,a≤l.length→runT p l=some (.ret x ⟨l.drop a⟩)→F (.ret x ⟨l.drop a⟩)=runT (f x) (l.drop a))(h2:∀o,F (.pan o)=some (.pan o)) :
  (runT p l).bind F=runT (p.bind f) l:=by
 induction p generalizing l with
 |ret x=>
  have:=h1 x 0 (Nat.zero_le _) rfl;simpa[runT,Pr.bind]using this
 |ask o k ih=>
  cases l with
  |nil=>simp only[runT,Pr.bind,Option.bind_some,h2]
  |cons v l=>
   simp only[runT,Pr.bind];refine ih v fun x a ha h=>?_;exact h1 x (a+1) (by simp only[List.length_cons];omega) h
 |no=>rfl
theorem Zth{α:Type}{p:Pr α}{l:List Zad}{F:Tout α→Option (Tout α)}(h1:∀x g,F (.ret x g)=some (.ret x g))(h2:∀o,F (.pan o)=some (.pan o)):(runT p l).bind F=runT p l:=by
 cases h:runT p l with
 |none=>rfl
 |some t=>
  cases t with
  |ret x g=>exact h1 x g
  |pan o=>exact h2 o
  |bad s=>exact absurd h (ZFe p l s)
abbrev Wlk{α β:Type}(got:List Zad)(a:Nat)(P:α→β→Prop)(W:β→Prop)(p:Pr α)(r:Option (Zac×β)):Prop:=Lka got a P W (runT p (got.drop a)) r
theorem Wlk.seq{α β γ δ:Type}{got:List Zad}{a:Nat}{P:α→β→Prop}{W:β→Prop}{p:Pr α}{r:Option (Zac×β)}(h:Wlk got a P W p r){f:α→Pr γ}{P':γ→δ→Prop}{W':δ→Prop}{K:Zac→β→Option (Zac×δ)}
  (h1:∀x b a',a≤a'→a'≤got.length→P x b→Wlk got a' P' W' (f x) (K (wk got a') b)) (h2:∀q b,W b→∃d,K (wt got q) b=some (wt got q,d)∧W' d) :
  Wlk got a P' W' (p.bind f) (r.bind fun x=>K x.1 x.2):=by
 unfold Wlk;rw[←ZbH (p:=p) (f:=f) (l:=got.drop a) (F:=fun t=>match t with | .ret x g=>runT (f x) g.fgot | .pan o=>some (.pan o) | .bad s=>some (.bad s)) (fun x a _ _=>rfl) (fun o=>rfl)]
 rcases h with⟨v,b,a',e1,e2,e3,e4,e5⟩|⟨q,b,e1,e2,e3,e4⟩
 ·rw[e1,e2];exact(h1 v b a' e3 e4 e5).weak e3
 ·rw[e1,e2];obtain⟨d,e5,e6⟩:=h2 q b e4;simp only[Option.bind_some,e5];exact .inr ⟨q,d,rfl,rfl,e3,e6⟩
def Znd(l:Zap):Pr Zad:=.ask ⟨5,0,l,0,0,valZ,false⟩ .ret
def ZqE(l:Zap)(v:Zad)(mark:Bool):Pr Unit:=.ask ⟨6,0,l,0,0,v,mark⟩ fun _=>.ret ()
def keyP(k lock:Int)(mark:Bool):Pr Unit:=.ask ⟨k,lock,locZ,0,0,valZ,mark⟩ fun _=>.ret ()
def ZHN(k old now:Int)(mark:Bool):Pr Bool:=.ask ⟨7,0,⟨k,0,0⟩,old,now,valZ,mark⟩ fun v=>.ret (v.fN==1)
theorem Zpv{α:Type}(f:Zad→α)(o:Zas)(l:List Zad):((ZbP ⟨l⟩ o).bind fun x=>match x with | .ret v g=>some (Tout.ret (f v) g) | .pan q=>some (.pan q) | .bad s=>some (.bad s))=runT (.ask o fun v=>.ret (f v)) l:=by
 cases l with
 |nil=>rw[ZEI];rfl
 |cons v r=>rw[ZBn];rfl
theorem Zlq(l:List Zad)(c:Zap):ZbU ⟨l⟩ c false=runT (Znd c) l:=Zpv id _ l
theorem ZrE(l:List Zad)(c:Zap)(v:Zad)(mark:Bool):Zcx ⟨l⟩ c v mark=runT (ZqE c v mark) l:=Zpv (fun _=>()) _ l
theorem ZGc(l:List Zad)(k old now:Int)(mark:Bool):ZfW ⟨l⟩ ⟨k,0,0⟩ old now mark=runT (ZHN k old now mark) l:=Zpv (fun v=>v.fN==1) _ l
theorem ZrG(l:List Zad)(k:Int)(mark:Bool):Zdi ⟨l⟩ k mark=runT (keyP 1 k mark) l:=Zpv (fun _=>()) _ l
theorem ZyV(l:List Zad)(k:Int)(mark:Bool):ZgU ⟨l⟩ k mark=runT (keyP 2 k mark) l:=Zpv (fun _=>()) _ l
theorem ZpL(l:List Zad)(k:Int)(mark:Bool):ZbV ⟨l⟩ k mark=runT (keyP 3 k mark) l:=Zpv (fun _=>()) _ l
theorem ZBs(l:List Zad)(k:Int)(mark:Bool):Zhy ⟨l⟩ k mark=runT (keyP 4 k mark) l:=Zpv (fun _=>()) _ l
theorem ZGf(l:List Zad)(mark:Bool):ZiZ ⟨l⟩ mark=runT (keyP 8 0 mark) l:=Zpv (fun _=>()) _ l
end Go.Proofs.YtdjfoojllbfcgaaGreat
