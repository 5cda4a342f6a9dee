import Derived.Test.YtdjfoojllbfcgaaGreatUPlU
namespace Go.Proofs.YtdjfoojllbfcgaaGreat
set_option linter.unusedSimpArgs false
set_option linter.unusedVariables false
theorem Zzd{a:Zag}(h:Fits a)(i:Nat)(hi:i<wid a):ZdV a (i:Int)=some (if bitN a i then 1 else 0):=by
 have h1:=h.hi0;have h2:=h.hi1;have h3:=h.lo0;have h4:=h.lo1;obtain⟨v,cQ,lo⟩:=a;obtain⟨p,hp⟩:=Zny h.hi0;obtain⟨q,hq⟩:=Zny h.lo0;simp only at hp hq h1 h2 h3 h4;subst hp hq;have hw:∀k:Nat,k<64->(IntKind.u64.wrap ((k:Nat):Int))=((k:Nat):Int):=fun k hk=>ZjI (by omega) (by omega);cases v with
 |false=>
  have hi:i<32:=hi;have e:ZaV (31:Int) (i:Int)=((31-i:Nat):Int):=by rw[ZdK (by omega) (by omega)];omega
  simp only[ZdV,Zce,ZdG,Zal,Option.bind_some,cond_false,Bool.not_false,cond_true,e,hw (31-i) (by omega)];rw[if_neg (by omega),if_neg (by omega),Zaw (by omega),Zsv q _ (by omega) (by omega)];rfl
 |true=>
  have hi:i<128:=hi;have hb:bitN ⟨true,(p:Int),(q:Int)⟩ i=if 127-i<64 then q.testBit (127-i)else p.testBit (127-i-64):=by
   unfold bitN num wid;simp only[if_true,Int.toNat_natCast];rw[Zod (by omega)]
  rw[hb];have et:Int.tmod (i:Int) 64=((i % 64:Nat):Int):=by rw[Int.tmod_eq_emod_of_nonneg (by omega)];rfl
  have hm:i % 64<64:=Nat.mod_lt _ (by omega);have e:ZaV (63:Int) ((i % 64:Nat):Int)=((63-i % 64:Nat):Int):=by rw[ZdK (by omega) (by omega)];omega
  simp only[ZdV,Zce,ZdG,Zal,Option.bind_some,cond_false,Bool.not_true,cond_true,et,e,hw (63-i % 64) (by omega)];rw[if_neg (by omega),if_neg (by omega)];by_cases h64:i<64
  ·rw[if_pos (by omega),Zaw (by omega),Zsv p _ (by omega) (by omega),if_neg (show ¬127-i<64 by omega),show 63-i % 64=127-i-64 by omega]
  ·rw[if_neg (by omega),Zaw (by omega),Zsv q _ (by omega) (by omega),if_pos (show 127-i<64 by omega),show 63-i % 64=127-i by omega]
theorem ZsT(a:Zag):Zce a=some (wid a:Int):=by
 unfold Zce wid;cases a.fV6<;>rfl
theorem Ztk(a:Zag):wid a<=128:=by unfold wid;split<;>omega
theorem ZIz{i:Nat}(h:i<=1000000):Zar (i:Int) 1=((i+1:Nat):Int):=by rw[Zcx (by omega) (by omega)];omega
theorem ZDc{p:Zao}(hf:Fits p.fAddr):∀fu (i:Nat),i<=wid p.fAddr->wid p.fAddr-i<fu->∃r,Zde fu (i:Int) p=some r/\(r=true↔∀j,i<=j->j<wid p.fAddr->bitN p.fAddr j=false):=by
 have hw:=Ztk p.fAddr;intro fu;induction fu with
 |zero=>intro _ _ h;omega
 |succ fu ih=>
  intro i hi hfu;simp only[Zde,ZsT,Option.bind_some,Zal];by_cases h:i<wid p.fAddr
  ·rw[if_pos (by omega),Zzd hf i h,ZIz (by omega)];simp only[Option.bind_some];obtain⟨r,h1,h2⟩:=ih (i+1) (by omega) (by omega);cases hb:bitN p.fAddr i with
   |true=>
    simp only[if_true,beq_self_eq_true,cond_true];refine⟨false,rfl,?_⟩;simp only[Bool.false_eq_true,false_iff];intro hq;have:=hq i (Nat.le_refl _) h;rw[hb]at this;cases this
   |false=>
    simp only[Bool.false_eq_true,if_false];rw[show ((0:Int)==1)=false from rfl,cond_false];refine⟨r,h1,h2.trans ⟨fun q j h3 h4=>?_,fun q j h3 h4=>q j (by omega) h4⟩⟩;by_cases h5:j=i
    ·subst h5;exact hb
    ·exact q j (by omega) h4
  ·rw[if_neg (by omega)];exact⟨true,rfl,by simp;intro j h3 h4;omega⟩
theorem ZrZ(p:Zao)(h:p.fAddr.ok):ZdR p=some (Zhl p):=by
 simp only[ZdR,Zns p.fAddr h,ZsT,Option.bind_some,Zal];unfold Zhl;cases hr:ZeG p.fAddr
 ·simp
 ·have hf:=ZoG h hr;simp only[Bool.not_true,cond_false,Bool.true_and];by_cases h0:p.fBits<0
  ·rw[if_pos h0,show decide (0<=p.fBits)=false by rw[decide_eq_false_iff_not];omega];simp
  ·rw[if_neg h0];by_cases h1:p.fBits>(wid p.fAddr:Int)
   ·rw[if_pos h1,show decide (p.fBits<=(wid p.fAddr:Int))=false by rw[decide_eq_false_iff_not];omega];simp
   ·rw[if_neg h1,show decide (0<=p.fBits)=true by rw[decide_eq_true_eq];omega,show decide (p.fBits<=(wid p.fAddr:Int))=true by rw[decide_eq_true_eq];omega];have hw:=Ztk p.fAddr;obtain⟨r,r1,r2⟩:=ZDc hf 1000000 p.fBits.toNat (by omega) (by omega);rw[Int.toNat_of_nonneg (by omega)]at r1;rw[r1,Option.some.injEq,Bool.true_and,Bool.true_and,Bool.eq_iff_iff,r2,decide_eq_true_eq];constructor
    ·intro q;refine ZrT (ZjE hf _) hf (ZiN _ _) fun i hi=>?_;have hi:i<wid p.fAddr:=by unfold wid at hi ⊢;rwa [ZiN]at hi
     rw[ZkK hf p.fBits.toNat i (by omega) hi];by_cases hb:i<p.fBits.toNat
     ·rw[decide_eq_true hb];rfl
     ·rw[decide_eq_false hb,q i (by omega) hi];rfl
    ·intro q j h3 h4;have:=ZkK hf p.fBits.toNat j (by omega) h4;rw[q,decide_eq_false (by omega)]at this;exact this
def hasS(p:Zao)(a:Zag):Bool:=Zhl p&&(ZeG a&&decide (p.fAddr.fV6=a.fV6)&&decide (∀i,i<p.fBits.toNat->bitN a i=bitN p.fAddr i))
theorem ZxG{p:Zao}{a:Zag}(hp:RN p)(ha:Fits a)(hv:p.fAddr.fV6=a.fV6):∀fu (i:Nat),i<=p.fBits.toNat->p.fBits.toNat-i<fu->∃r,ZcW fu (i:Int) p a=some r/\(r=true↔∀j,i<=j->j<p.fBits.toNat->bitN a j=bitN p.fAddr j):=by
 have hw:=Ztk p.fAddr;have hwa:wid p.fAddr=wid a:=by unfold wid;rw[hv]
 have n1:=hp.nn;have l1:=hp.le;intro fu;induction fu with
 |zero=>intro _ _ h;omega
 |succ fu ih=>
  intro i hi hfu;simp only[ZcW,Zal];by_cases h:i<p.fBits.toNat
  ·rw[if_pos (by omega),Zzd hp.fits i (by omega),Zzd ha i (by omega),ZIz (by omega)];simp only[Option.bind_some];obtain⟨r,h1,h2⟩:=ih (i+1) (by omega) (by omega);by_cases hb:bitN a i=bitN p.fAddr i
   ·rw[hb];simp only[bne_self_eq_false,cond_false];refine⟨r,h1,h2.trans ⟨fun q j h3 h4=>?_,fun q j h3 h4=>q j (by omega) h4⟩⟩;by_cases h5:j=i
    ·subst h5;exact hb
    ·exact q j (by omega) h4
   ·have hne:((if bitN p.fAddr i=true then(1:Int)else 0) != if bitN a i=true then 1 else 0)=true:=by
     revert hb
     cases bitN a i<;>cases bitN p.fAddr i<;>simp
    rw[hne,cond_true];refine⟨false,rfl,?_⟩;simp only[Bool.false_eq_true,false_iff];intro hq;exact hb (hq i (Nat.le_refl _) h)
  ·rw[if_neg (by omega)];exact⟨true,rfl,by simp;intro j h3 h4;omega⟩
theorem ZAt(p:Zao)(a:Zag)(hp:p.fAddr.ok)(ha:a.ok):Zfv p a=some (hasS p a):=by
 simp only[Zfv,ZrZ p hp,Zns a ha,Option.bind_some];unfold hasS;cases hc:Zhl p
 ·rfl
 ·have dY:=(Ztr hp).1 hc;simp only[Bool.not_true,cond_false,Bool.true_and];cases hr:ZeG a
  ·rfl
  ·simp only[Bool.not_true,cond_false,Bool.true_and];by_cases hv:p.fAddr.fV6=a.fV6
   ·rw[show (!(p.fAddr.fV6==a.fV6))=false by simp[hv],cond_false,decide_eq_true hv,Bool.true_and];have hw:=Ztk p.fAddr;have n1:=dY.nn;have l1:=dY.le;obtain⟨r,r1,r2⟩:=ZxG dY (ZoG ha hr) hv 1000000 0 (by omega) (by omega);have r1:ZcW 1000000 0 p a=some r:=r1;rw[r1,Option.some.injEq,Bool.eq_iff_iff,r2,decide_eq_true_eq];exact⟨fun q j hj=>q j (by omega) hj,fun q j _ hj=>q j hj⟩
   ·rw[show (!(p.fAddr.fV6==a.fV6))=true by simp[hv],cond_true,decide_eq_false hv];rfl
def f0:Nat->Bool:=fun _=>false
def GT:ZaF->Prop | .nil=>False | .mk r4 r6 _=>ZnV false r4 0 f0/\ZnV true r6 0 f0
def Zit:ZaF->List Zav | .nil=>[] | .mk r4 r6 _=>Zby r4++Zby r6
theorem bel0(p:Zao):Bel' 0 f0 p:=⟨Nat.zero_le _,fun i hi=>by omega⟩
theorem ZxY{t:ZaF}(h:GT t):∀x∈Zit t,RN x.fNet:=by
 cases t with
 |nil=>exact h.elim
 |mk r4 r6 n=>
  intro x hx;simp only[Zit,List.mem_append]at hx;rcases hx with hx|hx
  ·exact(ZbN h.1 x hx).1
  ·exact(ZbN h.2 x hx).1
theorem ZDM(a:Zag):ZgE a=some (if a.fV6 then 1 else 0):=by
 unfold ZgE;cases a.fV6<;>rfl
theorem ZAi{t:ZaF}(h:GT t)(n:Zao)(hn:n.fAddr.ok):Zhq t n=some (if Zhl n then Zlu (Zit t) n else(0,false)):=by
 cases t with
 |nil=>exact h.elim
 |mk r4 r6 k=>
  simp only[Zhq,ZkF n hn,Option.bind_some,ZDM];cases hr:Zhl n
  ·rfl
  ·have dY:=(Ztr hn).1 hr;have hb:n.fBits.toNat<=128:=by have:=dY.le;have:=dY.nn;have:=Ztk n.fAddr;omega
   simp only[Bool.not_true,cond_false,if_true];cases hv:n.fAddr.fV6 with
   |false=>
    simp only[Bool.false_eq_true,if_false];rw[Zaw (by omega),show ∀(A B:Option (Int×Bool)),ix2 0 A B=A from fun _ _=>rfl];rcases ZAO dY hv 1000000 r4 0 f0 h.1 (by omega)with e|e
    ·rw[e];unfold Zlu;simp only[Zit];rw[List.find?_append,Zle (l:=Zby r6) fun x hx e=>by have:=(ZbN h.2 x hx).2.1;rw[e,hv]at this;cases this];simp
    ·omega
   |true=>
    simp only[if_true];rw[Zaw (by omega),show ∀(A B:Option (Int×Bool)),ix2 1 A B=B from fun _ _=>rfl];rcases ZAO dY hv 1000000 r6 0 f0 h.2 (by omega)with e|e
    ·rw[e];unfold Zlu;simp only[Zit];rw[List.find?_append,Zle (l:=Zby r4) fun x hx e=>by have:=(ZbN h.1 x hx).2.1;rw[e,hv]at this;cases this];simp
    ·omega
theorem ZCF{t:ZaF}(h:GT t)(n:Zao)(hn:n.fAddr.ok)(val:Int)(hr:Zhl n=true):∃t',ZeI t n val=some t'/\GT t'/\∀x,x∈Zit t'↔x=⟨n,val⟩\/(x∈Zit t/\x.fNet≠n):=by
 cases t with
 |nil=>exact h.elim
 |mk r4 r6 k=>
  have dY:=(Ztr hn).1 hr;have hb:n.fBits.toNat<=128:=by have:=dY.le;have:=dY.nn;have:=Ztk n.fAddr;omega
  have hg:=ZAi h n hn;simp only[ZeI,ZeU,ZkF n hn,hr,hg,if_true,Option.bind_some,Bool.not_true,cond_false,ZDM];have jI:n.fAddr.fV6=false->∃r,ZeT 1000 r4 ⟨n,val⟩=some r/\ZnV false r 0 f0/\∀x,(x∈Zby r\/x∈Zby r6)↔x=⟨n,val⟩\/((x∈Zby r4\/x∈Zby r6)/\x.fNet≠n):=fun hv=>by
   obtain⟨r,w1,w2,w3⟩:=Zxi (hit:=⟨n,val⟩) dY hv 1000 r4 0 f0 h.1 (bel0 _) (by simp only;omega);refine⟨r,w1,w2,fun x=>?_⟩;rw[w3 x];have h6:x∈Zby r6->x.fNet≠n:=fun hx e=>by have:=(ZbN h.2 x hx).2.1;rw[e,hv]at this;cases this
   constructor
   ·rintro ((hx|hx)|hx)
    ·exact .inl hx
    ·exact .inr ⟨.inl hx.1,hx.2⟩
    ·exact .inr ⟨.inr hx,h6 hx⟩
   ·rintro (hx|⟨hx|hx,hne⟩)
    ·exact .inl (.inl hx)
    ·exact .inl (.inr ⟨hx,hne⟩)
    ·exact .inr hx
  have jJ:n.fAddr.fV6=true->∃r,ZeT 1000 r6 ⟨n,val⟩=some r/\ZnV true r 0 f0/\∀x,(x∈Zby r4\/x∈Zby r)↔x=⟨n,val⟩\/((x∈Zby r4\/x∈Zby r6)/\x.fNet≠n):=fun hv=>by
   obtain⟨r,w1,w2,w3⟩:=Zxi (hit:=⟨n,val⟩) dY hv 1000 r6 0 f0 h.2 (bel0 _) (by simp only;omega);refine⟨r,w1,w2,fun x=>?_⟩;rw[w3 x];have h4:x∈Zby r4->x.fNet≠n:=fun hx e=>by have:=(ZbN h.1 x hx).2.1;rw[e,hv]at this;cases this
   constructor
   ·rintro (hx|hx|hx)
    ·exact .inr ⟨.inl hx,h4 hx⟩
    ·exact .inl hx
    ·exact .inr ⟨.inr hx.1,hx.2⟩
   ·rintro (hx|⟨hx|hx,hne⟩)
    ·exact .inr (.inl hx)
    ·exact .inl hx
    ·exact .inr (.inr ⟨hx,hne⟩)
  have e1:∀(A B:Option ZaF),ix2 0 A B=A:=fun _ _=>rfl;have e2:∀(A B:Option ZaF),ix2 1 A B=B:=fun _ _=>rfl;cases hv:n.fAddr.fV6 with
  |false=>
   obtain⟨r,w1,w2,w3⟩:=jI hv;cases(Zlu (Zit (.mk r4 r6 k)) n).2 <;>
   ·simp only[Bool.not_false,Bool.not_true,cond_true,cond_false,Bool.false_eq_true,if_false];rw[Zaw (by omega),e1,w1];exact⟨_,rfl,⟨w2,h.2⟩,fun x=>by simp only[Zit,List.mem_append];exact w3 x⟩
  |true=>
   obtain⟨r,w1,w2,w3⟩:=jJ hv;cases(Zlu (Zit (.mk r4 r6 k)) n).2 <;>
   ·simp only[Bool.not_false,Bool.not_true,cond_true,cond_false,if_true];rw[Zaw (by omega),e2,w1];exact⟨_,rfl,⟨h.1,w2⟩,fun x=>by simp only[Zit,List.mem_append];exact w3 x⟩
theorem Zoe{v:Bool}:∀{nd:Zau}{n:Nat}{f:Nat->Bool},ZnV v nd n f->(Zby nd).Pairwise fun x y=>x.fNet≠y.fNet
 | .nil,_,_,_=>List.Pairwise.nil
 | .mk h has k0 k1,n,f,hg=>by
  obtain⟨g1,g2,g3,g4,g5⟩:=hg
  have b0:=fun x hx=>ZjC.1 (ZbN g4 x hx).2.2
  have b1:=fun x hx=>ZjC.1 (ZbN g5 x hx).2.2
  have hh:∀x∈(if has then[h]else[]),x.fNet=h.fNet:=fun x hx=>by
   split at hx
   ·rw[List.mem_singleton]at hx;rw[hx]
   ·simp at hx
  simp only[Zby]
  rw[List.pairwise_append,List.pairwise_append]
  refine⟨⟨?_,Zoe g4,fun x hx y hy e=>?_⟩,Zoe g5,fun x hx y hy e=>?_⟩
  ·split
   ·exact List.pairwise_singleton _ _
   ·exact List.Pairwise.nil
  ·have:=(b0 y hy).1
   rw[<-e,hh x hx]at this;omega
  ·rcases List.mem_append.1 hx with hx|hx
   ·have:=(b1 y hy).1
    rw[<-e,hh x hx]at this;omega
   ·have h1:=(b0 x hx).2.2
    have h2:=(b1 y hy).2.2
    rw[e,h2]at h1;cases h1
theorem ZxZ{t:ZaF}(h:GT t):(Zit t).Pairwise fun x y=>x.fNet≠y.fNet:=by
 cases t with
 |nil=>exact h.elim
 |mk r4 r6 k=>
  simp only[Zit];rw[List.pairwise_append];refine⟨Zoe h.1,Zoe h.2,fun x hx y hy e=>?_⟩;have h1:=(ZbN h.1 x hx).2.1;have h2:=(ZbN h.2 y hy).2.1;rw[e,h2]at h1;cases h1
theorem ZDz{l:List Zav}{n:Zao}(h:(Zlu l n).2=true):∃x∈l,x.fNet=n/\x.fV=(Zlu l n).1:=by
 unfold Zlu at h ⊢;cases hq:l.find? (fun x=>decide (x.fNet=n))with
 |none=>rw[hq]at h;cases h
 |some x=>
  have:=List.find?_some hq;exact⟨x,List.mem_of_find?_eq_some hq,by simpa using this,rfl⟩
theorem ZFG{l:List Zav}{n:Zao}(h:(Zlu l n).2=false):∀x∈l,x.fNet≠n:=by
 unfold Zlu at h;cases hq:l.find? (fun x=>decide (x.fNet=n))with
 |none=>rw[List.find?_eq_none]at hq;intro x hx;simpa using hq x hx
 |some x=>rw[hq]at h;cases h
theorem ZGe{l:List Zav}(h:l.Pairwise fun x y=>x.fNet≠y.fNet){x y:Zav}(hx:x∈l)(hy:y∈l)(e:x.fNet=y.fNet):x=y:=by
 obtain⟨i,hi,rfl⟩:=List.getElem_of_mem hx;obtain⟨j,hj,rfl⟩:=List.getElem_of_mem hy;have hp:=List.pairwise_iff_getElem.1 h;rcases Nat.lt_trichotomy i j with h1|h1|h1
 ·exact absurd e (hp i j hi hj h1)
 ·subst h1;rfl
 ·exact absurd e.symm (hp j i hj hi h1)
theorem ZrN{v:Bool}{a:Zag}(hv:a.fV6=v):∀{nd:Zau}{m:Nat}{f:Nat->Bool},ZnV v nd m f->m<=wid a+1->((Zby nd).filter (cov a)).length+m<=wid a+1
 | .nil,m,f,_,h=>by simp[Zby];exact h
 | .mk h has k0 k1,m,f,hg,hm=>by
  obtain⟨g1,g2,g3,g4,g5⟩:=hg
  have b0:=fun x hx=>ZjC.1 (ZbN g4 x hx).2.2
  have b1:=fun x hx=>ZjC.1 (ZbN g5 x hx).2.2
  have hw:wid h.fNet.fAddr=wid a:=by unfold wid;rw[g2,hv]
  have n1:=g1.nn;have l1:=g1.le;have gm:=g3.1
  have i0:=ZrN hv g4 (by omega)
  have i1:=ZrN hv g5 (by omega)
  have hh:((if has then[h]else[]).filter (cov a)).length<=1:=by
   split
   ·exact List.length_filter_le _ _
   ·simp
  have hz:((Zby k0).filter (cov a)).length=0\/((Zby k1).filter (cov a)).length=0:=by
   cases hb:bitN a h.fNet.fBits.toNat with
   |false=>
    refine .inr ?_;rw[Zmi]
    ·rfl
    ·intro x hx;unfold cov;rw[decide_eq_false_iff_not];intro hq;obtain⟨x1,x2,x3⟩:=b1 x hx;have:=hq _ x1;rw[hb,x3]at this;cases this
   |true=>
    refine .inl ?_;rw[Zmi]
    ·rfl
    ·intro x hx;unfold cov;rw[decide_eq_false_iff_not];intro hq;obtain⟨x1,x2,x3⟩:=b0 x hx;have:=hq _ x1;rw[hb,x3]at this;cases this
  simp only[Zby,List.filter_append,List.length_append];omega
theorem ZBr{t:ZaF}(h:GT t)(a:Zag)(ha:a.ok):∃L,ZfV t a=some L/\L.length<=maxLen/\∀x,x∈L↔x∈Zit t/\hasS x.fNet a=true:=by
 cases t with
 |nil=>exact h.elim
 |mk r4 r6 k=>
  simp only[ZfV,ZlI a ha,Option.bind_some,ZDM];cases hr:ZeG a
  ·exact⟨[],rfl,by simp,fun x=>by simp[hasS,hr]⟩
  ·simp only[Bool.not_true,cond_false];have hw:=Ztk a;have e1:∀(A B:Option (List Zav)),ix2 0 A B=A:=fun _ _=>rfl;have e2:∀(A B:Option (List Zav)),ix2 1 A B=B:=fun _ _=>rfl;have hs:∀x:Zav,RN x.fNet->hasS x.fNet a=(decide (x.fNet.fAddr.fV6=a.fV6)&&cov a x):=fun x hx=>by
    unfold hasS cov;rw[(Ztr hx.ok).2 hx,hr,Bool.true_and,Bool.true_and]
   cases hv:a.fV6 with
   |false=>
    simp only[Bool.false_eq_true,if_false];rw[Zaw (by omega),e1,ZvN ha hr hv 1000000 r4 0 f0 [] h.1 (fun i hi=>by omega) (by omega) (by omega) (by simp)];refine⟨_,rfl,by have:=ZrN hv h.1 (by omega);unfold maxLen;simp only[List.nil_append];omega,fun x=>?_⟩;simp only[List.nil_append,List.mem_filter,Zit,List.mem_append];constructor
    ·rintro ⟨hx,hc⟩;have:=ZbN h.1 x hx;rw[hs x this.1,this.2.1,hv,hc];exact⟨.inl hx,rfl⟩
    ·rintro ⟨hx|hx,hc⟩
     ·have:=ZbN h.1 x hx;rw[hs x this.1,Bool.and_eq_true]at hc;exact⟨hx,hc.2⟩
     ·have:=ZbN h.2 x hx;rw[hs x this.1,this.2.1,hv]at hc;simp at hc
   |true=>
    simp only[if_true];rw[Zaw (by omega),e2,ZvN ha hr hv 1000000 r6 0 f0 [] h.2 (fun i hi=>by omega) (by omega) (by omega) (by simp)];refine⟨_,rfl,by have:=ZrN hv h.2 (by omega);unfold maxLen;simp only[List.nil_append];omega,fun x=>?_⟩;simp only[List.nil_append,List.mem_filter,Zit,List.mem_append];constructor
    ·rintro ⟨hx,hc⟩;have:=ZbN h.2 x hx;rw[hs x this.1,this.2.1,hv,hc];exact⟨.inr hx,rfl⟩
    ·rintro ⟨hx|hx,hc⟩
     ·have:=ZbN h.1 x hx;rw[hs x this.1,this.2.1,hv]at hc;simp at hc
     ·have:=ZbN h.2 x hx;rw[hs x this.1,Bool.and_eq_true]at hc;exact⟨hx,hc.2⟩
structure Idx (aj:Int) (t:ZaF) (l:List Zab):Prop where
 gt:GT t
 from_:∀x∈Zit t,∃b∈l,aj<b.fUntil/\b.fNet=x.fNet/\b.fUntil=x.fV
 has:∀b∈l,aj<b.fUntil->Zhl b.fNet=true->∃x∈Zit t,x.fNet=b.fNet/\b.fUntil<=x.fV
theorem ZwG{aj:Int}{t:ZaF}{l:List Zab}{b:Zab}(h:Idx aj t l)(hb:aj<b.fUntil->Zhl b.fNet=true->∃x∈Zit t,x.fNet=b.fNet/\b.fUntil<=x.fV):Idx aj t (l++[b]):=
 ⟨h.gt,fun x hx=>by obtain⟨c,h1,h2⟩:=h.from_ x hx;exact⟨c,by simp[h1],h2⟩,fun c hc h1 h2=>by
  rcases List.mem_append.1 hc with hc|hc
  ·exact h.has c hc h1 h2
  ·rw[List.mem_singleton]at hc;subst hc;exact hb h1 h2⟩
theorem ZwF{aj:Int}{t:ZaF}{l:List Zab}{b:Zab}(h:Idx aj t l)(hb:b.fNet.fAddr.ok)(hl:aj<b.fUntil)(cr:∀x∈Zit t,x.fNet=b.fNet->x.fV<=b.fUntil):∃t',ZeI t b.fNet b.fUntil=some t'/\Idx aj t' (l++[b]):=by
 cases hr:Zhl b.fNet with
 |true=>
  obtain⟨t',w1,w2,w3⟩:=ZCF h.gt b.fNet hb b.fUntil hr;refine⟨t',w1,w2,fun x hx=>?_,fun c hc h1 h2=>?_⟩
  ·rcases(w3 x).1 hx with e|⟨hx,hne⟩
   ·subst e;exact⟨b,by simp,hl,rfl,rfl⟩
   ·obtain⟨c,h1,h2⟩:=h.from_ x hx;exact⟨c,by simp[h1],h2⟩
  ·by_cases e:c.fNet=b.fNet
   ·refine⟨⟨b.fNet,b.fUntil⟩,(w3 _).2 (.inl rfl),e.symm,?_⟩;rcases List.mem_append.1 hc with hc|hc
    ·obtain⟨x,x1,x2,x3⟩:=h.has c hc h1 h2;have:=cr x x1 (x2.trans e);simp only;omega
    ·rw[List.mem_singleton]at hc;subst hc;exact Int.le_refl _
   ·rcases List.mem_append.1 hc with hc|hc
    ·obtain⟨x,x1,x2,x3⟩:=h.has c hc h1 h2;exact⟨x,(w3 x).2 (.inr ⟨x1,fun q=>e (x2.symm.trans q)⟩),x2,x3⟩
    ·rw[List.mem_singleton]at hc;subst hc;exact absurd rfl e
 |false=>
  refine⟨t,?_,ZwG h fun _ q=>by rw[hr]at q;cases q⟩;cases t with
  |nil=>exact h.gt.elim
  |mk r4 r6 k=>
   simp only[ZeI,ZeU,ZkF b.fNet hb,hr,Option.bind_some,Bool.not_false,cond_true]
theorem ZyG(b:Zab)(aj:Int):Zmh b aj=some (decide (aj<b.fUntil)):=rfl
theorem ZBU(l:List Zab)(aj:Int)(hl:l.length<=maxLen)(ay:∀b∈l,b.ok):∀fu (i:Nat) (t:ZaF),i<=l.length->l.length-i<fu->Idx aj t (l.take i)->∃t',ZdH aj fu t l (l.length:Int) (i:Int)=some t'/\Idx aj t' l:=by
 intro fu;induction fu with
 |zero=>intro _ _ _ h;omega
 |succ fu ih=>
  intro i t hi hf h;simp only[ZdH,Zal];by_cases hlt:i<l.length
  ·rw[if_pos (by omega),Zaw ⟨by omega,by omega⟩];simp only[Int.toNat_natCast];have go:=ay _ (Zgq l Zab.d i hlt);have dw:l.take (i+1)=l.take i++[l.getD i Zab.d]:=by rw[List.take_succ_eq_append_getElem hlt,Zdf l _ i hlt]
   generalize l.getD i Zab.d=b at go dw ⊢;rw[ZAi h.gt b.fNet go.1.1,ZyG];simp only[Option.bind_some];rw[add1 hlt hl];have next:∀t',Idx aj t' (l.take i++[b])->∃t'',ZdH aj fu t' l (l.length:Int) ((i+1:Nat):Int)=some t''/\Idx aj t'' l:=fun t' ht'=>ih (i+1) t' (by omega) (by omega) (by rw[dw];exact ht')
   by_cases hlv:aj<b.fUntil
   ·rw[decide_eq_true hlv,cond_true];cases hr:Zhl b.fNet with
    |false=>
     simp only[Bool.false_eq_true,if_false,Bool.not_false,cond_true];obtain⟨t',s1,s2⟩:=ZwF h go.1.1 hlv (fun x hx e=>by
      have:=(Ztr go.1.1).2 (e ▸ ZxY h.gt x hx);rw[hr]at this;cases this)
     rw[s1];exact next t' s2
    |true=>
     simp only[if_true];cases hq:(Zlu (Zit t) b.fNet).2 with
     |false=>
      simp only[Bool.not_false,cond_true];obtain⟨t',s1,s2⟩:=ZwF h go.1.1 hlv (fun x hx e=>absurd e (ZFG hq x hx));rw[s1];exact next t' s2
     |true=>
      simp only[Bool.not_true,cond_false];obtain⟨y,y1,y2,y3⟩:=ZDz hq;by_cases hlt2:(Zlu (Zit t) b.fNet).1<b.fUntil
      ·rw[if_pos hlt2];obtain⟨t',s1,s2⟩:=ZwF h go.1.1 hlv (fun x hx e=>by
        have:=ZGe (ZxZ h.gt) hx y1 (e.trans y2.symm);rw[this];omega)
       rw[s1];exact next t' s2
      ·rw[if_neg hlt2];exact next t (ZwG h fun _ _=>⟨y,y1,y2,by omega⟩)
   ·rw[decide_eq_false hlv,cond_false];exact next t (ZwG h fun q=>absurd q hlv)
  ·rw[if_neg (by omega)];refine⟨t,rfl,?_⟩;rw[List.take_of_length_le (by omega)]at h;exact h
theorem ZFF(l:List Zab)(aj:Int)(hl:l.length<=maxLen)(ay:∀b∈l,b.ok):∃t,Zlc l aj=some t/\Idx aj t l:=by
 have:=ZBU l aj hl ay ((((l.length:Nat):Int)-(0:Int)).toNat+2) 0 (.mk .nil .nil 0) (by omega) (by omega) ⟨⟨trivial,trivial⟩,fun x hx=>by simp[Zit,Zby]at hx,fun b hb=>by simp at hb⟩;simpa[Zlc,ZnB]using this
def Zmp(l:List Zab)(a:Zag)(aj:Int)(b:Zab):Prop:=b∈l/\aj<b.fUntil/\hasS b.fNet a=true
def Zxd(l:List Zab)(a:Zag)(aj r:Int):Prop:=(r=0/\∀b,¬Zmp l a aj b)\/∃b,Zmp l a aj b/\r=b.fUntil/\∀c,Zmp l a aj c->c.fUntil<=r
theorem ZBR{l l':List Zab}{a:Zag}{aj r s:Int}(h:Zxd l a aj r)(h':Zxd l' a aj s)(e:∀b,Zmp l a aj b↔Zmp l' a aj b):r=s:=by
 rcases h with⟨h1,h2⟩|⟨b,h1,h2,h3⟩
 ·rcases h' with⟨g1,g2⟩|⟨c,g1,g2,g3⟩
  ·omega
  ·exact absurd ((e c).2 g1) (h2 c)
 ·rcases h' with⟨g1,g2⟩|⟨c,g1,g2,g3⟩
  ·exact absurd ((e b).1 h1) (g2 b)
  ·have:=h3 c ((e c).2 g1);have:=g3 b ((e b).1 h1);omega
theorem ZFA(L:List Zav)(hL:L.length<=maxLen):∀fu (i:Nat) (v:Int),i<=L.length->L.length-i<fu->∃r,Zgp fu v L (L.length:Int) (i:Int)=some r/\v<=r/\(∀x∈L.drop i,x.fV<=r)/\(r=v\/∃x∈L.drop i,r=x.fV):=by
 intro fu;induction fu with
 |zero=>intro _ _ _ h;omega
 |succ fu ih=>
  intro i v hi hf;simp only[Zgp,Zal];by_cases h:i<L.length
  ·rw[if_pos (by omega),Zaw ⟨by omega,by omega⟩];simp only[Int.toNat_natCast];rw[add1 h hL,Zee L Zav.d i h];generalize L.getD i Zav.d=x;obtain⟨r,r1,r2,r3,r4⟩:=ih (i+1) (if x.fV>v then x.fV else v) (by omega) (by omega);refine⟨r,r1,by split at r2<;>omega,fun y hy=>?_,?_⟩
   ·rcases List.mem_cons.1 hy with e|hy
    ·subst e;split at r2<;>omega
    ·exact r3 y hy
   ·rcases r4 with e|⟨y,y1,y2⟩
    ·split at e
     ·exact .inr ⟨x,by simp,e⟩
     ·exact .inl e
    ·exact .inr ⟨y,by simp[y1],y2⟩
  ·rw[if_neg (by omega)];have:L.drop i=[]:=List.drop_eq_nil_of_le (by omega);exact⟨v,rfl,Int.le_refl _,by simp[this],.inl rfl⟩
theorem ZEX(l:List Zab)(a:Zag)(aj:Int)(hl:l.length<=maxLen)(ay:∀b∈l,b.ok)(ha:a.ok):∃r,ZiF l a aj=some r/\Zxd l a aj r:=by
 obtain⟨t,t1,t2⟩:=ZFF l aj hl ay;obtain⟨L,c1,hL,c2⟩:=ZBr t2.gt a ha;simp only[ZiF,t1,c1,Option.bind_some];have one:∀x∈L,∃b,Zmp l a aj b/\b.fUntil=x.fV:=fun x hx=>by
  obtain⟨x1,x2⟩:=(c2 x).1 hx;obtain⟨b,b1,b2,b3,b4⟩:=t2.from_ x x1;exact⟨b,⟨b1,b2,by rw[b3];exact x2⟩,b4⟩
 have kF:∀b,Zmp l a aj b->∃x∈L,b.fUntil<=x.fV:=fun b hb=>by
  have hr:Zhl b.fNet=true:=by have:=hb.2.2;unfold hasS at this;rw[Bool.and_eq_true]at this;exact this.1
  obtain⟨x,x1,x2,x3⟩:=t2.has b hb.1 hb.2.1 hr;exact⟨x,(c2 x).2 ⟨x1,by rw[x2];exact hb.2.2⟩,x3⟩
 by_cases h0:L=[]
 ·subst h0;refine⟨0,rfl,.inl ⟨rfl,fun b hb=>?_⟩⟩;obtain⟨x,hx,_⟩:=kF b hb;simp at hx
 ·have lL:0<L.length:=List.length_pos_iff.2 h0;rw[show (((L.length:Nat):Int)==0)=false by rw[beq_eq_false_iff_ne];omega,cond_false,Zaw ⟨by omega,by omega⟩];obtain⟨r,r1,r2,r3,r4⟩:=ZFA L hL ((((L.length:Nat):Int)-(0:Int)).toNat+2) 0 (L.getD (0:Int).toNat Zav.d).fV (by omega) (by omega);simp only[Int.natCast_zero,List.drop_zero]at r1 r3 r4;refine⟨r,r1,.inr ?_⟩;have cg:∃x∈L,r=x.fV:=by
   rcases r4 with e|e
   ·exact⟨_,Zgq L Zav.d 0 lL,e⟩
   ·exact e
  obtain⟨x,x1,x2⟩:=cg;obtain⟨b,b1,b2⟩:=one x x1;refine⟨b,b1,by omega,fun c hc=>?_⟩;obtain⟨y,y1,y2⟩:=kF c hc;have:=r3 y y1;omega
theorem Zwk(l:List Zab)(a:Zag)(aj:Int)(hl:l.length<=maxLen)(ay:∀b∈l,b.ok)(ha:a.ok):∀fu (i:Nat) (v:Int) (q:Bool),i<=l.length->l.length-i<fu ->
  ∃r,ZbJ l aj fu v q (i:Int) a=some r/\(∀b,Zmp (l.drop i) a aj b->b.fUntil<=r)/\(q=true->v<=r)/\(r=v\/∃b,Zmp (l.drop i) a aj b/\r=b.fUntil)/\(q=false->(∃b,Zmp (l.drop i) a aj b)->∃b,Zmp (l.drop i) a aj b/\r=b.fUntil):=by
 intro fu;induction fu with
 |zero=>intro _ _ _ _ h;omega
 |succ fu ih=>
  intro i v q hi hf;simp only[ZbJ,Zal];by_cases h:i<l.length
  ·rw[if_pos (by omega),Zaw ⟨by omega,by omega⟩];simp only[Int.toNat_natCast];have go:=ay _ (Zgq l Zab.d i h);rw[add1 h hl,Zee l Zab.d i h];generalize l.getD i Zab.d=b at go ⊢;have lM:Zgk b a aj=some (decide (aj<b.fUntil)&&hasS b.fNet a):=by
    simp only[Zgk,ZAt _ _ go.1.1 ha,Zal,gt_iff_lt,Option.bind_some];by_cases h:aj<b.fUntil
    ·rw[if_pos h,decide_eq_true h];rfl
    ·rw[if_neg h,decide_eq_false h];rfl
   rw[lM];simp only[Option.bind_some];have bZ:∀c,Zmp (l.drop (i+1)) a aj c->Zmp (b :: l.drop (i+1)) a aj c:=fun c hc=>⟨by simp[hc.1],hc.2⟩;cases hq:(decide (aj<b.fUntil)&&hasS b.fNet a)with
   |false=>
    simp only[cond_false];have aY:∀c,Zmp (b :: l.drop (i+1)) a aj c↔Zmp (l.drop (i+1)) a aj c:=fun c=>by
     refine⟨fun hc=>⟨?_,hc.2⟩,bZ c⟩;rcases List.mem_cons.1 hc.1 with e|hm
     ·subst e;rw[decide_eq_true hc.2.1,hc.2.2]at hq;cases hq
     ·exact hm
    obtain⟨r,r1,r2,r3,r4,r5⟩:=ih (i+1) v q (by omega) (by omega);refine⟨r,r1,fun c hc=>r2 c ((aY c).1 hc),r3,?_,fun hf hx=>?_⟩
    ·rcases r4 with e|⟨c,c1,c2⟩
     ·exact .inl e
     ·exact .inr ⟨c,bZ c c1,c2⟩
    ·obtain⟨c,hc⟩:=hx;obtain⟨d,d1,d2⟩:=r5 hf ⟨c,(aY c).1 hc⟩;exact⟨d,bZ d d1,d2⟩
   |true=>
    simp only[cond_true];rw[Bool.and_eq_true,decide_eq_true_eq]at hq;have hb:Zmp (b :: l.drop (i+1)) a aj b:=⟨by simp,hq⟩
    -- what follows from a step that took b's,or something longer
    have step:∀v',b.fUntil<=v'->(q=true->v<=v')->(v'=b.fUntil\/(q=true/\v'=v))->∃r,ZbJ l aj fu v' true ((i+1:Nat):Int) a=some r/\(∀c,Zmp (b :: l.drop (i+1)) a aj c->c.fUntil<=r)/\(q=true->v<=r)/\(r=v\/∃c,Zmp (b :: l.drop (i+1)) a aj c/\r=c.fUntil)/\(q=false->(∃c,Zmp (b :: l.drop (i+1)) a aj c)->∃c,Zmp (b :: l.drop (i+1)) a aj c/\r=c.fUntil):=by
     intro v' g1 g2 g3;obtain⟨r,r1,r2,r3,r4,r5⟩:=ih (i+1) v' true (by omega) (by omega);have r3':=r3 rfl;refine⟨r,r1,fun c hc=>?_,fun dK=>by have:=g2 dK;omega,?_,fun hf _=>?_⟩
     ·rcases List.mem_cons.1 hc.1 with e|hm
      ·subst e;omega
      ·exact r2 c ⟨hm,hc.2⟩
     ·rcases r4 with e|⟨c,c1,c2⟩
      ·rcases g3 with e2|⟨_,e2⟩
       ·exact .inr ⟨b,hb,by omega⟩
       ·exact .inl (by omega)
      ·exact .inr ⟨c,bZ c c1,c2⟩
     ·rcases r4 with e|⟨c,c1,c2⟩
      ·rcases g3 with e2|⟨e1,_⟩
       ·exact⟨b,hb,by omega⟩
       ·rw[hf]at e1;cases e1
      ·exact⟨c,bZ c c1,c2⟩
    cases q with
    |false=>
     rw[Bool.not_false,cond_true];exact step b.fUntil (Int.le_refl _) (fun h=>by cases h) (.inl rfl)
    |true=>
     rw[Bool.not_true,cond_false];by_cases hgt:b.fUntil>v
     ·rw[if_pos hgt];exact step b.fUntil (Int.le_refl _) (fun _=>by omega) (.inl rfl)
     ·rw[if_neg hgt];exact step v (by omega) (fun _=>Int.le_refl _) (.inr ⟨rfl,rfl⟩)
  ·rw[if_neg (by omega)];have:l.drop i=[]:=List.drop_eq_nil_of_le (by omega);rw[this];exact⟨v,rfl,fun b hb=>by simp[Zmp]at hb,fun _=>Int.le_refl _,.inl rfl,fun _ ⟨b,hb⟩=>by simp[Zmp]at hb⟩
theorem Zzc(l:List Zab)(a:Zag)(aj:Int)(hl:l.length<=maxLen)(ay:∀b∈l,b.ok)(ha:a.ok):∃r,ZfM l a aj=some r/\Zxd l a aj r:=by
 obtain⟨r,r1,r2,r3,r4,r5⟩:=Zwk l a aj hl ay ha ((((l.length:Nat):Int)-(0:Int)).toNat+2) 0 0 false (by omega) (by omega);simp only[Int.natCast_zero,List.drop_zero]at r1 r2 r4 r5;refine⟨r,r1,?_⟩;by_cases h:∃b,Zmp l a aj b
 ·obtain⟨b,b1,b2⟩:=r5 trivial h;exact .inr ⟨b,b1,b2,r2⟩
 ·refine .inl ⟨?_,fun b hb=>h ⟨b,hb⟩⟩;rcases r4 with e|⟨b,b1,_⟩
  ·exact e
  ·exact absurd ⟨b,b1⟩ h
set_option maxRecDepth 100000 in
def ZgA(l:List Zab)(aj:Int):List Zab:=l.filter fun b=>decide (aj<b.fUntil)
theorem Zvg{b:Zab}{r:List Zab}{aj:Int}(h:aj<b.fUntil):ZgA (b :: r) aj=b :: ZgA r aj:=by simp[ZgA,h]
theorem Zxq{b:Zab}{r:List Zab}{aj:Int}(h:¬aj<b.fUntil):ZgA (b :: r) aj=ZgA r aj:=by simp[ZgA,h]
theorem ZnX{n:Nat}(h:n<=100000):n * 40<=140737488355328/\n<=maxLen:=⟨by omega,by unfold maxLen;omega⟩
theorem ZBt(l:List Zab)(aj:Int)(hl:l.length<=10000):∀fu (i:Nat) (w:List Zab),i<=l.length->l.length-i<fu->w.length<=i ->
  Zfo l aj fu l (l.length:Int) (i:Int) w=some (w++ZgA (l.drop i) aj,((l.length:Int)-((w++ZgA (l.drop i) aj).length:Int))):=by
 have hm:l.length<=maxLen:=by unfold maxLen;omega
 intro fu;induction fu with
 |zero=>intro _ _ _ h;omega
 |succ fu ih=>
  intro i w hi hf hw;simp only[Zfo,Zal,ZyG,Option.bind_some];by_cases h:i<l.length
  ·rw[if_pos (by omega),Zaw ⟨by omega,by omega⟩];simp only[Int.toNat_natCast];rw[add1 h hm,Zee l Zab.d i h];by_cases hb:aj<(l.getD i Zab.d).fUntil
   ·have hs:=Zvg (r:=l.drop (i+1)) hb;rw[if_pos hb,Zaw (ZnX (by simp;omega)),ih (i+1) _ (by omega) (by omega) (by simp;omega),hs];simp
   ·have hs:=Zxq (r:=l.drop (i+1)) hb;rw[if_neg hb,ih (i+1) w (by omega) (by omega) (by omega),hs]
  ·have e:i=l.length:=by omega
   rw[if_neg (by omega),e,List.drop_length];simp only[ZgA,List.filter_nil,List.append_nil];rw[ZdK (by omega) (by omega)]
theorem ZCn(l:List Zab)(aj:Int)(hl:l.length<=10000):Zld l aj=some (ZgA l aj,((l.length:Int)-((ZgA l aj).length:Int))):=by
 have:=ZBt l aj hl ((((l.length:Nat):Int)-(0:Int)).toNat+2) 0 [] (by omega) (by omega) (by simp);simpa[Zld]using this
theorem Zwh(l:List Zab)(aj:Int)(hl:l.length<=10000):∀fu (i:Nat) (w:List Zab),i<=l.length->l.length-i<fu->w.length<=i ->
  ZcG l aj fu (i:Int) w=some (w++ZgA (l.drop i) aj,((l.length:Int)-((w++ZgA (l.drop i) aj).length:Int))):=by
 have hm:l.length<=maxLen:=by unfold maxLen;omega
 intro fu;induction fu with
 |zero=>intro _ _ _ h;omega
 |succ fu ih=>
  intro i w hi hf hw;simp only[ZcG,Zal,gt_iff_lt];by_cases h:i<l.length
  ·rw[if_pos (by omega),Zaw ⟨by omega,by omega⟩];simp only[Int.toNat_natCast];rw[add1 h hm,Zee l Zab.d i h];by_cases hb:aj<(l.getD i Zab.d).fUntil
   ·have hs:=Zvg (r:=l.drop (i+1)) hb;rw[if_pos hb,Zaw (ZnX (by simp;omega)),ih (i+1) _ (by omega) (by omega) (by simp;omega),hs];simp
   ·have hs:=Zxq (r:=l.drop (i+1)) hb;rw[if_neg hb,ih (i+1) w (by omega) (by omega) (by omega),hs]
  ·have e:i=l.length:=by omega
   rw[if_neg (by omega),e,List.drop_length];simp only[ZgA,List.filter_nil,List.append_nil];rw[ZdK (by omega) (by omega)]
theorem ZCY(l:List Zab)(aj:Int)(hl:l.length<=10000):ZfN l aj=some (ZgA l aj,((l.length:Int)-((ZgA l aj).length:Int))):=by
 have:=Zwh l aj hl ((((l.length:Nat):Int)-(0:Int)).toNat+2) 0 [] (by omega) (by omega) (by simp);simpa[ZfN]using this
theorem Zvh(l:List Zab)(aj:Int):(ZgA l aj).length<=l.length:=List.length_filter_le _ _
def ZiK(b:Zab):Bool:=Zhl b.fNet&&decide (1<=b.fUntil)&&decide (b.fUntil<=1099511627776)
theorem ZEB(b:Zab)(h:b.ok):Zmg b=some (ZiK b):=by
 simp only[Zmg,ZkF _ h.1.1,ZiK,Option.bind_some,Zal];cases Zhl b.fNet
 ·rfl
 ·simp only[cond_true,Bool.true_and];by_cases h1:1<=b.fUntil
  ·rw[if_pos h1,decide_eq_true h1];rfl
  ·rw[if_neg h1,decide_eq_false h1];rfl
theorem Ztv(b:Zab)(h:b.ok):ZeD b=some (ZiK b):=by
 simp only[ZeD,ZrZ _ h.1.1,ZiK,Option.bind_some,Zal];cases Zhl b.fNet
 ·rfl
 ·simp only[cond_true,Bool.true_and];by_cases h1:1<=b.fUntil
  ·rw[if_pos (by omega),decide_eq_true h1];rfl
  ·rw[if_neg (by omega),decide_eq_false h1];rfl
def ZGw(l:List Zab):Prop:=(∀b∈l,ZiK b=true)/\l.Pairwise fun a b=>cmpN a.fNet b.fNet<0
theorem ZEt(l:List Zab):(∀j,0<=j->j<l.length->ZiK (l.getD j Zab.d)=true/\(0<j->cmpN (l.getD (j-1) Zab.d).fNet (l.getD j Zab.d).fNet<0))↔ZGw l:=by
 constructor
 ·intro h;refine⟨fun b hb=>?_,Znv (R:=fun a b:Zab=>cmpN a.fNet b.fNet<0) (fun a b c h1 h2=>ZCj h1 h2) l fun i a b ha hb=>?_⟩
  ·obtain⟨i,hi,rfl⟩:=List.getElem_of_mem hb;have:=(h i (by omega) hi).1;rwa [Zdf l _ i hi]at this
  ·obtain⟨h1,e1⟩:=List.getElem?_eq_some_iff.1 ha;obtain⟨h2,e2⟩:=List.getElem?_eq_some_iff.1 hb;have:=(h (i+1) (by omega) h2).2 (by omega);rw[Nat.add_sub_cancel,Zdf l _ i h1,Zdf l _ (i+1) h2,e1,e2]at this;exact this
 ·rintro ⟨h1,h2⟩ j _ hj;refine⟨h1 _ (Zgq l _ j hj),fun h0=>?_⟩;rw[Zdf l _ j hj,Zdf l _ (j-1) (by omega)];exact List.pairwise_iff_getElem.1 h2 (j-1) j (by omega) hj (by omega)
theorem rr_in(l:List Zab)(hl:l.length<=maxLen)(v3:Nat)(h3:v3<l.length)(k:Int->Option Bool):∀fu (i:Nat),i<=v3->v3-i<fu ->
  ((∀j,i<=j->j<v3->cmpN (l.getD j Zab.d).fNet (l.getD v3 Zab.d).fNet<0)/\ZbZ l (v3:Int) k fu (i:Int)=k ((v3+1:Nat):Int))\/((¬∀j,i<=j->j<v3->cmpN (l.getD j Zab.d).fNet (l.getD v3 Zab.d).fNet<0)/\ZbZ l (v3:Int) k fu (i:Int)=some false):=by
 intro fu;induction fu with
 |zero=>intro _ _ h;omega
 |succ fu ih=>
  intro i hi hf;simp only[ZbZ,Zal,ZAr,Option.bind_some];by_cases h:i<v3
  ·rw[if_pos (by omega),Zaw ⟨by omega,by omega⟩,Zaw ⟨by omega,by omega⟩];simp only[Int.toNat_natCast];by_cases hc:cmpN (l.getD i Zab.d).fNet (l.getD v3 Zab.d).fNet>=0
   ·rw[if_pos hc];exact .inr ⟨fun q=>by have:=q i (Nat.le_refl _) h;omega,rfl⟩
   ·rw[if_neg hc,add1 (n:=l.length) (by omega) hl];rcases ih (i+1) (by omega) (by omega)with⟨q1,q2⟩|⟨q1,q2⟩
    ·refine .inl ⟨fun j h1 h2=>?_,q2⟩;by_cases e:j=i
     ·subst e;omega
     ·exact q1 j (by omega) h2
    ·exact .inr ⟨fun q=>q1 fun j h1 h2=>q j (by omega) h2,q2⟩
  ·rw[if_neg (by omega),add1 h3 hl];exact .inl ⟨fun j h1 h2=>by omega,rfl⟩
theorem ZIb(l:List Zab)(hl:l.length<=maxLen)(ay:∀b∈l,b.ok):∀fu (i:Nat),i<=l.length->l.length-i<fu ->
  ∃r,ZbB l fu (i:Int)=some r/\(r=true↔∀j,i<=j->j<l.length->ZiK (l.getD j Zab.d)=true/\∀q,0<=q->q<j->cmpN (l.getD q Zab.d).fNet (l.getD j Zab.d).fNet<0):=by
 intro fu;induction fu with
 |zero=>intro _ _ h;omega
 |succ fu ih=>
  intro i hi hf;simp only[ZbB,Zal];by_cases h:i<l.length
  ·rw[if_pos (by omega),Zaw ⟨by omega,by omega⟩];simp only[Int.toNat_natCast];rw[Ztv _ (ay _ (Zgq l Zab.d i h))];simp only[Option.bind_some];obtain⟨r,r1,r2⟩:=ih (i+1) (by omega) (by omega);have more:(∀j,i<=j->j<l.length->ZiK (l.getD j Zab.d)=true/\∀q,0<=q->q<j->cmpN (l.getD q Zab.d).fNet (l.getD j Zab.d).fNet<0)↔(ZiK (l.getD i Zab.d)=true/\∀q,0<=q->q<i->cmpN (l.getD q Zab.d).fNet (l.getD i Zab.d).fNet<0)/\r=true:=by
    rw[r2];constructor
    ·intro q;exact⟨q i (Nat.le_refl _) h,fun j h1 h2=>q j (by omega) h2⟩
    ·rintro ⟨q1,q2⟩ j h1 h2;by_cases e:j=i
     ·subst e;exact q1
     ·exact q2 j (by omega) h2
   rw[more];cases hb:ZiK (l.getD i Zab.d)with
   |false=>exact⟨false,rfl,by simp⟩
   |true=>
    simp only[Bool.not_true,cond_false];rcases rr_in l hl i h (ZbB l fu) (((i:Int)-(0:Int)).toNat+2) 0 (by omega) (by omega)with⟨q1,q2⟩|⟨q1,q2⟩
    ·have q2:ZbZ l (i:Int) (ZbB l fu) (((i:Int)-(0:Int)).toNat+2) 0=ZbB l fu ((i+1:Nat):Int):=q2;rw[q2];exact⟨r,r1,⟨fun q=>⟨⟨trivial,q1⟩,q⟩,fun q=>q.2⟩⟩
    ·have q2:ZbZ l (i:Int) (ZbB l fu) (((i:Int)-(0:Int)).toNat+2) 0=some false:=q2;rw[q2];exact⟨false,rfl,by simp only[Bool.false_eq_true,false_iff];exact fun q=>q1 q.1.2⟩
  ·rw[if_neg (by omega)];exact⟨true,rfl,by simp;intro j h1 h2;omega⟩
theorem ZBD(l:List Zab)(hl:l.length<=maxLen)(ay:∀b∈l,b.ok):∃r,Zhk l=some r/\(r=true↔ZGw l):=by
 obtain⟨r,r1,r2⟩:=ZIb l hl ay ((((l.length:Nat):Int)-(0:Int)).toNat+2) 0 (by omega) (by omega);refine⟨r,r1,r2.trans ?_⟩;constructor
 ·intro h;exact(ZEt l).1 fun j h1 h2=>⟨(h j h1 h2).1,fun h0=>(h j h1 h2).2 (j-1) (by omega) (by omega)⟩
 ·rintro ⟨h1,h2⟩ j _ hj;refine⟨h1 _ (Zgq l _ j hj),fun q _ hq=>?_⟩;rw[Zdf l _ j hj,Zdf l _ q (by omega)];exact List.pairwise_iff_getElem.1 h2 q j (by omega) hj hq
def ZkE(l:List Zab)(n:Zao):Int:=ixOf (fun x=>decide (x.fNet=n)) l 0
def ZvQ(l:List Zab)(n:Zao):Int:=ixOf (fun x=>decide (0<cmpN x.fNet n)) l 0
theorem ZyF(l:List Zab)(n:Zao)(hl:l.length<=maxLen):ZkD l n=some (ZkE l n):=by
 simp only[ZkD,ZcJ];rw[show ((0:Int))=((0:Nat):Int)from rfl];rw[ZqO l Zab.d (fun x=>decide (x.fNet=n)) hl (fun fu i=>ZaY l n fu (l.length:Int) i) (fun i=>i) ?_ ?_ _ 0 (by omega) (by omega)]
 ·rfl
 ·intro fu i hi;simp only[ZaY,Zly,Zal,Option.bind_some];rw[if_pos (by omega),Zaw ⟨by omega,by omega⟩];simp
 ·intro fu;simp only[ZaY,Zal];rw[if_neg (by omega)]
theorem Zvq(l:List Zab)(n:Zao)(hl:l.length<=maxLen):ZeC l n=some (ZkE l n):=by
 simp only[ZeC];rw[show ((0:Int))=((0:Nat):Int)from rfl];rw[ZqO l Zab.d (fun x=>decide (x.fNet=n)) hl (fun fu i=>ZcH l fu i n) (fun i=>i) ?_ ?_ _ 0 (by omega) (by omega)]
 ·rfl
 ·intro fu i hi;simp only[ZcH,Zal];rw[if_pos (by omega),Zaw ⟨by omega,by omega⟩];simp
 ·intro fu;simp only[ZcH,Zal];rw[if_neg (by omega)]
theorem ZCo(l:List Zab)(b:Zab)(hl:l.length<=maxLen):Zcc l b=some (ZvQ l b.fNet):=by
 simp only[Zcc];rw[show ((0:Int))=((0:Nat):Int)from rfl];rw[ZqO l Zab.d (fun x=>decide (0<cmpN x.fNet b.fNet)) hl (fun fu i=>ZaZ l b fu (l.length:Int) i) (fun i=>i) ?_ ?_ _ 0 (by omega) (by omega)]
 ·rfl
 ·intro fu i hi;simp only[ZaZ,ZmY,ZFV,Zal,Option.bind_some];rw[if_pos (by omega),Zaw ⟨by omega,by omega⟩];simp
 ·intro fu;simp only[ZaZ,Zal];rw[if_neg (by omega)]
def putB(l:List Zab)(b:Zab):List Zab:=l.takeWhile (fun x=>!decide (0<cmpN x.fNet b.fNet))++[b]++l.dropWhile (fun x=>!decide (0<cmpN x.fNet b.fNet))
def ZHu(x b:Zab):Zab:=⟨x.fNet,if b.fUntil>x.fUntil then b.fUntil else x.fUntil⟩
def addB(l:List Zab)(b:Zab)(cH:Int):List Zab×Int:=if ZiK b then if 0<=ZkE l b.fNet then(l.set (ZkE l b.fNet).toNat (ZHu (l.getD (ZkE l b.fNet).toNat Zab.d) b),0)else if(l.length:Int)>=cH then([],5)else(putB l b,0)else([],1)
theorem ZwN(l:List Zab)(n:Zao)(h:0<=ZkE l n):(ZkE l n).toNat<l.length/\(l.getD (ZkE l n).toNat Zab.d).fNet=n:=by
 obtain⟨k,h1,h2,⟨x,h3,h4⟩,_⟩:=Zrr _ l 0 h;have e:(ZkE l n).toNat=k:=by unfold ZkE;rw[h2];omega
 rw[e];refine⟨h1,?_⟩;rw[List.getD_eq_getElem?_getD,h3];simpa using h4
theorem Zyv(l:List Zab)(h:l.length<=10000):ZbD l=some l:=by
 unfold ZbD;rw[Zaw (ZnX (by omega))]
theorem ZvD(l:List Zab)(i:Int)(e:Zab)(h:l.length<=10000)(h0:0<=i)(h1:i.toNat<=l.length):Zbz l i [e]=some (l.take i.toNat++[e]++l.drop i.toNat):=by
 unfold Zbz;rw[Zaw ⟨h0,h1,by simp,by simp only[List.length_cons,List.length_nil];omega,by unfold maxLen;simp only[List.length_cons,List.length_nil];omega⟩]
theorem ZGb(l:List Zab)(b:Zab)(cH:Int)(h:l.length<=10000)(hb:b.ok):ZnQ l b cH=some (addB l b cH):=by
 have hm:l.length<=maxLen:=by unfold maxLen;omega
 have hs:=ZvC (fun x:Zab=>decide (0<cmpN x.fNet b.fNet)) l 0;have hle:=Zzn (fun x:Zab=>decide (0<cmpN x.fNet b.fNet)) l 0;simp only[ZnQ,ZEB b hb,ZyF l _ hm,ZCo l b hm,Zyv l h,Option.bind_some,addB];cases ZiK b
 ·rfl
 ·simp only[Bool.not_true,cond_false,if_true,Zal,ge_iff_le];by_cases h1:0<=ZkE l b.fNet
  ·obtain⟨f1,f2⟩:=ZwN l b.fNet h1;simp only[h1,if_true];rw[Zaw ⟨trivial,by omega⟩];simp only[ZpY,f2,decide_true,cond_true,Option.bind_some];rw[Zaw ⟨trivial,by omega⟩];simp only[ZHu,f2]
  ·simp only[h1,if_false];by_cases h2:cH<=(l.length:Int)
   ·simp only[h2,if_true]
   ·simp only[h2,if_false];by_cases h3:ZvQ l b.fNet<0
    ·rw[if_pos h3,ZvD l _ b h (by omega) (by simp)];simp only[Option.bind_some];obtain⟨h4,h5⟩:=hs.1 h3;unfold putB;rw[h4,h5];simp
    ·rw[if_neg h3];have gH:0<=ZvQ l b.fNet:=by omega
     unfold ZvQ at gH;rw[ZvD l _ b h (by omega) (by unfold ZvQ;omega)];simp only[Option.bind_some];obtain⟨_,h4,h5⟩:=hs.2 gH;unfold putB ZvQ;rw[h4,h5];rfl
theorem ZFo(l:List Zab)(e:Zab)(h:l.length<=10000):∀fu (i:Nat),i<=l.length->l.length-i<fu ->
  ZdE l fu (i:Int) e=some (l.take i++putB (l.drop i) e,0):=by
 have hm:l.length<=maxLen:=by unfold maxLen;omega
 have bI:∀i:Nat,i<=l.length->(need (0<=(i:Int)/\(i:Int)<=((l.length:Nat):Int)) <|
   need ((([]:List Zab)++(l.take (i:Int).toNat)).length * 40<=140737488355328/\(([]:List Zab)++(l.take (i:Int).toNat)).length<=maxLen) <|
   need (((([]:List Zab)++(l.take (i:Int).toNat))++([e]:List Zab)).length * 40<=140737488355328/\((([]:List Zab)++(l.take (i:Int).toNat))++([e]:List Zab)).length<=maxLen) <|
   need ((((([]:List Zab)++(l.take (i:Int).toNat))++([e]:List Zab))++(l.drop (i:Int).toNat)).length * 40<=140737488355328/\(((([]:List Zab)++(l.take (i:Int).toNat))++([e]:List Zab))++(l.drop (i:Int).toNat)).length<=maxLen) <|
   some ((((([]:List Zab)++(l.take (i:Int).toNat))++([e]:List Zab))++(l.drop (i:Int).toNat)),(0:Int)))=some (l.take i++[e]++l.drop i,0):=by
  intro i hi;rw[Zaw ⟨by omega,by omega⟩,Zaw (ZnX (by simp;omega)),Zaw (ZnX (by simp;omega)),Zaw (ZnX (by simp;omega))];simp
 intro fu;induction fu with
 |zero=>intro i _ h;omega
 |succ fu ih=>
  intro i hi hf;simp only[ZdE,ZAr,Option.bind_some,Zal];by_cases hlt:i<l.length
  ·rw[if_pos (by omega),Zaw ⟨by omega,by omega⟩];have hd:=Zee l Zab.d i hlt;by_cases hc:cmpN (l.getD i Zab.d).fNet e.fNet<=0
   ·rw[if_pos (by simpa using hc),add1 hlt hm,ih (i+1) (by omega) (by omega)];congr 2;unfold putB;rw[hd,List.takeWhile_cons,List.dropWhile_cons,if_pos (by simp;simpa using hc),if_pos (by simp;simpa using hc),List.take_succ_eq_append_getElem hlt];rw[Zdf l Zab.d i hlt];simp only[List.append_assoc,List.cons_append,List.nil_append]
   ·rw[if_neg (by simpa using hc),bI i hi];congr 2;unfold putB;rw[hd,List.takeWhile_cons,List.dropWhile_cons,if_neg (by simp;simpa using hc),if_neg (by simp;simpa using hc)];simp
  ·rw[if_neg (by omega),bI i hi];have:l.drop i=[]:=List.drop_eq_nil_of_le (by omega);rw[this];simp[putB]
theorem ZFp(l:List Zab)(b:Zab)(cH:Int)(h:l.length<=10000)(hb:b.ok):ZgS l b cH=some (addB l b cH):=by
 have hm:l.length<=maxLen:=by unfold maxLen;omega
 simp only[ZgS,Ztv b hb,Zvq l _ hm,Option.bind_some,addB];cases ZiK b
 ·rfl
 ·simp only[Bool.not_true,cond_false,if_true,Zal,ge_iff_le,List.nil_append];by_cases h1:0<=ZkE l b.fNet
  ·obtain⟨f1,f2⟩:=ZwN l b.fNet h1;simp only[h1,if_true];rw[Zaw (ZnX (by omega)),Zaw ⟨trivial,by omega⟩];unfold ZHu;by_cases hg:b.fUntil>(l.getD (ZkE l b.fNet).toNat Zab.d).fUntil
   ·simp only[hg,if_true]
   ·simp only[hg,if_false];congr 2;have e:(⟨(l.getD (ZkE l b.fNet).toNat Zab.d).fNet,(l.getD (ZkE l b.fNet).toNat Zab.d).fUntil⟩ : Zab)=l[(ZkE l b.fNet).toNat]:=by rw[Zdf l _ _ f1]
    rw[e,List.set_getElem_self]
  ·simp only[h1,if_false];by_cases h2:cH<=(l.length:Int)
   ·simp only[h2,if_true]
   ·simp only[h2,if_false];have:=ZFo l b h ((((l.length:Nat):Int)-(0:Int)).toNat+2) 0 (by omega) (by omega);simpa using this
def Zqp(l:List Zab)(n:Zao):List Zab×Int:=if ZkE l n<0 then([],6)else(l.take (ZkE l n).toNat++l.drop ((ZkE l n).toNat+1),0)
theorem ZCi(l:List Zab)(i:Nat)(h:l.length<=10000)(hi:i<l.length):ZcO l (i:Int) ((i+1:Nat):Int)=some (l.take i++l.drop (i+1)):=by
 unfold ZcO;have gQ:(appL l i (i+1) (l.length-(i+1))).length=l.length:=ZED l i (i+1) (l.length-(i+1)) ⟨by omega,by omega⟩;rw[Zaw ⟨by omega,by omega,by omega,by omega⟩,show ((i:Int)==((i+1:Nat):Int))=false by rw[beq_eq_false_iff_ne];omega,cond_false];simp only[Int.toNat_natCast,Nat.zero_add];rw[Zaw ⟨by omega,by omega,by omega⟩,Zaw ⟨by omega,by omega,by omega⟩,Zaw ⟨by omega,by omega⟩,Zaw ⟨by omega,by omega,by omega⟩,Zaw (by rw[gQ];omega),Zaw (by rw[Zyw _ _ _ _ (by rw[gQ];omega),gQ];omega)];congr 1;unfold Zki;rw[List.append_assoc,List.take_append_of_le_length (by simp[gQ];omega),List.take_take,Nat.min_self];unfold appL;rw[List.take_append_of_le_length (by simp;omega),List.take_of_length_le (by simp;omega)];congr 1;rw[List.take_of_length_le (by simp)]
theorem ZEA(l:List Zab)(n:Zao)(h:l.length<=10000):Zmf l n=some (Zqp l n):=by
 have hm:l.length<=maxLen:=by unfold maxLen;omega
 simp only[Zmf,ZyF l n hm,Zyv l h,Option.bind_some,Zal,Zqp];by_cases h1:ZkE l n<0
 ·rw[if_pos h1,if_pos h1]
 ·rw[if_neg h1,if_neg h1];obtain⟨f1,_⟩:=ZwN l n (by omega);have e:ZkE l n=(((ZkE l n).toNat:Nat):Int):=by omega
  generalize (ZkE l n).toNat=k at f1 e;rw[e,add1 f1 hm,ZCi l k h f1];rfl
theorem ZDb(l:List Zab)(n:Zao)(h:l.length<=10000):Zgj l n=some (Zqp l n):=by
 have hm:l.length<=maxLen:=by unfold maxLen;omega
 simp only[Zgj,Zvq l n hm,Option.bind_some,Zal,Zqp];by_cases h1:ZkE l n<0
 ·rw[if_pos h1,if_pos h1]
 ·rw[if_neg h1,if_neg h1];obtain⟨f1,_⟩:=ZwN l n (by omega);have e:ZkE l n=(((ZkE l n).toNat:Nat):Int):=by omega
  generalize (ZkE l n).toNat=k at f1 e;rw[e,add1 f1 hm];simp only[Int.toNat_natCast,List.nil_append];rw[Zaw ⟨by omega,by omega⟩,Zaw (ZnX (by simp;omega)),Zaw ⟨by omega,by omega⟩,Zaw (ZnX (by simp;omega))]
theorem ZFr(l:List Zab)(e:Zab):(putB l e).length=l.length+1:=by
 unfold putB;have:=congrArg List.length (List.takeWhile_append_dropWhile (p:=fun x:Zab=>!decide (0<cmpN x.fNet e.fNet)) (l:=l));simp only[List.length_append,List.length_cons,List.length_nil]at this ⊢;omega
theorem ZGh(l:List Zab)(e:Zab)(cH:Int):(addB l e cH).1.length<=l.length+1:=by
 unfold addB
 repeat' split
 all_goals simp[ZFr]
theorem ZEc(l:List Zab)(n:Zao):(Zqp l n).1.length<=l.length:=by
 unfold Zqp;split<;>simp<;>omega
def u64r(x:Int):Prop:=0<=x/\x<=18446744073709551615
theorem ZnW(a:Int):u64r (IntKind.wrap .u64 a):=by
 unfold u64r;simp only[IntKind.wrap,IntKind.bits,IntKind.signed];simp;omega
theorem ZGs{a:Int}(h:u64r a):IntKind.wrap .u64 a=a:=ZjI h.1 h.2
theorem Zsy{a:Int}(h:u64r a)(k:Int)(hk:0<k):IntKind.wrap .u64 (Int.tdiv a k)=Int.fdiv a k:=by
 obtain⟨n,rfl⟩ : ∃n:Nat,a=n:=⟨a.toNat,by have:=h.1;omega⟩;obtain⟨m,rfl⟩ : ∃m:Nat,k=m:=⟨k.toNat,by omega⟩;have h1:=h.2;rw[Int.fdiv_eq_tdiv_of_nonneg (by omega) (by omega)];refine ZGs ⟨Int.tdiv_nonneg (by omega) (by omega),?_⟩;have:Int.tdiv (n:Int) (m:Int)<=(n:Int):=by
  rw[<-Int.ofNat_tdiv];have:=Nat.div_le_self n m;omega
 omega
theorem pw30:(2:Int) ^ (min (30:Int).toNat (IntKind.bits .u64))=1073741824:=by decide
theorem pw27:(2:Int) ^ (min (27:Int).toNat (IntKind.bits .u64))=134217728:=by decide
theorem pw31:(2:Int) ^ (min (31:Int).toNat (IntKind.bits .u64))=2147483648:=by decide
theorem pw32:(2:Int) ^ (min (32:Int).toNat (IntKind.bits .u64))=4294967296:=by decide
theorem pw57:(2:Int) ^ (min (57:Int).toNat (IntKind.bits .u64))=144115188075855872:=by decide
theorem pw7:(2:Int) ^ (min (7:Int).toNat (IntKind.bits .u64))=128:=by decide
theorem Zzk(x:Int)(h:u64r x):∃y,ZpA x=some y/\Zet x=some y/\u64r y:=by
 unfold ZpA Zet;simp only[pw30,pw27,pw31,Zsy h 1073741824 (by omega),Zsy (ZnW _) 134217728 (by omega),Zsy (ZnW _) 2147483648 (by omega)];exact⟨_,rfl,rfl,ZnW _⟩
theorem ZIg(a b:Nat)(ha:a<2 ^ 64)(hb:b<2 ^ 64):IntKind.u64.wrap (((BitVec.ofInt (IntKind.bits .u64) (a:Int)) ||| (BitVec.ofInt (IntKind.bits .u64) (b:Int))).toNat:Int)=((a |||b:Nat):Int):=by
 have h1:∀c:Nat,c<2 ^ 64->(BitVec.ofInt 64 (c:Int)).toNat=c:=fun c hc=>by
  rw[BitVec.ofInt_natCast,BitVec.toNat_ofNat];exact Nat.mod_eq_of_lt hc
 have h2:((BitVec.ofInt (IntKind.bits .u64) (a:Int)) ||| (BitVec.ofInt (IntKind.bits .u64) (b:Int))).toNat=a |||b:=by
  show (BitVec.ofInt 64 (a:Int) |||BitVec.ofInt 64 (b:Int)).toNat=a |||b;rw[BitVec.toNat_or,h1 a ha,h1 b hb]
 rw[h2];have:=Nat.or_lt_two_pow ha hb;exact ZjI (by omega) (by omega)
theorem rot7(x:Int)(h:u64r x):Zhw x 7=some (IntKind.wrap .u64 (IntKind.wrap .u64 (x * 128)+IntKind.wrap .u64 (Int.tdiv x 144115188075855872))):=by
 unfold Zhw;have e7:IntKind.wrap .u64 (((BitVec.ofInt (IntKind.bits .u64) (IntKind.wrap .u64 (7:Int))) &&& (BitVec.ofInt (IntKind.bits .u64) (63:Int))).toNat:Int)=7:=by decide
 have e57:IntKind.wrap .u64 ((64:Int)-7)=57:=by decide
 simp only[e7,e57,pw57,pw7];rw[Zaw (by omega),Zaw (by omega),Zsy h 144115188075855872 (by omega)];obtain⟨n,rfl⟩ : ∃n:Nat,x=n:=⟨x.toNat,by have:=h.1;omega⟩;have h1:=h.2;have e1:IntKind.wrap .u64 ((n:Int) * 128)=((n % 2 ^ 57 * 128:Nat):Int):=by
  simp only[IntKind.wrap,IntKind.bits,IntKind.signed];simp;omega
 have e2:Int.fdiv (n:Int) 144115188075855872=((n / 2 ^ 57:Nat):Int):=by
  rw[Int.fdiv_eq_tdiv_of_nonneg (by omega) (by omega)];exact(Int.ofNat_tdiv n 144115188075855872).symm
 have hlt:n % 2 ^ 57 * 128<2 ^ 64:=by omega
 have hlt2:n / 2 ^ 57<2 ^ 7:=by omega
 rw[e1,e2,ZIg _ _ hlt (by omega)];have e3:n % 2 ^ 57 * 128 |||n / 2 ^ 57=n % 2 ^ 57 * 128+n / 2 ^ 57:=by
  have:=Nat.shiftLeft_add_eq_or_of_lt hlt2 (n % 2 ^ 57);rw[Nat.shiftLeft_eq]at this;exact this.symm
 rw[e3];congr 1;rw[ZjI (by omega) (by omega)];omega
theorem ZGE(k:Int)(l:List Int)(hl:l.length<=1000):∃h,Ztc k l=some h/\Zgd k l=some h/\u64r h:=by
 have hL:l.length<=maxLen:=by unfold maxLen;omega
 have aP:∀fu (i:Nat) (v:Int),u64r v->i<=l.length->l.length-i<fu->∃h,Zoj fu v l (l.length:Int) (i:Int)=some h/\ZdP l fu v (i:Int)=some h/\u64r h:=by
  intro fu;induction fu with
  |zero=>intro i v _ _ h;omega
  |succ fu ih=>
   intro i v hv hi hf;unfold Zoj ZdP;simp only[Zal];by_cases h:i<l.length
   ·rw[if_pos (by omega),if_pos (by omega),Zaw ⟨by omega,by omega⟩,Zaw ⟨by omega,by omega⟩,rot7 v hv];obtain⟨y,h1,h2,h3⟩:=Zzk _ (ZnW ((l.getD ((i:Int)).toNat (0:Int))+(11400714819323198485:Int)));simp only[h1,h2,Option.bind_some];obtain⟨z,h4,h5,h6⟩:=Zzk _ (ZnW (((BitVec.ofInt (IntKind.bits .u64) (IntKind.wrap .u64 (IntKind.wrap .u64 (v * 128)+IntKind.wrap .u64 (Int.tdiv v 144115188075855872)))) ^^^ (BitVec.ofInt (IntKind.bits .u64) y)).toNat:Int));simp only[h4,h5,Option.bind_some,add1 h hL];exact ih (i+1) z h6 (by omega) (by omega)
   ·rw[if_neg (by omega),if_neg (by omega)];exact⟨v,rfl,rfl,hv⟩
 unfold Ztc Zgd;obtain⟨y,h1,h2,h3⟩:=Zzk _ (ZnW (k+(11400714819323198485:Int)));simp only[h1,h2,Option.bind_some];exact aP _ 0 y h3 (by omega) (by omega)
theorem ZHq(k:Int)(n:Zao):∃h,ZtX k n=some h/\ZgT k n=some h/\u64r h:=by
 unfold ZtX ZgT;cases n.fAddr.fV6
 ·obtain⟨h,h1,h2,h3⟩:=ZGE k [(4:Int),n.fAddr.fHi,n.fAddr.fLo,(IntKind.wrap .u64 n.fBits)] (by simp);simp only[cond_false,h1,h2,Option.bind_some];exact⟨h,rfl,rfl,h3⟩
 ·obtain⟨h,h1,h2,h3⟩:=ZGE k [(6:Int),n.fAddr.fHi,n.fAddr.fLo,(IntKind.wrap .u64 n.fBits)] (by simp);simp only[cond_true,h1,h2,Option.bind_some];exact⟨h,rfl,rfl,h3⟩
theorem ZGa(h n:Int)(hh:u64r h)(h1:1<=n)(h8:n<=8):∃r,ZqR h n=some r/\ZfO h n=some r/\0<=r/\r<n:=by
 unfold ZqR ZfO;simp only[Zal,pw32];rw[if_neg (by omega),if_neg (by omega),if_neg (by omega),if_neg (by omega),Zsy hh 4294967296 (by omega),Zsy (ZnW _) 4294967296 (by omega)];refine⟨_,rfl,rfl,?_⟩;obtain⟨a,rfl⟩ : ∃a:Nat,h=a:=⟨h.toNat,by have:=hh.1;omega⟩;have h2:=hh.2;have e1:Int.fdiv (a:Int) 4294967296=((a / 4294967296:Nat):Int):=by
  rw[Int.fdiv_eq_tdiv_of_nonneg (by omega) (by omega)];exact(Int.ofNat_tdiv a 4294967296).symm
 rw[e1,ZGs (a:=n) ⟨by omega,by omega⟩];have hb:∀m:Nat,1<=m->m<=8->a / 4294967296*m<4294967296*m:=fun m h1 h2=>by
  have:a / 4294967296<4294967296:=by omega
  exact Nat.mul_lt_mul_of_pos_right this (by omega)
 obtain⟨m,rfl⟩ : ∃m:Nat,n=m:=⟨n.toNat,by omega⟩;have hb:=hb m (by omega) (by omega);generalize hq:a / 4294967296*m=q at hb;have e2:((a / 4294967296:Nat):Int)*(m:Int)=(q:Int):=by rw[<-hq];simp
 rw[e2,ZjI (a:=(q:Int)) (by omega) (by omega)];have e3:Int.fdiv (q:Int) 4294967296=((q / 4294967296:Nat):Int):=by
  rw[Int.fdiv_eq_tdiv_of_nonneg (by omega) (by omega)];exact(Int.ofNat_tdiv q 4294967296).symm
 rw[e3,ZlB (by omega) (by omega)];omega
theorem ZBP{a:Zag}(h:Fits a):Zjy a (wid a)=a:=by
 refine ZrT (ZjE h _) h (ZiN a _) fun i hi=>?_;have hw:wid (Zjy a (wid a))=wid a:=by unfold wid;rw[ZiN]
 rw[hw]at hi;rw[ZkK h (wid a) i (Nat.le_refl _) hi,decide_eq_true hi,Bool.true_and]
def ZDK(a:Zag):Zao:=if ZeG a=true then⟨a,(wid a:Int)⟩else⟨⟨false,0,0⟩,0⟩
theorem ZEs(a:Zag)(h:a.ok):ZqS a=some (ZDK a):=by
 unfold ZqS ZDK;simp only[ZzY,Option.bind_some,Zzl a h];by_cases hr:ZeG a=true
 ·rw[if_pos ⟨hr,by omega,by omega⟩,if_pos hr];simp only[Int.toNat_natCast,ZBP (ZoG h hr)]
 ·rw[if_neg (fun x=>hr x.1),if_neg hr]
theorem ZFR(hi lo:Nat)(h1:hi<2 ^ 64)(h2:lo<2 ^ 64):∀fu (i:Nat) (z:Int),i<=64->64-i<fu->(i<64->z=((2 ^ (63-i):Nat):Int)) ->
  ZbG (hi:Int) (lo:Int) 128 fu ((hi-hi % 2 ^ (64-i):Nat):Int) ((lo-lo % 2 ^ (64-i):Nat):Int) z (i:Int)=some ((hi:Int),(lo:Int)):=by
 intro fu;induction fu with
 |zero=>intro i z _ h;omega
 |succ fu ih=>
  intro i z hi64 hf hz;unfold ZbG;simp only[Zal];by_cases h:i<64
  ·have e1:Zar (i:Int) 64=((i+64:Nat):Int):=by rw[Zcx (by omega) (by omega)];omega
   have e2:Zar (i:Int) 1=((i+1:Nat):Int):=by rw[Zcx (by omega) (by omega)];omega
   have hz:=hz h;obtain⟨p,hp⟩ : ∃p:Nat,p=2 ^ (63-i):=⟨_,rfl⟩;have hp0:0<p:=by rw[hp];exact Nat.two_pow_pos _
   have bg:2 ^ (64-i)=2*p:=by rw[hp,show 64-i=(63-i)+1 by omega,Nat.pow_succ];omega
   have hp3:p<=2 ^ 63:=by rw[hp];exact Nat.pow_le_pow_right (by omega) (by omega)
   have bp:p<2 ^ 64:=by omega
   rw[<-hp]at hz;subst hz;have jK:IntKind.wrap .u64 (Int.tdiv (p:Int) 2)=((p / 2:Nat):Int):=by
    rw[Zsy ⟨by omega,by omega⟩ 2 (by omega),Int.fdiv_eq_tdiv_of_nonneg (by omega) (by omega)];exact(Int.ofNat_tdiv p 2).symm
   have cN:i+1<64->((p / 2:Nat):Int)=((2 ^ (63-(i+1)):Nat):Int):=fun hh=>by
    have:p=2 * 2 ^ (63-(i+1)):=by rw[hp,show 63-i=(63-(i+1))+1 by omega,Nat.pow_succ];omega
    rw[this];congr 1;omega
   have bit:∀n:Nat,n<2 ^ 64->IntKind.wrap .u64 (Int.tdiv (n:Int) (p:Int))=((n / p:Nat):Int):=fun n hn=>by
    rw[Zsy ⟨by omega,by omega⟩ _ (by omega),Int.fdiv_eq_tdiv_of_nonneg (by omega) (by omega)];exact(Int.ofNat_tdiv n p).symm
   have step:∀n:Nat,n<2 ^ 64->(n / p % 2=1->IntKind.wrap .u64 (((n-n % 2 ^ (64-i):Nat):Int)+(p:Int))=((n-n % 2 ^ (64-(i+1)):Nat):Int))/\(n / p % 2≠1->((n-n % 2 ^ (64-i):Nat):Int)=((n-n % 2 ^ (64-(i+1)):Nat):Int)):=fun n hn=>by
    have e:2 ^ (64-(i+1))=p:=by rw[hp];congr 1;omega
    rw[e,bg];have hm:n % (2*p)=n % p+p*(n / p % 2):=by rw[Nat.mul_comm 2 p];exact Nat.mod_mul
    have hm2:n % p<p:=Nat.mod_lt _ hp0;have hm3:n % (2*p)<=n:=Nat.mod_le _ _;refine⟨fun hb=>?_,fun hb=>?_⟩
    ·rw[hb,Nat.mul_one]at hm;rw[ZjI (by omega) (by omega)];omega
    ·have bX:n / p % 2=0:=by omega
     rw[bX,Nat.mul_zero]at hm;rw[hm];congr 1
   have tm:∀n:Nat,((Int.tmod ((n:Nat):Int) 2)==(1:Int))=decide (n % 2=1):=fun n=>by
    have:Int.tmod ((n:Nat):Int) 2=((n % 2:Nat):Int):=(Int.ofNat_tmod n 2).symm;rw[this];by_cases hh:n % 2=1
    ·rw[hh];rfl
    ·rw[decide_eq_false hh];exact beq_false_of_ne (by omega)
   have fj:∀v8:Int,v8=((hi-hi % 2 ^ (64-(i+1)):Nat):Int)->ZdF (hi:Int) (lo:Int) 128 ((lo-lo % 2 ^ (64-i):Nat):Int) (p:Int) (i:Int) (ZbG (hi:Int) (lo:Int) 128 fu) v8=some ((hi:Int),(lo:Int)):=by
    rintro v8 rfl;unfold ZdF;simp only[Zal,e1,e2,jK,bit lo h2,tm];rw[if_pos (by omega),Zaw (by omega)];by_cases hb:lo / p % 2=1
    ·rw[if_pos hb,(step lo h2).1 hb];exact ih (i+1) _ (by omega) (by omega) cN
    ·rw[if_neg hb,(step lo h2).2 hb];exact ih (i+1) _ (by omega) (by omega) cN
   rw[if_pos (by omega),if_pos (by omega),Zaw (by omega)];simp only[bit hi h1,tm,Zal];by_cases hb:hi / p % 2=1
   ·rw[if_pos hb];exact fj _ ((step hi h1).1 hb)
   ·rw[if_neg hb];exact fj _ ((step hi h1).2 hb)
  ·have:i=64:=by omega
   subst this;rw[if_neg (by omega)];simp[Nat.mod_one]
theorem ZDa(hi lo:Nat)(h1:hi<2 ^ 64)(h2:lo<2 ^ 64):ZdU (hi:Int) (lo:Int) 128=some ((hi:Int),(lo:Int)):=by
 unfold ZdU;have:=ZFR hi lo h1 h2 66 0 9223372036854775808 (by omega) (by omega) (fun _=>by decide);have e1:hi-hi % 2 ^ (64-0)=0:=by rw[Nat.sub_zero,Nat.mod_eq_of_lt h1];omega
 have e2:lo-lo % 2 ^ (64-0)=0:=by rw[Nat.sub_zero,Nat.mod_eq_of_lt h2];omega
 rw[e1,e2]at this;exact this
theorem ZFl(a:Zag)(h:a.ok):Zgl a=some (ZDK a):=by
 unfold Zgl ZhS ZDK;simp only[ZsT,Option.bind_some,Zns a h,Zal];by_cases hr:ZeG a=true
 ·rw[hr,Bool.not_true,cond_false,if_neg (by omega),if_neg (by omega),if_pos rfl];unfold ZhR ZeR ZeQ;simp only[Zns a h,hr,Bool.not_true,cond_false,Option.bind_some,Zal,ZsT];rw[if_neg (by omega),if_neg (by omega)];have hf:=ZoG h hr;obtain⟨v6,hi,lo⟩:=a;have a1:=hf.hi0;have a2:=hf.hi1;have a3:=hf.lo0;have a4:=hf.lo1;simp only at a1 a2 a3 a4;obtain⟨x,rfl⟩ : ∃x:Nat,hi=x:=⟨hi.toNat,by omega⟩;obtain⟨y,rfl⟩ : ∃y:Nat,lo=y:=⟨lo.toNat,by omega⟩;cases v6
  ·have hv:=hf.v4 rfl;have e:wid ⟨false,(x:Int),(y:Int)⟩=32:=rfl;have e1:Zar (96:Int) ((32:Nat):Int)=128:=by decide
   simp only[e,e1,cond_false];have:=ZDa 0 y (by omega) (by omega);have e0:ZdU (0:Int) (y:Int) 128=some (((0:Nat):Int),(y:Int)):=this;rw[e0,Option.bind_some];simp only at hv;simp[hv.1]
  ·have e:wid ⟨true,(x:Int),(y:Int)⟩=128:=rfl;simp only[e,cond_true];have:=ZDa x y (by omega) (by omega);have e0:ZdU (x:Int) (y:Int) ((128:Nat):Int)=some ((x:Int),(y:Int)):=this;rw[e0,Option.bind_some];rfl
 ·simp[hr]
def Znd(a:Zag)(s n:Int):Int:=(ZpX a s n).getD 0
def Zpr(p:Int):Int:=if p<1 then 1 else if p>8 then 8 else p
theorem ZAk(a:Zag)(h:a.ok)(s n:Int):ZpX a s n=some (Znd a s n)/\Zgb a s n=some (Znd a s n)/\0<=Znd a s n/\Znd a s n<Zpr n:=by
 have e1:Zog n=some (Zpr n):=by
  unfold Zog Zpr;congr 1
  repeat' split
  all_goals omega
 have e2:Zdn n=some (Zpr n):=by
  unfold Zdn Zpr;simp only[Zal]
  repeat' split
  all_goals rfl
 have e3:1<=Zpr n/\Zpr n<=8:=by
  unfold Zpr
  repeat' split
  all_goals omega
 obtain⟨m,h1,h2,h3⟩:=ZHq s (ZDK a);obtain⟨r,h4,h5,h6,h7⟩:=ZGa m (Zpr n) h3 e3.1 e3.2;have q1:ZpX a s n=some r:=by
  unfold ZpX;simp only[ZEs a h,h1,e1,h4,Option.bind_some]
 have q2:Zgb a s n=some r:=by
  unfold Zgb;simp only[ZFl a h,h2,e2,h5,Option.bind_some]
 have q3:Znd a s n=r:=by unfold Znd;rw[q1];rfl
 rw[q3];exact⟨q1,q2,h6,h7⟩
def ofP(l:List Zaa)(n:Zao)(b:Bool):List Zaa:=l.filter fun p=>hasS n p.fEnd.fAddr==b
theorem ZEr(p:Zao)(a:Zag)(hp:p.fAddr.ok)(ha:a.ok):ZjG p a=some (hasS p a):=by
 unfold hasS;cases hr:Zhl p with
 |true=>
  have dY:=(Ztr hp).1 hr;rw[ZGI p a dY ha,Bool.true_and]
 |false=>
  unfold ZjG;simp only[ZkF p hp,hr,Option.bind_some,cond_false,Bool.false_and]
theorem ZyR(l:List Zaa)(n:Zao)(hn:n.fAddr.ok)(hl:l.length<=1000000)(ay:∀p∈l,p.fEnd.fAddr.ok):Zlv l n=some (ofP l n true,ofP l n false):=by
 have hL:l.length<=maxLen:=by unfold maxLen;omega
 have aP:∀fu (i:Nat) w u,i<=l.length->l.length-i<fu->w=ofP (l.take i) n true->u=ofP (l.take i) n false->ZeJ fu l (l.length:Int) (i:Int) w u n=some (ofP l n true,ofP l n false):=by
  intro fu;induction fu with
  |zero=>intro i w u _ h;omega
  |succ fu ih=>
   intro i w u hi hf hw hu;unfold ZeJ;simp only[Zal];by_cases h:i<l.length
   ·have hm:=Zgq l Zaa.d i h;rw[if_pos (by omega),Zaw ⟨by omega,by omega⟩,add1 h hL];simp only[Int.toNat_natCast,ZEr n _ hn (ay _ hm),Option.bind_some];have bU:∀b,ofP (l.take (i+1)) n b=ofP (l.take i) n b++[l.getD i Zaa.d].filter (fun p=>hasS n p.fEnd.fAddr==b):=fun b=>by
     unfold ofP;rw[List.take_succ_eq_append_getElem h,List.filter_append,Zdf l _ i h]
    have hlen:∀b,(ofP (l.take i) n b).length<=1000000:=fun b=>by
     have:=List.length_filter_le (fun p:Zaa=>hasS n p.fEnd.fAddr==b) (l.take i);simp only[List.length_take]at this;unfold ofP;omega
    have hlw:=hlen true;have hlu:=hlen false;cases hq:hasS n (l.getD i Zaa.d).fEnd.fAddr with
    |true=>
     simp only[cond_true];rw[Zaw ⟨by rw[hw];simp;omega,by rw[hw];simp[maxLen];omega⟩];refine ih (i+1) _ _ (by omega) (by omega) ?_ ?_
     ·rw[bU true,List.filter_cons_of_pos (by rw[hq];rfl),hw];rfl
     ·rw[bU false,List.filter_cons_of_neg (by rw[hq];decide),hu];simp
    |false=>
     simp only[cond_false];rw[Zaw ⟨by rw[hu];simp;omega,by rw[hu];simp[maxLen];omega⟩];refine ih (i+1) _ _ (by omega) (by omega) ?_ ?_
     ·rw[bU true,List.filter_cons_of_neg (by rw[hq];decide),hw];simp
     ·rw[bU false,List.filter_cons_of_pos (by rw[hq];rfl),hu];rfl
   ·rw[if_neg (by omega),hw,hu];have:i=l.length:=by omega
    rw[this,List.take_length]
 exact aP _ 0 [] [] (by omega) (by omega) rfl rfl
theorem ZAu(l:List Zaa)(n:Zao)(b:Bool)(hn:n.fAddr.ok)(hl:l.length<=1000000)(ay:∀p∈l,p.fEnd.fAddr.ok):Zgc l n b=some (ofP l n b):=by
 have hL:l.length<=maxLen:=by unfold maxLen;omega
 have aP:∀fu (i:Nat) w,i<=l.length->l.length-i<fu->w=ofP (l.take i) n b->Zdo l b fu (i:Int) w n=some (ofP l n b):=by
  intro fu;induction fu with
  |zero=>intro i w _ h;omega
  |succ fu ih=>
   intro i w hi hf hw;unfold Zdo
   simp only[Zal];by_cases h:i<l.length
   ·have hm:=Zgq l Zaa.d i h;rw[if_pos (by omega),Zaw ⟨by omega,by omega⟩,add1 h hL];simp only[Int.toNat_natCast,ZAt n _ hn (ay _ hm),Option.bind_some];have bU:ofP (l.take (i+1)) n b=w++[l.getD i Zaa.d].filter (fun p=>hasS n p.fEnd.fAddr==b):=by
     rw[hw];unfold ofP;rw[List.take_succ_eq_append_getElem h,List.filter_append,Zdf l _ i h]
    have hwl:w.length<=1000000:=by
     rw[hw];have:=List.length_filter_le (fun p:Zaa=>hasS n p.fEnd.fAddr==b) (l.take i);simp only[List.length_take]at this;unfold ofP;omega
    cases hq:hasS n (l.getD i Zaa.d).fEnd.fAddr==b with
    |true=>
     rw[List.filter_cons_of_pos (by rw[hq])]at bU;simp only[cond_true];rw[Zaw ⟨by simp;omega,by simp[maxLen];omega⟩];exact ih (i+1) _ (by omega) (by omega) bU.symm
    |false=>
     rw[List.filter_cons_of_neg (by rw[hq];decide)]at bU;simp only[cond_false];refine ih (i+1) _ (by omega) (by omega) ?_;rw[bU];simp
   ·rw[if_neg (by omega),hw];have:i=l.length:=by omega
    rw[this,List.take_length]
 exact aP _ 0 [] (by omega) (by omega) rfl
theorem ZtI(l:List Zaa)(n:Zao)(b:Bool):(ofP l n b).length<=l.length:=List.length_filter_le _ _
def cntP(l:List Zaa)(b:Bool):Int:=((l.countP fun p=>p.fIn==b:Nat):Int)
theorem Ztm(l:List Zaa)(b:Bool)(hl:l.length<=maxLen):ZiO l b=some (cntP l b):=by
 simp only[ZiO];have:=Zse l Zaa.d (fun p=>p.fIn==b) hl (fun fu n i=>Zei b fu n l (l.length:Int) i) (fun fu i n hi=>by
   simp only[Zei,Zal];rw[if_pos (by omega),Zaw ⟨by omega,by omega⟩];simp only[Int.toNat_natCast];cases((l.getD i Zaa.d).fIn==b)<;>rfl) (fun fu n=>by
   simp only[Zei,Zal];rw[if_neg (by omega)]) ((((l.length:Nat):Int)-(0:Int)).toNat+2) 0 0 (by omega) (by omega) (by omega)
 simp only[Int.natCast_zero,List.drop_zero]at this;rw[this];unfold cntP;congr 2;omega
theorem ZnY(l:List Zaa)(b:Bool)(hl:l.length<=maxLen):Zdp l b=some (cntP l b):=by
 simp only[Zdp];have:=Zse l Zaa.d (fun p=>p.fIn==b) hl (fun fu n i=>Zcj l b fu n i) (fun fu i n hi=>by
   simp only[Zcj,Zal];rw[if_pos (by omega),Zaw ⟨by omega,by omega⟩];simp only[Int.toNat_natCast];cases((l.getD i Zaa.d).fIn==b)<;>rfl) (fun fu n=>by
   simp only[Zcj,Zal];rw[if_neg (by omega)]) ((((l.length:Nat):Int)-(0:Int)).toNat+2) 0 0 (by omega) (by omega) (by omega)
 simp only[Int.natCast_zero,List.drop_zero]at this;rw[this];unfold cntP;congr 2;omega
theorem Zmn(l:List Zaa)(b:Bool):0<=cntP l b/\cntP l b<=(l.length:Int):=by
 unfold cntP;have:=List.countP_le_length (p:=fun p:Zaa=>p.fIn==b) (l:=l);omega
def Zlj(l:List Zaa):List Zah:=l.map (·.fEnd)
theorem ZHe{α:Type}(L R:List α)(x y:α):(L++x :: R).set L.length y=L++y :: R:=by
 induction L with
 |nil=>rfl
 |cons z L ih=>simp[ih]
theorem ZDJ{α:Type}(L R:List α)(x d:α):(L++x :: R).getD L.length d=x:=by
 induction L with
 |nil=>rfl
 |cons z L ih=>simp
theorem Zsz{α:Type}{l L R:List α}{x y:α}{k:Nat}(h:l=L++x :: R)(hk:k=L.length):l.set k y=L++y :: R:=by rw[h,hk,ZHe]
theorem Zqx{α:Type}{l L R:List α}{x d:α}{k:Nat}(h:l=L++x :: R)(hk:k=L.length):l.getD k d=x:=by rw[h,hk,ZDJ]
abbrev Prs:=List Zaa
theorem ZCI(P B Q:Prs):∀(k:Nat)(A1 A2 C1 C2:Prs)(fu:Nat),A2.length=k->C2.length=k->A1.length=C1.length->k+1<=fu->P.length+B.length+Q.length+2*(A1.length+k)<=1000000 ->
  ZaX (P.length:Int) ((P.length+(A1.length+k)+B.length:Nat):Int) ((A1.length+k:Nat):Int) fu (A1.length:Int) (P++(C1++(A2++(B++(A1++(C2++Q))))))=some (P++(C1++(C2++(B++(A1++(A2++Q)))))):=by
 intro k;induction k with
 |zero=>
  intro A1 A2 C1 C2 fu h1 h2 h3 hf hb;obtain⟨fu,rfl⟩ : ∃x,fu=x+1:=⟨fu-1,by omega⟩;obtain rfl:=List.eq_nil_of_length_eq_zero h1;obtain rfl:=List.eq_nil_of_length_eq_zero h2;unfold ZaX;rw[Zal,if_neg (by omega)]
 |succ k ih=>
  intro A1 A2 C1 C2 fu h1 h2 h3 hf hb;obtain⟨fu,rfl⟩ : ∃x,fu=x+1:=⟨fu-1,by omega⟩;cases A2 with
  |nil=>cases h1
  |cons a A2=>
   cases C2 with
   |nil=>cases h2
   |cons c C2=>
    simp only[List.length_cons,Nat.add_right_cancel_iff]at h1 h2;unfold ZaX;have e1:Zar (P.length:Int) (A1.length:Int)=((P.length+A1.length:Nat):Int):=by rw[Zcx (by omega) (by omega)];omega
    have e2:Zar ((P.length+(A1.length+(k+1))+B.length:Nat):Int) (A1.length:Int)=((P.length+(A1.length+(k+1))+B.length+A1.length:Nat):Int):=by rw[Zcx (by omega) (by omega)];omega
    have e3:Zar (A1.length:Int) 1=((A1.length+1:Nat):Int):=by rw[Zcx (by omega) (by omega)];omega
    have hl:(P++(C1++(a :: A2++(B++(A1++(c :: C2++Q)))))).length=P.length+B.length+Q.length+2*(A1.length+(k+1)):=by simp;omega
    rw[Zal,if_pos (by omega),e1,e2,e3,Zaw (by rw[hl];omega),Zaw (by rw[hl];omega)];simp only[Int.toNat_natCast];have g1:(P++(C1++(a :: A2++(B++(A1++(c :: C2++Q)))))).getD (P.length+(A1.length+(k+1))+B.length+A1.length) Zaa.d=c:=
     Zqx (L:=P++(C1++(a :: A2++(B++A1)))) (R:=C2++Q) (by simp) (by simp;omega)
    have g2:(P++(C1++(a :: A2++(B++(A1++(c :: C2++Q)))))).getD (P.length+A1.length) Zaa.d=a:=
     Zqx (L:=P++C1) (R:=A2++(B++(A1++(c :: C2++Q)))) (by simp) (by simp;omega)
    have s1:(P++(C1++(a :: A2++(B++(A1++(c :: C2++Q)))))).set (P.length+A1.length) c=P++(C1++(c :: A2++(B++(A1++(c :: C2++Q))))):=by
     rw[Zsz (L:=P++C1) (x:=a) (R:=A2++(B++(A1++(c :: C2++Q)))) (by simp) (by simp;omega)];simp
    have s2:(P++(C1++(c :: A2++(B++(A1++(c :: C2++Q)))))).set (P.length+(A1.length+(k+1))+B.length+A1.length) a=P++(C1++(c :: A2++(B++(A1++(a :: C2++Q))))):=by
     rw[Zsz (L:=P++(C1++(c :: A2++(B++A1)))) (x:=c) (R:=C2++Q) (by simp) (by simp;omega)];simp
    rw[g1,g2,s1,s2];have:=ih (A1++[a]) A2 (C1++[c]) C2 fu h1 h2 (by simp;omega) (by omega) (by simp;omega);simp only[List.length_append,List.length_singleton,List.append_assoc,List.singleton_append,List.cons_append]at this ⊢;have x1:A1.length+1+k=A1.length+(k+1):=by omega
    rw[x1]at this;exact this
theorem ZyS(P A B C Q:Prs)(h:A.length=C.length)(hb:P.length+B.length+Q.length+2*A.length<=1000000)(a b n:Int)(ha:a=(P.length:Int))(ie:b=((P.length+A.length+B.length:Nat):Int))(hn:n=(A.length:Int)) :
  Zbt (P++(A++(B++(C++Q)))) a b n=some (P++(C++(B++(A++Q)))):=by
 subst ha ie hn;unfold Zbt;have:=ZCI P B Q A.length [] A [] C (((A.length:Int)-0).toNat+2) rfl h.symm rfl (by omega) (by simpa using hb);simpa using this
theorem ZFd(m:Nat):∀(s:Nat)(P X Y Q:Prs)(fu:Nat),X.length+Y.length<=s->0<X.length->0<Y.length->m=P.length+X.length->P.length+X.length+Y.length+Q.length<=1000000->s+1<=fu ->
  Zbj (m:Int) fu (X.length:Int) (Y.length:Int) (P++(X++(Y++Q)))=some (P++(Y++(X++Q))):=by
 intro s;induction s with
 |zero=>intro P X Y Q fu h1 h2;omega
 |succ s ih=>
  intro P X Y Q fu h1 h2 h3 hm hb hf;obtain⟨fu,rfl⟩ : ∃x,fu=x+1:=⟨fu-1,by omega⟩;unfold Zbj;have e1:ZaV (m:Int) (X.length:Int)=(P.length:Int):=by rw[ZdK (by omega) (by omega)];omega
  by_cases he:X.length=Y.length
  ·have e0:((X.length:Int) != (Y.length:Int))=false:=by rw[he];simp
   rw[e0,cond_false,e1];have:=ZyS P X [] Y Q he (by simp;omega) (P.length:Int) (m:Int) (X.length:Int) rfl (by simp[hm]) rfl;simp only[List.nil_append]at this;rw[this];rfl
  ·have e0:((X.length:Int) != (Y.length:Int))=true:=by rw[bne_iff_ne];omega
   rw[e0,cond_true,Zal,e1];by_cases hg:Y.length<X.length
   ·obtain⟨X1,X2,rfl,hx⟩ : ∃X1 X2,X=X1++X2/\X1.length=Y.length:=⟨X.take Y.length,X.drop Y.length,(List.take_append_drop ..).symm,by simp;omega⟩;simp only[List.length_append]at *
    have e2:ZaV ((X1.length+X2.length:Nat):Int) (Y.length:Int)=(X2.length:Int):=by rw[ZdK (by omega) (by omega)];omega
    rw[if_pos (by omega),e2];have:=ZyS P X1 X2 Y Q hx (by omega) (P.length:Int) (m:Int) (Y.length:Int) rfl (by omega) (by omega);simp only[List.append_assoc]at this ⊢;rw[this,ZaS];have h2:=ih (P++Y) X2 X1 Q fu (by omega) (by omega) (by omega) (by simp;omega) (by simp;omega) (by omega);simp only[List.append_assoc,hx]at h2;exact h2
   ·obtain⟨Y1,Y2,rfl,hy⟩ : ∃Y1 Y2,Y=Y1++Y2/\Y2.length=X.length:=⟨Y.take (Y.length-X.length),Y.drop (Y.length-X.length),(List.take_append_drop ..).symm,by simp;omega⟩;simp only[List.length_append]at *
    have e2:ZaV ((Y1.length+Y2.length:Nat):Int) (X.length:Int)=(Y1.length:Int):=by rw[ZdK (by omega) (by omega)];omega
    have e3:Zar (m:Int) ((Y1.length+Y2.length:Nat):Int)=((m+Y1.length+Y2.length:Nat):Int):=by rw[Zcx (by omega) (by omega)];omega
    have e4:ZaV ((m+Y1.length+Y2.length:Nat):Int) (X.length:Int)=((P.length+X.length+Y1.length:Nat):Int):=by rw[ZdK (by omega) (by omega)];omega
    rw[if_neg (by omega),e2,e3,e4];have:=ZyS P X Y1 Y2 Q hy.symm (by omega) (P.length:Int) ((P.length+X.length+Y1.length:Nat):Int) (X.length:Int) rfl rfl rfl;simp only[List.append_assoc]at this ⊢;rw[this,ZaS];have h2:=ih P Y2 Y1 (X++Q) fu (by omega) (by omega) (by omega) (by omega) (by simp;omega) (by omega);simp only[List.append_assoc,hy]at h2;exact h2
theorem ZId(P X Y Q:Prs)(h2:0<X.length)(h3:0<Y.length)(hb:P.length+X.length+Y.length+Q.length<=900000)(a m b:Int)(ha:a=(P.length:Int))(hm:m=((P.length+X.length:Nat):Int))(ie:b=((P.length+X.length+Y.length:Nat):Int)) :
  ZbS (P++(X++(Y++Q))) a m b=some (P++(Y++(X++Q))):=by
 subst ha hm ie;unfold ZbS;have e1:ZaV ((P.length+X.length:Nat):Int) (P.length:Int)=(X.length:Int):=by rw[ZdK (by omega) (by omega)];omega
 have e2:ZaV ((P.length+X.length+Y.length:Nat):Int) ((P.length+X.length:Nat):Int)=(Y.length:Int):=by rw[ZdK (by omega) (by omega)];omega
 rw[e1,e2];exact ZFd _ (X.length+Y.length) P X Y Q 1000000 (Nat.le_refl _) h2 h3 rfl (by omega) (by omega)
def ltP(x y:Zaa):Bool:=decide (cmpE x.fEnd y.fEnd<0)
theorem ZlO{x y:Zaa}:ltP x y=true↔cmpE x.fEnd y.fEnd<0:=by unfold ltP;simp
theorem ZsB{x y:Zaa}:ltP x y=false↔¬cmpE x.fEnd y.fEnd<0:=by unfold ltP;simp
theorem ZDt{x y z:Zaa}(h1:ltP x y=true)(h2:ltP y z=true):ltP x z=true:=by
 rw[ZlO]at *
 exact Zsu h1 h2
theorem ZlN{x y z:Zaa}(h1:ltP x y=false)(h2:ltP y z=false):ltP x z=false:=by
 rw[ZsB]at *
 intro h;have e:cmpE x.fEnd y.fEnd=0\/0<cmpE x.fEnd y.fEnd:=by omega
 rcases e with e|e
 ·rw[Zuy.1 e]at h;exact h2 h
 ·exact h2 (Zsu (ZrQ.1 e) h)
theorem ZwB{x y z:Zaa}(h1:ltP z x=true)(h2:ltP y x=false):ltP z y=true:=by
 cases h:ltP z y with
 |true=>rfl
 |false=>rw[ZlN h h2]at h1;cases h1
theorem ZsU(a b:Zaa):ZgI a b=some (cmpE a.fEnd b.fEnd):=by
 unfold ZgI;rw[ZFO];rfl
def mrg:Prs->Prs->Prs | [],ys=>ys|x :: xs,[]=>x :: xs|x :: xs,y :: ys=>if ltP y x=true then y :: mrg (x :: xs) ys else x :: mrg xs (y :: ys)
termination_by xs ys=>xs.length+ys.length
theorem Zjx(xs:Prs):mrg xs []=xs:=by cases xs<;>simp[mrg]
theorem Zgf(xs:Prs):mrg [] xs=xs:=by simp[mrg]
theorem ZkM{x y:Zaa}(xs ys:Prs)(h:ltP y x=true):mrg (x :: xs) (y :: ys)=y :: mrg (x :: xs) ys:=by rw[mrg,if_pos h]
theorem ZlM{x y:Zaa}(xs ys:Prs)(h:ltP y x=false):mrg (x :: xs) (y :: ys)=x :: mrg xs (y :: ys):=by rw[mrg,if_neg (by simp[h])]
theorem ZDr:∀(n:Nat)(a b c:Prs),a.length+b.length+c.length<=n->mrg (mrg a b) c=mrg a (mrg b c):=by
 intro n;induction n with
 |zero=>
  intro a b c h;obtain rfl:=List.eq_nil_of_length_eq_zero (show a.length=0 by omega);rw[Zgf,Zgf]
 |succ n ih=>
  intro a b c h;cases a with
  |nil=>rw[Zgf,Zgf]
  |cons x a=>
   cases b with
   |nil=>rw[Zjx,Zgf]
   |cons y b=>
    cases c with
    |nil=>rw[Zjx,Zjx]
    |cons z c=>
     simp only[List.length_cons]at h;cases h1:ltP y x with
     |true=>
      rw[ZkM _ _ h1];cases h2:ltP z y with
      |true=>
       rw[ZkM _ _ h2,ZkM _ _ h2,ZkM _ _ (ZDt h2 h1),<-ZkM a b h1,ih (x :: a) (y :: b) c (by simp only[List.length_cons];omega)]
      |false=>
       rw[ZlM _ _ h2,ZlM _ _ h2,ZkM _ _ h1,ih (x :: a) b (z :: c) (by simp only[List.length_cons];omega)]
     |false=>
      rw[ZlM _ _ h1];cases h3:ltP z x with
      |true=>
       have h2:=ZwB h3 h1;rw[ZkM _ _ h3,ZkM _ _ h2,ZkM _ _ h3,<-ZlM a b h1,ih (x :: a) (y :: b) c (by simp only[List.length_cons];omega)]
      |false=>
       rw[ZlM _ _ h3,ih a (y :: b) (z :: c) (by simp only[List.length_cons];omega)];cases h2:ltP z y with
       |true=>rw[ZkM _ _ h2,ZlM _ _ h3]
       |false=>rw[ZlM _ _ h2,ZlM _ _ h1]
theorem Zpt:∀(n:Nat)(x1 x2 y1 y2:Prs),x1.length+y1.length<=n->(∀y∈y1,∀x∈x2,ltP y x=true)->(∀x∈x1,∀y∈y2,ltP y x=false)->mrg (x1++x2) (y1++y2)=mrg x1 y1++mrg x2 y2:=by
 intro n;induction n with
 |zero=>
  intro x1 x2 y1 y2 h _ _;obtain rfl:=List.eq_nil_of_length_eq_zero (show x1.length=0 by omega);obtain rfl:=List.eq_nil_of_length_eq_zero (show y1.length=0 by omega);simp[Zgf]
 |succ n ih=>
  intro x1 x2 y1 y2 h h1 h2;cases x1 with
  |nil=>
   cases y1 with
   |nil=>simp[Zgf]
   |cons y y1=>
    cases x2 with
    |nil=>simp[Zgf]
    |cons x x2=>
     simp only[List.length_cons,List.length_nil]at h;rw[List.nil_append,List.cons_append,ZkM _ _ (h1 y (by simp) x (by simp)),Zgf];have:=ih [] (x :: x2) y1 y2 (by simp only[List.length_nil];omega) (fun y' iN=>h1 y' (by simp[iN])) (by simp);rw[List.nil_append,Zgf]at this;rw[this];rfl
  |cons x x1=>
   cases y1 with
   |nil=>
    cases y2 with
    |nil=>simp[Zjx]
    |cons y y2=>
     simp only[List.length_cons,List.length_nil]at h;rw[List.nil_append,List.cons_append,ZlM _ _ (h2 x (by simp) y (by simp)),Zjx];have:=ih x1 x2 [] (y :: y2) (by simp only[List.length_nil];omega) (by simp) (fun x' iQ=>h2 x' (by simp[iQ]));rw[List.nil_append,Zjx]at this;rw[this];rfl
   |cons y y1=>
    simp only[List.length_cons]at h;rw[List.cons_append,List.cons_append];cases h3:ltP y x with
    |true=>
     rw[ZkM _ _ h3,ZkM _ _ h3,<-List.cons_append,ih (x :: x1) x2 y1 y2 (by simp only[List.length_cons];omega) (fun y' iN=>h1 y' (by simp[iN])) h2];rfl
    |false=>
     have:=ih x1 x2 (y :: y1) y2 (by simp only[List.length_cons];omega) h1 (fun x' iQ=>h2 x' (by simp[iQ]));rw[List.cons_append]at this;rw[ZlM _ _ h3,ZlM _ _ h3,this];rfl
theorem ZDq:∀(n:Nat)(a b:Prs),a.length+b.length<=n->(mrg a b).length=a.length+b.length:=by
 intro n;induction n with
 |zero=>
  intro a b h;obtain rfl:=List.eq_nil_of_length_eq_zero (show a.length=0 by omega);simp[Zgf]
 |succ n ih=>
  intro a b h;cases a with
  |nil=>simp[Zgf]
  |cons x a=>
   cases b with
   |nil=>simp[Zjx]
   |cons y b=>
    simp only[List.length_cons]at h ⊢;cases h3:ltP y x with
    |true=>rw[ZkM _ _ h3,List.length_cons,ih _ _ (by simp only[List.length_cons];omega)];simp only[List.length_cons];omega
    |false=>rw[ZlM _ _ h3,List.length_cons,ih _ _ (by simp only[List.length_cons];omega)];simp only[List.length_cons];omega
theorem ZDp:∀(n:Nat)(a b:Prs),a.length+b.length<=n->∀z∈mrg a b,z∈a\/z∈b:=by
 intro n;induction n with
 |zero=>
  intro a b h z hz;obtain rfl:=List.eq_nil_of_length_eq_zero (show a.length=0 by omega);rw[Zgf]at hz;exact .inr hz
 |succ n ih=>
  intro a b h z hz;cases a with
  |nil=>rw[Zgf]at hz;exact .inr hz
  |cons x a=>
   cases b with
   |nil=>rw[Zjx]at hz;exact .inl hz
   |cons y b=>
    simp only[List.length_cons]at h;cases h3:ltP y x with
    |true=>
     rw[ZkM _ _ h3]at hz;rcases List.mem_cons.1 hz with hz|hz
     ·exact .inr (by simp[hz])
     ·rcases ih _ _ (by simp only[List.length_cons];omega) z hz with q|q
      ·exact .inl q
      ·exact .inr (by simp[q])
    |false=>
     rw[ZlM _ _ h3]at hz;rcases List.mem_cons.1 hz with hz|hz
     ·exact .inl (by simp[hz])
     ·rcases ih _ _ (by simp only[List.length_cons];omega) z hz with q|q
      ·exact .inl (by simp[q])
      ·exact .inr q
def SrtP(l:Prs):Prop:=l.Pairwise fun x y=>ltP y x=false
theorem ZFB{x y:Zaa}(h:ltP x y=true):ltP y x=false:=by
 rw[ZlO]at h;rw[ZsB];intro h2;have:=ZrQ.2 h2;omega
theorem ZHp:∀(n:Nat)(a b:Prs),a.length+b.length<=n->SrtP a->SrtP b->SrtP (mrg a b):=by
 intro n;induction n with
 |zero=>
  intro a b h ha hb;obtain rfl:=List.eq_nil_of_length_eq_zero (show a.length=0 by omega);rw[Zgf];exact hb
 |succ n ih=>
  intro a b h ha hb;cases a with
  |nil=>rw[Zgf];exact hb
  |cons x a=>
   cases b with
   |nil=>rw[Zjx];exact ha
   |cons y b=>
    simp only[List.length_cons]at h;have cA:=List.pairwise_cons.1 ha;have aF:=List.pairwise_cons.1 hb;cases h3:ltP y x with
    |true=>
     rw[ZkM _ _ h3];refine List.pairwise_cons.2 ⟨fun z hz=>?_,ih _ _ (by simp only[List.length_cons];omega) ha aF.2⟩;rcases ZDp _ _ _ (Nat.le_refl _) z hz with q|q
     ·have:ltP x y=false:=ZFB h3;rcases List.mem_cons.1 q with q|q
      ·rw[q];exact this
      ·exact ZlN (cA.1 z q) this
     ·exact aF.1 z q
    |false=>
     rw[ZlM _ _ h3];refine List.pairwise_cons.2 ⟨fun z hz=>?_,ih _ _ (by simp only[List.length_cons];omega) cA.2 hb⟩;rcases ZDp _ _ _ (Nat.le_refl _) z hz with q|q
     ·exact cA.1 z q
     ·rcases List.mem_cons.1 q with q|q
      ·rw[q];exact h3
      ·exact ZlN (aF.1 z q) h3
def Zer(l:Prs):Prs:=l.foldl (fun o x=>mrg o [x]) []
theorem ZlQ(l:Prs)(x:Zaa):Zer (l++[x])=mrg (Zer l) [x]:=by unfold Zer;rw[List.foldl_append];rfl
theorem ZsD(xs ys:Prs):Zer (xs++ys)=mrg (Zer xs) (Zer ys):=by
 have:∀n,n<=ys.length->Zer (xs++ys.take n)=mrg (Zer xs) (Zer (ys.take n)):=by
  intro n;induction n with
  |zero=>intro _;simp[Zer,Zjx]
  |succ n ih=>
   intro h;rw[List.take_succ_eq_append_getElem (show n<ys.length by omega),<-List.append_assoc,ZlQ,ZlQ,ih (by omega),ZDr _ _ _ _ (Nat.le_refl _)]
 have h:=this ys.length (Nat.le_refl _);rwa [List.take_length]at h
theorem Zja(l:Prs):(Zer l).length=l.length:=by
 have:∀n,n<=l.length->(Zer (l.take n)).length=n:=by
  intro n;induction n with
  |zero=>intro _;simp[Zer]
  |succ n ih=>
   intro h;rw[List.take_succ_eq_append_getElem (show n<l.length by omega),ZlQ,ZDq _ _ _ (Nat.le_refl _),ih (by omega)];rfl
 have h:=this l.length (Nat.le_refl _);rwa [List.take_length]at h
theorem ZlP(l:Prs):SrtP (Zer l):=by
 have:∀n,n<=l.length->SrtP (Zer (l.take n)):=by
  intro n;induction n with
  |zero=>intro _;simp[Zer,SrtP]
  |succ n ih=>
   intro h;rw[List.take_succ_eq_append_getElem (show n<l.length by omega),ZlQ];exact ZHp _ _ _ (Nat.le_refl _) (ih (by omega)) (by simp[SrtP])
 have h:=this l.length (Nat.le_refl _);rwa [List.take_length]at h
theorem Zwx{o1 o2:Prs}{x:Zaa}(h1:∀y∈o1,ltP x y=false)(h2:∀y∈o2,ltP x y=true):mrg (o1++o2) [x]=o1++x :: o2:=by
 have a:=Zpt _ o1 o2 [x] [] (Nat.le_refl _) (fun y hy z hz=>by rw[List.mem_singleton.1 hy];exact h2 z hz) (by simp);have b:=Zpt _ o1 [] [] [x] (Nat.le_refl _) (by simp) (fun z hz y hy=>by rw[List.mem_singleton.1 hy];exact h1 z hz);simp only[List.append_nil,List.nil_append,Zjx,Zgf]at a b;rw[a,b];simp
theorem ZHn{o1 o2:Prs}{x:Zaa}(h1:∀y∈o1,ltP y x=true)(h2:∀y∈o2,ltP y x=false):mrg [x] (o1++o2)=o1++x :: o2:=by
 have a:=Zpt _ [] [x] o1 o2 (Nat.le_refl _) (fun y hy z hz=>by rw[List.mem_singleton.1 hz];exact h1 y hy) (by simp);have b:=Zpt _ [x] [] [] o2 (Nat.le_refl _) (by simp) (fun z hz y hy=>by rw[List.mem_singleton.1 hz];exact h2 y hy);simp only[List.append_nil,List.nil_append,Zjx,Zgf]at a b;rw[a,b];simp
theorem ZFk(o:Prs)(x:Zaa)(hs:SrtP o)(hl:o.length<=900000):ZgQ o x=some (mrg o [x]):=by
 have hm:o.length<=maxLen:=by unfold maxLen;omega
 have aP:∀(fu i:Nat),i<=o.length->o.length-i<fu->(∀y∈o.take i,ltP x y=false)->ZdD o fu (i:Int) x=some (mrg o [x]):=by
  intro fu;induction fu with
  |zero=>intro _ _ h;omega
  |succ fu ih=>
   intro i hi hf bV;unfold ZdD;have bx:(∀y∈o.drop i,ltP x y=true)->o.take i++[x]++o.drop i=mrg o [x]:=fun h=>by
    have:=Zwx bV h;rw[List.take_append_drop]at this;rw[this];simp
   have lt:(o.take i).length=i:=by simp;omega
   have ld:(o.drop i).length=o.length-i:=by simp
   have n1:(o.take i).length * 80<=140737488355328/\(o.take i).length<=maxLen:=by rw[lt];unfold maxLen;omega
   have n2:(o.take i++[x]).length * 80<=140737488355328/\(o.take i++[x]).length<=maxLen:=by simp only[List.length_append,lt,List.length_singleton,maxLen];omega
   have n3:(o.take i++[x]++o.drop i).length * 80<=140737488355328/\(o.take i++[x]++o.drop i).length<=maxLen:=by simp only[List.length_append,lt,ld,List.length_singleton,maxLen];omega
   simp only[Zal,Int.toNat_natCast,List.nil_append,Zaw n1,Zaw n2,Zaw n3];by_cases h:i<o.length
   ·rw[if_pos (by omega),Zaw ⟨by omega,by omega⟩,Zwi,ZaS];have e1:Zar (i:Int) 1=((i+1:Nat):Int):=add1 h hm;have hd:=Zee o Zaa.d i h;by_cases hc:cmpE (o.getD i Zaa.d).fEnd x.fEnd<=0
    ·rw[if_pos hc,e1];refine ih (i+1) (by omega) (by omega) fun y hy=>?_;rw[List.take_succ_eq_append_getElem h,<-Zdf o Zaa.d i h]at hy;rcases List.mem_append.1 hy with q|q
     ·exact bV y q
     ·rw[List.mem_singleton.1 q,ZsB];intro h2;have:=ZrQ.2 h2;omega
    ·rw[if_neg hc,Zaw ⟨by omega,by omega⟩,bx];intro y hy;have hx:ltP x (o.getD i Zaa.d)=true:=by rw[ZlO];exact ZrQ.1 (by omega)
     rw[hd]at hy;have hp:SrtP (o.drop i):=List.Pairwise.sublist (List.drop_sublist i o) hs;rw[hd]at hp;rcases List.mem_cons.1 hy with q|q
     ·rw[q];exact hx
     ·exact ZwB hx ((List.pairwise_cons.1 hp).1 y q)
   ·rw[if_neg (by omega),Zaw ⟨by omega,by omega⟩,bx];intro y hy;rw[List.drop_eq_nil_of_le (by omega)]at hy;cases hy
 unfold ZgQ;have:=aP ((((o.length:Nat):Int)-(0:Int)).toNat+2) 0 (by omega) (by omega) (by simp);exact this
theorem ZBC(l:Prs)(hl:l.length<=900000):Zfn l=some (Zer l):=by
 have hm:l.length<=maxLen:=by unfold maxLen;omega
 have aP:∀(fu i:Nat),i<=l.length->l.length-i<fu->ZcP l fu (i:Int) (Zer (l.take i))=some (Zer l):=by
  intro fu;induction fu with
  |zero=>intro _ _ h;omega
  |succ fu ih=>
   intro i hi hf;unfold ZcP;simp only[Zal,Int.toNat_natCast];by_cases h:i<l.length
   ·have e1:Zar (i:Int) 1=((i+1:Nat):Int):=add1 h hm;rw[if_pos (by omega),Zaw ⟨by omega,by omega⟩,ZFk _ _ (ZlP _) (by rw[Zja];simp;omega),ZaS,e1,<-ZlQ,Zdf l _ i h,<-List.take_succ_eq_append_getElem h];exact ih (i+1) (by omega) (by omega)
   ·rw[if_neg (by omega),List.take_of_length_le (by omega)]
 unfold Zfn;have:=aP ((((l.length:Nat):Int)-(0:Int)).toNat+2) 0 (by omega) (by omega);exact this
theorem snoc{α:Type}:∀(l:List α),l.length≠0->∃T s,l=T++[s]
 | [x],_=>⟨[],x,rfl⟩
 |x :: y :: l,_=>by
  obtain⟨T,s,h⟩:=snoc (y :: l) (by simp)
  exact⟨x :: T,s,by rw[h];rfl⟩
theorem ZFa{T:Prs}{s x:Zaa}(h:SrtP (T++[s]))(hx:ltP x s=false):∀y∈T++[s],ltP x y=false:=by
 intro y hy;rcases List.mem_append.1 hy with q|q
 ·exact ZlN hx ((List.pairwise_append.1 h).2.2 y q s (by simp))
 ·rw[List.mem_singleton.1 q];exact hx
theorem ZDy(P:Prs)(x:Zaa)(R:Prs)(a2 v8:Int)(k:Int->Prs->Option Prs):∀(n:Nat)(S1 S2:Prs)(fu:Nat),S1.length=n->SrtP S1->(∀y∈S2,ltP x y=true)->n+1<=fu->P.length+S1.length+S2.length+R.length<=900000 ->
  ZaT (P.length:Int) a2 v8 k fu ((P.length+n:Nat):Int) (P++(S1++(x :: (S2++R))))=k (Zar v8 1) (P++(mrg (S1++S2) [x]++R)):=by
 intro n;induction n with
 |zero=>
  intro S1 S2 fu h1 hs h2 hf hb;obtain⟨fu,rfl⟩ : ∃x,fu=x+1:=⟨fu-1,by omega⟩;obtain rfl:=List.eq_nil_of_length_eq_zero h1;unfold ZaT;rw[Zal,if_neg (by omega),Zwx (o1:=[]) (by simp) h2];simp
 |succ n ih=>
  intro S1 S2 fu h1 hs h2 hf hb;obtain⟨fu,rfl⟩ : ∃x,fu=x+1:=⟨fu-1,by omega⟩;obtain⟨T,s,rfl⟩:=snoc S1 (by omega);have hT:T.length=n:=by simpa using h1
  have e1:ZaV ((P.length+(n+1):Nat):Int) 1=((P.length+n:Nat):Int):=by rw[ZdK (by omega) (by omega)];omega
  have hl:(P++(T++[s]++(x :: (S2++R)))).length=P.length+(n+1)+1+S2.length+R.length:=by simp;omega
  unfold ZaT;rw[Zal,if_pos (by omega),e1,Zaw (by rw[hl];omega),Zaw (by rw[hl];omega)];simp only[Int.toNat_natCast];have g1:(P++(T++[s]++(x :: (S2++R)))).getD (P.length+(n+1)) Zaa.d=x:=Zqx (L:=P++(T++[s])) (R:=S2++R) (by simp) (by simp;omega);have g2:(P++(T++[s]++(x :: (S2++R)))).getD (P.length+n) Zaa.d=s:=Zqx (L:=P++T) (R:=x :: (S2++R)) (by simp) (by simp;omega);rw[g1,g2,ZsU,ZaS,Zal];by_cases hc:cmpE x.fEnd s.fEnd<0
  ·have hx:ltP x s=true:=ZlO.2 hc;have s1:(P++(T++[s]++(x :: (S2++R)))).set (P.length+(n+1)) s=P++(T++(s :: (s :: (S2++R)))):=by
    rw[Zsz (L:=P++(T++[s])) (x:=x) (R:=S2++R) (by simp) (by simp;omega)];simp
   have s2:(P++(T++(s :: (s :: (S2++R))))).set (P.length+n) x=P++(T++(x :: (s :: S2++R))):=by
    rw[Zsz (L:=P++T) (x:=s) (R:=s :: (S2++R)) (by simp) (by simp;omega)];simp
   rw[if_pos hc,s1,s2];have:=ih T (s :: S2) fu hT (List.pairwise_append.1 hs).1 (fun y hy=>by
    rcases List.mem_cons.1 hy with q|q
    ·rw[q];exact hx
    ·exact h2 y q) (by omega) (by simp only[List.length_append,List.length_singleton,List.length_cons]at hb ⊢;omega)
   rw[this];simp
  ·rw[if_neg hc,Zwx (ZFa hs (ZsB.2 hc)) h2];simp
theorem ZGG(P L Q:Prs)(hb:P.length+L.length+Q.length<=900000)(a b:Int)(ha:a=(P.length:Int))(ie:b=((P.length+L.length:Nat):Int)) :
  Zbv (P++(L++Q)) a b=some (P++(Zer L++Q)):=by
 subst ha ie;have e0:Zar (P.length:Int) 1=((P.length+1:Nat):Int):=by rw[Zcx (by omega) (by omega)];omega
 unfold Zbv;rw[e0];cases hL:L with
 |nil=>
  unfold ZaI;rw[Zal,if_neg (by simp;omega)];simp[Zer]
 |cons z Z=>
  rw[<-hL];have eR:1<=L.length:=by rw[hL];simp
  have aP:∀(j k fu:Nat),L.length-k=j->1<=k->k<=L.length->j+1<=fu->ZaI (P.length:Int) ((P.length+L.length:Nat):Int) fu ((P.length+k:Nat):Int) (P++(Zer (L.take k)++(L.drop k++Q)))=some (P++(Zer L++Q)):=by
   intro j;induction j with
   |zero=>
    intro k fu hj h1 hk hf;obtain⟨fu,rfl⟩ : ∃x,fu=x+1:=⟨fu-1,by omega⟩;unfold ZaI;rw[Zal,if_neg (by omega),List.take_of_length_le (by omega),List.drop_eq_nil_of_le (by omega)];rfl
   |succ j ih=>
    intro k fu hj h1 hk hf;obtain⟨fu,rfl⟩ : ∃x,fu=x+1:=⟨fu-1,by omega⟩;unfold ZaI;have il:=Zja (L.take k);rw[List.length_take,Nat.min_eq_left hk]at il;have e1:Zar ((P.length+k:Nat):Int) 1=((P.length+(k+1):Nat):Int):=by rw[Zcx (by omega) (by omega)];omega
    rw[Zal,if_pos (by omega),Zee L Zaa.d k (by omega)];have:=ZDy P (L.getD k Zaa.d) (L.drop (k+1)++Q) ((P.length+L.length:Nat):Int) ((P.length+k:Nat):Int) (ZaI (P.length:Int) ((P.length+L.length:Nat):Int) fu) k (Zer (L.take k)) [] ((((P.length+k:Nat):Int)-(P.length:Int)).toNat+2) il (ZlP _) (by simp) (by omega) (by simp[il];omega);simp only[List.nil_append,List.append_nil,List.cons_append]at this ⊢;rw[this,e1,<-ZlQ,Zdf L _ k (by omega),<-List.take_succ_eq_append_getElem (by omega)];exact ih (k+1) fu (by omega) (by omega) (by omega) (by omega)
  have h1:Zer (L.take 1)=L.take 1:=by rw[hL];simp[Zer,Zgf]
  have:=aP (L.length-1) 1 ((((P.length+L.length:Nat):Int)-((P.length+1:Nat):Int)).toNat+2) rfl (Nat.le_refl _) eR (by omega);rw[h1,<-List.append_assoc (L.take 1),List.take_append_drop]at this;exact this
def inI(n a b:Int):Bool:=decide (a<=n)&&decide (n<=b)
def nowB(x:Zaz):Bool:=inI x.fNow 0 1099511627776
def ZiI(x:Zaz):Bool:=if x.fKind=1\/x.fKind=12\/x.fKind=13 then Zlm x.fEnd&&nowB x else if x.fKind=2 then Zlm x.fEnd else if x.fKind=3\/x.fKind=9 then nowB x else if x.fKind=4 then Zlm x.fEnd&&(nowB x&&inI x.fNum 0 1073741824)else if x.fKind=5 then Zlm x.fEnd&&(inI x.fNum 1 5&&nowB x)else if x.fKind=6 then Zhl x.fNet&&(inI x.fNum 1 1099511627776&&nowB x)else if x.fKind=7 then Zhl x.fNet else if x.fKind=8 then ZeG x.fEnd.fAddr&&nowB x else if x.fKind=10 then true else if x.fKind=11 then Zlm x.fEnd&&inI x.fNum 1 1048576 else false
def Zzf(x:Zaz)(s:Int×Int)(p:Int):Bool:=if p=0 then Zlm x.fEnd else if p=1 then Zhl x.fNet else if p=2 then ZeG x.fEnd.fAddr else if p=3 then nowB x else if p=4 then inI x.fNum s.1 s.2 else true
theorem ZzW(x:Zaz)(hx:x.ok)(s:Int×Int)(hs:ZkB x.fKind=some s)(p:Int):Zla x p=some (Zzf x s p):=by
 have he:x.fEnd.ok:=hx.2.1;have hn:x.fNet.ok:=hx.2.2.1;unfold Zla Zzf;simp only[ZdI,ZCf _ he,ZkF _ hn.1,ZlI _ he.1,hs,Option.bind_some,nowB,inI,Zal]
 repeat' split
 all_goals first|rfl | (simp_all;done) | (simp_all;omega)
theorem ZzX(x:Zaz)(hx:x.ok)(s:Int×Int)(hs:ZkB x.fKind=some s)(l:List Int)(hl:l.length<=100):Zew ((((l.length:Nat):Int)-(0:Int)).toNat+2) l (l.length:Int) 0 x=some (l.all (Zzf x s)):=by
 have hL:l.length<=maxLen:=by unfold maxLen;omega
 have aP:∀fu (i:Nat),i<=l.length->l.length-i<fu->Zew fu l (l.length:Int) (i:Int) x=some ((l.drop i).all (Zzf x s)):=by
  intro fu;induction fu with
  |zero=>intro i _ h;omega
  |succ fu ih=>
   intro i hi hf;unfold Zew;simp only[Zal];by_cases h:i<l.length
   ·rw[if_pos (by omega),Zaw ⟨by omega,by omega⟩,ZzW x hx s hs,Option.bind_some,add1 h hL,Zee l (0:Int) i h,List.all_cons,Int.toNat_natCast];cases Zzf x s (l.getD i 0)with
    |true=>simp only[Bool.not_true,cond_false,Bool.true_and];exact ih (i+1) (by omega) (by omega)
    |false=>rfl
   ·rw[if_neg (by omega),List.drop_of_length_le (by omega)];rfl
 exact aP _ 0 (by omega) (by omega)
theorem ZEk(k:Int):∃t,Zmc k=some t/\((t.toList==(⟨#[]⟩ : ByteArray).toList) = !(decide (1<=k)&&decide (k<=13))):=by
 unfold Zmc ZmV Zry;simp only[Option.bind_some,Zal];by_cases h0:k<0
 ·rw[if_pos h0];refine⟨_,rfl,?_⟩;rw[decide_eq_false (show ¬1<=k by omega)];simp
 ·rw[if_neg h0];by_cases h1:k>=14
  ·have h2:k>=(([(⟨#[]⟩ : ByteArray),(⟨#[97,99,99,101,112,116]⟩ : ByteArray),(⟨#[108,101,97,118,101]⟩ : ByteArray),(⟨#[100,105,97,108]⟩ : ByteArray),(⟨#[114,101,115,117,108,116]⟩ : ByteArray),(⟨#[98,108,97,109,101]⟩ : ByteArray),(⟨#[98,97,110]⟩ : ByteArray),(⟨#[117,110,98,97,110]⟩ : ByteArray),(⟨#[98,97,110,110,101,100]⟩ : ByteArray),(⟨#[116,105,99,107]⟩ : ByteArray),(⟨#[108,105,115,116]⟩ : ByteArray),(⟨#[112,111,110,103]⟩ : ByteArray),(⟨#[119,111,114,107]⟩ : ByteArray),(⟨#[108,101,97,114,110]⟩ : ByteArray)]:List ByteArray).length:Int):=h1;rw[if_pos h2];refine⟨_,rfl,?_⟩;rw[decide_eq_true (show 1<=k by omega),decide_eq_false (show ¬k<=13 by omega)];simp
  ·obtain h|h|h|h|h|h|h|h|h|h|h|h|h|h:k=0\/k=1\/k=2\/k=3\/k=4\/k=5\/k=6\/k=7\/k=8\/k=9\/k=10\/k=11\/k=12\/k=13:=by omega
   all_goals subst h;exact⟨_,rfl,by decide +kernel⟩
theorem ZCl(x:Zaz)(hx:x.ok):Zlb x=some (ZiI x):=by
 obtain⟨t,h1,h2⟩:=ZEk x.fKind;unfold Zlb;rw[h1,Option.bind_some,h2];by_cases hk:1<=x.fKind/\x.fKind<=13
 ·rw[decide_eq_true hk.1,decide_eq_true hk.2];simp only[Bool.and_self,Bool.not_true,cond_false];have key:∀(k:Int)(l:List Int)(s:Int×Int),x.fKind=k->ZjH k=some l->ZkB k=some s->l.length<=100->l.all (Zzf x s)=ZiI x->((ZjH x.fKind).bind fun x2=>Zew ((((x2.length:Nat):Int)-(0:Int)).toNat+2) x2 ((x2.length:Nat):Int) (0:Int) x)=some (ZiI x):=by
   intro k l s e h3 h4 h5 h6;rw[e,h3,Option.bind_some,ZzX x hx s (by rw[e];exact h4) l h5,h6]
  obtain h|h|h|h|h|h|h|h|h|h|h|h|h:x.fKind=1\/x.fKind=2\/x.fKind=3\/x.fKind=4\/x.fKind=5\/x.fKind=6\/x.fKind=7\/x.fKind=8\/x.fKind=9\/x.fKind=10\/x.fKind=11\/x.fKind=12\/x.fKind=13:=by omega
  all_goals exact key _ _ _ h rfl rfl (by simp) (by simp[ZiI,h,Zzf])
 ·have hf:(decide (1<=x.fKind)&&decide (x.fKind<=13))=false:=by
   rw[Bool.and_eq_false_iff,decide_eq_false_iff_not,decide_eq_false_iff_not];omega
  rw[hf];simp only[Bool.not_false,cond_true];unfold ZiI
  repeat' rw[if_neg (by omega)]
theorem ZBE(x:Zaz)(hx:x.ok)(a b:Int)(s:ByteArray)(L:List Int)(hL:L.length=s.size)(h:∀i:Nat,i<s.size->((Zkr s i:Nat):Int)=L.getD i 0)(hs:s.size<=100) :
  Zbo a b x ((((s.size:Nat):Int)-(0:Int)).toNat+2) s 0=some (L.all fun c=>if c=101 then Zlm x.fEnd else if c=110 then Zhl x.fNet else if c=97 then ZeG x.fEnd.fAddr else if c=116 then nowB x else if c=107 then inI x.fNum a b else true):=by
 have he:x.fEnd.ok:=hx.2.1;have hn:x.fNet.ok:=hx.2.2.1;have aP:∀fu (i:Nat),i<=s.size->s.size-i<fu->Zbo a b x fu s (i:Int)=some ((L.drop i).all fun c=>if c=101 then Zlm x.fEnd else if c=110 then Zhl x.fNet else if c=97 then ZeG x.fEnd.fAddr else if c=116 then nowB x else if c=107 then inI x.fNum a b else true):=by
  intro fu;induction fu with
  |zero=>intro i _ h;omega
  |succ fu ih=>
   intro i hi hf;unfold Zbo;simp only[Zal,ZdI,Zpn _ he,ZrZ _ hn.1,Zns _ he.1,Option.bind_some];by_cases hlt:i<s.size
   ·rw[if_pos (by omega),Zaw ⟨by omega,by omega⟩,add1 (n:=s.size) hlt (by unfold maxLen;omega),Zee L (0:Int) i (by omega),List.all_cons,Int.toNat_natCast,h i hlt,ih (i+1) (by omega) (by omega)];generalize hR:((L.drop (i+1)).all fun c=>if c=101 then Zlm x.fEnd else if c=110 then Zhl x.fNet else if c=97 then ZeG x.fEnd.fAddr else if c=116 then nowB x else if c=107 then inI x.fNum a b else true)=R;have kF:∀q:Bool,(bif !q then some false else some R)=some (q&&R):=fun q=>by cases q<;>rfl
    simp only[kF];have rng:∀n lo hi:Int,(if n<lo then some false else if n>hi then some false else some R)=some (inI n lo hi&&R):=fun n lo hi=>by
     unfold inI;by_cases h1:n<lo
     ·rw[if_pos h1,decide_eq_false (by omega)];rfl
     ·rw[if_neg h1,decide_eq_true (show lo<=n by omega)];by_cases h2:n>hi
      ·rw[if_pos h2,decide_eq_false (by omega)];rfl
      ·rw[if_neg h2,decide_eq_true (show n<=hi by omega)];rfl
    simp only[rng];unfold nowB
    repeat' split
    all_goals first|rfl|omega
   ·rw[if_neg (by omega),List.drop_of_length_le (by omega)];rfl
 exact aP _ 0 (by omega) (by omega)
theorem ZqM(x:Zaz)(hx:x.ok):ZfF x=some (ZiI x):=by
 unfold ZfF Zdc;simp only[Zal,ZdI];by_cases h1:x.fKind<1
 ·rw[if_pos h1];unfold ZiI
  repeat' rw[if_neg (by omega)]
 ·rw[if_neg h1];by_cases h2:x.fKind>13
  ·rw[if_pos h2];unfold ZiI
   repeat' rw[if_neg (by omega)]
  ·rw[if_neg h2];have key:∀(k a b:Int)(s:ByteArray)(L:List Int),x.fKind=k->ZfE k=some s->L.length=s.size->(∀i:Nat,i<s.size->((Zkr s i:Nat):Int)=L.getD i 0)->s.size<=100 ->
     (L.all fun c=>if c=101 then Zlm x.fEnd else if c=110 then Zhl x.fNet else if c=97 then ZeG x.fEnd.fAddr else if c=116 then nowB x else if c=107 then inI x.fNum a b else true)=ZiI x ->
     ((ZfE x.fKind).bind fun x1=>Zbo a b x ((((x1.size:Nat):Int)-(0:Int)).toNat+2) x1 (0:Int))=some (ZiI x):=by
    intro k a b s L e h3 h4 h5 h6 h7;rw[e,h3,Option.bind_some,ZBE x hx a b s L h4 h5 h6,h7]
   obtain h|h|h|h|h|h|h|h|h|h|h|h|h:x.fKind=1\/x.fKind=2\/x.fKind=3\/x.fKind=4\/x.fKind=5\/x.fKind=6\/x.fKind=7\/x.fKind=8\/x.fKind=9\/x.fKind=10\/x.fKind=11\/x.fKind=12\/x.fKind=13:=by omega
   ·rw[if_neg (by omega),if_neg (by omega),if_neg (by omega)];exact key 1 _ _ _ [101,116] h rfl rfl (by decide) (by decide) (by simp[ZiI,h])
   ·rw[if_neg (by omega),if_neg (by omega),if_neg (by omega)];exact key 2 _ _ _ [101] h rfl rfl (by decide) (by decide) (by simp[ZiI,h])
   ·rw[if_neg (by omega),if_neg (by omega),if_neg (by omega)];exact key 3 _ _ _ [116] h rfl rfl (by decide) (by decide) (by simp[ZiI,h])
   ·rw[if_neg (by omega),if_neg (by omega),if_neg (by omega)];exact key 4 _ _ _ [101,103,116,107] h rfl rfl (by decide) (by decide) (by simp[ZiI,h])
   ·rw[if_pos h];exact key 5 _ _ _ [101,107,116] h rfl rfl (by decide) (by decide) (by simp[ZiI,h])
   ·rw[if_neg (by omega),if_pos h];exact key 6 _ _ _ [110,107,116] h rfl rfl (by decide) (by decide) (by simp[ZiI,h])
   ·rw[if_neg (by omega),if_neg (by omega),if_neg (by omega)];exact key 7 _ _ _ [110] h rfl rfl (by decide) (by decide) (by simp[ZiI,h])
   ·rw[if_neg (by omega),if_neg (by omega),if_neg (by omega)];exact key 8 _ _ _ [97,116] h rfl rfl (by decide) (by decide) (by simp[ZiI,h])
   ·rw[if_neg (by omega),if_neg (by omega),if_neg (by omega)];exact key 9 _ _ _ [116] h rfl rfl (by decide) (by decide) (by simp[ZiI,h])
   ·rw[if_neg (by omega),if_neg (by omega),if_neg (by omega)];exact key 10 _ _ _ [] h rfl rfl (by decide) (by decide) (by simp[ZiI,h])
   ·rw[if_neg (by omega),if_neg (by omega),if_pos h];exact key 11 _ _ _ [101,107] h rfl rfl (by decide) (by decide) (by simp[ZiI,h])
   ·rw[if_neg (by omega),if_neg (by omega),if_neg (by omega)];exact key 12 _ _ _ [101,116] h rfl rfl (by decide) (by decide) (by simp[ZiI,h])
   ·rw[if_neg (by omega),if_neg (by omega),if_neg (by omega)];exact key 13 _ _ _ [101,116] h rfl rfl (by decide) (by decide) (by simp[ZiI,h])
def gv(v:Zae):Prop:=v.ok/\v.fBans.length<=5000/\v.fBook.length<=5000
structure Gd (l:List Zae):Prop where
 len:l.length<=400000
 val:∀v∈l,gv v
theorem Gd.drop{l:List Zae}(h:Gd l)(a:Nat):Gd (l.drop a):=⟨by have:=h.len;simp;omega,fun v hv=>h.val v (List.mem_of_mem_drop hv)⟩
def ZiL(k:Int):Zap:=⟨k,endZ,0,0,[]⟩
section
variable {c:ZaA} {x:Zaz} (hx:x.ok)
include hx
end
def ZFP(aK:List Zah):Pr Unit:=(Zms ⟨4,0,0⟩).bind fun v=>Zkl ⟨4,0,0⟩ ⟨0,Zkk,[],v.fBook.map (Zlk aK)⟩ false
def ZEC(aK:List Zaa):Pr Unit:=if cntP aK false>0 then(ZFP (Zlj aK)).bind fun _=>Zwy 2 (-(cntP aK false)) false 1000000 else .ret ()
def ZCq(aK:List Zaa):Pr Unit:=(if cntP aK true>0 then Zwy 1 (-(cntP aK true)) false 1000000 else .ret ()).bind fun _=>ZEC aK
def Zxf:Pr Zap:=(keyP 8 0 true).bind fun _=>.ret (ZiL 1)
section
variable {c:ZaA} {x:Zaz} (hx:x.ok) {l:List Zae} (hl:Gd l)
include hx hl
end
theorem ZAC{n:Int}(h0:0<=n)(h1:n<=1000000):IntKind.wrap .i64 (0-n) = -n:=by
 have:=ZdK (a:=0) (b:=n) (by omega) (by omega);unfold ZaV at this;omega
theorem ZEb(l:List Zaa):(Zlj l).length=l.length:=by simp[Zlj]
section
variable {c:ZaA} {x:Zaz} (hx:x.ok) {l:List Zae} (hl:Gd l)
include hx hl
end
def StrP(l:Prs):Prop:=l.Pairwise fun x y=>ltP x y=true
theorem Zww:∀(n:Nat)(a b:Prs),a.length+b.length<=n->(mrg a b).Perm (a++b)
 | 0,a,b,h=>by
  obtain rfl:=List.eq_nil_of_length_eq_zero (show a.length=0 by omega)
  rw[Zgf];exact List.Perm.refl _
 |n+1,[],b,h=>by rw[Zgf];exact List.Perm.refl _
 |n+1,x :: a,[],h=>by rw[Zjx,List.append_nil]
 |n+1,x :: a,y :: b,h=>by
  simp only[List.length_cons]at h
  cases hc:ltP y x with
  |true=>
   rw[ZkM _ _ hc]
   refine((Zww n (x :: a) b (by simp only[List.length_cons];omega)).cons y).trans ?_
   exact List.perm_middle.symm
  |false=>
   rw[ZlM _ _ hc]
   exact(Zww n a (y :: b) (by simp only[List.length_cons];omega)).cons x
theorem ZBS(l:Prs):(Zer l).Perm l:=by
 have:∀n,n<=l.length->(Zer (l.take n)).Perm (l.take n):=by
  intro n;induction n with
  |zero=>intro _;simp[Zer]
  |succ n ih=>
   intro h;rw[List.take_succ_eq_append_getElem (show n<l.length by omega),ZlQ];exact(Zww _ _ _ (Nat.le_refl _)).trans ((ih (by omega)).append_right _)
 have h:=this l.length (Nat.le_refl _);rwa [List.take_length]at h
theorem Zvi:∀(m l:Prs),SrtP l->StrP m->l.Perm m->l=m
 | [],l,_,_,h=>List.perm_nil.1 h
 |y :: m,l,hl,hm,h=>by
  cases l with
  |nil=>exact absurd h.length_eq (by simp)
  |cons x l=>
   have gA:=List.pairwise_cons.1 hl
   have hm':=List.pairwise_cons.1 hm
   by_cases e:x=y
   ·subst e
    rw[Zvi m l gA.2 hm'.2 h.cons_inv]
   ·have h1:y∈x :: l:=h.symm.subset (by simp)
    have h2:x∈y :: m:=h.subset (by simp)
    rcases List.mem_cons.1 h1 with h1|h1
    ·exact absurd h1.symm e
    ·rcases List.mem_cons.1 h2 with h2|h2
     ·exact absurd h2 e
     ·have q1:=gA.1 y h1
      have q2:=hm'.1 x h2
      rw[q1]at q2;cases q2
theorem ZsC{xs l:Prs}(hl:StrP l)(h:xs.Perm l):Zer xs=l:=Zvi l _ (ZlP xs) hl ((ZBS xs).trans h)
theorem StrP.filter{l:Prs}(h:StrP l)(p:Zaa->Bool):StrP (l.filter p):=List.Pairwise.filter p h
theorem StrP.inj{l:Prs}(h:StrP l){x y:Zaa}(hx:x∈l)(hy:y∈l)(e:x.fEnd=y.fEnd):x=y:=by
 induction l with
 |nil=>cases hx
 |cons z l ih=>
  have hz:=List.pairwise_cons.1 h;have key:∀{w},w∈l->w.fEnd≠z.fEnd:=fun{w} hw ew=>by
   have:=ZlO.1 (hz.1 w hw);rw[Zuy.2 ew.symm]at this;omega
  rcases List.mem_cons.1 hx with h1|h1<;>rcases List.mem_cons.1 hy with h2|h2
  ·rw[h1,h2]
  ·exact absurd (by rw[<-e,h1]) (key h2)
  ·exact absurd (by rw[e,h2]) (key h1)
  ·exact ih hz.2 h1 h2
theorem ZFv{a:Zag}(h:a.ok)(s n:Int):0<=Znd a s n/\Znd a s n<(Zbr n:Int):=by
 obtain⟨_,_,h1,h2⟩:=ZAk a h s n;have:Zpr n=(Zbr n:Int):=by
  unfold Zpr Zbr
  repeat' split
  all_goals omega
 omega
def Zqw(bm aX:Int)(k:Nat)(p:Zaa):Bool:=decide (Znd p.fEnd.fAddr bm aX=(k:Int))
def Zmr(l:Prs)(bm aX:Int)(k:Nat):Prs:=l.filter (Zqw bm aX k)
def shF(a b:Prs):Zad:=⟨(a.length:Int),a++b⟩
abbrev PPs:=List (Prs×Prs)
def shP(ps:PPs):List Zad:=ps.map fun x=>shF x.1 x.2
theorem Znb(ps:PPs):(shP ps).length=ps.length:=by simp[shP]
theorem Zza(ps:PPs){i:Nat}(hi:i<ps.length):(shP ps).getD i Zad.d=shF (ps.getD i ([],[])).1 (ps.getD i ([],[])).2:=by
 simp[shP,List.getD_eq_getElem?_getD,hi]
theorem ZHd(ps:PPs)(i:Nat)(a b:Prs):(shP ps).set i (shF a b)=shP (ps.set i (a,b)):=by
 simp[shP,List.map_set]
def ps0(l:Prs)(bm aX:Int)(n:Nat):PPs:=(List.range n).map fun k=>(Zmr l bm aX k,[])
theorem Zwl(l:Prs)(bm aX:Int)(n:Nat):(ps0 l bm aX n).length=n:=by simp[ps0]
theorem Zuj{α:Type}(p q:α->Bool):∀(l:List α),(∀x∈l,p x=true->q x=false)->(l.filter p++l.filter q).Perm (l.filter fun x=>p x||q x)
 | [],_=>by simp
 |x :: l,h=>by
  have ih:=Zuj p q l fun y hy=>h y (List.mem_cons_of_mem _ hy)
  have hx:=h x (by simp)
  cases hp:p x with
  |true=>
   rw[List.filter_cons_of_pos hp,List.filter_cons_of_neg (by simp[hx hp]),List.filter_cons_of_pos (by simp[hp])]
   exact ih.cons x
  |false=>
   rw[List.filter_cons_of_neg (by simp[hp])]
   cases hq:q x with
   |true=>
    rw[List.filter_cons_of_pos hq,List.filter_cons_of_pos (by simp[hq])]
    exact List.perm_middle.trans (ih.cons x)
   |false=>
    rw[List.filter_cons_of_neg (by simp[hq]),List.filter_cons_of_neg (by simp[hp,hq])]
    exact ih
theorem Zvt(l:Prs)(bm aX:Int):∀(n:Nat),(((List.range n).map (Zmr l bm aX)).flatten).Perm (l.filter fun p=>decide (0<=Znd p.fEnd.fAddr bm aX/\Znd p.fEnd.fAddr bm aX<(n:Int)))
 | 0=>by
  have:(l.filter fun p=>decide (0<=Znd p.fEnd.fAddr bm aX/\Znd p.fEnd.fAddr bm aX<((0:Nat):Int)))=[]:=by
   rw[List.filter_eq_nil_iff];intro p _;simp only[decide_eq_true_eq];omega
  rw[this];simp
 |n+1=>by
  rw[List.range_succ,List.map_append,List.flatten_append];simp only[List.map_cons,List.map_nil,List.flatten_cons,List.flatten_nil,List.append_nil];refine((Zvt l bm aX n).append_right _).trans ?_;unfold Zmr;refine(Zuj _ _ l fun p _ h=>?_).trans ?_
  ·simp only[Zqw,decide_eq_true_eq,decide_eq_false_iff_not]at h ⊢;omega
  ·have:(l.filter fun x=>(decide (0<=Znd x.fEnd.fAddr bm aX/\Znd x.fEnd.fAddr bm aX<(n:Int))||Zqw bm aX n x))=l.filter fun p=>decide (0<=Znd p.fEnd.fAddr bm aX/\Znd p.fEnd.fAddr bm aX<((n+1:Nat):Int)):=by
    apply List.filter_congr;intro p _;unfold Zqw;rw[Bool.eq_iff_iff];simp only[Bool.or_eq_true,decide_eq_true_eq];omega
   rw[this]
theorem ZnZ{l:Prs}(ay:∀p∈l,p.ok)(bm aX:Int):((ps0 l bm aX (Zbr aX)).map (·.1)).flatten.Perm l:=by
 have h:=Zvt l bm aX (Zbr aX);have e:(l.filter fun p=>decide (0<=Znd p.fEnd.fAddr bm aX/\Znd p.fEnd.fAddr bm aX<(Zbr aX:Int)))=l:=by
  rw[List.filter_eq_self];intro p hp;simp only[decide_eq_true_eq];exact ZFv (ay p hp).1.1 bm aX
 rw[e]at h;have e2:(ps0 l bm aX (Zbr aX)).map (·.1)=(List.range (Zbr aX)).map (Zmr l bm aX):=by simp[ps0]
 rw[e2];exact h
def ZGA(L:List Prs)(i:Nat):Prs:=(L.take i).flatten++(L.drop (i+1)).flatten
theorem ZBy(l:Prs)(bm aX:Int)(hl:l.length<=1000)(ay:∀p∈l,p.ok):ZfG l bm aX=some (shP (ps0 l bm aX (Zbr aX))):=by
 have h8:=ZgD aX;have dB:∀(v8:Nat)(w7:List Zad)(kg:Int->List Zad->Option (List Zad)),w7.length<=100->v8<=100->∀(k i fu:Nat),l.length-i=k->i<=l.length->k+1<=fu ->
   Zci l bm aX (v8:Int) kg fu (i:Int) w7 (((Zmr (l.take i) bm aX v8).length:Nat):Int) (Zmr (l.take i) bm aX v8)=kg ((v8+1:Nat):Int) (w7++[shF (Zmr l bm aX v8) []]):=by
  intro v8 w7 kg hw hv k;induction k with
  |zero=>
   intro i fu hk hi hf;obtain⟨fu,rfl⟩ : ∃x,fu=x+1:=⟨fu-1,by omega⟩;have e1:Zar (v8:Int) 1=((v8+1:Nat):Int):=add1 (n:=v8+1) (by omega) (by simp only[maxLen];omega);unfold Zci;rw[Zal,if_neg (by omega),List.take_of_length_le (by omega),Zaw ⟨by simp;omega,by simp[maxLen];omega⟩,e1];unfold shF;rw[List.append_nil]
  |succ k ih=>
   intro i fu hk hi hf;obtain⟨fu,rfl⟩ : ∃x,fu=x+1:=⟨fu-1,by omega⟩;have cC:i<l.length:=by omega
   have e1:Zar (i:Int) 1=((i+1:Nat):Int):=add1 (n:=i+1) (by omega) (by simp only[maxLen];omega);have hle:(Zmr (l.take i) bm aX v8).length<=i:=by
    have:=List.length_filter_le (Zqw bm aX v8) (l.take i);simp only[List.length_take]at this;unfold Zmr;omega
   have dw:l.take (i+1)=l.take i++[l.getD i Zaa.d]:=by rw[List.take_succ_eq_append_getElem cC,Zdf l _ i cC]
   have hp:=(ZAk (l.getD i Zaa.d).fEnd.fAddr (ay _ (Zgq l _ i cC)).1.1 bm aX).2.1;unfold Zci;rw[Zal,if_pos (by omega),Zaw ⟨by omega,by omega⟩,Int.toNat_natCast,hp,ZaS,ZdI];have e2:∀(b:Bool),Zqw bm aX v8 (l.getD i Zaa.d)=b->Zmr (l.take (i+1)) bm aX v8=Zmr (l.take i) bm aX v8++(if b=true then[l.getD i Zaa.d]else[]):=by
    intro b hb;unfold Zmr;rw[dw,List.filter_append];cases b with
    |true=>rw[List.filter_cons_of_pos hb];rfl
    |false=>rw[List.filter_cons_of_neg (by rw[hb];decide)];rfl
   by_cases h:Znd (l.getD i Zaa.d).fEnd.fAddr bm aX=(v8:Int)
   ·rw[if_pos h,Zaw ⟨by simp only[List.length_append,List.length_singleton];omega,by simp only[List.length_append,List.length_singleton,maxLen];omega⟩,e1];have e3:Zar (((Zmr (l.take i) bm aX v8).length:Nat):Int) 1=(((Zmr (l.take i) bm aX v8).length+1:Nat):Int):=add1 (n:=(Zmr (l.take i) bm aX v8).length+1) (by omega) (by simp only[maxLen];omega);have:=ih (i+1) fu (by omega) (by omega) (by omega);rw[e2 true (by unfold Zqw;rw[decide_eq_true_eq];exact h)]at this;simp only[if_true,List.length_append,List.length_singleton]at this;rw[e3];exact this
   ·rw[if_neg h,e1];have:=ih (i+1) fu (by omega) (by omega) (by omega);rw[e2 false (by unfold Zqw;rw[decide_eq_false_iff_not];exact h)]at this;simp only[Bool.false_eq_true,if_false,List.append_nil]at this;exact this
 have fk:∀(k i fu:Nat),Zbr aX-i=k->i<=Zbr aX->k+1<=fu->ZbW l bm aX fu (i:Int) (shP (ps0 l bm aX i))=some (shP (ps0 l bm aX (Zbr aX))):=by
  intro k;induction k with
  |zero=>
   intro i fu hk hi hf;obtain⟨fu,rfl⟩ : ∃x,fu=x+1:=⟨fu-1,by omega⟩;have:i=Zbr aX:=by omega
   subst this;unfold ZbW;rw[Zvs,ZaS,Zal,if_neg (by omega)]
  |succ k ih=>
   intro i fu hk hi hf;obtain⟨fu,rfl⟩ : ∃x,fu=x+1:=⟨fu-1,by omega⟩;unfold ZbW;rw[Zvs,ZaS,Zal,if_pos (by omega)];have h:=dB i (shP (ps0 l bm aX i)) (ZbW l bm aX fu) (by rw[Znb,Zwl];omega) (by omega) l.length 0 ((((l.length:Nat):Int)-(0:Int)).toNat+2) (by omega) (by omega) (by omega);have e0:Zmr (l.take 0) bm aX i=[]:=by simp[Zmr]
   rw[e0]at h;have e:shP (ps0 l bm aX i)++[shF (Zmr l bm aX i) []]=shP (ps0 l bm aX (i+1)):=by
    unfold shP ps0;rw[List.range_succ];simp
   rw[e]at h;refine h.trans ?_;exact ih (i+1) fu (by omega) (by omega) (by omega)
 exact fk (Zbr aX) 0 1000000 (by omega) (by omega) (by omega)
theorem ZHm(a b:Prs)(h:(a++b).length<=10000):ZfH (shF a b)=some a:=by
 have hl:(a++b).length=a.length+b.length:=List.length_append;have aP:∀(k i fu:Nat),a.length-i=k->i<=a.length->k+1<=fu->ZcC fu (i:Int) (a.take i) (shF a b)=some a:=by
  intro k;induction k with
  |zero=>
   intro i fu hk hi hf;obtain⟨fu,rfl⟩ : ∃x,fu=x+1:=⟨fu-1,by omega⟩;unfold ZcC;rw[Zal,if_neg (by show ¬((i:Int)<(a.length:Int));omega),List.take_of_length_le (by omega)]
  |succ k ih=>
   intro i fu hk hi hf;obtain⟨fu,rfl⟩ : ∃x,fu=x+1:=⟨fu-1,by omega⟩;have cC:i<a.length:=by omega
   have e1:Zar (i:Int) 1=((i+1:Nat):Int):=add1 (n:=i+1) (by omega) (by simp only[maxLen];omega);have e2:(a++b).getD i Zaa.d=a.getD i Zaa.d:=by simp[List.getD_eq_getElem?_getD,List.getElem?_append_left cC]
   have e3:a.take (i+1)=a.take i++[a.getD i Zaa.d]:=by rw[List.take_succ_eq_append_getElem cC,Zdf a _ i cC]
   unfold ZcC;rw[Zal,if_pos (by show (i:Int)<(a.length:Int);omega),Zal,if_pos (by show (i:Int)<(((a++b).length:Nat):Int);omega)];show (need (0<=(i:Int)/\(i:Int)<(((a++b).length:Nat):Int)) _)=_;rw[Zaw ⟨by omega,by omega⟩,Int.toNat_natCast];show (need _ _)=_;rw[show (shF a b).fSlots=a++b from rfl,e2,<-e3,Zaw ⟨by simp only[List.length_take];omega,by simp only[List.length_take,maxLen];omega⟩,e1];exact ih (i+1) fu (by omega) (by omega) (by omega)
 exact aP a.length 0 1000000 (by omega) (by omega) (by omega)
theorem ZDv(ps:PPs)(h1:ps.length<=100)(h2:∀x∈ps,(x.1++x.2).length<=1000):Zek (shP ps)=some (Zer (ps.map (·.1)).flatten):=by
 have hlen:∀i,i<=ps.length->((ps.take i).map (·.1)).flatten.length<=i * 1000:=by
  intro i;induction i with
  |zero=>intro _;simp
  |succ i ih=>
   intro h;have hi:i<ps.length:=by omega
   have:=h2 _ (Zgq ps ([],[]) i hi);rw[List.length_append]at this;rw[List.take_succ_eq_append_getElem hi,List.map_append,List.flatten_append,List.length_append];have e:ps[i]=ps.getD i ([],[]):=(Zdf ps _ i hi).symm;simp only[List.map_cons,List.map_nil,List.flatten_cons,List.flatten_nil,List.append_nil,e];have:=ih (by omega);omega
 have aP:∀(k i fu:Nat),ps.length-i=k->i<=ps.length->k+1<=fu->ZcL (shP ps) fu (i:Int) ((ps.take i).map (·.1)).flatten=some (Zer (ps.map (·.1)).flatten):=by
  intro k;induction k with
  |zero=>
   intro i fu hk hi hf;obtain⟨fu,rfl⟩ : ∃x,fu=x+1:=⟨fu-1,by omega⟩;have:=hlen ps.length (Nat.le_refl _);rw[List.take_length]at this;unfold ZcL;rw[Znb,Zal,if_neg (by omega),List.take_of_length_le (by omega),ZBC _ (by omega)];rfl
  |succ k ih=>
   intro i fu hk hi hf;obtain⟨fu,rfl⟩ : ∃x,fu=x+1:=⟨fu-1,by omega⟩;have cC:i<ps.length:=by omega
   have e1:Zar (i:Int) 1=((i+1:Nat):Int):=add1 (n:=i+1) (by omega) (by simp only[maxLen];omega);have h3:=h2 _ (Zgq ps ([],[]) i cC);have e3:((ps.take i).map (·.1)).flatten++(ps.getD i ([],[])).1=((ps.take (i+1)).map (·.1)).flatten:=by
    rw[List.take_succ_eq_append_getElem cC,List.map_append,List.flatten_append,Zdf ps _ i cC];simp
   have h4:=hlen (i+1) (by omega);unfold ZcL;rw[Znb,Zal,if_pos (by omega),Zaw ⟨by omega,by omega⟩,Int.toNat_natCast,Zza ps cC,ZHm _ _ (by omega),ZaS,e3,Zaw ⟨by omega,by unfold maxLen;omega⟩,e1];exact ih (i+1) fu (by omega) (by omega) (by omega)
 unfold Zek;have:=aP ps.length 0 ((((shP ps).length:Nat)-(0:Int)).toNat+2) (by omega) (by omega) (by rw[Znb];omega);simpa using this
theorem ZEu{al out:Int}{bans fl:List Zab}{book fm:List Zac}{sh:List Zad}{n:Nat}(hn:n<=100){peers:Prs}(hp:peers.length<=1000){d:Int}(h1:al=cntP peers true)(h2:out=d) :
  Zgn (memM al out bans book sh n fun _=>ZhE) ⟨fl,fm,peers⟩ d=some true:=by
 have c1:∀(kg:Int->Int->ZaD->Zas->Option Bool)(v8:Int)(k i fu:Nat),n+2-i=k->i<=n+2->k+1<=fu->ZcN d al v8 (memM al out bans book sh n fun _=>ZhE) ⟨fl,fm,peers⟩ kg fu (i:Int)=some true:=by
  intro kg v8 k;induction k with
  |zero=>
   intro i fu hk hi hf;obtain⟨fu,rfl⟩ : ∃x,fu=x+1:=⟨fu-1,by omega⟩;unfold ZcN;show (bif(decide ((i:Int)<(((lks n fun _=>ZhE).length:Nat):Int)))then _ else _)=_;rw[ZtN,Zal,if_neg (by omega)];show (bif(al==al)then some (out==d)else some false)=_;rw[beq_self_eq_true,cond_true,h2,beq_self_eq_true]
  |succ k ih=>
   intro i fu hk hi hf;obtain⟨fu,rfl⟩ : ∃x,fu=x+1:=⟨fu-1,by omega⟩;have e1:Zar (i:Int) 1=((i+1:Nat):Int):=add1 (n:=i+1) (by omega) (by simp only[maxLen];omega);unfold ZcN;show (bif(decide ((i:Int)<(((lks n fun _=>ZhE).length:Nat):Int)))then _ else _)=_;rw[ZtN,Zal,if_pos (by omega)];show (need (0<=(i:Int)/\(i:Int)<(((lks n fun _=>ZhE).length:Nat):Int)) _)=_;rw[ZtN,Zaw ⟨by omega,by omega⟩,Int.toNat_natCast];show (bif(((lks n fun _=>ZhE).getD i Zat.d).fBy != 0)then _ else _)=_;rw[Zzm _ (by omega)];show (bif(decide (((((lks n fun _=>ZhE).getD i Zat.d).fShare.length:Nat):Int)>0))then _ else _)=_;rw[Zzm _ (by omega),e1];exact ih (i+1) fu (by omega) (by omega) (by omega)
 have c0:∀(k i fu:Nat),peers.length-i=k->i<=peers.length->k+1<=fu->ZbP d fu (cntP (peers.take i) true) (i:Int) (memM al out bans book sh n fun _=>ZhE) ⟨fl,fm,peers⟩=some true:=by
  intro k;induction k with
  |zero=>
   intro i fu hk hi hf;obtain⟨fu,rfl⟩ : ∃x,fu=x+1:=⟨fu-1,by omega⟩;unfold ZbP;rw[Zal,if_neg (by show ¬((i:Int)<((peers.length:Nat):Int));omega),List.take_of_length_le (by omega),<-h1];exact c1 _ _ (n+2) 0 1000000 (by omega) (by omega) (by omega)
  |succ k ih=>
   intro i fu hk hi hf;obtain⟨fu,rfl⟩ : ∃x,fu=x+1:=⟨fu-1,by omega⟩;have cC:i<peers.length:=by omega
   have e1:Zar (i:Int) 1=((i+1:Nat):Int):=add1 (n:=i+1) (by omega) (by simp only[maxLen];omega);have e3:peers.take (i+1)=peers.take i++[peers.getD i Zaa.d]:=by rw[List.take_succ_eq_append_getElem cC,Zdf peers _ i cC]
   have hc:=Zmn (peers.take i) true;have e4:cntP (peers.take (i+1)) true=cntP (peers.take i) true+(if(peers.getD i Zaa.d).fIn=true then 1 else 0):=by
    unfold cntP;rw[e3,List.countP_append];generalize peers.getD i Zaa.d=q;cases h:q.fIn<;>simp[h]
   have hl:(peers.take i).length<=1000:=by simp;omega
   unfold ZbP;rw[Zal,if_pos (by show (i:Int)<((peers.length:Nat):Int);omega)];show (need (0<=(i:Int)/\(i:Int)<((peers.length:Nat):Int)) _)=_;rw[Zaw ⟨by omega,by omega⟩,Int.toNat_natCast,e1];have:=ih (i+1) fu (by omega) (by omega) (by omega);rw[e4]at this;show (bif(peers.getD i Zaa.d).fIn then _ else _)=_;cases hin:(peers.getD i Zaa.d).fIn with
   |true=>
    rw[hin,if_pos rfl]at this;rw[cond_true,Zcx (by omega) (by omega)];exact this
   |false=>
    rw[hin,if_neg (by decide),Int.add_zero]at this;rw[cond_false];exact this
 have:=c0 peers.length 0 1000000 (by omega) (by omega) (by omega);have e0:cntP (peers.take 0) true=0:=by simp[cntP]
 rw[e0]at this;exact this
theorem ZFz(c:ZaA)(s:Zas)(ay:∀p∈s.fPeers,p.ok)(h1:s.fPeers.length<=100)(h2:s.fBook.length<=100) :
  ZgP c s=some (memM (cntP s.fPeers true) (cntP s.fPeers false+Zfc s.fBook 2) s.fBans s.fBook (shP (ps0 s.fPeers c.fSecret c.fShards (Zbr c.fShards))) (Zbr c.fShards) fun _=>ZhE):=by
 have h8:=ZgD c.fShards;have hc:=Zmn s.fPeers false;have hb:0<=Zfc s.fBook 2/\Zfc s.fBook 2<=100:=by
  unfold Zfc;have:=List.countP_le_length (p:=fun x:Zac=>decide (x.fState=2)) (l:=s.fBook);omega
 have e2:Zar ((Zbr c.fShards:Nat):Int) 2=((Zbr c.fShards+2:Nat):Int):=by rw[Zcx (by omega) (by omega)];omega
 unfold ZgP;rw[ZnY _ _ (by unfold maxLen;omega),ZaS,ZnY _ _ (by unfold maxLen;omega),ZaS,ZxF _ _ (by unfold maxLen;omega),ZaS,ZBy _ _ _ (by omega) ay,ZaS];simp only[Znb,Zwl,e2];rw[Zaw ⟨by omega,by omega,by omega,by omega⟩,Zcx (by omega) (by omega)];have e3:List.replicate ((Zbr c.fShards+2:Nat):Int).toNat Zat.d=lks (Zbr c.fShards) fun _=>ZhE:=by
  rw[Int.toNat_natCast];apply List.ext_getElem
  ·simp[lks]
  ·intro i h1 h2;simp[lks];rfl
 rw[e3];rfl
theorem ZBw{al out:Int}{bans:List Zab}{book:List Zac}{ps:PPs}{n:Nat}{f:Nat->Zat}(h1:ps.length<=100)(h2:∀x∈ps,(x.1++x.2).length<=1000){peers:Prs}(hp:StrP peers)(jL:((ps.map (·.1)).flatten).Perm peers) :
  ZeA (memM al out bans book (shP ps) n f)=some ⟨bans,book,peers⟩:=by
 unfold ZeA;show ((Zek (shP ps)).bind fun x1=>some (Zas.mk bans book x1))=_;rw[ZDv ps h1 h2,ZaS,ZsC hp jL]
theorem ZuN(s:Zas)(h1:s.fBans.length<=1000000)(h2:s.fBook.length<=1000000)(h3:s.fPeers.length<=1000000):ZeV s s=some true:=by
 unfold ZeV;rw[ZvZ _ h1,ZaS,cond_true,ZvY _ h2,ZaS,cond_true,Zqr _ h3];rfl
theorem ZsG(s:Zas)(h1:s.fPeers.length<=1000)(h2:s.fBook.length<=1000):Zdt s=some (cntP s.fPeers false+Zfc s.fBook 2):=by
 have hc:=Zmn s.fPeers false;have hb:0<=Zfc s.fBook 2/\Zfc s.fBook 2<=1000:=by
  unfold Zfc;have:=List.countP_le_length (p:=fun x:Zac=>decide (x.fState=2)) (l:=s.fBook);omega
 unfold Zdt;rw[ZnY _ _ (by unfold maxLen;omega),ZaS,ZxF _ _ (by unfold maxLen;omega),ZaS,Zcx (by omega) (by omega)]
end Go.Proofs.YtdjfoojllbfcgaaGreat
