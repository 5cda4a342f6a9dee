import Derived.Test.YtdjfoojllbfcgaaGreatKPlU
namespace Go.Proofs.YtdjfoojllbfcgaaGreat
set_option linter.unusedSimpArgs false
set_option linter.unusedVariables false
theorem Zxn{a:Zag}(h:Fits a)(i:Nat)(hi:i<wid a):ZdG a (i:Int)=some (if bitN a i then 1 else 0):=by
 have h1:=h.hi0;have h2:=h.hi1;have h3:=h.lo0;have h4:=h.lo1;obtain⟨v,hi',lo⟩:=a;obtain⟨p,hp⟩:=Zmq h.hi0;obtain⟨q,hq⟩:=Zmq h.lo0;simp only at hp hq h1 h2 h3 h4;subst hp hq;have hw:∀k:Nat,k<64→(IntKind.u64.wrap ((k:Nat):Int))=((k:Nat):Int):=fun k hk=>Zox (by omega) (by omega);cases v with
 |false=>
  have hi:i<32:=hi;have e:ZaR (31:Int) (i:Int)=((31-i:Nat):Int):=by rw[Zds (by omega) (by omega)];omega
  simp only[ZdG,ZcR,Zdn,Zal,Option.bind_some,cond_false,Bool.not_false,cond_true,e,hw (31-i) (by omega)];rw[if_neg (by omega),if_neg (by omega),Zax (by omega),ZqT q _ (by omega) (by omega)];rfl
 |true=>
  have hi:i<128:=hi;have hb:bitN ⟨true,(p:Int),(q:Int)⟩ i=if 127-i<64 then q.testBit (127-i)else p.testBit (127-i-64):=by
   unfold bitN num wid;simp only[if_true,Int.toNat_natCast];rw[Zna (by omega)]
  rw[hb];have et:Int.tmod (i:Int) 64=((i % 64:Nat):Int):=by rw[Int.tmod_eq_emod_of_nonneg (by omega)];rfl
  have hm:i % 64<64:=Nat.mod_lt _ (by omega);have e:ZaR (63:Int) ((i % 64:Nat):Int)=((63-i % 64:Nat):Int):=by rw[Zds (by omega) (by omega)];omega
  simp only[ZdG,ZcR,Zdn,Zal,Option.bind_some,cond_false,Bool.not_true,cond_true,et,e,hw (63-i % 64) (by omega)];rw[if_neg (by omega),if_neg (by omega)];by_cases h64:i<64
  ·rw[if_pos (by omega),Zax (by omega),ZqT p _ (by omega) (by omega),if_neg (show ¬127-i<64 by omega),show 63-i % 64=127-i-64 by omega]
  ·rw[if_neg (by omega),Zax (by omega),ZqT q _ (by omega) (by omega),if_pos (show 127-i<64 by omega),show 63-i % 64=127-i by omega]
theorem Zyx(a:Zag):ZcR a=some (wid a:Int):=by
 unfold ZcR wid;cases a.fV6<;>rfl
theorem ZrM(a:Zag):wid a≤128:=by unfold wid;split<;>omega
theorem ZFw{i:Nat}(h:i≤1000000):Zaw (i:Int) 1=((i+1:Nat):Int):=by rw[ZdP (by omega) (by omega)];omega
theorem ZAN{p:Zaq}(hf:Fits p.fAddr):∀fu (i:Nat),i≤wid p.fAddr→wid p.fAddr-i<fu→∃r,ZcQ fu (i:Int) p=some r∧(r=true↔∀j,i≤j→j<wid p.fAddr→bitN p.fAddr j=false):=by
 have hw:=ZrM p.fAddr;intro fu;induction fu with
 |zero=>intro _ _ h;omega
 |succ fu ih=>
  intro i hi hfu;simp only[ZcQ,Zyx,Option.bind_some,Zal];by_cases h:i<wid p.fAddr
  ·rw[if_pos (by omega),Zxn hf i h,ZFw (by omega)];simp only[Option.bind_some];obtain⟨r,h1,h2⟩:=ih (i+1) (by omega) (by omega);cases hb:bitN p.fAddr i with
   |true=>
    simp only[if_true,beq_self_eq_true,cond_true];refine⟨false,rfl,?_⟩;simp only[Bool.false_eq_true,false_iff];intro hq;have:=hq i (Nat.le_refl _) h;rw[hb]at this;cases this
   |false=>
    simp only[Bool.false_eq_true,if_false];rw[show ((0:Int)==1)=false from rfl,cond_false];refine⟨r,h1,h2.trans ⟨fun q j h3 h4=>?_,fun q j h3 h4=>q j (by omega) h4⟩⟩;by_cases h5:j=i
    ·subst h5;exact hb
    ·exact q j (by omega) h4
  ·rw[if_neg (by omega)];exact⟨true,rfl,by simp;intro j h3 h4;omega⟩
theorem ZqA(p:Zaq)(h:p.fAddr.ok):ZdC p=some (ZgD p):=by
 simp only[ZdC,ZpI p.fAddr h,Zyx,Option.bind_some,Zal];unfold ZgD;cases hr:ZeR p.fAddr
 ·simp
 ·have hf:=Zps h hr;simp only[Bool.not_true,cond_false,Bool.true_and];by_cases h0:p.fBits<0
  ·rw[if_pos h0,show decide (0≤p.fBits)=false by rw[decide_eq_false_iff_not];omega];simp
  ·rw[if_neg h0];by_cases h1:p.fBits>(wid p.fAddr:Int)
   ·rw[if_pos h1,show decide (p.fBits≤(wid p.fAddr:Int))=false by rw[decide_eq_false_iff_not];omega];simp
   ·rw[if_neg h1,show decide (0≤p.fBits)=true by rw[decide_eq_true_eq];omega,show decide (p.fBits≤(wid p.fAddr:Int))=true by rw[decide_eq_true_eq];omega];have hw:=ZrM p.fAddr;obtain⟨r,r1,r2⟩:=ZAN hf 1000000 p.fBits.toNat (by omega) (by omega);rw[Int.toNat_of_nonneg (by omega)]at r1;rw[r1,Option.some.injEq,Bool.true_and,Bool.true_and,Bool.eq_iff_iff,r2,decide_eq_true_eq];constructor
    ·intro q;refine ZrG (ZjK hf _) hf (Zjd _ _) fun i hi=>?_;have hi:i<wid p.fAddr:=by unfold wid at hi ⊢;rwa [Zjd]at hi
     rw[ZkI hf p.fBits.toNat i (by omega) hi];by_cases hb:i<p.fBits.toNat
     ·rw[decide_eq_true hb];rfl
     ·rw[decide_eq_false hb,q i (by omega) hi];rfl
    ·intro q j h3 h4;have:=ZkI hf p.fBits.toNat j (by omega) h4;rw[q,decide_eq_false (by omega)]at this;exact this
def hasS(p:Zaq)(a:Zag):Bool:=ZgD p&&(ZeR a&&decide (p.fAddr.fV6=a.fV6)&&decide (∀i,i<p.fBits.toNat→bitN a i=bitN p.fAddr i))
theorem ZvN{p:Zaq}{a:Zag}(hp:RN p)(ha:Fits a)(hv:p.fAddr.fV6=a.fV6):∀fu (i:Nat),i≤p.fBits.toNat→p.fBits.toNat-i<fu→∃r,ZcH fu (i:Int) p a=some r∧(r=true↔∀j,i≤j→j<p.fBits.toNat→bitN a j=bitN p.fAddr j):=by
 have hw:=ZrM p.fAddr;have hwa:wid p.fAddr=wid a:=by unfold wid;rw[hv]
 have n1:=hp.nn;have l1:=hp.le;intro fu;induction fu with
 |zero=>intro _ _ h;omega
 |succ fu ih=>
  intro i hi hfu;simp only[ZcH,Zal];by_cases h:i<p.fBits.toNat
  ·rw[if_pos (by omega),Zxn hp.fits i (by omega),Zxn ha i (by omega),ZFw (by omega)];simp only[Option.bind_some];obtain⟨r,h1,h2⟩:=ih (i+1) (by omega) (by omega);by_cases hb:bitN a i=bitN p.fAddr i
   ·rw[hb];simp only[bne_self_eq_false,cond_false];refine⟨r,h1,h2.trans ⟨fun q j h3 h4=>?_,fun q j h3 h4=>q j (by omega) h4⟩⟩;by_cases h5:j=i
    ·subst h5;exact hb
    ·exact q j (by omega) h4
   ·have hne:((if bitN p.fAddr i=true then(1:Int)else 0) != if bitN a i=true then 1 else 0)=true:=by
     revert hb
     cases bitN a i<;>cases bitN p.fAddr i<;>simp
    rw[hne,cond_true];refine⟨false,rfl,?_⟩;simp only[Bool.false_eq_true,false_iff];intro hq;exact hb (hq i (Nat.le_refl _) h)
  ·rw[if_neg (by omega)];exact⟨true,rfl,by simp;intro j h3 h4;omega⟩
theorem Zyv(p:Zaq)(a:Zag)(hp:p.fAddr.ok)(ha:a.ok):Zff p a=some (hasS p a):=by
 simp only[Zff,ZqA p hp,ZpI a ha,Option.bind_some];unfold hasS;cases hc:ZgD p
 ·rfl
 ·have hrn:=(ZrU hp).1 hc;simp only[Bool.not_true,cond_false,Bool.true_and];cases hr:ZeR a
  ·rfl
  ·simp only[Bool.not_true,cond_false,Bool.true_and];by_cases hv:p.fAddr.fV6=a.fV6
   ·rw[show (!(p.fAddr.fV6==a.fV6))=false by simp[hv],cond_false,decide_eq_true hv,Bool.true_and];have hw:=ZrM p.fAddr;have n1:=hrn.nn;have l1:=hrn.le;obtain⟨r,r1,r2⟩:=ZvN hrn (Zps ha hr) hv 1000000 0 (by omega) (by omega);have r1:ZcH 1000000 0 p a=some r:=r1;rw[r1,Option.some.injEq,Bool.eq_iff_iff,r2,decide_eq_true_eq];exact⟨fun q j hj=>q j (by omega) hj,fun q j _ hj=>q j hj⟩
   ·rw[show (!(p.fAddr.fV6==a.fV6))=true by simp[hv],cond_true,decide_eq_false hv];rfl
def f0:Nat→Bool:=fun _=>false
def GT:ZaD→Prop | .nil=>False | .mk r4 r6 _=>ZmQ false r4 0 f0∧ZmQ true r6 0 f0
def ZhN:ZaD→List Zau | .nil=>[] | .mk r4 r6 _=>Zbv r4++Zbv r6
theorem bel0(p:Zaq):Bel' 0 f0 p:=⟨Nat.zero_le _,fun i hi=>by omega⟩
theorem Zwd{t:ZaD}(h:GT t):∀x∈ZhN t,RN x.fNet:=by
 cases t with
 |nil=>exact h.elim
 |mk r4 r6 n=>
  intro x hx;simp only[ZhN,List.mem_append]at hx;rcases hx with hx|hx
  ·exact(ZbI h.1 x hx).1
  ·exact(ZbI h.2 x hx).1
theorem ZBw(a:Zag):Zga a=some (if a.fV6 then 1 else 0):=by
 unfold Zga;cases a.fV6<;>rfl
theorem Zyn{t:ZaD}(h:GT t)(n:Zaq)(hn:n.fAddr.ok):ZgJ t n=some (if ZgD n then ZkA (ZhN t) n else(0,false)):=by
 cases t with
 |nil=>exact h.elim
 |mk r4 r6 k=>
  simp only[ZgJ,ZjR n hn,Option.bind_some,ZBw];cases hr:ZgD n
  ·rfl
  ·have hrn:=(ZrU hn).1 hr;have hb:n.fBits.toNat≤128:=by have:=hrn.le;have:=hrn.nn;have:=ZrM n.fAddr;omega
   simp only[Bool.not_true,cond_false,if_true];cases hv:n.fAddr.fV6 with
   |false=>
    simp only[Bool.false_eq_true,if_false];rw[Zax (by omega),show ∀(A B:Option (Int×Bool)),ix2 0 A B=A from fun _ _=>rfl];rcases ZyO hrn hv 1000000 r4 0 f0 h.1 (by omega)with e|e
    ·rw[e];unfold ZkA;simp only[ZhN];rw[List.find?_append,Zkl (l:=Zbv r6) fun x hx e=>by have:=(ZbI h.2 x hx).2.1;rw[e,hv]at this;cases this];simp
    ·omega
   |true=>
    simp only[if_true];rw[Zax (by omega),show ∀(A B:Option (Int×Bool)),ix2 1 A B=B from fun _ _=>rfl];rcases ZyO hrn hv 1000000 r6 0 f0 h.2 (by omega)with e|e
    ·rw[e];unfold ZkA;simp only[ZhN];rw[List.find?_append,Zkl (l:=Zbv r4) fun x hx e=>by have:=(ZbI h.1 x hx).2.1;rw[e,hv]at this;cases this];simp
    ·omega
theorem ZAy{t:ZaD}(h:GT t)(n:Zaq)(hn:n.fAddr.ok)(val:Int)(hr:ZgD n=true):∃t',Zer t n val=some t'∧GT t'∧∀x,x∈ZhN t'↔x=⟨n,val⟩∨(x∈ZhN t∧x.fNet≠n):=by
 cases t with
 |nil=>exact h.elim
 |mk r4 r6 k=>
  have hrn:=(ZrU hn).1 hr;have hb:n.fBits.toNat≤128:=by have:=hrn.le;have:=hrn.nn;have:=ZrM n.fAddr;omega
  have hg:=Zyn h n hn;simp only[Zer,ZeE,ZjR n hn,hr,hg,if_true,Option.bind_some,Bool.not_true,cond_false,ZBw];have part4:n.fAddr.fV6=false→∃r,ZeD 1000 r4 ⟨n,val⟩=some r∧ZmQ false r 0 f0∧∀x,(x∈Zbv r∨x∈Zbv r6)↔x=⟨n,val⟩∨((x∈Zbv r4∨x∈Zbv r6)∧x.fNet≠n):=fun hv=>by
   obtain⟨r,w1,w2,w3⟩:=Zvu (hit:=⟨n,val⟩) hrn hv 1000 r4 0 f0 h.1 (bel0 _) (by simp only;omega);refine⟨r,w1,w2,fun x=>?_⟩;rw[w3 x];have h6:x∈Zbv r6→x.fNet≠n:=fun hx e=>by have:=(ZbI h.2 x hx).2.1;rw[e,hv]at this;cases this
   constructor
   ·rintro ((hx|hx)|hx)
    ·exact .inl hx
    ·exact .inr ⟨.inl hx.1,hx.2⟩
    ·exact .inr ⟨.inr hx,h6 hx⟩
   ·rintro (hx|⟨hx|hx,hne⟩)
    ·exact .inl (.inl hx)
    ·exact .inl (.inr ⟨hx,hne⟩)
    ·exact .inr hx
  have part6:n.fAddr.fV6=true→∃r,ZeD 1000 r6 ⟨n,val⟩=some r∧ZmQ true r 0 f0∧∀x,(x∈Zbv r4∨x∈Zbv r)↔x=⟨n,val⟩∨((x∈Zbv r4∨x∈Zbv r6)∧x.fNet≠n):=fun hv=>by
   obtain⟨r,w1,w2,w3⟩:=Zvu (hit:=⟨n,val⟩) hrn hv 1000 r6 0 f0 h.2 (bel0 _) (by simp only;omega);refine⟨r,w1,w2,fun x=>?_⟩;rw[w3 x];have h4:x∈Zbv r4→x.fNet≠n:=fun hx e=>by have:=(ZbI h.1 x hx).2.1;rw[e,hv]at this;cases this
   constructor
   ·rintro (hx|hx|hx)
    ·exact .inr ⟨.inl hx,h4 hx⟩
    ·exact .inl hx
    ·exact .inr ⟨.inr hx.1,hx.2⟩
   ·rintro (hx|⟨hx|hx,hne⟩)
    ·exact .inr (.inl hx)
    ·exact .inl hx
    ·exact .inr (.inr ⟨hx,hne⟩)
  have e1:∀(A B:Option ZaD),ix2 0 A B=A:=fun _ _=>rfl;have e2:∀(A B:Option ZaD),ix2 1 A B=B:=fun _ _=>rfl;cases hv:n.fAddr.fV6 with
  |false=>
   obtain⟨r,w1,w2,w3⟩:=part4 hv;cases(ZkA (ZhN (.mk r4 r6 k)) n).2 <;>
   ·simp only[Bool.not_false,Bool.not_true,cond_true,cond_false,Bool.false_eq_true,if_false];rw[Zax (by omega),e1,w1];exact⟨_,rfl,⟨w2,h.2⟩,fun x=>by simp only[ZhN,List.mem_append];exact w3 x⟩
  |true=>
   obtain⟨r,w1,w2,w3⟩:=part6 hv;cases(ZkA (ZhN (.mk r4 r6 k)) n).2 <;>
   ·simp only[Bool.not_false,Bool.not_true,cond_true,cond_false,if_true];rw[Zax (by omega),e2,w1];exact⟨_,rfl,⟨h.1,w2⟩,fun x=>by simp only[ZhN,List.mem_append];exact w3 x⟩
theorem Znb{v:Bool}:∀{nd:Zat}{n:Nat}{f:Nat→Bool},ZmQ v nd n f→(Zbv nd).Pairwise fun x y=>x.fNet≠y.fNet
 | .nil,_,_,_=>List.Pairwise.nil
 | .mk h has k0 k1,n,f,hg=>by
  obtain⟨g1,g2,g3,g4,g5⟩:=hg
  have b0:=fun x hx=>ZiR.1 (ZbI g4 x hx).2.2
  have b1:=fun x hx=>ZiR.1 (ZbI g5 x hx).2.2
  have hh:∀x∈(if has then[h]else[]),x.fNet=h.fNet:=fun x hx=>by
   split at hx
   ·rw[List.mem_singleton]at hx;rw[hx]
   ·simp at hx
  simp only[Zbv]
  rw[List.pairwise_append,List.pairwise_append]
  refine⟨⟨?_,Znb g4,fun x hx y hy e=>?_⟩,Znb g5,fun x hx y hy e=>?_⟩
  ·split
   ·exact List.pairwise_singleton _ _
   ·exact List.Pairwise.nil
  ·have:=(b0 y hy).1
   rw[←e,hh x hx]at this;omega
  ·rcases List.mem_append.1 hx with hx|hx
   ·have:=(b1 y hy).1
    rw[←e,hh x hx]at this;omega
   ·have h1:=(b0 x hx).2.2
    have h2:=(b1 y hy).2.2
    rw[e,h2]at h1;cases h1
theorem Zwe{t:ZaD}(h:GT t):(ZhN t).Pairwise fun x y=>x.fNet≠y.fNet:=by
 cases t with
 |nil=>exact h.elim
 |mk r4 r6 k=>
  simp only[ZhN];rw[List.pairwise_append];refine⟨Znb h.1,Znb h.2,fun x hx y hy e=>?_⟩;have h1:=(ZbI h.1 x hx).2.1;have h2:=(ZbI h.2 y hy).2.1;rw[e,h2]at h1;cases h1
theorem ZBl{l:List Zau}{n:Zaq}(h:(ZkA l n).2=true):∃x∈l,x.fNet=n∧x.fV=(ZkA l n).1:=by
 unfold ZkA at h ⊢;cases hq:l.find? (fun x=>decide (x.fNet=n))with
 |none=>rw[hq]at h;cases h
 |some x=>
  have:=List.find?_some hq;exact⟨x,List.mem_of_find?_eq_some hq,by simpa using this,rfl⟩
theorem ZDg{l:List Zau}{n:Zaq}(h:(ZkA l n).2=false):∀x∈l,x.fNet≠n:=by
 unfold ZkA at h;cases hq:l.find? (fun x=>decide (x.fNet=n))with
 |none=>rw[List.find?_eq_none]at hq;intro x hx;simpa using hq x hx
 |some x=>rw[hq]at h;cases h
theorem ZDv{l:List Zau}(h:l.Pairwise fun x y=>x.fNet≠y.fNet){x y:Zau}(hx:x∈l)(hy:y∈l)(e:x.fNet=y.fNet):x=y:=by
 obtain⟨i,hi,rfl⟩:=List.getElem_of_mem hx;obtain⟨j,hj,rfl⟩:=List.getElem_of_mem hy;have hp:=List.pairwise_iff_getElem.1 h;rcases Nat.lt_trichotomy i j with h1|h1|h1
 ·exact absurd e (hp i j hi hj h1)
 ·subst h1;rfl
 ·exact absurd e.symm (hp j i hj hi h1)
theorem Zqq{v:Bool}{a:Zag}(hv:a.fV6=v):∀{nd:Zat}{m:Nat}{f:Nat→Bool},ZmQ v nd m f→m≤wid a+1→((Zbv nd).filter (cov a)).length+m≤wid a+1
 | .nil,m,f,_,h=>by simp[Zbv];exact h
 | .mk h has k0 k1,m,f,hg,hm=>by
  obtain⟨g1,g2,g3,g4,g5⟩:=hg
  have b0:=fun x hx=>ZiR.1 (ZbI g4 x hx).2.2
  have b1:=fun x hx=>ZiR.1 (ZbI g5 x hx).2.2
  have hw:wid h.fNet.fAddr=wid a:=by unfold wid;rw[g2,hv]
  have n1:=g1.nn;have l1:=g1.le;have gm:=g3.1
  have i0:=Zqq hv g4 (by omega)
  have i1:=Zqq hv g5 (by omega)
  have hh:((if has then[h]else[]).filter (cov a)).length≤1:=by
   split
   ·exact List.length_filter_le _ _
   ·simp
  have hz:((Zbv k0).filter (cov a)).length=0∨((Zbv k1).filter (cov a)).length=0:=by
   cases hb:bitN a h.fNet.fBits.toNat with
   |false=>
    refine .inr ?_;rw[Zlp]
    ·rfl
    ·intro x hx;unfold cov;rw[decide_eq_false_iff_not];intro hq;obtain⟨x1,x2,x3⟩:=b1 x hx;have:=hq _ x1;rw[hb,x3]at this;cases this
   |true=>
    refine .inl ?_;rw[Zlp]
    ·rfl
    ·intro x hx;unfold cov;rw[decide_eq_false_iff_not];intro hq;obtain⟨x1,x2,x3⟩:=b0 x hx;have:=hq _ x1;rw[hb,x3]at this;cases this
  simp only[Zbv,List.filter_append,List.length_append];omega
theorem Zzm{t:ZaD}(h:GT t)(a:Zag)(ha:a.ok):∃L,Zfw t a=some L∧L.length≤maxLen∧∀x,x∈L↔x∈ZhN t∧hasS x.fNet a=true:=by
 cases t with
 |nil=>exact h.elim
 |mk r4 r6 k=>
  simp only[Zfw,ZkT a ha,Option.bind_some,ZBw];cases hr:ZeR a
  ·exact⟨[],rfl,by simp,fun x=>by simp[hasS,hr]⟩
  ·simp only[Bool.not_true,cond_false];have hw:=ZrM a;have e1:∀(A B:Option (List Zau)),ix2 0 A B=A:=fun _ _=>rfl;have e2:∀(A B:Option (List Zau)),ix2 1 A B=B:=fun _ _=>rfl;have hs:∀x:Zau,RN x.fNet→hasS x.fNet a=(decide (x.fNet.fAddr.fV6=a.fV6)&&cov a x):=fun x hx=>by
    unfold hasS cov;rw[(ZrU hx.ok).2 hx,hr,Bool.true_and,Bool.true_and]
   cases hv:a.fV6 with
   |false=>
    simp only[Bool.false_eq_true,if_false];rw[Zax (by omega),e1,Zuf ha hr hv 1000000 r4 0 f0 [] h.1 (fun i hi=>by omega) (by omega) (by omega) (by simp)];refine⟨_,rfl,by have:=Zqq hv h.1 (by omega);unfold maxLen;simp only[List.nil_append];omega,fun x=>?_⟩;simp only[List.nil_append,List.mem_filter,ZhN,List.mem_append];constructor
    ·rintro ⟨hx,hc⟩;have:=ZbI h.1 x hx;rw[hs x this.1,this.2.1,hv,hc];exact⟨.inl hx,rfl⟩
    ·rintro ⟨hx|hx,hc⟩
     ·have:=ZbI h.1 x hx;rw[hs x this.1,Bool.and_eq_true]at hc;exact⟨hx,hc.2⟩
     ·have:=ZbI h.2 x hx;rw[hs x this.1,this.2.1,hv]at hc;simp at hc
   |true=>
    simp only[if_true];rw[Zax (by omega),e2,Zuf ha hr hv 1000000 r6 0 f0 [] h.2 (fun i hi=>by omega) (by omega) (by omega) (by simp)];refine⟨_,rfl,by have:=Zqq hv h.2 (by omega);unfold maxLen;simp only[List.nil_append];omega,fun x=>?_⟩;simp only[List.nil_append,List.mem_filter,ZhN,List.mem_append];constructor
    ·rintro ⟨hx,hc⟩;have:=ZbI h.2 x hx;rw[hs x this.1,this.2.1,hv,hc];exact⟨.inr hx,rfl⟩
    ·rintro ⟨hx|hx,hc⟩
     ·have:=ZbI h.1 x hx;rw[hs x this.1,this.2.1,hv]at hc;simp at hc
     ·have:=ZbI h.2 x hx;rw[hs x this.1,Bool.and_eq_true]at hc;exact⟨hx,hc.2⟩
structure Idx (now:Int) (t:ZaD) (l:List Zab):Prop where
 gt:GT t
 from_:∀x∈ZhN t,∃b∈l,now<b.fUntil∧b.fNet=x.fNet∧b.fUntil=x.fV
 has:∀b∈l,now<b.fUntil→ZgD b.fNet=true→∃x∈ZhN t,x.fNet=b.fNet∧b.fUntil≤x.fV
theorem ZuT{now:Int}{t:ZaD}{l:List Zab}{b:Zab}(h:Idx now t l)(hb:now<b.fUntil→ZgD b.fNet=true→∃x∈ZhN t,x.fNet=b.fNet∧b.fUntil≤x.fV):Idx now t (l++[b]):=
 ⟨h.gt,fun x hx=>by obtain⟨c,h1,h2⟩:=h.from_ x hx;exact⟨c,by simp[h1],h2⟩,fun c hc h1 h2=>by
  rcases List.mem_append.1 hc with hc|hc
  ·exact h.has c hc h1 h2
  ·rw[List.mem_singleton]at hc;subst hc;exact hb h1 h2⟩
theorem ZuS{now:Int}{t:ZaD}{l:List Zab}{b:Zab}(h:Idx now t l)(hb:b.fNet.fAddr.ok)(hl:now<b.fUntil)(hold:∀x∈ZhN t,x.fNet=b.fNet→x.fV≤b.fUntil):∃t',Zer t b.fNet b.fUntil=some t'∧Idx now t' (l++[b]):=by
 cases hr:ZgD b.fNet with
 |true=>
  obtain⟨t',w1,w2,w3⟩:=ZAy h.gt b.fNet hb b.fUntil hr;refine⟨t',w1,w2,fun x hx=>?_,fun c hc h1 h2=>?_⟩
  ·rcases(w3 x).1 hx with e|⟨hx,hne⟩
   ·subst e;exact⟨b,by simp,hl,rfl,rfl⟩
   ·obtain⟨c,h1,h2⟩:=h.from_ x hx;exact⟨c,by simp[h1],h2⟩
  ·by_cases e:c.fNet=b.fNet
   ·refine⟨⟨b.fNet,b.fUntil⟩,(w3 _).2 (.inl rfl),e.symm,?_⟩;rcases List.mem_append.1 hc with hc|hc
    ·obtain⟨x,x1,x2,x3⟩:=h.has c hc h1 h2;have:=hold x x1 (x2.trans e);simp only;omega
    ·rw[List.mem_singleton]at hc;subst hc;exact Int.le_refl _
   ·rcases List.mem_append.1 hc with hc|hc
    ·obtain⟨x,x1,x2,x3⟩:=h.has c hc h1 h2;exact⟨x,(w3 x).2 (.inr ⟨x1,fun q=>e (x2.symm.trans q)⟩),x2,x3⟩
    ·rw[List.mem_singleton]at hc;subst hc;exact absurd rfl e
 |false=>
  refine⟨t,?_,ZuT h fun _ q=>by rw[hr]at q;cases q⟩;cases t with
  |nil=>exact h.gt.elim
  |mk r4 r6 k=>
   simp only[Zer,ZeE,ZjR b.fNet hb,hr,Option.bind_some,Bool.not_false,cond_true]
theorem ZwM(b:Zab)(now:Int):Zlo b now=some (decide (now<b.fUntil)):=rfl
theorem ZzO(l:List Zab)(now:Int)(hl:l.length≤maxLen)(hok:∀b∈l,b.ok):∀fu (i:Nat) (t:ZaD),i≤l.length→l.length-i<fu→Idx now t (l.take i)→∃t',Zdp now fu t l (l.length:Int) (i:Int)=some t'∧Idx now t' l:=by
 intro fu;induction fu with
 |zero=>intro _ _ _ h;omega
 |succ fu ih=>
  intro i t hi hf h;simp only[Zdp,Zal];by_cases hlt:i<l.length
  ·rw[if_pos (by omega),Zax ⟨by omega,by omega⟩];simp only[Int.toNat_natCast];have hko:=hok _ (ZiE l Zab.d i hlt);have htk:l.take (i+1)=l.take i++[l.getD i Zab.d]:=by rw[List.take_succ_eq_append_getElem hlt,ZgI l _ i hlt]
   generalize l.getD i Zab.d=b at hko htk ⊢;rw[Zyn h.gt b.fNet hko.1.1,ZwM];simp only[Option.bind_some];rw[add1 hlt hl];have next:∀t',Idx now t' (l.take i++[b])→∃t'',Zdp now fu t' l (l.length:Int) ((i+1:Nat):Int)=some t''∧Idx now t'' l:=fun t' ht'=>ih (i+1) t' (by omega) (by omega) (by rw[htk];exact ht')
   by_cases hlv:now<b.fUntil
   ·rw[decide_eq_true hlv,cond_true];cases hr:ZgD b.fNet with
    |false=>
     simp only[Bool.false_eq_true,if_false,Bool.not_false,cond_true];obtain⟨t',s1,s2⟩:=ZuS h hko.1.1 hlv (fun x hx e=>by
      have:=(ZrU hko.1.1).2 (e ▸ Zwd h.gt x hx);rw[hr]at this;cases this)
     rw[s1];exact next t' s2
    |true=>
     simp only[if_true];cases hq:(ZkA (ZhN t) b.fNet).2 with
     |false=>
      simp only[Bool.not_false,cond_true];obtain⟨t',s1,s2⟩:=ZuS h hko.1.1 hlv (fun x hx e=>absurd e (ZDg hq x hx));rw[s1];exact next t' s2
     |true=>
      simp only[Bool.not_true,cond_false];obtain⟨y,y1,y2,y3⟩:=ZBl hq;by_cases hlt2:(ZkA (ZhN t) b.fNet).1<b.fUntil
      ·rw[if_pos hlt2];obtain⟨t',s1,s2⟩:=ZuS h hko.1.1 hlv (fun x hx e=>by
        have:=ZDv (Zwe h.gt) hx y1 (e.trans y2.symm);rw[this];omega)
       rw[s1];exact next t' s2
      ·rw[if_neg hlt2];exact next t (ZuT h fun _ _=>⟨y,y1,y2,by omega⟩)
   ·rw[decide_eq_false hlv,cond_false];exact next t (ZuT h fun q=>absurd q hlv)
  ·rw[if_neg (by omega)];refine⟨t,rfl,?_⟩;rw[List.take_of_length_le (by omega)]at h;exact h
theorem ZDf(l:List Zab)(now:Int)(hl:l.length≤maxLen)(hok:∀b∈l,b.ok):∃t,Zkj l now=some t∧Idx now t l:=by
 have:=ZzO l now hl hok ((((l.length:Nat):Int)-(0:Int)).toNat+2) 0 (.mk .nil .nil 0) (by omega) (by omega) ⟨⟨trivial,trivial⟩,fun x hx=>by simp[ZhN,Zbv]at hx,fun b hb=>by simp at hb⟩;simpa[Zkj,Zmv]using this
def Zlw(l:List Zab)(a:Zag)(now:Int)(b:Zab):Prop:=b∈l∧now<b.fUntil∧hasS b.fNet a=true
def Zvr(l:List Zab)(a:Zag)(now r:Int):Prop:=(r=0∧∀b,¬Zlw l a now b)∨∃b,Zlw l a now b∧r=b.fUntil∧∀c,Zlw l a now c→c.fUntil≤r
theorem ZzM{l l':List Zab}{a:Zag}{now r s:Int}(h:Zvr l a now r)(h':Zvr l' a now s)(e:∀b,Zlw l a now b↔Zlw l' a now b):r=s:=by
 rcases h with⟨h1,h2⟩|⟨b,h1,h2,h3⟩
 ·rcases h' with⟨g1,g2⟩|⟨c,g1,g2,g3⟩
  ·omega
  ·exact absurd ((e c).2 g1) (h2 c)
 ·rcases h' with⟨g1,g2⟩|⟨c,g1,g2,g3⟩
  ·exact absurd ((e b).1 h1) (g2 b)
  ·have:=h3 c ((e c).2 g1);have:=g3 b ((e b).1 h1);omega
theorem ZDb(L:List Zau)(hL:L.length≤maxLen):∀fu (i:Nat) (v:Int),i≤L.length→L.length-i<fu→∃r,ZfM fu v L (L.length:Int) (i:Int)=some r∧v≤r∧(∀x∈L.drop i,x.fV≤r)∧(r=v∨∃x∈L.drop i,r=x.fV):=by
 intro fu;induction fu with
 |zero=>intro _ _ _ h;omega
 |succ fu ih=>
  intro i v hi hf;simp only[ZfM,Zal];by_cases h:i<L.length
  ·rw[if_pos (by omega),Zax ⟨by omega,by omega⟩];simp only[Int.toNat_natCast];rw[add1 h hL,ZeB L Zau.d i h];generalize L.getD i Zau.d=x;obtain⟨r,r1,r2,r3,r4⟩:=ih (i+1) (if x.fV>v then x.fV else v) (by omega) (by omega);refine⟨r,r1,by split at r2<;>omega,fun y hy=>?_,?_⟩
   ·rcases List.mem_cons.1 hy with e|hy
    ·subst e;split at r2<;>omega
    ·exact r3 y hy
   ·rcases r4 with e|⟨y,y1,y2⟩
    ·split at e
     ·exact .inr ⟨x,by simp,e⟩
     ·exact .inl e
    ·exact .inr ⟨y,by simp[y1],y2⟩
  ·rw[if_neg (by omega)];have:L.drop i=[]:=List.drop_eq_nil_of_le (by omega);exact⟨v,rfl,Int.le_refl _,by simp[this],.inl rfl⟩
theorem ZCz(l:List Zab)(a:Zag)(now:Int)(hl:l.length≤maxLen)(hok:∀b∈l,b.ok)(ha:a.ok):∃r,Zib l a now=some r∧Zvr l a now r:=by
 obtain⟨t,t1,t2⟩:=ZDf l now hl hok;obtain⟨L,c1,hL,c2⟩:=Zzm t2.gt a ha;simp only[Zib,t1,c1,Option.bind_some];have one:∀x∈L,∃b,Zlw l a now b∧b.fUntil=x.fV:=fun x hx=>by
  obtain⟨x1,x2⟩:=(c2 x).1 hx;obtain⟨b,b1,b2,b3,b4⟩:=t2.from_ x x1;exact⟨b,⟨b1,b2,by rw[b3];exact x2⟩,b4⟩
 have two:∀b,Zlw l a now b→∃x∈L,b.fUntil≤x.fV:=fun b hb=>by
  have hr:ZgD b.fNet=true:=by have:=hb.2.2;unfold hasS at this;rw[Bool.and_eq_true]at this;exact this.1
  obtain⟨x,x1,x2,x3⟩:=t2.has b hb.1 hb.2.1 hr;exact⟨x,(c2 x).2 ⟨x1,by rw[x2];exact hb.2.2⟩,x3⟩
 by_cases h0:L=[]
 ·subst h0;refine⟨0,rfl,.inl ⟨rfl,fun b hb=>?_⟩⟩;obtain⟨x,hx,_⟩:=two b hb;simp at hx
 ·have hpos:0<L.length:=List.length_pos_iff.2 h0;rw[show (((L.length:Nat):Int)==0)=false by rw[beq_eq_false_iff_ne];omega,cond_false,Zax ⟨by omega,by omega⟩];obtain⟨r,r1,r2,r3,r4⟩:=ZDb L hL ((((L.length:Nat):Int)-(0:Int)).toNat+2) 0 (L.getD (0:Int).toNat Zau.d).fV (by omega) (by omega);simp only[Int.natCast_zero,List.drop_zero]at r1 r3 r4;refine⟨r,r1,.inr ?_⟩;have hex:∃x∈L,r=x.fV:=by
   rcases r4 with e|e
   ·exact⟨_,ZiE L Zau.d 0 hpos,e⟩
   ·exact e
  obtain⟨x,x1,x2⟩:=hex;obtain⟨b,b1,b2⟩:=one x x1;refine⟨b,b1,by omega,fun c hc=>?_⟩;obtain⟨y,y1,y2⟩:=two c hc;have:=r3 y y1;omega
theorem Zuw(l:List Zab)(a:Zag)(now:Int)(hl:l.length≤maxLen)(hok:∀b∈l,b.ok)(ha:a.ok):∀fu (i:Nat) (v:Int) (q:Bool),i≤l.length→l.length-i<fu →
  ∃r,ZbE l now fu v q (i:Int) a=some r∧(∀b,Zlw (l.drop i) a now b→b.fUntil≤r)∧(q=true→v≤r)∧(r=v∨∃b,Zlw (l.drop i) a now b∧r=b.fUntil)∧(q=false→(∃b,Zlw (l.drop i) a now b)→∃b,Zlw (l.drop i) a now b∧r=b.fUntil):=by
 intro fu;induction fu with
 |zero=>intro _ _ _ _ h;omega
 |succ fu ih=>
  intro i v q hi hf;simp only[ZbE,Zal];by_cases h:i<l.length
  ·rw[if_pos (by omega),Zax ⟨by omega,by omega⟩];simp only[Int.toNat_natCast];have hko:=hok _ (ZiE l Zab.d i h);rw[add1 h hl,ZeB l Zab.d i h];generalize l.getD i Zab.d=b at hko ⊢;have hhit:ZfK b a now=some (decide (now<b.fUntil)&&hasS b.fNet a):=by
    simp only[ZfK,Zyv _ _ hko.1.1 ha,Zal,gt_iff_lt,Option.bind_some];by_cases h:now<b.fUntil
    ·rw[if_pos h,decide_eq_true h];rfl
    ·rw[if_neg h,decide_eq_false h];rfl
   rw[hhit];simp only[Option.bind_some];have hsub:∀c,Zlw (l.drop (i+1)) a now c→Zlw (b :: l.drop (i+1)) a now c:=fun c hc=>⟨by simp[hc.1],hc.2⟩;cases hq:(decide (now<b.fUntil)&&hasS b.fNet a)with
   |false=>
    simp only[cond_false];have hno:∀c,Zlw (b :: l.drop (i+1)) a now c↔Zlw (l.drop (i+1)) a now c:=fun c=>by
     refine⟨fun hc=>⟨?_,hc.2⟩,hsub c⟩;rcases List.mem_cons.1 hc.1 with e|hm
     ·subst e;rw[decide_eq_true hc.2.1,hc.2.2]at hq;cases hq
     ·exact hm
    obtain⟨r,r1,r2,r3,r4,r5⟩:=ih (i+1) v q (by omega) (by omega);refine⟨r,r1,fun c hc=>r2 c ((hno c).1 hc),r3,?_,fun hf hx=>?_⟩
    ·rcases r4 with e|⟨c,c1,c2⟩
     ·exact .inl e
     ·exact .inr ⟨c,hsub c c1,c2⟩
    ·obtain⟨c,hc⟩:=hx;obtain⟨d,d1,d2⟩:=r5 hf ⟨c,(hno c).1 hc⟩;exact⟨d,hsub d d1,d2⟩
   |true=>
    simp only[cond_true];rw[Bool.and_eq_true,decide_eq_true_eq]at hq;have hb:Zlw (b :: l.drop (i+1)) a now b:=⟨by simp,hq⟩
    -- what follows from a step that took b's,or something longer
    have step:∀v',b.fUntil≤v'→(q=true→v≤v')→(v'=b.fUntil∨(q=true∧v'=v))→∃r,ZbE l now fu v' true ((i+1:Nat):Int) a=some r∧(∀c,Zlw (b :: l.drop (i+1)) a now c→c.fUntil≤r)∧(q=true→v≤r)∧(r=v∨∃c,Zlw (b :: l.drop (i+1)) a now c∧r=c.fUntil)∧(q=false→(∃c,Zlw (b :: l.drop (i+1)) a now c)→∃c,Zlw (b :: l.drop (i+1)) a now c∧r=c.fUntil):=by
     intro v' g1 g2 g3;obtain⟨r,r1,r2,r3,r4,r5⟩:=ih (i+1) v' true (by omega) (by omega);have r3':=r3 rfl;refine⟨r,r1,fun c hc=>?_,fun hq1=>by have:=g2 hq1;omega,?_,fun hf _=>?_⟩
     ·rcases List.mem_cons.1 hc.1 with e|hm
      ·subst e;omega
      ·exact r2 c ⟨hm,hc.2⟩
     ·rcases r4 with e|⟨c,c1,c2⟩
      ·rcases g3 with e2|⟨_,e2⟩
       ·exact .inr ⟨b,hb,by omega⟩
       ·exact .inl (by omega)
      ·exact .inr ⟨c,hsub c c1,c2⟩
     ·rcases r4 with e|⟨c,c1,c2⟩
      ·rcases g3 with e2|⟨e1,_⟩
       ·exact⟨b,hb,by omega⟩
       ·rw[hf]at e1;cases e1
      ·exact⟨c,hsub c c1,c2⟩
    cases q with
    |false=>
     rw[Bool.not_false,cond_true];exact step b.fUntil (Int.le_refl _) (fun h=>by cases h) (.inl rfl)
    |true=>
     rw[Bool.not_true,cond_false];by_cases hgt:b.fUntil>v
     ·rw[if_pos hgt];exact step b.fUntil (Int.le_refl _) (fun _=>by omega) (.inl rfl)
     ·rw[if_neg hgt];exact step v (by omega) (fun _=>Int.le_refl _) (.inr ⟨rfl,rfl⟩)
  ·rw[if_neg (by omega)];have:l.drop i=[]:=List.drop_eq_nil_of_le (by omega);rw[this];exact⟨v,rfl,fun b hb=>by simp[Zlw]at hb,fun _=>Int.le_refl _,.inl rfl,fun _ ⟨b,hb⟩=>by simp[Zlw]at hb⟩
theorem Zxi(l:List Zab)(a:Zag)(now:Int)(hl:l.length≤maxLen)(hok:∀b∈l,b.ok)(ha:a.ok):∃r,ZdB l a now=some r∧Zvr l a now r:=by
 obtain⟨r,r1,r2,r3,r4,r5⟩:=Zuw l a now hl hok ha ((((l.length:Nat):Int)-(0:Int)).toNat+2) 0 0 false (by omega) (by omega);simp only[Int.natCast_zero,List.drop_zero]at r1 r2 r4 r5;refine⟨r,r1,?_⟩;by_cases h:∃b,Zlw l a now b
 ·obtain⟨b,b1,b2⟩:=r5 trivial h;exact .inr ⟨b,b1,b2,r2⟩
 ·refine .inl ⟨?_,fun b hb=>h ⟨b,hb⟩⟩;rcases r4 with e|⟨b,b1,_⟩
  ·exact e
  ·exact absurd ⟨b,b1⟩ h
def Zyl(l:List Zab)(a:Zag)(now:Int):Int:=(Zib l a now).getD 0
theorem ZrN(l:List Zab)(a:Zag)(now:Int)(hl:l.length≤maxLen)(hok:∀b∈l,b.ok)(ha:a.ok):Zib l a now=some (Zyl l a now)∧ZdB l a now=some (Zyl l a now):=by
 obtain⟨r,u1,u2⟩:=ZCz l a now hl hok ha;obtain⟨s,u3,u4⟩:=Zxi l a now hl hok ha;have hrs:r=s:=ZzM u2 u4 fun b=>Iff.rfl;subst hrs;unfold Zyl;rw[u1,u3];exact⟨rfl,rfl⟩
def ZlG(a:Zah):Bool:=ZeR a.fAddr&&decide (1≤a.fPort)&&decide (a.fPort≤65535)
theorem ZzZ(a:Zah)(h:a.ok):Zke a=some (ZlG a):=by
 simp only[Zke,ZkT _ h.1,ZlG,Option.bind_some];generalize ZeR a.fAddr=b;cases b<;>simp only[cond_true,cond_false,Bool.true_and,Bool.false_and];simp only[Bool.cond_eq_ite,beq_iff_eq,bne_iff_ne,ne_eq,decide_eq_true_eq,Bool.not_eq_true',Bool.not_eq_false',decide_eq_false_iff_not]
 repeat' split
 all_goals first|rfl | (rw[Option.some.injEq,Bool.eq_iff_iff];simp only[Bool.and_eq_true,Bool.not_eq_true',Bool.not_eq_false',Bool.and_eq_false_iff,decide_eq_true_eq,decide_eq_false_iff_not,beq_iff_eq,bne_iff_ne,ne_eq,iff_true,iff_false,true_iff,false_iff,Bool.false_eq_true,Bool.true_eq_false,not_true_eq_false,not_false_eq_true];omega)
theorem ZvL(a:Zah)(h:a.ok):Zfr a=some (ZlG a):=by
 simp only[Zfr,ZpI _ h.1,ZlG,Option.bind_some];generalize ZeR a.fAddr=b;cases b<;>simp only[cond_true,cond_false,Bool.true_and,Bool.false_and];simp only[Bool.cond_eq_ite,beq_iff_eq,bne_iff_ne,ne_eq,decide_eq_true_eq,Bool.not_eq_true',Bool.not_eq_false',decide_eq_false_iff_not]
 repeat' split
 all_goals first|rfl | (rw[Option.some.injEq,Bool.eq_iff_iff];simp only[Bool.and_eq_true,Bool.not_eq_true',Bool.not_eq_false',Bool.and_eq_false_iff,decide_eq_true_eq,decide_eq_false_iff_not,beq_iff_eq,bne_iff_ne,ne_eq,iff_true,iff_false,true_iff,false_iff,Bool.false_eq_true,Bool.true_eq_false,not_true_eq_false,not_false_eq_true];omega)
def cmpE(a b:Zah):Int:=orI (cmpA a.fAddr b.fAddr) (cmpI a.fPort b.fPort)
theorem ZDl(a b:Zah):Zix a b=some (cmpE a b):=by
 simp only[Zix,Zzf,ZxX,or2,Option.bind_some,cmpE]
theorem ZCS(a b:Zah):Zez a b=some (cmpE a b):=by
 simp only[Zez,Zyu,Option.bind_some,cmpE,orI,cmpI];simp only[Bool.cond_eq_ite,bne_iff_ne,ne_eq,ite_not,decide_eq_true_eq,beq_iff_eq];generalize cmpA a.fAddr b.fAddr=c
 (repeat' split)<;>first|rfl|omega | (congr 1;omega)|simp_all
theorem ZBS{a b:Zah}:cmpE a b<0↔cmpA a.fAddr b.fAddr<0∨(a.fAddr=b.fAddr∧a.fPort<b.fPort):=by simp only[cmpE,ZDJ,ZBQ,ZsT]
theorem ZEH{a b:Zah}:0<cmpE a b↔0<cmpA a.fAddr b.fAddr∨(a.fAddr=b.fAddr∧b.fPort<a.fPort):=by simp only[cmpE,ZDK,ZBR,ZsT]
theorem ZwA{a b:Zah}:cmpE a b=0↔a=b:=by
 simp only[cmpE,ZyB,Zqs,ZsT];obtain⟨x,p⟩:=a;obtain⟨y,q⟩:=b;simp
theorem Zqt{a b:Zah}:0<cmpE a b↔cmpE b a<0:=by
 rw[ZEH,ZBS,ZBT];constructor<;>rintro (h|⟨h1,h2⟩)<;>first|exact .inl h|exact .inr ⟨h1.symm,h2⟩
theorem Zug{a b c:Zah}(h1:cmpE a b<0)(h2:cmpE b c<0):cmpE a c<0:=by
 rw[ZBS]at *
 rcases h1 with h1|⟨h1,h3⟩<;>rcases h2 with h2|⟨h2,h4⟩
 ·exact .inl (ZAb h1 h2)
 ·exact .inl (h2 ▸ h1)
 ·exact .inl (h1 ▸ h2)
 ·exact .inr ⟨h1.trans h2,by omega⟩
theorem ZDn(l:List Zad)(h:l.length≤10000):ZbF l=some l:=by
 unfold ZbF;rw[Zax ⟨by omega,ZpE (by omega)⟩]
theorem ZxW(l:List Zah)(e:Zah)(hl:l.length≤maxLen):Zcm l e=some (l.contains e):=by
 simp only[Zcm,ZdE];have:=Zsn l Zah.d (fun x=>decide (e=x)) hl (fun fu i=>Zbu l fu (l.length:Int) i e) (fun i=>i) (fun fu i hi=>by
   simp only[Zbu,Zal];rw[if_pos (by omega),Zax ⟨by omega,by omega⟩];simp) (fun fu=>by
   simp only[Zbu,Zal];rw[if_neg (by omega)]) ((((l.length:Nat):Int)-(0:Int)).toNat+2) 0 (by omega) (by omega)
 simp only[Int.natCast_zero,List.drop_zero]at this;rw[this];simp only[Option.bind_some,Option.some.injEq];rw[Bool.eq_iff_iff,decide_eq_true_eq,List.contains_iff_mem];have hn:=ZuR (fun x=>decide (e=x)) l 0;constructor
 ·intro h;obtain⟨k,h1,_,⟨x,h3,h4⟩,_⟩:=Zrz _ l 0 h;rw[of_decide_eq_true h4];exact List.mem_of_getElem? h3
 ·intro h;apply Int.not_lt.1;intro h1;have:=hn.1 h1 e h;simp at this
theorem ZEK(l:List Zah)(e:Zah)(hl:l.length≤maxLen):Zgp l e=some (l.contains e):=by
 simp only[Zgp];have:=Zsn l Zah.d (fun x=>decide (x=e)) hl (fun fu i=>ZcG l fu i e) (fun i=>decide (0≤i)) (fun fu i hi=>by
   simp only[ZcG,Zal];rw[if_pos (by omega),Zax ⟨by omega,by omega⟩];simp) (fun fu=>by
   simp only[ZcG,Zal];rw[if_neg (by omega)];rfl) ((((l.length:Nat):Int)-(0:Int)).toNat+2) 0 (by omega) (by omega)
 simp only[Int.natCast_zero,List.drop_zero]at this;rw[this];congr 1;rw[Bool.eq_iff_iff,decide_eq_true_eq,List.contains_iff_mem];have hn:=ZuR (fun x=>decide (x=e)) l 0;constructor
 ·intro h;obtain⟨k,h1,_,⟨x,h3,h4⟩,_⟩:=Zrz _ l 0 h;rw[←of_decide_eq_true h4];exact List.mem_of_getElem? h3
 ·intro h;apply Int.not_lt.1;intro h1;have:=hn.1 h1 e h;simp at this
def Zwz(ends:List Zah)(x:Zad):Zad:=if x.fState=3 then(if ends.contains x.fEnd then⟨x.fEnd,1,x.fFails,x.fNext⟩else x)else x
theorem Zrq{α:Type}(l:List α)(d:α)(i:Nat)(h:i<l.length):l.set i (l.getD i d)=l:=by
 apply List.ext_getElem?;intro k;rw[List.getElem?_set];split
 ·rename_i e;subst e;rw[ZgI l d i h,List.getElem?_eq_getElem h]
 ·rfl
theorem ZCc(l:List Zad)(ends:List Zah)(h:l.length≤10000)(hm:ends.length≤maxLen):ZjO l ends=some (l.map (Zwz ends)):=by
 simp only[ZjO,ZDn l h,Option.bind_some];have:=ZyH (Zwz ends) Zad.d l.length (ZpE (by omega)) (fun fu i w=>ZdW ends fu (l.length:Int) i w) some (fun fu i w hw hi=>by
   simp only[ZdW,Zal,ZxW ends _ hm,ZlN,Option.bind_some];rw[if_pos (by omega),Zax ⟨by omega,by omega⟩];simp only[Int.toNat_natCast,Zwz,Bool.cond_eq_ite,beq_iff_eq];split
   ·split
    ·rfl
    ·rw[Zrq w _ i (by omega)]
   ·rw[Zrq w _ i (by omega)]) (fun fu w hw=>by
   simp only[ZdW,Zal];rw[if_neg (by omega)]) ((((l.length:Nat):Int)-(0:Int)).toNat+2) 0 l rfl (by omega) (by omega)
 simpa using this
theorem Zuu(l:List Zad)(ends:List Zah)(h:l.length≤10000)(hm:ends.length≤maxLen):ZeG l ends=some (l.map (Zwz ends)):=by
 simp only[ZeG,List.nil_append];rw[Zax ⟨by omega,ZpE (by omega)⟩];have:=ZyH (Zwz ends) Zad.d l.length (ZpE (by omega)) (fun fu i w=>ZbZ ends fu i w) some (fun fu i w hw hi=>by
   simp only[ZbZ,Zal,ZEK ends _ hm,Option.bind_some];rw[if_pos (by omega),Zax ⟨by omega,by omega⟩];simp only[Int.toNat_natCast,Zwz,Bool.cond_eq_ite,beq_iff_eq];split
   ·split
    ·rfl
    ·rw[Zrq w _ i (by omega)]
   ·rw[Zrq w _ i (by omega)]) (fun fu w hw=>by
   simp only[ZbZ,Zal];rw[if_neg (by omega)]) ((((l.length:Nat):Int)-(0:Int)).toNat+2) 0 l rfl (by omega) (by omega)
 simpa using this
set_option maxRecDepth 100000 in
def Zhk(l:List Zab)(now:Int):List Zab:=l.filter fun b=>decide (now<b.fUntil)
theorem ZtB{b:Zab}{r:List Zab}{now:Int}(h:now<b.fUntil):Zhk (b :: r) now=b :: Zhk r now:=by simp[Zhk,h]
theorem Zvz{b:Zab}{r:List Zab}{now:Int}(h:¬now<b.fUntil):Zhk (b :: r) now=Zhk r now:=by simp[Zhk,h]
theorem ZmT{n:Nat}(h:n≤100000):n * 40≤140737488355328∧n≤maxLen:=⟨by omega,by unfold maxLen;omega⟩
theorem Zzo(l:List Zab)(now:Int)(hl:l.length≤10000):∀fu (i:Nat) (w:List Zab),i≤l.length→l.length-i<fu→w.length≤i →
  ZeX l now fu l (l.length:Int) (i:Int) w=some (w++Zhk (l.drop i) now,((l.length:Int)-((w++Zhk (l.drop i) now).length:Int))):=by
 have hm:l.length≤maxLen:=by unfold maxLen;omega
 intro fu;induction fu with
 |zero=>intro _ _ _ h;omega
 |succ fu ih=>
  intro i w hi hf hw;simp only[ZeX,Zal,ZwM,Option.bind_some];by_cases h:i<l.length
  ·rw[if_pos (by omega),Zax ⟨by omega,by omega⟩];simp only[Int.toNat_natCast];rw[add1 h hm,ZeB l Zab.d i h];by_cases hb:now<(l.getD i Zab.d).fUntil
   ·have hs:=ZtB (r:=l.drop (i+1)) hb;rw[if_pos hb,Zax (ZmT (by simp;omega)),ih (i+1) _ (by omega) (by omega) (by simp;omega),hs];simp
   ·have hs:=Zvz (r:=l.drop (i+1)) hb;rw[if_neg hb,ih (i+1) w (by omega) (by omega) (by omega),hs]
  ·have e:i=l.length:=by omega
   rw[if_neg (by omega),e,List.drop_length];simp only[Zhk,List.filter_nil,List.append_nil];rw[Zds (by omega) (by omega)]
theorem ZAf(l:List Zab)(now:Int)(hl:l.length≤10000):Zkk l now=some (Zhk l now,((l.length:Int)-((Zhk l now).length:Int))):=by
 have:=Zzo l now hl ((((l.length:Nat):Int)-(0:Int)).toNat+2) 0 [] (by omega) (by omega) (by simp);simpa[Zkk]using this
theorem Zut(l:List Zab)(now:Int)(hl:l.length≤10000):∀fu (i:Nat) (w:List Zab),i≤l.length→l.length-i<fu→w.length≤i →
  Zcq l now fu (i:Int) w=some (w++Zhk (l.drop i) now,((l.length:Int)-((w++Zhk (l.drop i) now).length:Int))):=by
 have hm:l.length≤maxLen:=by unfold maxLen;omega
 intro fu;induction fu with
 |zero=>intro _ _ _ h;omega
 |succ fu ih=>
  intro i w hi hf hw;simp only[Zcq,Zal,gt_iff_lt];by_cases h:i<l.length
  ·rw[if_pos (by omega),Zax ⟨by omega,by omega⟩];simp only[Int.toNat_natCast];rw[add1 h hm,ZeB l Zab.d i h];by_cases hb:now<(l.getD i Zab.d).fUntil
   ·have hs:=ZtB (r:=l.drop (i+1)) hb;rw[if_pos hb,Zax (ZmT (by simp;omega)),ih (i+1) _ (by omega) (by omega) (by simp;omega),hs];simp
   ·have hs:=Zvz (r:=l.drop (i+1)) hb;rw[if_neg hb,ih (i+1) w (by omega) (by omega) (by omega),hs]
  ·have e:i=l.length:=by omega
   rw[if_neg (by omega),e,List.drop_length];simp only[Zhk,List.filter_nil,List.append_nil];rw[Zds (by omega) (by omega)]
theorem ZvK(l:List Zab)(now:Int)(hl:l.length≤10000):Zem l now=some (Zhk l now,((l.length:Int)-((Zhk l now).length:Int))):=by
 have:=Zut l now hl ((((l.length:Nat):Int)-(0:Int)).toNat+2) 0 [] (by omega) (by omega) (by simp);simpa[Zem]using this
theorem ZtC(l:List Zab)(now:Int):(Zhk l now).length≤l.length:=List.length_filter_le _ _
def ZmU(b:Zab):Bool:=ZgD b.fNet&&decide (1≤b.fUntil)&&decide (b.fUntil≤1099511627776)
theorem ZCf(b:Zab)(h:b.ok):Zln b=some (ZmU b):=by
 simp only[Zln,ZjR _ h.1.1,ZmU,Option.bind_some,Zal];cases ZgD b.fNet
 ·rfl
 ·simp only[cond_true,Bool.true_and];by_cases h1:1≤b.fUntil
  ·rw[if_pos h1,decide_eq_true h1];rfl
  ·rw[if_neg h1,decide_eq_false h1];rfl
theorem Zxl(b:Zab)(h:b.ok):Zfq b=some (ZmU b):=by
 simp only[Zfq,ZqA _ h.1.1,ZmU,Option.bind_some,Zal];cases ZgD b.fNet
 ·rfl
 ·simp only[cond_true,Bool.true_and];by_cases h1:1≤b.fUntil
  ·rw[if_pos (by omega),decide_eq_true h1];rfl
  ·rw[if_neg (by omega),decide_eq_false h1];rfl
def ZjQ(l:List Zab)(n:Zaq):Int:=ixOf (fun x=>decide (x.fNet=n)) l 0
def Zui(l:List Zab)(n:Zaq):Int:=ixOf (fun x=>decide (0<cmpN x.fNet n)) l 0
theorem ZwL(l:List Zab)(n:Zaq)(hl:l.length≤maxLen):ZjP l n=some (ZjQ l n):=by
 simp only[ZjP,Zct];rw[show ((0:Int))=((0:Nat):Int)from rfl];rw[Zsn l Zab.d (fun x=>decide (x.fNet=n)) hl (fun fu i=>ZaV l n fu (l.length:Int) i) (fun i=>i) ?_ ?_ _ 0 (by omega) (by omega)]
 ·rfl
 ·intro fu i hi;simp only[ZaV,ZkF,Zal,Option.bind_some];rw[if_pos (by omega),Zax ⟨by omega,by omega⟩];simp
 ·intro fu;simp only[ZaV,Zal];rw[if_neg (by omega)]
theorem ZtJ(l:List Zab)(n:Zaq)(hl:l.length≤maxLen):Zen l n=some (ZjQ l n):=by
 simp only[Zen];rw[show ((0:Int))=((0:Nat):Int)from rfl];rw[Zsn l Zab.d (fun x=>decide (x.fNet=n)) hl (fun fu i=>Zcr l fu i n) (fun i=>i) ?_ ?_ _ 0 (by omega) (by omega)]
 ·rfl
 ·intro fu i hi;simp only[Zcr,Zal];rw[if_pos (by omega),Zax ⟨by omega,by omega⟩];simp
 ·intro fu;simp only[Zcr,Zal];rw[if_neg (by omega)]
theorem ZAg(l:List Zab)(b:Zab)(hl:l.length≤maxLen):ZbV l b=some (Zui l b.fNet):=by
 simp only[ZbV];rw[show ((0:Int))=((0:Nat):Int)from rfl];rw[Zsn l Zab.d (fun x=>decide (0<cmpN x.fNet b.fNet)) hl (fun fu i=>ZaW l b fu (l.length:Int) i) (fun i=>i) ?_ ?_ _ 0 (by omega) (by omega)]
 ·rfl
 ·intro fu i hi;simp only[ZaW,ZlR,ZDo,Zal,Option.bind_some];rw[if_pos (by omega),Zax ⟨by omega,by omega⟩];simp
 ·intro fu;simp only[ZaW,Zal];rw[if_neg (by omega)]
def putB(l:List Zab)(b:Zab):List Zab:=l.takeWhile (fun x=>!decide (0<cmpN x.fNet b.fNet))++[b]++l.dropWhile (fun x=>!decide (0<cmpN x.fNet b.fNet))
def ZEw(x b:Zab):Zab:=⟨x.fNet,if b.fUntil>x.fUntil then b.fUntil else x.fUntil⟩
def addB(l:List Zab)(b:Zab)(most:Int):List Zab×Int:=if ZmU b then if 0≤ZjQ l b.fNet then(l.set (ZjQ l b.fNet).toNat (ZEw (l.getD (ZjQ l b.fNet).toNat Zab.d) b),0)else if(l.length:Int)≥most then([],5)else(putB l b,0)else([],1)
theorem Zva(l:List Zab)(n:Zaq)(h:0≤ZjQ l n):(ZjQ l n).toNat<l.length∧(l.getD (ZjQ l n).toNat Zab.d).fNet=n:=by
 obtain⟨k,h1,h2,⟨x,h3,h4⟩,_⟩:=Zrz _ l 0 h;have e:(ZjQ l n).toNat=k:=by unfold ZjQ;rw[h2];omega
 rw[e];refine⟨h1,?_⟩;rw[List.getD_eq_getElem?_getD,h3];simpa using h4
theorem ZwB(l:List Zab)(h:l.length≤10000):Zbz l=some l:=by
 unfold Zbz;rw[Zax (ZmT (by omega))]
theorem ZtW(l:List Zab)(i:Int)(e:Zab)(h:l.length≤10000)(h0:0≤i)(h1:i.toNat≤l.length):Zbw l i [e]=some (l.take i.toNat++[e]++l.drop i.toNat):=by
 unfold Zbw;rw[Zax ⟨h0,h1,by simp,by simp only[List.length_cons,List.length_nil];omega,by unfold maxLen;simp only[List.length_cons,List.length_nil];omega⟩]
theorem ZDt(l:List Zab)(b:Zab)(most:Int)(h:l.length≤10000)(hb:b.ok):ZmL l b most=some (addB l b most):=by
 have hm:l.length≤maxLen:=by unfold maxLen;omega
 have hs:=ZtV (fun x:Zab=>decide (0<cmpN x.fNet b.fNet)) l 0;have hle:=ZBh (fun x:Zab=>decide (0<cmpN x.fNet b.fNet)) l 0;simp only[ZmL,ZCf b hb,ZwL l _ hm,ZAg l b hm,ZwB l h,Option.bind_some,addB];cases ZmU b
 ·rfl
 ·simp only[Bool.not_true,cond_false,if_true,Zal,ge_iff_le];by_cases h1:0≤ZjQ l b.fNet
  ·obtain⟨f1,f2⟩:=Zva l b.fNet h1;simp only[h1,if_true];rw[Zax ⟨trivial,by omega⟩];simp only[ZoH,f2,decide_true,cond_true,Option.bind_some];rw[Zax ⟨trivial,by omega⟩];simp only[ZEw,f2]
  ·simp only[h1,if_false];by_cases h2:most≤(l.length:Int)
   ·simp only[h2,if_true]
   ·simp only[h2,if_false];by_cases h3:Zui l b.fNet<0
    ·rw[if_pos h3,ZtW l _ b h (by omega) (by simp)];simp only[Option.bind_some];obtain⟨h4,h5⟩:=hs.1 h3;unfold putB;rw[h4,h5];simp
    ·rw[if_neg h3];have h3':0≤Zui l b.fNet:=by omega
     unfold Zui at h3';rw[ZtW l _ b h (by omega) (by unfold Zui;omega)];simp only[Option.bind_some];obtain⟨_,h4,h5⟩:=hs.2 h3';unfold putB Zui;rw[h4,h5];rfl
theorem ZCT(l:List Zab)(e:Zab)(h:l.length≤10000):∀fu (i:Nat),i≤l.length→l.length-i<fu →
  Zdm l fu (i:Int) e=some (l.take i++putB (l.drop i) e,0):=by
 have hm:l.length≤maxLen:=by unfold maxLen;omega
 have hfin:∀i:Nat,i≤l.length→(need (0≤(i:Int)∧(i:Int)≤((l.length:Nat):Int)) <|
   need ((([]:List Zab)++(l.take (i:Int).toNat)).length * 40≤140737488355328∧(([]:List Zab)++(l.take (i:Int).toNat)).length≤maxLen) <|
   need (((([]:List Zab)++(l.take (i:Int).toNat))++([e]:List Zab)).length * 40≤140737488355328∧((([]:List Zab)++(l.take (i:Int).toNat))++([e]:List Zab)).length≤maxLen) <|
   need ((((([]:List Zab)++(l.take (i:Int).toNat))++([e]:List Zab))++(l.drop (i:Int).toNat)).length * 40≤140737488355328∧(((([]:List Zab)++(l.take (i:Int).toNat))++([e]:List Zab))++(l.drop (i:Int).toNat)).length≤maxLen) <|
   some ((((([]:List Zab)++(l.take (i:Int).toNat))++([e]:List Zab))++(l.drop (i:Int).toNat)),(0:Int)))=some (l.take i++[e]++l.drop i,0):=by
  intro i hi;rw[Zax ⟨by omega,by omega⟩,Zax (ZmT (by simp;omega)),Zax (ZmT (by simp;omega)),Zax (ZmT (by simp;omega))];simp
 intro fu;induction fu with
 |zero=>intro i _ h;omega
 |succ fu ih=>
  intro i hi hf;simp only[Zdm,ZCR,Option.bind_some,Zal];by_cases hlt:i<l.length
  ·rw[if_pos (by omega),Zax ⟨by omega,by omega⟩];have hd:=ZeB l Zab.d i hlt;by_cases hc:cmpN (l.getD i Zab.d).fNet e.fNet≤0
   ·rw[if_pos (by simpa using hc),add1 hlt hm,ih (i+1) (by omega) (by omega)];congr 2;unfold putB;rw[hd,List.takeWhile_cons,List.dropWhile_cons,if_pos (by simp;simpa using hc),if_pos (by simp;simpa using hc),List.take_succ_eq_append_getElem hlt];rw[ZgI l Zab.d i hlt];simp only[List.append_assoc,List.cons_append,List.nil_append]
   ·rw[if_neg (by simpa using hc),hfin i hi];congr 2;unfold putB;rw[hd,List.takeWhile_cons,List.dropWhile_cons,if_neg (by simp;simpa using hc),if_neg (by simp;simpa using hc)];simp
  ·rw[if_neg (by omega),hfin i hi];have:l.drop i=[]:=List.drop_eq_nil_of_le (by omega);rw[this];simp[putB]
theorem ZCU(l:List Zab)(b:Zab)(most:Int)(h:l.length≤10000)(hb:b.ok):Zgq l b most=some (addB l b most):=by
 have hm:l.length≤maxLen:=by unfold maxLen;omega
 simp only[Zgq,Zxl b hb,ZtJ l _ hm,Option.bind_some,addB];cases ZmU b
 ·rfl
 ·simp only[Bool.not_true,cond_false,if_true,Zal,ge_iff_le,List.nil_append];by_cases h1:0≤ZjQ l b.fNet
  ·obtain⟨f1,f2⟩:=Zva l b.fNet h1;simp only[h1,if_true];rw[Zax (ZmT (by omega)),Zax ⟨trivial,by omega⟩];unfold ZEw;by_cases hg:b.fUntil>(l.getD (ZjQ l b.fNet).toNat Zab.d).fUntil
   ·simp only[hg,if_true]
   ·simp only[hg,if_false];congr 2;have e:(⟨(l.getD (ZjQ l b.fNet).toNat Zab.d).fNet,(l.getD (ZjQ l b.fNet).toNat Zab.d).fUntil⟩ : Zab)=l[(ZjQ l b.fNet).toNat]:=by rw[ZgI l _ _ f1]
    rw[e,List.set_getElem_self]
  ·simp only[h1,if_false];by_cases h2:most≤(l.length:Int)
   ·simp only[h2,if_true]
   ·simp only[h2,if_false];have:=ZCT l b h ((((l.length:Nat):Int)-(0:Int)).toNat+2) 0 (by omega) (by omega);simpa using this
def ZnR(l:List Zab)(n:Zaq):List Zab×Int:=if ZjQ l n<0 then([],6)else(l.take (ZjQ l n).toNat++l.drop ((ZjQ l n).toNat+1),0)
theorem ZAa(l:List Zab)(i:Nat)(h:l.length≤10000)(hi:i<l.length):Zcz l (i:Int) ((i+1:Nat):Int)=some (l.take i++l.drop (i+1)):=by
 unfold Zcz;have hal:(appL l i (i+1) (l.length-(i+1))).length=l.length:=ZCi l i (i+1) (l.length-(i+1)) ⟨by omega,by omega⟩;rw[Zax ⟨by omega,by omega,by omega,by omega⟩,show ((i:Int)==((i+1:Nat):Int))=false by rw[beq_eq_false_iff_ne];omega,cond_false];simp only[Int.toNat_natCast,Nat.zero_add];rw[Zax ⟨by omega,by omega,by omega⟩,Zax ⟨by omega,by omega,by omega⟩,Zax ⟨by omega,by omega⟩,Zax ⟨by omega,by omega,by omega⟩,Zax (by rw[hal];omega),Zax (by rw[ZwC _ _ _ _ (by rw[hal];omega),hal];omega)];congr 1;unfold Zjx;rw[List.append_assoc,List.take_append_of_le_length (by simp[hal];omega),List.take_take,Nat.min_self];unfold appL;rw[List.take_append_of_le_length (by simp;omega),List.take_of_length_le (by simp;omega)];congr 1;rw[List.take_of_length_le (by simp)]
theorem ZCe(l:List Zab)(n:Zaq)(h:l.length≤10000):Zlm l n=some (ZnR l n):=by
 have hm:l.length≤maxLen:=by unfold maxLen;omega
 simp only[Zlm,ZwL l n hm,ZwB l h,Option.bind_some,Zal,ZnR];by_cases h1:ZjQ l n<0
 ·rw[if_pos h1,if_pos h1]
 ·rw[if_neg h1,if_neg h1];obtain⟨f1,_⟩:=Zva l n (by omega);have e:ZjQ l n=(((ZjQ l n).toNat:Nat):Int):=by omega
  generalize (ZjQ l n).toNat=k at f1 e;rw[e,add1 f1 hm,ZAa l k h f1];rfl
theorem ZvM(l:List Zab)(n:Zaq)(h:l.length≤10000):ZeH l n=some (ZnR l n):=by
 have hm:l.length≤maxLen:=by unfold maxLen;omega
 simp only[ZeH,ZtJ l n hm,Option.bind_some,Zal,ZnR];by_cases h1:ZjQ l n<0
 ·rw[if_pos h1,if_pos h1]
 ·rw[if_neg h1,if_neg h1];obtain⟨f1,_⟩:=Zva l n (by omega);have e:ZjQ l n=(((ZjQ l n).toNat:Nat):Int):=by omega
  generalize (ZjQ l n).toNat=k at f1 e;rw[e,add1 f1 hm];simp only[Int.toNat_natCast,List.nil_append];rw[Zax ⟨by omega,by omega⟩,Zax (ZmT (by simp;omega)),Zax ⟨by omega,by omega⟩,Zax (ZmT (by simp;omega))]
theorem ZCV(l:List Zab)(e:Zab):(putB l e).length=l.length+1:=by
 unfold putB;have:=congrArg List.length (List.takeWhile_append_dropWhile (p:=fun x:Zab=>!decide (0<cmpN x.fNet e.fNet)) (l:=l));simp only[List.length_append,List.length_cons,List.length_nil]at this ⊢;omega
theorem ZDy(l:List Zab)(e:Zab)(most:Int):(addB l e most).1.length≤l.length+1:=by
 unfold addB
 repeat' split
 all_goals simp[ZCV]
theorem ZBK(l:List Zab)(n:Zaq):(ZnR l n).1.length≤l.length:=by
 unfold ZnR;split<;>simp<;>omega
def ofP(l:List Zaa)(n:Zaq)(b:Bool):List Zaa:=l.filter fun p=>hasS n p.fEnd.fAddr==b
theorem ZBX(p:Zaq)(a:Zag)(hp:p.fAddr.ok)(ha:a.ok):ZiV p a=some (hasS p a):=by
 unfold hasS;cases hr:ZgD p with
 |true=>
  have hrn:=(ZrU hp).1 hr;rw[ZDQ p a hrn ha,Bool.true_and]
 |false=>
  unfold ZiV;simp only[ZjR p hp,hr,Option.bind_some,cond_false,Bool.false_and]
theorem Zxa(l:List Zaa)(n:Zaq)(hn:n.fAddr.ok)(hl:l.length≤1000000)(hok:∀p∈l,p.fEnd.fAddr.ok):ZkB l n=some (ofP l n true,ofP l n false):=by
 have hL:l.length≤maxLen:=by unfold maxLen;omega
 have main:∀fu (i:Nat) w u,i≤l.length→l.length-i<fu→w=ofP (l.take i) n true→u=ofP (l.take i) n false→Zes fu l (l.length:Int) (i:Int) w u n=some (ofP l n true,ofP l n false):=by
  intro fu;induction fu with
  |zero=>intro i w u _ h;omega
  |succ fu ih=>
   intro i w u hi hf hw hu;unfold Zes;simp only[Zal];by_cases h:i<l.length
   ·have hm:=ZiE l Zaa.d i h;rw[if_pos (by omega),Zax ⟨by omega,by omega⟩,add1 h hL];simp only[Int.toNat_natCast,ZBX n _ hn (hok _ hm),Option.bind_some];have hst:∀b,ofP (l.take (i+1)) n b=ofP (l.take i) n b++[l.getD i Zaa.d].filter (fun p=>hasS n p.fEnd.fAddr==b):=fun b=>by
     unfold ofP;rw[List.take_succ_eq_append_getElem h,List.filter_append,ZgI l _ i h]
    have hlen:∀b,(ofP (l.take i) n b).length≤1000000:=fun b=>by
     have:=List.length_filter_le (fun p:Zaa=>hasS n p.fEnd.fAddr==b) (l.take i);simp only[List.length_take]at this;unfold ofP;omega
    have hlw:=hlen true;have hlu:=hlen false;cases hq:hasS n (l.getD i Zaa.d).fEnd.fAddr with
    |true=>
     simp only[cond_true];rw[Zax ⟨by rw[hw];simp;omega,by rw[hw];simp[maxLen];omega⟩];refine ih (i+1) _ _ (by omega) (by omega) ?_ ?_
     ·rw[hst true,List.filter_cons_of_pos (by rw[hq];rfl),hw];rfl
     ·rw[hst false,List.filter_cons_of_neg (by rw[hq];decide),hu];simp
    |false=>
     simp only[cond_false];rw[Zax ⟨by rw[hu];simp;omega,by rw[hu];simp[maxLen];omega⟩];refine ih (i+1) _ _ (by omega) (by omega) ?_ ?_
     ·rw[hst true,List.filter_cons_of_neg (by rw[hq];decide),hw];simp
     ·rw[hst false,List.filter_cons_of_pos (by rw[hq];rfl),hu];rfl
   ·rw[if_neg (by omega),hw,hu];have:i=l.length:=by omega
    rw[this,List.take_length]
 exact main _ 0 [] [] (by omega) (by omega) rfl rfl
theorem Zuy(l:List Zaa)(n:Zaq)(b:Bool)(hn:n.fAddr.ok)(hl:l.length≤1000000)(hok:∀p∈l,p.fEnd.fAddr.ok):ZeF l n b=some (ofP l n b):=by
 have hL:l.length≤maxLen:=by unfold maxLen;omega
 have main:∀fu (i:Nat) w,i≤l.length→l.length-i<fu→w=ofP (l.take i) n b→ZcY l b fu (i:Int) w n=some (ofP l n b):=by
  intro fu;induction fu with
  |zero=>intro i w _ h;omega
  |succ fu ih=>
   intro i w hi hf hw;unfold ZcY;simp only[Zal];by_cases h:i<l.length
   ·have hm:=ZiE l Zaa.d i h;rw[if_pos (by omega),Zax ⟨by omega,by omega⟩,add1 h hL];simp only[Int.toNat_natCast,Zyv n _ hn (hok _ hm),Option.bind_some];have hst:ofP (l.take (i+1)) n b=w++[l.getD i Zaa.d].filter (fun p=>hasS n p.fEnd.fAddr==b):=by
     rw[hw];unfold ofP;rw[List.take_succ_eq_append_getElem h,List.filter_append,ZgI l _ i h]
    have hwl:w.length≤1000000:=by
     rw[hw];have:=List.length_filter_le (fun p:Zaa=>hasS n p.fEnd.fAddr==b) (l.take i);simp only[List.length_take]at this;unfold ofP;omega
    cases hq:hasS n (l.getD i Zaa.d).fEnd.fAddr==b with
    |true=>
     rw[List.filter_cons_of_pos (by rw[hq])]at hst;simp only[cond_true];rw[Zax ⟨by simp;omega,by simp[maxLen];omega⟩];exact ih (i+1) _ (by omega) (by omega) hst.symm
    |false=>
     rw[List.filter_cons_of_neg (by rw[hq];decide)]at hst;simp only[cond_false];refine ih (i+1) _ (by omega) (by omega) ?_;rw[hst];simp
   ·rw[if_neg (by omega),hw];have:i=l.length:=by omega
    rw[this,List.take_length]
 exact main _ 0 [] (by omega) (by omega) rfl
theorem ZuG(l:List Zaa)(n:Zaq)(b:Bool):(ofP l n b).length≤l.length:=List.length_filter_le _ _
def cntP(l:List Zaa)(b:Bool):Int:=((l.countP fun p=>p.fIn==b:Nat):Int)
theorem ZrO(l:List Zaa)(b:Bool)(hl:l.length≤maxLen):Zif l b=some (cntP l b):=by
 simp only[Zif];have:=ZtR l Zaa.d (fun p=>p.fIn==b) hl (fun fu n i=>ZdN b fu n l (l.length:Int) i) (fun fu i n hi=>by
   simp only[ZdN,Zal];rw[if_pos (by omega),Zax ⟨by omega,by omega⟩];simp only[Int.toNat_natCast];cases((l.getD i Zaa.d).fIn==b)<;>rfl) (fun fu n=>by
   simp only[ZdN,Zal];rw[if_neg (by omega)]) ((((l.length:Nat):Int)-(0:Int)).toNat+2) 0 0 (by omega) (by omega) (by omega)
 simp only[Int.natCast_zero,List.drop_zero]at this;rw[this];unfold cntP;congr 2;omega
theorem ZmW(l:List Zaa)(b:Bool)(hl:l.length≤maxLen):Zel l b=some (cntP l b):=by
 simp only[Zel];have:=ZtR l Zaa.d (fun p=>p.fIn==b) hl (fun fu n i=>Zcb l b fu n i) (fun fu i n hi=>by
   simp only[Zcb,Zal];rw[if_pos (by omega),Zax ⟨by omega,by omega⟩];simp only[Int.toNat_natCast];cases((l.getD i Zaa.d).fIn==b)<;>rfl) (fun fu n=>by
   simp only[Zcb,Zal];rw[if_neg (by omega)]) ((((l.length:Nat):Int)-(0:Int)).toNat+2) 0 0 (by omega) (by omega) (by omega)
 simp only[Int.natCast_zero,List.drop_zero]at this;rw[this];unfold cntP;congr 2;omega
theorem Zvk(l:List Zaa)(b:Bool):0≤cntP l b∧cntP l b≤(l.length:Int):=by
 unfold cntP;have:=List.countP_le_length (p:=fun p:Zaa=>p.fIn==b) (l:=l);omega
def Zqp(l:List Zaa):List Zah:=l.map (·.fEnd)
theorem ZtK(l:List Zaa)(hl:l.length≤1000000):ZfJ l=some (Zqp l):=by
 have hL:l.length≤maxLen:=by unfold maxLen;omega
 have main:∀fu (i:Nat) w,i≤l.length→l.length-i<fu→w=Zqp (l.take i)→ZcZ l fu (i:Int) w=some (Zqp l):=by
  intro fu;induction fu with
  |zero=>intro i w _ h;omega
  |succ fu ih=>
   intro i w hi hf hw;unfold ZcZ;simp only[Zal];by_cases h:i<l.length
   ·have hwl:w.length≤1000000:=by rw[hw];unfold Zqp;simp;omega
    rw[if_pos (by omega),Zax ⟨by omega,by omega⟩,add1 h hL,Zax ⟨by simp;omega,by simp[maxLen];omega⟩];refine ih (i+1) _ (by omega) (by omega) ?_;rw[hw];unfold Zqp;rw[List.take_succ_eq_append_getElem h,List.map_append,Int.toNat_natCast,ZgI l _ i h];rfl
   ·rw[if_neg (by omega),hw];have:i=l.length:=by omega
    rw[this,List.take_length]
 exact main _ 0 [] (by omega) (by omega) rfl
theorem ZEj{α:Type}(L R:List α)(x y:α):(L++x :: R).set L.length y=L++y :: R:=by
 induction L with
 |nil=>rfl
 |cons z L ih=>simp[ih]
theorem ZBv{α:Type}(L R:List α)(x d:α):(L++x :: R).getD L.length d=x:=by
 induction L with
 |nil=>rfl
 |cons z L ih=>simp
theorem ZqV{α:Type}{l L R:List α}{x y:α}{k:Nat}(h:l=L++x :: R)(hk:k=L.length):l.set k y=L++y :: R:=by rw[h,hk,ZEj]
theorem Zpc{α:Type}{l L R:List α}{x d:α}{k:Nat}(h:l=L++x :: R)(hk:k=L.length):l.getD k d=x:=by rw[h,hk,ZBv]
abbrev Prs:=List Zaa
theorem ZAA(P B Q:Prs):∀(k:Nat)(A1 A2 C1 C2:Prs)(fu:Nat),A2.length=k→C2.length=k→A1.length=C1.length→k+1≤fu→P.length+B.length+Q.length+2*(A1.length+k)≤1000000 →
  ZaU (P.length:Int) ((P.length+(A1.length+k)+B.length:Nat):Int) ((A1.length+k:Nat):Int) fu (A1.length:Int) (P++(C1++(A2++(B++(A1++(C2++Q))))))=some (P++(C1++(C2++(B++(A1++(A2++Q)))))):=by
 intro k;induction k with
 |zero=>
  intro A1 A2 C1 C2 fu h1 h2 h3 hf hb;obtain⟨fu,rfl⟩ : ∃x,fu=x+1:=⟨fu-1,by omega⟩;obtain rfl:=List.eq_nil_of_length_eq_zero h1;obtain rfl:=List.eq_nil_of_length_eq_zero h2;unfold ZaU;rw[Zal,if_neg (by omega)]
 |succ k ih=>
  intro A1 A2 C1 C2 fu h1 h2 h3 hf hb;obtain⟨fu,rfl⟩ : ∃x,fu=x+1:=⟨fu-1,by omega⟩;cases A2 with
  |nil=>cases h1
  |cons a A2=>
   cases C2 with
   |nil=>cases h2
   |cons c C2=>
    simp only[List.length_cons,Nat.add_right_cancel_iff]at h1 h2;unfold ZaU;have e1:Zaw (P.length:Int) (A1.length:Int)=((P.length+A1.length:Nat):Int):=by rw[ZdP (by omega) (by omega)];omega
    have e2:Zaw ((P.length+(A1.length+(k+1))+B.length:Nat):Int) (A1.length:Int)=((P.length+(A1.length+(k+1))+B.length+A1.length:Nat):Int):=by rw[ZdP (by omega) (by omega)];omega
    have e3:Zaw (A1.length:Int) 1=((A1.length+1:Nat):Int):=by rw[ZdP (by omega) (by omega)];omega
    have hl:(P++(C1++(a :: A2++(B++(A1++(c :: C2++Q)))))).length=P.length+B.length+Q.length+2*(A1.length+(k+1)):=by simp;omega
    rw[Zal,if_pos (by omega),e1,e2,e3,Zax (by rw[hl];omega),Zax (by rw[hl];omega)];simp only[Int.toNat_natCast];have g1:(P++(C1++(a :: A2++(B++(A1++(c :: C2++Q)))))).getD (P.length+(A1.length+(k+1))+B.length+A1.length) Zaa.d=c:=
     Zpc (L:=P++(C1++(a :: A2++(B++A1)))) (R:=C2++Q) (by simp) (by simp;omega)
    have g2:(P++(C1++(a :: A2++(B++(A1++(c :: C2++Q)))))).getD (P.length+A1.length) Zaa.d=a:=
     Zpc (L:=P++C1) (R:=A2++(B++(A1++(c :: C2++Q)))) (by simp) (by simp;omega)
    have s1:(P++(C1++(a :: A2++(B++(A1++(c :: C2++Q)))))).set (P.length+A1.length) c=P++(C1++(c :: A2++(B++(A1++(c :: C2++Q))))):=by
     rw[ZqV (L:=P++C1) (x:=a) (R:=A2++(B++(A1++(c :: C2++Q)))) (by simp) (by simp;omega)];simp
    have s2:(P++(C1++(c :: A2++(B++(A1++(c :: C2++Q)))))).set (P.length+(A1.length+(k+1))+B.length+A1.length) a=P++(C1++(c :: A2++(B++(A1++(a :: C2++Q))))):=by
     rw[ZqV (L:=P++(C1++(c :: A2++(B++A1)))) (x:=c) (R:=C2++Q) (by simp) (by simp;omega)];simp
    rw[g1,g2,s1,s2];have:=ih (A1++[a]) A2 (C1++[c]) C2 fu h1 h2 (by simp;omega) (by omega) (by simp;omega);simp only[List.length_append,List.length_singleton,List.append_assoc,List.singleton_append,List.cons_append]at this ⊢;have x1:A1.length+1+k=A1.length+(k+1):=by omega
    rw[x1]at this;exact this
theorem Zxb(P A B C Q:Prs)(h:A.length=C.length)(hb:P.length+B.length+Q.length+2*A.length≤1000000)(a b n:Int)(ha:a=(P.length:Int))(hbb:b=((P.length+A.length+B.length:Nat):Int))(hn:n=(A.length:Int)) :
  Zbq (P++(A++(B++(C++Q)))) a b n=some (P++(C++(B++(A++Q)))):=by
 subst ha hbb hn;unfold Zbq;have:=ZAA P B Q A.length [] A [] C (((A.length:Int)-0).toNat+2) rfl h.symm rfl (by omega) (by simpa using hb);simpa using this
theorem ZCI(m:Nat):∀(s:Nat)(P X Y Q:Prs)(fu:Nat),X.length+Y.length≤s→0<X.length→0<Y.length→m=P.length+X.length→P.length+X.length+Y.length+Q.length≤1000000→s+1≤fu →
  Zbh (m:Int) fu (X.length:Int) (Y.length:Int) (P++(X++(Y++Q)))=some (P++(Y++(X++Q))):=by
 intro s;induction s with
 |zero=>intro P X Y Q fu h1 h2;omega
 |succ s ih=>
  intro P X Y Q fu h1 h2 h3 hm hb hf;obtain⟨fu,rfl⟩ : ∃x,fu=x+1:=⟨fu-1,by omega⟩;unfold Zbh;have e1:ZaR (m:Int) (X.length:Int)=(P.length:Int):=by rw[Zds (by omega) (by omega)];omega
  by_cases he:X.length=Y.length
  ·have e0:((X.length:Int) != (Y.length:Int))=false:=by rw[he];simp
   rw[e0,cond_false,e1];have:=Zxb P X [] Y Q he (by simp;omega) (P.length:Int) (m:Int) (X.length:Int) rfl (by simp[hm]) rfl;simp only[List.nil_append]at this;rw[this];rfl
  ·have e0:((X.length:Int) != (Y.length:Int))=true:=by rw[bne_iff_ne];omega
   rw[e0,cond_true,Zal,e1];by_cases hg:Y.length<X.length
   ·obtain⟨X1,X2,rfl,hx⟩ : ∃X1 X2,X=X1++X2∧X1.length=Y.length:=⟨X.take Y.length,X.drop Y.length,(List.take_append_drop ..).symm,by simp;omega⟩;simp only[List.length_append]at *
    have e2:ZaR ((X1.length+X2.length:Nat):Int) (Y.length:Int)=(X2.length:Int):=by rw[Zds (by omega) (by omega)];omega
    rw[if_pos (by omega),e2];have:=Zxb P X1 X2 Y Q hx (by omega) (P.length:Int) (m:Int) (Y.length:Int) rfl (by omega) (by omega);simp only[List.append_assoc]at this ⊢;rw[this,ZaP];have h2:=ih (P++Y) X2 X1 Q fu (by omega) (by omega) (by omega) (by simp;omega) (by simp;omega) (by omega);simp only[List.append_assoc,hx]at h2;exact h2
   ·obtain⟨Y1,Y2,rfl,hy⟩ : ∃Y1 Y2,Y=Y1++Y2∧Y2.length=X.length:=⟨Y.take (Y.length-X.length),Y.drop (Y.length-X.length),(List.take_append_drop ..).symm,by simp;omega⟩;simp only[List.length_append]at *
    have e2:ZaR ((Y1.length+Y2.length:Nat):Int) (X.length:Int)=(Y1.length:Int):=by rw[Zds (by omega) (by omega)];omega
    have e3:Zaw (m:Int) ((Y1.length+Y2.length:Nat):Int)=((m+Y1.length+Y2.length:Nat):Int):=by rw[ZdP (by omega) (by omega)];omega
    have e4:ZaR ((m+Y1.length+Y2.length:Nat):Int) (X.length:Int)=((P.length+X.length+Y1.length:Nat):Int):=by rw[Zds (by omega) (by omega)];omega
    rw[if_neg (by omega),e2,e3,e4];have:=Zxb P X Y1 Y2 Q hy.symm (by omega) (P.length:Int) ((P.length+X.length+Y1.length:Nat):Int) (X.length:Int) rfl rfl rfl;simp only[List.append_assoc]at this ⊢;rw[this,ZaP];have h2:=ih P Y2 Y1 (X++Q) fu (by omega) (by omega) (by omega) (by omega) (by simp;omega) (by omega);simp only[List.append_assoc,hy]at h2;exact h2
theorem ZFf(P X Y Q:Prs)(h2:0<X.length)(h3:0<Y.length)(hb:P.length+X.length+Y.length+Q.length≤900000)(a m b:Int)(ha:a=(P.length:Int))(hm:m=((P.length+X.length:Nat):Int))(hbb:b=((P.length+X.length+Y.length:Nat):Int)) :
  ZbM (P++(X++(Y++Q))) a m b=some (P++(Y++(X++Q))):=by
 subst ha hm hbb;unfold ZbM;have e1:ZaR ((P.length+X.length:Nat):Int) (P.length:Int)=(X.length:Int):=by rw[Zds (by omega) (by omega)];omega
 have e2:ZaR ((P.length+X.length+Y.length:Nat):Int) ((P.length+X.length:Nat):Int)=(Y.length:Int):=by rw[Zds (by omega) (by omega)];omega
 rw[e1,e2];exact ZCI _ (X.length+Y.length) P X Y Q 1000000 (Nat.le_refl _) h2 h3 rfl (by omega) (by omega)
def ltP(x y:Zaa):Bool:=decide (cmpE x.fEnd y.fEnd<0)
theorem Zpp{x y:Zaa}:ltP x y=true↔cmpE x.fEnd y.fEnd<0:=by unfold ltP;simp
theorem ZqW{x y:Zaa}:ltP x y=false↔¬cmpE x.fEnd y.fEnd<0:=by unfold ltP;simp
theorem ZBe{x y z:Zaa}(h1:ltP x y=true)(h2:ltP y z=true):ltP x z=true:=by
 rw[Zpp]at *
 exact Zug h1 h2
theorem ZkY{x y z:Zaa}(h1:ltP x y=false)(h2:ltP y z=false):ltP x z=false:=by
 rw[ZqW]at *
 intro h;have e:cmpE x.fEnd y.fEnd=0∨0<cmpE x.fEnd y.fEnd:=by omega
 rcases e with e|e
 ·rw[ZwA.1 e]at h;exact h2 h
 ·exact h2 (Zug (Zqt.1 e) h)
theorem ZuO{x y z:Zaa}(h1:ltP z x=true)(h2:ltP y x=false):ltP z y=true:=by
 cases h:ltP z y with
 |true=>rfl
 |false=>rw[ZkY h h2]at h1;cases h1
theorem Zrs(a b:Zaa):Zge a b=some (cmpE a.fEnd b.fEnd):=by
 unfold Zge;rw[ZDl];rfl
def mrg:Prs→Prs→Prs | [],ys=>ys|x :: xs,[]=>x :: xs|x :: xs,y :: ys=>if ltP y x=true then y :: mrg (x :: xs) ys else x :: mrg xs (y :: ys)
termination_by xs ys=>xs.length+ys.length
theorem Zjb(xs:Prs):mrg xs []=xs:=by cases xs<;>simp[mrg]
theorem Zgv(xs:Prs):mrg [] xs=xs:=by simp[mrg]
theorem Zkt{x y:Zaa}(xs ys:Prs)(h:ltP y x=true):mrg (x :: xs) (y :: ys)=y :: mrg (x :: xs) ys:=by rw[mrg,if_pos h]
theorem ZlJ{x y:Zaa}(xs ys:Prs)(h:ltP y x=false):mrg (x :: xs) (y :: ys)=x :: mrg xs (y :: ys):=by rw[mrg,if_neg (by simp[h])]
theorem ZBb:∀(n:Nat)(a b c:Prs),a.length+b.length+c.length≤n→mrg (mrg a b) c=mrg a (mrg b c):=by
 intro n;induction n with
 |zero=>
  intro a b c h;obtain rfl:=List.eq_nil_of_length_eq_zero (show a.length=0 by omega);rw[Zgv,Zgv]
 |succ n ih=>
  intro a b c h;cases a with
  |nil=>rw[Zgv,Zgv]
  |cons x a=>
   cases b with
   |nil=>rw[Zjb,Zgv]
   |cons y b=>
    cases c with
    |nil=>rw[Zjb,Zjb]
    |cons z c=>
     simp only[List.length_cons]at h;cases h1:ltP y x with
     |true=>
      rw[Zkt _ _ h1];cases h2:ltP z y with
      |true=>
       rw[Zkt _ _ h2,Zkt _ _ h2,Zkt _ _ (ZBe h2 h1),←Zkt a b h1,ih (x :: a) (y :: b) c (by simp only[List.length_cons];omega)]
      |false=>
       rw[ZlJ _ _ h2,ZlJ _ _ h2,Zkt _ _ h1,ih (x :: a) b (z :: c) (by simp only[List.length_cons];omega)]
     |false=>
      rw[ZlJ _ _ h1];cases h3:ltP z x with
      |true=>
       have h2:=ZuO h3 h1;rw[Zkt _ _ h3,Zkt _ _ h2,Zkt _ _ h3,←ZlJ a b h1,ih (x :: a) (y :: b) c (by simp only[List.length_cons];omega)]
      |false=>
       rw[ZlJ _ _ h3,ih a (y :: b) (z :: c) (by simp only[List.length_cons];omega)];cases h2:ltP z y with
       |true=>rw[Zkt _ _ h2,ZlJ _ _ h3]
       |false=>rw[ZlJ _ _ h2,ZlJ _ _ h1]
theorem Zoa:∀(n:Nat)(x1 x2 y1 y2:Prs),x1.length+y1.length≤n→(∀y∈y1,∀x∈x2,ltP y x=true)→(∀x∈x1,∀y∈y2,ltP y x=false)→mrg (x1++x2) (y1++y2)=mrg x1 y1++mrg x2 y2:=by
 intro n;induction n with
 |zero=>
  intro x1 x2 y1 y2 h _ _;obtain rfl:=List.eq_nil_of_length_eq_zero (show x1.length=0 by omega);obtain rfl:=List.eq_nil_of_length_eq_zero (show y1.length=0 by omega);simp[Zgv]
 |succ n ih=>
  intro x1 x2 y1 y2 h h1 h2;cases x1 with
  |nil=>
   cases y1 with
   |nil=>simp[Zgv]
   |cons y y1=>
    cases x2 with
    |nil=>simp[Zgv]
    |cons x x2=>
     simp only[List.length_cons,List.length_nil]at h;rw[List.nil_append,List.cons_append,Zkt _ _ (h1 y (by simp) x (by simp)),Zgv];have:=ih [] (x :: x2) y1 y2 (by simp only[List.length_nil];omega) (fun y' hy'=>h1 y' (by simp[hy'])) (by simp);rw[List.nil_append,Zgv]at this;rw[this];rfl
  |cons x x1=>
   cases y1 with
   |nil=>
    cases y2 with
    |nil=>simp[Zjb]
    |cons y y2=>
     simp only[List.length_cons,List.length_nil]at h;rw[List.nil_append,List.cons_append,ZlJ _ _ (h2 x (by simp) y (by simp)),Zjb];have:=ih x1 x2 [] (y :: y2) (by simp only[List.length_nil];omega) (by simp) (fun x' hx'=>h2 x' (by simp[hx']));rw[List.nil_append,Zjb]at this;rw[this];rfl
   |cons y y1=>
    simp only[List.length_cons]at h;rw[List.cons_append,List.cons_append];cases h3:ltP y x with
    |true=>
     rw[Zkt _ _ h3,Zkt _ _ h3,←List.cons_append,ih (x :: x1) x2 y1 y2 (by simp only[List.length_cons];omega) (fun y' hy'=>h1 y' (by simp[hy'])) h2];rfl
    |false=>
     have:=ih x1 x2 (y :: y1) y2 (by simp only[List.length_cons];omega) h1 (fun x' hx'=>h2 x' (by simp[hx']));rw[List.cons_append]at this;rw[ZlJ _ _ h3,ZlJ _ _ h3,this];rfl
theorem ZBa:∀(n:Nat)(a b:Prs),a.length+b.length≤n→(mrg a b).length=a.length+b.length:=by
 intro n;induction n with
 |zero=>
  intro a b h;obtain rfl:=List.eq_nil_of_length_eq_zero (show a.length=0 by omega);simp[Zgv]
 |succ n ih=>
  intro a b h;cases a with
  |nil=>simp[Zgv]
  |cons x a=>
   cases b with
   |nil=>simp[Zjb]
   |cons y b=>
    simp only[List.length_cons]at h ⊢;cases h3:ltP y x with
    |true=>rw[Zkt _ _ h3,List.length_cons,ih _ _ (by simp only[List.length_cons];omega)];simp only[List.length_cons];omega
    |false=>rw[ZlJ _ _ h3,List.length_cons,ih _ _ (by simp only[List.length_cons];omega)];simp only[List.length_cons];omega
theorem ZAZ:∀(n:Nat)(a b:Prs),a.length+b.length≤n→∀z∈mrg a b,z∈a∨z∈b:=by
 intro n;induction n with
 |zero=>
  intro a b h z hz;obtain rfl:=List.eq_nil_of_length_eq_zero (show a.length=0 by omega);rw[Zgv]at hz;exact .inr hz
 |succ n ih=>
  intro a b h z hz;cases a with
  |nil=>rw[Zgv]at hz;exact .inr hz
  |cons x a=>
   cases b with
   |nil=>rw[Zjb]at hz;exact .inl hz
   |cons y b=>
    simp only[List.length_cons]at h;cases h3:ltP y x with
    |true=>
     rw[Zkt _ _ h3]at hz;rcases List.mem_cons.1 hz with hz|hz
     ·exact .inr (by simp[hz])
     ·rcases ih _ _ (by simp only[List.length_cons];omega) z hz with q|q
      ·exact .inl q
      ·exact .inr (by simp[q])
    |false=>
     rw[ZlJ _ _ h3]at hz;rcases List.mem_cons.1 hz with hz|hz
     ·exact .inl (by simp[hz])
     ·rcases ih _ _ (by simp only[List.length_cons];omega) z hz with q|q
      ·exact .inl (by simp[q])
      ·exact .inr q
def SrtP(l:Prs):Prop:=l.Pairwise fun x y=>ltP y x=false
theorem ZDc{x y:Zaa}(h:ltP x y=true):ltP y x=false:=by
 rw[Zpp]at h;rw[ZqW];intro h2;have:=Zqt.2 h2;omega
theorem ZEt:∀(n:Nat)(a b:Prs),a.length+b.length≤n→SrtP a→SrtP b→SrtP (mrg a b):=by
 intro n;induction n with
 |zero=>
  intro a b h ha hb;obtain rfl:=List.eq_nil_of_length_eq_zero (show a.length=0 by omega);rw[Zgv];exact hb
 |succ n ih=>
  intro a b h ha hb;cases a with
  |nil=>rw[Zgv];exact hb
  |cons x a=>
   cases b with
   |nil=>rw[Zjb];exact ha
   |cons y b=>
    simp only[List.length_cons]at h;have ha':=List.pairwise_cons.1 ha;have hb':=List.pairwise_cons.1 hb;cases h3:ltP y x with
    |true=>
     rw[Zkt _ _ h3];refine List.pairwise_cons.2 ⟨fun z hz=>?_,ih _ _ (by simp only[List.length_cons];omega) ha hb'.2⟩;rcases ZAZ _ _ _ (Nat.le_refl _) z hz with q|q
     ·have:ltP x y=false:=ZDc h3;rcases List.mem_cons.1 q with q|q
      ·rw[q];exact this
      ·exact ZkY (ha'.1 z q) this
     ·exact hb'.1 z q
    |false=>
     rw[ZlJ _ _ h3];refine List.pairwise_cons.2 ⟨fun z hz=>?_,ih _ _ (by simp only[List.length_cons];omega) ha'.2 hb⟩;rcases ZAZ _ _ _ (Nat.le_refl _) z hz with q|q
     ·exact ha'.1 z q
     ·rcases List.mem_cons.1 q with q|q
      ·rw[q];exact h3
      ·exact ZkY (hb'.1 z q) h3
def ZeM(l:Prs):Prs:=l.foldl (fun o x=>mrg o [x]) []
theorem Zmt(l:Prs)(x:Zaa):ZeM (l++[x])=mrg (ZeM l) [x]:=by unfold ZeM;rw[List.foldl_append];rfl
theorem ZqX(xs ys:Prs):ZeM (xs++ys)=mrg (ZeM xs) (ZeM ys):=by
 have:∀n,n≤ys.length→ZeM (xs++ys.take n)=mrg (ZeM xs) (ZeM (ys.take n)):=by
  intro n;induction n with
  |zero=>intro _;simp[ZeM,Zjb]
  |succ n ih=>
   intro h;rw[List.take_succ_eq_append_getElem (show n<ys.length by omega),←List.append_assoc,Zmt,Zmt,ih (by omega),ZBb _ _ _ _ (Nat.le_refl _)]
 have h:=this ys.length (Nat.le_refl _);rwa [List.take_length]at h
theorem ZhO(l:Prs):(ZeM l).length=l.length:=by
 have:∀n,n≤l.length→(ZeM (l.take n)).length=n:=by
  intro n;induction n with
  |zero=>intro _;simp[ZeM]
  |succ n ih=>
   intro h;rw[List.take_succ_eq_append_getElem (show n<l.length by omega),Zmt,ZBa _ _ _ (Nat.le_refl _),ih (by omega)];rfl
 have h:=this l.length (Nat.le_refl _);rwa [List.take_length]at h
theorem Zms(l:Prs):SrtP (ZeM l):=by
 have:∀n,n≤l.length→SrtP (ZeM (l.take n)):=by
  intro n;induction n with
  |zero=>intro _;simp[ZeM,SrtP]
  |succ n ih=>
   intro h;rw[List.take_succ_eq_append_getElem (show n<l.length by omega),Zmt];exact ZEt _ _ _ (Nat.le_refl _) (ih (by omega)) (by simp[SrtP])
 have h:=this l.length (Nat.le_refl _);rwa [List.take_length]at h
theorem ZuL{o1 o2:Prs}{x:Zaa}(h1:∀y∈o1,ltP x y=false)(h2:∀y∈o2,ltP x y=true):mrg (o1++o2) [x]=o1++x :: o2:=by
 have a:=Zoa _ o1 o2 [x] [] (Nat.le_refl _) (fun y hy z hz=>by rw[List.mem_singleton.1 hy];exact h2 z hz) (by simp);have b:=Zoa _ o1 [] [] [x] (Nat.le_refl _) (by simp) (fun z hz y hy=>by rw[List.mem_singleton.1 hy];exact h1 z hz);simp only[List.append_nil,List.nil_append,Zjb,Zgv]at a b;rw[a,b];simp
theorem ZEr{o1 o2:Prs}{x:Zaa}(h1:∀y∈o1,ltP y x=true)(h2:∀y∈o2,ltP y x=false):mrg [x] (o1++o2)=o1++x :: o2:=by
 have a:=Zoa _ [] [x] o1 o2 (Nat.le_refl _) (fun y hy z hz=>by rw[List.mem_singleton.1 hz];exact h1 y hy) (by simp);have b:=Zoa _ [x] [] [] o2 (Nat.le_refl _) (by simp) (fun z hz y hy=>by rw[List.mem_singleton.1 hz];exact h2 y hy);simp only[List.append_nil,List.nil_append,Zjb,Zgv]at a b;rw[a,b];simp
theorem ZEo(o:Prs)(x:Zaa)(hs:SrtP o)(hl:o.length≤900000):Zgo o x=some (mrg o [x]):=by
 have hm:o.length≤maxLen:=by unfold maxLen;omega
 have main:∀(fu i:Nat),i≤o.length→o.length-i<fu→(∀y∈o.take i,ltP x y=false)→Zdl o fu (i:Int) x=some (mrg o [x]):=by
  intro fu;induction fu with
  |zero=>intro _ _ h;omega
  |succ fu ih=>
   intro i hi hf hall;unfold Zdl;have fin:(∀y∈o.drop i,ltP x y=true)→o.take i++[x]++o.drop i=mrg o [x]:=fun h=>by
    have:=ZuL hall h;rw[List.take_append_drop]at this;rw[this];simp
   have lt:(o.take i).length=i:=by simp;omega
   have ld:(o.drop i).length=o.length-i:=by simp
   have n1:(o.take i).length * 80≤140737488355328∧(o.take i).length≤maxLen:=by rw[lt];unfold maxLen;omega
   have n2:(o.take i++[x]).length * 80≤140737488355328∧(o.take i++[x]).length≤maxLen:=by simp only[List.length_append,lt,List.length_singleton,maxLen];omega
   have n3:(o.take i++[x]++o.drop i).length * 80≤140737488355328∧(o.take i++[x]++o.drop i).length≤maxLen:=by simp only[List.length_append,lt,ld,List.length_singleton,maxLen];omega
   simp only[Zal,Int.toNat_natCast,List.nil_append,Zax n1,Zax n2,Zax n3];by_cases h:i<o.length
   ·rw[if_pos (by omega),Zax ⟨by omega,by omega⟩,ZCS,ZaP];have e1:Zaw (i:Int) 1=((i+1:Nat):Int):=add1 h hm;have hd:=ZeB o Zaa.d i h;by_cases hc:cmpE (o.getD i Zaa.d).fEnd x.fEnd≤0
    ·rw[if_pos hc,e1];refine ih (i+1) (by omega) (by omega) fun y hy=>?_;rw[List.take_succ_eq_append_getElem h,←ZgI o Zaa.d i h]at hy;rcases List.mem_append.1 hy with q|q
     ·exact hall y q
     ·rw[List.mem_singleton.1 q,ZqW];intro h2;have:=Zqt.2 h2;omega
    ·rw[if_neg hc,Zax ⟨by omega,by omega⟩,fin];intro y hy;have hx:ltP x (o.getD i Zaa.d)=true:=by rw[Zpp];exact Zqt.1 (by omega)
     rw[hd]at hy;have hp:SrtP (o.drop i):=List.Pairwise.sublist (List.drop_sublist i o) hs;rw[hd]at hp;rcases List.mem_cons.1 hy with q|q
     ·rw[q];exact hx
     ·exact ZuO hx ((List.pairwise_cons.1 hp).1 y q)
   ·rw[if_neg (by omega),Zax ⟨by omega,by omega⟩,fin];intro y hy;rw[List.drop_eq_nil_of_le (by omega)]at hy;cases hy
 unfold Zgo;have:=main ((((o.length:Nat):Int)-(0:Int)).toNat+2) 0 (by omega) (by omega) (by simp);exact this
theorem ZoC(l:Prs)(hl:l.length≤900000):ZcF l=some (ZeM l):=by
 have hm:l.length≤maxLen:=by unfold maxLen;omega
 have main:∀(fu i:Nat),i≤l.length→l.length-i<fu→ZcA l fu (i:Int) (ZeM (l.take i))=some (ZeM l):=by
  intro fu;induction fu with
  |zero=>intro _ _ h;omega
  |succ fu ih=>
   intro i hi hf;unfold ZcA;simp only[Zal,Int.toNat_natCast];by_cases h:i<l.length
   ·have e1:Zaw (i:Int) 1=((i+1:Nat):Int):=add1 h hm;rw[if_pos (by omega),Zax ⟨by omega,by omega⟩,ZEo _ _ (Zms _) (by rw[ZhO];simp;omega),ZaP,e1,←Zmt,ZgI l _ i h,←List.take_succ_eq_append_getElem h];exact ih (i+1) (by omega) (by omega)
   ·rw[if_neg (by omega),List.take_of_length_le (by omega)]
 unfold ZcF;have:=main ((((l.length:Nat):Int)-(0:Int)).toNat+2) 0 (by omega) (by omega);exact this
theorem snoc{α:Type}:∀(l:List α),l.length≠0→∃T s,l=T++[s]
 | [x],_=>⟨[],x,rfl⟩
 |x :: y :: l,_=>by
  obtain⟨T,s,h⟩:=snoc (y :: l) (by simp)
  exact⟨x :: T,s,by rw[h];rfl⟩
theorem ZCE{T:Prs}{s x:Zaa}(h:SrtP (T++[s]))(hx:ltP x s=false):∀y∈T++[s],ltP x y=false:=by
 intro y hy;rcases List.mem_append.1 hy with q|q
 ·exact ZkY hx ((List.pairwise_append.1 h).2.2 y q s (by simp))
 ·rw[List.mem_singleton.1 q];exact hx
theorem ZBk(P:Prs)(x:Zaa)(R:Prs)(a2 v8:Int)(k:Int→Prs→Option Prs):∀(n:Nat)(S1 S2:Prs)(fu:Nat),S1.length=n→SrtP S1→(∀y∈S2,ltP x y=true)→n+1≤fu→P.length+S1.length+S2.length+R.length≤900000 →
  ZaQ (P.length:Int) a2 v8 k fu ((P.length+n:Nat):Int) (P++(S1++(x :: (S2++R))))=k (Zaw v8 1) (P++(mrg (S1++S2) [x]++R)):=by
 intro n;induction n with
 |zero=>
  intro S1 S2 fu h1 hs h2 hf hb;obtain⟨fu,rfl⟩ : ∃x,fu=x+1:=⟨fu-1,by omega⟩;obtain rfl:=List.eq_nil_of_length_eq_zero h1;unfold ZaQ;rw[Zal,if_neg (by omega),ZuL (o1:=[]) (by simp) h2];simp
 |succ n ih=>
  intro S1 S2 fu h1 hs h2 hf hb;obtain⟨fu,rfl⟩ : ∃x,fu=x+1:=⟨fu-1,by omega⟩;obtain⟨T,s,rfl⟩:=snoc S1 (by omega);have hT:T.length=n:=by simpa using h1
  have e1:ZaR ((P.length+(n+1):Nat):Int) 1=((P.length+n:Nat):Int):=by rw[Zds (by omega) (by omega)];omega
  have hl:(P++(T++[s]++(x :: (S2++R)))).length=P.length+(n+1)+1+S2.length+R.length:=by simp;omega
  unfold ZaQ;rw[Zal,if_pos (by omega),e1,Zax (by rw[hl];omega),Zax (by rw[hl];omega)];simp only[Int.toNat_natCast];have g1:(P++(T++[s]++(x :: (S2++R)))).getD (P.length+(n+1)) Zaa.d=x:=Zpc (L:=P++(T++[s])) (R:=S2++R) (by simp) (by simp;omega);have g2:(P++(T++[s]++(x :: (S2++R)))).getD (P.length+n) Zaa.d=s:=Zpc (L:=P++T) (R:=x :: (S2++R)) (by simp) (by simp;omega);rw[g1,g2,Zrs,ZaP,Zal];by_cases hc:cmpE x.fEnd s.fEnd<0
  ·have hx:ltP x s=true:=Zpp.2 hc;have s1:(P++(T++[s]++(x :: (S2++R)))).set (P.length+(n+1)) s=P++(T++(s :: (s :: (S2++R)))):=by
    rw[ZqV (L:=P++(T++[s])) (x:=x) (R:=S2++R) (by simp) (by simp;omega)];simp
   have s2:(P++(T++(s :: (s :: (S2++R))))).set (P.length+n) x=P++(T++(x :: (s :: S2++R))):=by
    rw[ZqV (L:=P++T) (x:=s) (R:=s :: (S2++R)) (by simp) (by simp;omega)];simp
   rw[if_pos hc,s1,s2];have:=ih T (s :: S2) fu hT (List.pairwise_append.1 hs).1 (fun y hy=>by
    rcases List.mem_cons.1 hy with q|q
    ·rw[q];exact hx
    ·exact h2 y q) (by omega) (by simp only[List.length_append,List.length_singleton,List.length_cons]at hb ⊢;omega)
   rw[this];simp
  ·rw[if_neg hc,ZuL (ZCE hs (ZqW.2 hc)) h2];simp
theorem ZDO(P L Q:Prs)(hb:P.length+L.length+Q.length≤900000)(a b:Int)(ha:a=(P.length:Int))(hbb:b=((P.length+L.length:Nat):Int)) :
  Zbs (P++(L++Q)) a b=some (P++(ZeM L++Q)):=by
 subst ha hbb;have e0:Zaw (P.length:Int) 1=((P.length+1:Nat):Int):=by rw[ZdP (by omega) (by omega)];omega
 unfold Zbs;rw[e0];cases hL:L with
 |nil=>
  unfold ZaG;rw[Zal,if_neg (by simp;omega)];simp[ZeM]
 |cons z Z=>
  rw[←hL];have hl1:1≤L.length:=by rw[hL];simp
  have main:∀(j k fu:Nat),L.length-k=j→1≤k→k≤L.length→j+1≤fu→ZaG (P.length:Int) ((P.length+L.length:Nat):Int) fu ((P.length+k:Nat):Int) (P++(ZeM (L.take k)++(L.drop k++Q)))=some (P++(ZeM L++Q)):=by
   intro j;induction j with
   |zero=>
    intro k fu hj h1 hk hf;obtain⟨fu,rfl⟩ : ∃x,fu=x+1:=⟨fu-1,by omega⟩;unfold ZaG;rw[Zal,if_neg (by omega),List.take_of_length_le (by omega),List.drop_eq_nil_of_le (by omega)];rfl
   |succ j ih=>
    intro k fu hj h1 hk hf;obtain⟨fu,rfl⟩ : ∃x,fu=x+1:=⟨fu-1,by omega⟩;unfold ZaG;have il:=ZhO (L.take k);rw[List.length_take,Nat.min_eq_left hk]at il;have e1:Zaw ((P.length+k:Nat):Int) 1=((P.length+(k+1):Nat):Int):=by rw[ZdP (by omega) (by omega)];omega
    rw[Zal,if_pos (by omega),ZeB L Zaa.d k (by omega)];have:=ZBk P (L.getD k Zaa.d) (L.drop (k+1)++Q) ((P.length+L.length:Nat):Int) ((P.length+k:Nat):Int) (ZaG (P.length:Int) ((P.length+L.length:Nat):Int) fu) k (ZeM (L.take k)) [] ((((P.length+k:Nat):Int)-(P.length:Int)).toNat+2) il (Zms _) (by simp) (by omega) (by simp[il];omega);simp only[List.nil_append,List.append_nil,List.cons_append]at this ⊢;rw[this,e1,←Zmt,ZgI L _ k (by omega),←List.take_succ_eq_append_getElem (by omega)];exact ih (k+1) fu (by omega) (by omega) (by omega) (by omega)
  have h1:ZeM (L.take 1)=L.take 1:=by rw[hL];simp[ZeM,Zgv]
  have:=main (L.length-1) 1 ((((P.length+L.length:Nat):Int)-((P.length+1:Nat):Int)).toNat+2) rfl (Nat.le_refl _) hl1 (by omega);rw[h1,←List.append_assoc (L.take 1),List.take_append_drop]at this;exact this
theorem ZuU(i j:Nat)(h:i+j≤10000000):IntKind.wrap .i64 (Int.fdiv (IntKind.wrap .u64 (Zaw (i:Int) (j:Int))) (2 ^ (min (1:Int).toNat (IntKind.bits .u64))))=(((i+j) / 2:Nat):Int):=by
 have e1:Zaw (i:Int) (j:Int)=((i+j:Nat):Int):=by rw[ZdP (by omega) (by omega)];omega
 have e2:IntKind.wrap .u64 ((i+j:Nat):Int)=((i+j:Nat):Int):=by
  simp only[IntKind.wrap,IntKind.bits,IntKind.signed];simp;omega
 have e3:(2:Int) ^ (min (1:Int).toNat (IntKind.bits .u64))=2:=rfl;rw[e1,e2,e3,Int.fdiv_eq_ediv_of_nonneg _ (by omega),ZkJ (by omega) (by omega)];omega
theorem ZyG{x y z:Zaa}(h1:ltP z x=true)(h2:ltP z y=false):ltP y x=true:=by
 cases h:ltP y x with
 |true=>rfl
 |false=>rw[ZkY h2 h]at h1;cases h1
theorem ZEv(x:Zaa):ltP x x=false:=by rw[ZqW,ZwA.2 rfl];omega
theorem ZlU{Y:Prs}(h:SrtP Y){i j:Nat}(hi:i≤j)(hj:j<Y.length):ltP (Y.getD j Zaa.d) (Y.getD i Zaa.d)=false:=by
 by_cases e:i=j
 ·rw[e];exact ZEv _
 ·rw[ZgI Y _ j hj,ZgI Y _ i (by omega)];exact List.pairwise_iff_getElem.1 h i j (by omega) hj (by omega)
theorem Zrp{Y:Prs}{k:Nat}{y:Zaa}(h:y∈Y.take k):∃i,i<k∧i<Y.length∧y=Y.getD i Zaa.d:=by
 obtain⟨i,hi,rfl⟩:=List.getElem_of_mem h;rw[List.length_take]at hi;exact⟨i,by omega,by omega,by rw[ZgI Y _ i (by omega),List.getElem_take]⟩
theorem ZrE{Y:Prs}{k:Nat}{y:Zaa}(h:y∈Y.drop k):∃i,k≤i∧i<Y.length∧y=Y.getD i Zaa.d:=by
 obtain⟨i,hi,rfl⟩:=List.getElem_of_mem h;rw[List.length_drop]at hi;exact⟨k+i,by omega,by omega,by rw[ZgI Y _ (k+i) (by omega),List.getElem_drop]⟩
theorem ZyP{P Y Q:Prs}{i k:Nat}(hk:k=P.length+i)(hi:i<Y.length):(P++(Y++Q)).getD k Zaa.d=Y.getD i Zaa.d:=by
 have:=ZeB Y Zaa.d i hi;have e:P++(Y++Q)=(P++Y.take i)++Y.getD i Zaa.d :: (Y.drop (i+1)++Q):=by
  rw[List.append_assoc,←List.cons_append,←this,←List.append_assoc (Y.take i),List.take_append_drop]
 exact Zpc e (by simp;omega)
theorem mv1(P R:Prs)(x:Zaa)(v11:Int)(k:Int→Int→Prs→Option Prs):∀(Y2 Y1:Prs)(fu:Nat),Y2.length+1≤fu→P.length+Y1.length+Y2.length+R.length≤900000 →
  Zbb (P.length:Int) ((P.length+Y1.length+Y2.length+1:Nat):Int) v11 k fu ((P.length+Y1.length:Nat):Int) (P++(Y1++(x :: (Y2++R))))=some (P++(Y1++(Y2++(x :: R)))):=by
 intro Y2;induction Y2 with
 |nil=>
  intro Y1 fu hf hb;obtain⟨fu,rfl⟩ : ∃x,fu=x+1:=⟨fu-1,by omega⟩;unfold Zbb;simp only[List.length_nil,Nat.add_zero];rw[Zal,if_neg (by rw[Zds (by omega) (by omega)];omega)];rfl
 |cons y Y2 ih=>
  intro Y1 fu hf hb;obtain⟨fu,rfl⟩ : ∃x,fu=x+1:=⟨fu-1,by omega⟩;simp only[List.length_cons]at hf hb ⊢;have e1:Zaw ((P.length+Y1.length:Nat):Int) 1=((P.length+Y1.length+1:Nat):Int):=by rw[ZdP (by omega) (by omega)];omega
  have hl:(P++(Y1++(x :: (y :: Y2++R)))).length=P.length+Y1.length+Y2.length+R.length+2:=by simp;omega
  unfold Zbb;rw[Zal,if_pos (by rw[Zds (by omega) (by omega)];omega),e1,Zax (by rw[hl];omega),Zax (by rw[hl];omega)];simp only[Int.toNat_natCast];have g1:(P++(Y1++(x :: (y :: Y2++R)))).getD (P.length+Y1.length+1) Zaa.d=y:=Zpc (L:=P++(Y1++[x])) (R:=Y2++R) (by simp) (by simp;omega);have g2:(P++(Y1++(x :: (y :: Y2++R)))).getD (P.length+Y1.length) Zaa.d=x:=Zpc (L:=P++Y1) (R:=y :: (Y2++R)) (by simp) (by simp);have s1:(P++(Y1++(x :: (y :: Y2++R)))).set (P.length+Y1.length) y=P++(Y1++(y :: (y :: Y2++R))):=by
   rw[ZqV (L:=P++Y1) (x:=x) (R:=y :: (Y2++R)) (by simp) (by simp)];simp
  have s2:(P++(Y1++(y :: (y :: Y2++R)))).set (P.length+Y1.length+1) x=P++(Y1++(y :: (x :: (Y2++R)))):=by
   rw[ZqV (L:=P++(Y1++[y])) (x:=y) (R:=Y2++R) (by simp) (by simp;omega)];simp
  rw[g1,g2,s1,s2];have:=ih (Y1++[y]) fu (by omega) (by simp only[List.length_append,List.length_singleton];omega);simp only[List.length_append,List.length_singleton,List.append_assoc,List.singleton_append]at this;have x1:P.length+(Y1.length+1)+Y2.length+1=P.length+Y1.length+(Y2.length+1)+1:=by omega
  have x2:P.length+(Y1.length+1)=P.length+Y1.length+1:=by omega
  rw[x1,x2]at this;exact this
theorem bs1(P Y Q:Prs)(x:Zaa)(hs:SrtP Y)(hb:P.length+Y.length+Q.length≤800000):∀(s lo hi fu:Nat),hi-lo≤s→lo≤hi→hi≤Y.length→s+1≤fu→(∀y∈Y.take lo,ltP y x=true)→(∀y∈Y.drop hi,ltP y x=false) →
  ZaF (P.length:Int) fu ((P.length+1+lo:Nat):Int) ((P.length+1+hi:Nat):Int) (P++(x :: (Y++Q)))=some (P++(mrg [x] Y++Q)):=by
 intro s;have fin:∀(lo hi fu:Nat),lo=hi→hi≤Y.length→(∀y∈Y.take lo,ltP y x=true)→(∀y∈Y.drop hi,ltP y x=false) →
   ZaF (P.length:Int) (fu+1) ((P.length+1+lo:Nat):Int) ((P.length+1+hi:Nat):Int) (P++(x :: (Y++Q)))=some (P++(mrg [x] Y++Q)):=by
  intro lo hi fu e hh h1 h2;subst e;unfold ZaF;rw[Zal,if_neg (by omega)];have ho:=ZEr h1 h2;rw[List.take_append_drop]at ho;have:=mv1 P (Y.drop lo++Q) x ((P.length+1+lo:Nat):Int) (ZaF (P.length:Int) fu) (Y.take lo) [] 1000000 (by simp;omega) (by simp;omega);simp only[List.length_take,Nat.min_eq_left hh,List.length_nil,Nat.add_zero,List.nil_append]at this;rw[←List.append_assoc (Y.take lo),List.take_append_drop,show P.length+lo+1=P.length+1+lo by omega]at this;rw[this,ho];simp
 induction s with
 |zero=>
  intro lo hi fu h0 h1 h2 hf h3 h4;obtain⟨fu,rfl⟩ : ∃x,fu=x+1:=⟨fu-1,by omega⟩;exact fin lo hi fu (by omega) h2 h3 h4
 |succ s ih=>
  intro lo hi fu h0 h1 h2 hf h3 h4;obtain⟨fu,rfl⟩ : ∃x,fu=x+1:=⟨fu-1,by omega⟩;by_cases e:lo=hi
  ·exact fin lo hi fu e h2 h3 h4
  ·have hm:(P.length+1+lo+(P.length+1+hi)) / 2=P.length+1+(lo+hi) / 2:=by omega
   have ht:(lo+hi) / 2<Y.length:=by omega
   have hl:(P++(x :: (Y++Q))).length=P.length+1+Y.length+Q.length:=by simp;omega
   unfold ZaF;rw[Zal,if_pos (by omega),ZuU _ _ (by omega),hm,Zax (by rw[hl];omega),Zax (by rw[hl];omega)];simp only[Int.toNat_natCast];have g1:(P++(x :: (Y++Q))).getD (P.length+1+(lo+hi) / 2) Zaa.d=Y.getD ((lo+hi) / 2) Zaa.d:=by
    have:=ZyP (P:=P++[x]) (Y:=Y) (Q:=Q) (i:=(lo+hi) / 2) (k:=P.length+1+(lo+hi) / 2) (by simp) ht;simpa using this
   rw[g1,ZBv,Zrs,ZaP,Zal];have e1:Zaw ((P.length+1+(lo+hi) / 2:Nat):Int) 1=((P.length+1+((lo+hi) / 2+1):Nat):Int):=by rw[ZdP (by omega) (by omega)];omega
   by_cases hc:cmpE (Y.getD ((lo+hi) / 2) Zaa.d).fEnd x.fEnd<0
   ·rw[if_pos hc,e1];refine ih _ _ fu (by omega) (by omega) h2 (by omega) (fun y hy=>?_) h4;obtain⟨i,i1,i2,rfl⟩:=Zrp hy;exact ZyG (Zpp.2 hc) (ZlU hs (by omega) ht)
   ·rw[if_neg hc];refine ih _ _ fu (by omega) (by omega) (by omega) (by omega) h3 (fun y hy=>?_);obtain⟨i,i1,i2,rfl⟩:=ZrE hy;exact ZkY (ZlU hs i1 i2) (ZqW.2 hc)
theorem mv2(P Q:Prs)(y:Zaa)(a2 v15:Int)(k:Int→Int→Prs→Option Prs):∀(n:Nat)(T U:Prs)(fu:Nat),T.length=n→n+1≤fu→P.length+T.length+U.length+Q.length≤900000 →
  Zba a2 (P.length:Int) v15 k fu ((P.length+n:Nat):Int) (P++(T++(y :: (U++Q))))=some (P++(y :: (T++(U++Q)))):=by
 intro n;induction n with
 |zero=>
  intro T U fu h1 hf hb;obtain⟨fu,rfl⟩ : ∃x,fu=x+1:=⟨fu-1,by omega⟩;obtain rfl:=List.eq_nil_of_length_eq_zero h1;unfold Zba;rw[Zal,if_neg (by omega)];rfl
 |succ n ih=>
  intro T U fu h1 hf hb;obtain⟨fu,rfl⟩ : ∃x,fu=x+1:=⟨fu-1,by omega⟩;obtain⟨T,s,rfl⟩:=snoc T (by omega);have hT:T.length=n:=by simpa using h1
  simp only[List.length_append,List.length_singleton]at hb;have e1:ZaR ((P.length+(n+1):Nat):Int) 1=((P.length+n:Nat):Int):=by rw[Zds (by omega) (by omega)];omega
  have hl:(P++(T++[s]++(y :: (U++Q)))).length=P.length+(n+1)+1+U.length+Q.length:=by simp;omega
  unfold Zba;rw[Zal,if_pos (by omega),e1,Zax (by rw[hl];omega),Zax (by rw[hl];omega)];simp only[Int.toNat_natCast];have g1:(P++(T++[s]++(y :: (U++Q)))).getD (P.length+(n+1)) Zaa.d=y:=Zpc (L:=P++(T++[s])) (R:=U++Q) (by simp) (by simp;omega);have g2:(P++(T++[s]++(y :: (U++Q)))).getD (P.length+n) Zaa.d=s:=Zpc (L:=P++T) (R:=y :: (U++Q)) (by simp) (by simp;omega);have s1:(P++(T++[s]++(y :: (U++Q)))).set (P.length+(n+1)) s=P++(T++(s :: (s :: (U++Q)))):=by
   rw[ZqV (L:=P++(T++[s])) (x:=y) (R:=U++Q) (by simp) (by simp;omega)];simp
  have s2:(P++(T++(s :: (s :: (U++Q))))).set (P.length+n) y=P++(T++(y :: (s :: U++Q))):=by
   rw[ZqV (L:=P++T) (x:=s) (R:=s :: (U++Q)) (by simp) (by simp;omega)];simp
  rw[g1,g2,s1,s2,ih T (s :: U) fu hT (by omega) (by simp only[List.length_cons];omega)];simp
theorem bs2(P X Q:Prs)(y:Zaa)(hs:SrtP X)(hb:P.length+X.length+Q.length≤800000):∀(s lo hi fu:Nat),hi-lo≤s→lo≤hi→hi≤X.length→s+1≤fu→(∀x∈X.take lo,ltP y x=false)→(∀x∈X.drop hi,ltP y x=true) →
  ZaE ((P.length+X.length:Nat):Int) fu ((P.length+lo:Nat):Int) ((P.length+hi:Nat):Int) (P++(X++(y :: Q)))=some (P++(mrg X [y]++Q)):=by
 intro s;have fin:∀(lo hi fu:Nat),lo=hi→hi≤X.length→(∀x∈X.take lo,ltP y x=false)→(∀x∈X.drop hi,ltP y x=true) →
   ZaE ((P.length+X.length:Nat):Int) (fu+1) ((P.length+lo:Nat):Int) ((P.length+hi:Nat):Int) (P++(X++(y :: Q)))=some (P++(mrg X [y]++Q)):=by
  intro lo hi fu e hh h1 h2;subst e;unfold ZaE;rw[Zal,if_neg (by omega)];have ho:=ZuL h1 h2;rw[List.take_append_drop]at ho;have:=mv2 (P++X.take lo) Q y ((P.length+X.length:Nat):Int) ((P.length+lo:Nat):Int) (ZaE ((P.length+X.length:Nat):Int) fu) (X.length-lo) (X.drop lo) [] ((((P.length+X.length:Nat):Int)-((P.length+lo:Nat):Int)).toNat+2) (by simp) (by omega) (by simp;omega);simp only[List.length_append,List.length_take,Nat.min_eq_left hh,List.nil_append,List.append_assoc]at this;rw[←List.append_assoc (X.take lo) (X.drop lo),List.take_append_drop,show P.length+lo+(X.length-lo)=P.length+X.length by omega]at this;rw[this,ho];simp
 induction s with
 |zero=>
  intro lo hi fu h0 h1 h2 hf h3 h4;obtain⟨fu,rfl⟩ : ∃x,fu=x+1:=⟨fu-1,by omega⟩;exact fin lo hi fu (by omega) h2 h3 h4
 |succ s ih=>
  intro lo hi fu h0 h1 h2 hf h3 h4;obtain⟨fu,rfl⟩ : ∃x,fu=x+1:=⟨fu-1,by omega⟩;by_cases e:lo=hi
  ·exact fin lo hi fu e h2 h3 h4
  ·have hm:(P.length+lo+(P.length+hi)) / 2=P.length+(lo+hi) / 2:=by omega
   have ht:(lo+hi) / 2<X.length:=by omega
   have hl:(P++(X++(y :: Q))).length=P.length+X.length+1+Q.length:=by simp;omega
   unfold ZaE;rw[Zal,if_pos (by omega),ZuU _ _ (by omega),hm,Zax (by rw[hl];omega),Zax (by rw[hl];omega)];simp only[Int.toNat_natCast];have g1:(P++(X++(y :: Q))).getD (P.length+(lo+hi) / 2) Zaa.d=X.getD ((lo+hi) / 2) Zaa.d:=ZyP rfl ht;have g2:(P++(X++(y :: Q))).getD (P.length+X.length) Zaa.d=y:=Zpc (L:=P++X) (R:=Q) (by simp) (by simp);rw[g1,g2,Zrs,ZaP];have e1:Zaw ((P.length+(lo+hi) / 2:Nat):Int) 1=((P.length+((lo+hi) / 2+1):Nat):Int):=by rw[ZdP (by omega) (by omega)];omega
   by_cases hc:cmpE y.fEnd (X.getD ((lo+hi) / 2) Zaa.d).fEnd<0
   ·rw[decide_eq_true hc,Bool.not_true,cond_false];refine ih _ _ fu (by omega) (by omega) (by omega) (by omega) h3 (fun x hx=>?_);obtain⟨i,i1,i2,rfl⟩:=ZrE hx;exact ZuO (Zpp.2 hc) (ZlU hs i1 i2)
   ·rw[decide_eq_false hc,Bool.not_false,cond_true,e1];refine ih _ _ fu (by omega) (by omega) h2 (by omega) (fun x hx=>?_) h4;obtain⟨i,i1,i2,rfl⟩:=Zrp hx;exact ZkY (ZqW.2 hc) (ZlU hs (by omega) ht)
def Mg(gr:Prs→Int→Int→Int→Option Prs)(N:Nat):Prop:=∀(P X Y Q:Prs),0<X.length→0<Y.length→SrtP X→SrtP Y→X.length+Y.length≤N→P.length+X.length+Y.length+Q.length≤700000→gr (P++(X++(Y++Q))) (P.length:Int) ((P.length+X.length:Nat):Int) ((P.length+X.length+Y.length:Nat):Int)=some (P++(mrg X Y++Q))
theorem c7_eq{gr:Prs→Int→Int→Int→Option Prs}{N:Nat}(hgr:Mg gr N)(P X Y Q:Prs)(hX:SrtP X)(hY:SrtP Y)(hN:X.length+Y.length≤N)(hb:P.length+X.length+Y.length+Q.length≤700000)(a1 a2 v19 v20 v21 v22:Int)(k:Int→Int→Int→Prs→Option Prs) :
  ZaZ a1 a2 ((P.length+X.length+Y.length:Nat):Int) gr (P.length:Int) v19 v20 v21 v22 ((P.length+X.length:Nat):Int) k (P++(X++(Y++Q)))=some (P++(mrg X Y++Q)):=by
 unfold ZaZ;rw[Zal,Zal];by_cases h1:X.length=0
 ·rw[if_neg (by omega)];obtain rfl:=List.eq_nil_of_length_eq_zero h1;rw[Zgv];rfl
 ·rw[if_pos (by omega)];by_cases h2:Y.length=0
  ·rw[if_neg (by omega)];obtain rfl:=List.eq_nil_of_length_eq_zero h2;rw[Zjb];rfl
  ·rw[if_pos (by omega),hgr P X Y Q (by omega) (by omega) hX hY hN hb];rfl
theorem c6_eq{gr:Prs→Int→Int→Int→Option Prs}{N:Nat}(hgr:Mg gr N)(P X1 Y1 X2 Y2 Q:Prs)(hX1:SrtP X1)(hY1:SrtP Y1)(hX2:SrtP X2)(hY2:SrtP Y2)(hN1:X1.length+Y1.length≤N)(hN2:X2.length+Y2.length≤N)
  (hb:P.length+X1.length+Y1.length+X2.length+Y2.length+Q.length≤700000) (a2 v19 v21 v22:Int) (k:Int→Int→Int→Prs→Option Prs) :
  ZaO (P.length:Int) a2 ((P.length+X1.length+Y1.length+X2.length+Y2.length:Nat):Int) gr ((P.length+X1.length+Y1.length:Nat):Int) v19 ((P.length+X1.length:Nat):Int) v21 v22 k ((P.length+X1.length+Y1.length+X2.length:Nat):Int) (P++(X1++(Y1++(X2++(Y2++Q))))) =
   some (P++(mrg X1 Y1++(mrg X2 Y2++Q))):=by
 have hm:=ZBa _ X1 Y1 (Nat.le_refl _);have next:ZaZ (P.length:Int) a2 ((P.length+X1.length+Y1.length+X2.length+Y2.length:Nat):Int) gr ((P.length+X1.length+Y1.length:Nat):Int) v19 ((P.length+X1.length:Nat):Int) v21 v22 ((P.length+X1.length+Y1.length+X2.length:Nat):Int) k (P++(mrg X1 Y1++(X2++(Y2++Q)))) =
   some (P++(mrg X1 Y1++(mrg X2 Y2++Q))):=by
  have:=c7_eq hgr (P++mrg X1 Y1) X2 Y2 Q hX2 hY2 hN2 (by simp only[List.length_append,hm];omega) (P.length:Int) a2 v19 ((P.length+X1.length:Nat):Int) v21 v22 k;simp only[List.length_append,hm,List.append_assoc]at this;rw[show P.length+(X1.length+Y1.length)=P.length+X1.length+Y1.length by omega]at this;exact this
 unfold ZaO;rw[Zal,Zal];by_cases h1:X1.length=0
 ·rw[if_neg (by omega)];obtain rfl:=List.eq_nil_of_length_eq_zero h1;rw[Zgv]at next ⊢
  exact next
 ·rw[if_pos (by omega)];by_cases h2:Y1.length=0
  ·rw[if_neg (by omega)];obtain rfl:=List.eq_nil_of_length_eq_zero h2;rw[Zjb]at next ⊢
   exact next
  ·rw[if_pos (by omega),hgr P X1 Y1 (X2++(Y2++Q)) (by omega) (by omega) hX1 hY1 hN1 (by simp only[List.length_append];omega),ZaP];exact next
theorem SrtP.take{l:Prs}(h:SrtP l)(k:Nat):SrtP (l.take k):=List.Pairwise.sublist (List.take_sublist k l) h
theorem SrtP.drop{l:Prs}(h:SrtP l)(k:Nat):SrtP (l.drop k):=List.Pairwise.sublist (List.drop_sublist k l) h
section
variable {gr:Prs→Int→Int→Int→Option Prs} {N:Nat} (hgr:Mg gr N) (P X Y Q:Prs) (hX:SrtP X) (hY:SrtP Y) (hX2:0 < X.length) (hY2:0 < Y.length) (hN:X.length + Y.length≤N + 1) (hb:P.length + X.length + Y.length + Q.length≤700000)
 (mid s0 r0:Nat) (hmid:mid=(P.length+(P.length+X.length+Y.length)) / 2)
 (h0:(mid<P.length+X.length∧s0+(P.length+X.length+Y.length)=mid+(P.length+X.length)∧r0=mid)∨(P.length+X.length≤mid∧s0=P.length∧r0=P.length+X.length))
include hgr hX hY hX2 hY2 hN hb hmid h0
def okAt(P X Y:Prs)(mid c:Nat):Bool:=ltP (Y.getD (mid-1-c) Zaa.d) (X.getD (c-P.length) Zaa.d)
theorem ZFv(st:Nat)(h1:s0≤st)(h2:st≤r0)(hlo:∀c,s0≤c→c<st→okAt P X Y mid c=false)(hhi:∀c,st≤c→c<r0→okAt P X Y mid c=true)(v21 v22:Int)(k:Int→Int→Int→Prs→Option Prs) :
  (bif(decide ((st:Int)<((P.length+X.length:Nat):Int)))then
    bif(decide (((P.length+X.length:Nat):Int)<(ZaR ((mid+(P.length+X.length):Nat):Int) (st:Int))))then
     (ZbM (P++(X++(Y++Q))) (st:Int) ((P.length+X.length:Nat):Int) (ZaR ((mid+(P.length+X.length):Nat):Int) (st:Int))).bind fun x2=>
     ZaO (P.length:Int) ((P.length+X.length:Nat):Int) ((P.length+X.length+Y.length:Nat):Int) gr (mid:Int) ((mid+(P.length+X.length):Nat):Int) (st:Int) v21 v22 k (ZaR ((mid+(P.length+X.length):Nat):Int) (st:Int)) x2
    else
     ZaO (P.length:Int) ((P.length+X.length:Nat):Int) ((P.length+X.length+Y.length:Nat):Int) gr (mid:Int) ((mid+(P.length+X.length):Nat):Int) (st:Int) v21 v22 k (ZaR ((mid+(P.length+X.length):Nat):Int) (st:Int)) (P++(X++(Y++Q)))
   else
    ZaO (P.length:Int) ((P.length+X.length:Nat):Int) ((P.length+X.length+Y.length:Nat):Int) gr (mid:Int) ((mid+(P.length+X.length):Nat):Int) (st:Int) v21 v22 k (ZaR ((mid+(P.length+X.length):Nat):Int) (st:Int)) (P++(X++(Y++Q))))=some (P++(mrg X Y++Q)):=by
 have ha:P.length≤st:=by omega
 have hmm:st≤mid:=by omega
 have hk1:st-P.length≤X.length:=by omega
 have hk2:mid-st≤Y.length:=by omega
 obtain⟨k1,e1⟩ : ∃k1,st=P.length+k1:=⟨st-P.length,by omega⟩;obtain⟨k2,e2⟩ : ∃k2,mid=st+k2:=⟨mid-st,by omega⟩;have ee:ZaR ((mid+(P.length+X.length):Nat):Int) (st:Int)=((P.length+X.length+k2:Nat):Int):=by rw[Zds (by omega) (by omega)];omega
 have hA:∀y∈Y.take k2,∀x∈X.drop k1,ltP y x=true:=by
  intro y hy x hx;obtain⟨i,i1,i2,rfl⟩:=Zrp hy;obtain⟨j,j1,j2,rfl⟩:=ZrE hx;have h:=hhi st (Nat.le_refl _) (by omega);unfold okAt at h;rw[show mid-1-st=k2-1 by omega,show st-P.length=k1 by omega]at h;exact ZuO (ZyG h (ZlU hY (by omega) (by omega))) (ZlU hX j1 j2)
 have hB:∀x∈X.take k1,∀y∈Y.drop k2,ltP y x=false:=by
  intro x hx y hy;obtain⟨i,i1,i2,rfl⟩:=Zrp hx;obtain⟨j,j1,j2,rfl⟩:=ZrE hy;have h:=hlo (st-1) (by omega) (by omega);unfold okAt at h;rw[show mid-1-(st-1)=k2 by omega,show st-1-P.length=k1-1 by omega]at h;exact ZkY (ZkY (ZlU hY j1 j2) h) (ZlU hX (by omega) (by omega))
 have hM:mrg X Y=mrg (X.take k1) (Y.take k2)++mrg (X.drop k1) (Y.drop k2):=by
  have:=Zoa _ (X.take k1) (X.drop k1) (Y.take k2) (Y.drop k2) (Nat.le_refl _) hA hB;rwa [List.take_append_drop,List.take_append_drop]at this
 have l1:(X.take k1).length=k1:=by simp;omega
 have l2:(Y.take k2).length=k2:=by simp;omega
 have l3:(X.drop k1).length=X.length-k1:=by simp
 have l4:(Y.drop k2).length=Y.length-k2:=by simp
 have last:=c6_eq hgr P (X.take k1) (Y.take k2) (X.drop k1) (Y.drop k2) Q (hX.take _) (hY.take _) (hX.drop _) (hY.drop _) (by omega) (by omega) (by omega) ((P.length+X.length:Nat):Int) ((mid+(P.length+X.length):Nat):Int) v21 v22 k;rw[l1,l2,l3,l4,show P.length+k1+k2+(X.length-k1)+(Y.length-k2)=P.length+X.length+Y.length by omega,show P.length+k1+k2+(X.length-k1)=P.length+X.length+k2 by omega,show P.length+k1+k2=mid by omega,←e1]at last;have hw:P++(X++(Y++Q))=P++X.take k1++(X.drop k1++(Y.take k2++(Y.drop k2++Q))):=by
  rw[←List.append_assoc (Y.take k2),List.take_append_drop,List.append_assoc,←List.append_assoc (X.take k1),List.take_append_drop]
 have hR:some (P++(mrg (X.take k1) (Y.take k2)++(mrg (X.drop k1) (Y.drop k2)++Q)))=some (P++(mrg X Y++Q)):=by rw[hM,List.append_assoc]
 rw[hR]at last;rw[ee,Zal,Zal];by_cases q1:k1<X.length
 ·rw[if_pos (by omega)];by_cases q2:0<k2
  ·rw[if_pos (by omega),hw,ZFf (P++X.take k1) (X.drop k1) (Y.take k2) (Y.drop k2++Q) (by omega) (by omega) (by simp only[List.length_append];omega) _ _ _ (by simp only[List.length_append];omega) (by simp only[List.length_append];omega) (by simp only[List.length_append];omega),ZaP];simp only[List.append_assoc]at last ⊢;exact last
  ·obtain rfl:k2=0:=by omega
   rw[if_neg (by omega),hw];simp only[List.append_assoc,List.take_zero,List.nil_append]at last ⊢;exact last
 ·rw[if_neg (by omega),hw,show k1=X.length by omega];rw[show k1=X.length by omega]at last;simp only[List.append_assoc,List.drop_length,List.nil_append]at last ⊢;exact last
end
section
variable {gr:Prs→Int→Int→Int→Option Prs} {N:Nat} (hgr:Mg gr N) (P X Y Q:Prs) (hX:SrtP X) (hY:SrtP Y) (hX2:0 < X.length) (hY2:0 < Y.length) (hN:X.length + Y.length≤N + 1) (hb:P.length + X.length + Y.length + Q.length≤700000)
 (mid s0 r0:Nat) (hmid:mid=(P.length+(P.length+X.length+Y.length)) / 2)
 (h0:(mid<P.length+X.length∧s0+(P.length+X.length+Y.length)=mid+(P.length+X.length)∧r0=mid)∨(P.length+X.length≤mid∧s0=P.length∧r0=P.length+X.length))
include hgr hX hY hX2 hY2 hN hb hmid h0
omit hgr hN hb in
theorem ZvZ{c c':Nat}(h1:s0≤c')(h2:c'≤c)(h3:c<r0)(h:okAt P X Y mid c=false):okAt P X Y mid c'=false:=by
 unfold okAt at *
 exact ZkY (ZkY (ZlU hY (by omega) (by omega)) h) (ZlU hX (by omega) (by omega))
theorem ZBY:∀(s lo hi fu:Nat),hi-lo≤s→s0≤lo→lo≤hi→hi≤r0→s+1≤fu→(∀c,s0≤c→c<lo→okAt P X Y mid c=false)→(∀c,hi≤c→c<r0→okAt P X Y mid c=true) →
  ZaA (P.length:Int) ((P.length+X.length:Nat):Int) ((P.length+X.length+Y.length:Nat):Int) gr (mid:Int) ((mid+(P.length+X.length):Nat):Int) fu (lo:Int) (hi:Int) ((mid+(P.length+X.length)-1:Nat):Int) (P++(X++(Y++Q)))=some (P++(mrg X Y++Q)):=by
 intro s;have fin:∀(lo fu:Nat),s0≤lo→lo≤r0→(∀c,s0≤c→c<lo→okAt P X Y mid c=false)→(∀c,lo≤c→c<r0→okAt P X Y mid c=true) →
   ZaA (P.length:Int) ((P.length+X.length:Nat):Int) ((P.length+X.length+Y.length:Nat):Int) gr (mid:Int) ((mid+(P.length+X.length):Nat):Int) (fu+1) (lo:Int) (lo:Int) ((mid+(P.length+X.length)-1:Nat):Int) (P++(X++(Y++Q)))=some (P++(mrg X Y++Q)):=by
  intro lo fu h1 h2 h3 h4;unfold ZaA;rw[Zal,if_neg (by omega)];exact ZFv hgr P X Y Q hX hY hX2 hY2 hN hb mid s0 r0 hmid h0 lo h1 h2 h3 h4 _ _ _
 induction s with
 |zero=>
  intro lo hi fu e1 e2 e3 e4 hf h1 h2;obtain⟨fu,rfl⟩ : ∃x,fu=x+1:=⟨fu-1,by omega⟩;obtain rfl:lo=hi:=by omega
  exact fin lo fu e2 e4 h1 h2
 |succ s ih=>
  intro lo hi fu e1 e2 e3 e4 hf h1 h2;obtain⟨fu,rfl⟩ : ∃x,fu=x+1:=⟨fu-1,by omega⟩;by_cases e:lo=hi
  ·subst e;exact fin lo fu e2 e4 h1 h2
  ·have t1:(lo+hi) / 2<r0:=by omega
   have t2:s0≤(lo+hi) / 2:=by omega
   have ep:ZaR ((mid+(P.length+X.length)-1:Nat):Int) (((lo+hi) / 2:Nat):Int)=((P.length+X.length+(mid-1-(lo+hi) / 2):Nat):Int):=by rw[Zds (by omega) (by omega)];omega
   have hl:(P++(X++(Y++Q))).length=P.length+X.length+Y.length+Q.length:=by simp;omega
   have e1':Zaw (((lo+hi) / 2:Nat):Int) 1=(((lo+hi) / 2+1:Nat):Int):=by rw[ZdP (by omega) (by omega)];omega
   unfold ZaA;rw[Zal,if_pos (by omega),ZuU _ _ (by omega),ep,Zax (by rw[hl];omega),Zax (by rw[hl];omega)];simp only[Int.toNat_natCast];have g1:(P++(X++(Y++Q))).getD (P.length+X.length+(mid-1-(lo+hi) / 2)) Zaa.d=Y.getD (mid-1-(lo+hi) / 2) Zaa.d:=by
    have:=ZyP (P:=P++X) (Y:=Y) (Q:=Q) (i:=mid-1-(lo+hi) / 2) (k:=P.length+X.length+(mid-1-(lo+hi) / 2)) (by simp) (by omega);simpa using this
   have g2:(P++(X++(Y++Q))).getD ((lo+hi) / 2) Zaa.d=X.getD ((lo+hi) / 2-P.length) Zaa.d:=ZyP (by omega) (by omega);rw[g1,g2,Zrs,ZaP,e1'];by_cases hc:cmpE (Y.getD (mid-1-(lo+hi) / 2) Zaa.d).fEnd (X.getD ((lo+hi) / 2-P.length) Zaa.d).fEnd<0
   ·have ok:okAt P X Y mid ((lo+hi) / 2)=true:=Zpp.2 hc;rw[decide_eq_true hc,Bool.not_true,cond_false];refine ih lo _ fu (by omega) e2 (by omega) (by omega) (by omega) h1 (fun c c1 c2=>?_);cases q:okAt P X Y mid c with
    |true=>rfl
    |false=>
     have:=ZvZ P X Y hX hY hX2 hY2 mid s0 r0 hmid h0 t2 c1 c2 q;rw[ok]at this;cases this
   ·have ok:okAt P X Y mid ((lo+hi) / 2)=false:=ZqW.2 hc;rw[decide_eq_false hc,Bool.not_false,cond_true];exact ih _ hi fu (by omega) (by omega) (by omega) e4 (by omega) (fun c c1 c2=>ZvZ P X Y hX hY hX2 hY2 mid s0 r0 hmid h0 c1 (by omega) t1 ok) h2
end
theorem ZET{gr:Prs→Int→Int→Int→Option Prs}{N:Nat}(hgr:Mg gr N):Mg (ZbR gr) (N+1):=by
 intro P X Y Q hX2 hY2 hX hY hN hb;unfold ZbR;have e1:ZaR ((P.length+X.length:Nat):Int) (P.length:Int)=(X.length:Int):=by rw[Zds (by omega) (by omega)];omega
 have e2:ZaR ((P.length+X.length+Y.length:Nat):Int) ((P.length+X.length:Nat):Int)=(Y.length:Int):=by rw[Zds (by omega) (by omega)];omega
 rw[e1,e2,Zhh,Zhh];by_cases h1:X.length=1
 ·rw[if_pos (by omega)];obtain⟨x,rfl⟩ : ∃x,X=[x]:=by
   cases X with
   |nil=>cases h1
   |cons x X=>exact⟨x,by rw[List.eq_nil_of_length_eq_zero (show X.length=0 by simpa using h1)]⟩
  have:=bs1 P Y Q x hY (by omega) Y.length 0 Y.length ((((P.length+[x].length+Y.length:Nat):Int)-((P.length+[x].length:Nat):Int)).toNat+2) (by omega) (by omega) (Nat.le_refl _) (by simp only[List.length_singleton];omega) (by simp) (by simp);exact this
 ·rw[if_neg (by omega)];by_cases h2:Y.length=1
  ·rw[if_pos (by omega)];obtain⟨y,rfl⟩ : ∃y,Y=[y]:=by
    cases Y with
    |nil=>cases h2
    |cons y Y=>exact⟨y,by rw[List.eq_nil_of_length_eq_zero (show Y.length=0 by simpa using h2)]⟩
   have:=bs2 P X Q y hX (by omega) X.length 0 X.length ((((P.length+X.length:Nat):Int)-(P.length:Int)).toNat+2) (by omega) (by omega) (Nat.le_refl _) (by omega) (by simp) (by simp);exact this
  ·rw[if_neg (by omega)];rw[ZuU _ _ (by omega)];obtain⟨mid,hmid⟩ : ∃mid,mid=(P.length+(P.length+X.length+Y.length)) / 2:=⟨_,rfl⟩;rw[←hmid];have en:Zaw (mid:Int) ((P.length+X.length:Nat):Int)=((mid+(P.length+X.length):Nat):Int):=by rw[ZdP (by omega) (by omega)];omega
   have ep:ZaR ((mid+(P.length+X.length):Nat):Int) 1=((mid+(P.length+X.length)-1:Nat):Int):=by rw[Zds (by omega) (by omega)];omega
   rw[en,Zal];by_cases h3:mid<P.length+X.length
   ·have es:ZaR ((mid+(P.length+X.length):Nat):Int) ((P.length+X.length+Y.length:Nat):Int)=((mid+(P.length+X.length)-(P.length+X.length+Y.length):Nat):Int):=by rw[Zds (by omega) (by omega)];omega
    rw[if_pos (by omega),es];unfold Zby
    rw[ep];exact ZBY hgr P X Y Q hX hY hX2 hY2 hN hb mid (mid+(P.length+X.length)-(P.length+X.length+Y.length)) mid hmid (.inl ⟨h3,by omega,rfl⟩) _ _ _ _ (Nat.le_refl _) (Nat.le_refl _) (by omega) (Nat.le_refl _) (by omega) (fun c c1 c2=>by omega) (fun c c1 c2=>by omega)
   ·rw[if_neg (by omega)];unfold Zby
    rw[ep];exact ZBY hgr P X Y Q hX hY hX2 hY2 hN hb mid P.length (P.length+X.length) hmid (.inr ⟨by omega,rfl,rfl⟩) _ _ _ _ (Nat.le_refl _) (Nat.le_refl _) (by omega) (Nat.le_refl _) (by omega) (fun c c1 c2=>by omega) (fun c c1 c2=>by omega)
theorem ZCu:∀fu,Mg (ZaX fu) fu
 | 0=>fun P X Y Q h1 h2 _ _ h3=>by omega
 |fu+1=>fun P X Y Q h1 h2 h3 h4 h5 h6=>by
  unfold ZaX
  exact ZET (ZCu fu) P X Y Q h1 h2 h3 h4 h5 h6
inductive Blk (B:Nat):Prs→Prs→Prop
 |last (L:Prs) (h:L.length≤B):Blk B L (ZeM L)
 |more (L D:Prs) (h:B≤L.length) (r:Blk B (L.drop B) D):Blk B L (ZeM (L.take B)++D)
theorem Blk.len{B:Nat}{L D:Prs}(h:Blk B L D):D.length=L.length:=by
 induction h with
 |last L h=>exact ZhO L
 |more L D h r ih=>rw[List.length_append,ZhO,ih];simp;omega
theorem Blk.one{B:Nat}(hB:0<B){L D:Prs}(h:Blk B L D)(hl:L.length≤B):D=ZeM L:=by
 cases h with
 |last _ h=>rfl
 |more _ D h r=>
  have:L.length=B:=by omega
  have hd:L.drop B=[]:=List.drop_eq_nil_of_le (by omega);have hr:=r.len;rw[hd]at hr;rw[List.eq_nil_of_length_eq_zero hr,List.take_of_length_le (by omega),List.append_nil]
theorem Blk.split{B:Nat}{L D:Prs}(h:Blk B L D)(hl:B≤L.length):∃D1,D=ZeM (L.take B)++D1∧Blk B (L.drop B) D1:=by
 cases h with
 |last _ h=>
  have e:L.length=B:=by omega
  refine⟨[],by rw[List.take_of_length_le (by omega),List.append_nil],?_⟩;rw[List.drop_eq_nil_of_le (by omega)];exact Blk.last [] (by simp)
 |more _ D h r=>exact⟨D,rfl,r⟩
theorem st_c2(B:Nat)(hB:0<B)(hB2:B≤800)(k0:Int→Int→Int→Prs→Option Prs)(k1:Int→Prs→Option Prs):∀(s:Nat)(L P D:Prs)(fu:Nat),L.length<2*B*(s+1)→s+1≤fu→P.length+L.length≤900→Blk B L D →
  ∃D',Blk (2*B) L D'∧ZaS ((P.length+L.length:Nat):Int) (B:Int) k0 k1 fu (P.length:Int) ((P.length+2*B:Nat):Int) (P++D)=k1 ((2*B:Nat):Int) (P++D'):=by
 intro s;induction s with
 |zero=>
  intro L P D fu h1 hf hb h;obtain⟨fu,rfl⟩ : ∃x,fu=x+1:=⟨fu-1,by omega⟩;have e1:Zaw (P.length:Int) (B:Int)=((P.length+B:Nat):Int):=by rw[ZdP (by omega) (by omega)];omega
  have e2:ZpP (B:Int) 2=((2*B:Nat):Int):=by rw[ZuK (by omega) (by omega)];omega
  unfold ZaS;rw[Zal,if_neg (by omega),e1,e2,Zal];refine⟨ZeM L,Blk.last L (by omega),?_⟩;by_cases h3:B<L.length
  ·obtain⟨D1,rfl,r1⟩:=h.split (by omega);have e:=r1.one hB (by simp;omega);subst e;have l1:(ZeM (L.take B)).length=B:=by rw[ZhO];simp;omega
   have l2:(ZeM (L.drop B)).length=L.length-B:=by rw[ZhO];simp
   have hm:=ZCu 1000 P (ZeM (L.take B)) (ZeM (L.drop B)) [] (by omega) (by omega) (Zms _) (Zms _) (by omega) (by simp;omega);rw[l1,l2,show P.length+B+(L.length-B)=P.length+L.length by omega,←ZqX,List.take_append_drop,List.append_nil,List.append_nil]at hm;rw[if_pos (by omega),hm,ZaP]
  ·rw[if_neg (by omega),h.one hB (by omega)]
 |succ s ih=>
  intro L P D fu h1 hf hb h;rw[Nat.mul_succ]at h1;by_cases h2:2*B≤L.length
  ·obtain⟨fu,rfl⟩ : ∃x,fu=x+1:=⟨fu-1,by omega⟩;have e1:Zaw (P.length:Int) (B:Int)=((P.length+B:Nat):Int):=by rw[ZdP (by omega) (by omega)];omega
   have e3:ZpP (2:Int) (B:Int)=((2*B:Nat):Int):=by rw[ZuK (by omega) (by omega)];omega
   have e4:Zaw ((P.length+2*B:Nat):Int) ((2*B:Nat):Int)=((P.length+2*B+2*B:Nat):Int):=by rw[ZdP (by omega) (by omega)];omega
   unfold ZaS;rw[Zal,e1,e3,e4];obtain⟨D1,rfl,r1⟩:=h.split (by omega);obtain⟨D2,rfl,r2⟩:=r1.split (by simp;omega);have l1:(ZeM (L.take B)).length=B:=by rw[ZhO];simp;omega
   have l2:(ZeM ((L.drop B).take B)).length=B:=by rw[ZhO];simp;omega
   have lD:=r2.len;simp only[List.length_drop]at lD;have hm:=ZCu 1000 P (ZeM (L.take B)) (ZeM ((L.drop B).take B)) D2 (by omega) (by omega) (Zms _) (Zms _) (by omega) (by omega);rw[l1,l2,show P.length+B+B=P.length+2*B by omega,←ZqX]at hm;have et:L.take B++(L.drop B).take B=L.take (2*B):=by rw[show 2*B=B+B by omega,List.take_add]
   have ed:(L.drop B).drop B=L.drop (2*B):=by rw[List.drop_drop];congr 1;omega
   rw[et]at hm;rw[ed]at r2;rw[if_pos (by omega),hm,ZaP];have lt:(ZeM (L.take (2*B))).length=2*B:=by rw[ZhO];simp;omega
   obtain⟨D',d1,d2⟩:=ih (L.drop (2*B)) (P++ZeM (L.take (2*B))) D2 fu (by rw[List.length_drop];omega) (by omega) (by simp only[List.length_append,lt,List.length_drop];omega) r2;refine⟨ZeM (L.take (2*B))++D',Blk.more L D' h2 d1,?_⟩;simp only[List.length_append,lt,List.length_drop,List.append_assoc]at d2;rw[show P.length+2*B+(L.length-2*B)=P.length+L.length by omega]at d2;exact d2
  ·obtain⟨fu,rfl⟩ : ∃x,fu=x+1:=⟨fu-1,by omega⟩;have hp:L.length<2*B*(s+1):=by
    have:2*B≤2*B*(s+1):=Nat.le_mul_of_pos_right _ (by omega);omega
   exact ih L P D (fu+1) hp (by omega) hb h
theorem st_c1(v7 v8:Int)(k0:Int→Int→Int→Prs→Option Prs)(L:Prs)(hL:L.length≤800):∀(s B:Nat)(D:Prs)(fu:Nat),L.length-B≤s→0<B→B≤1600→s+1≤fu→Blk B L D →
  ZaL (L.length:Int) v7 v8 k0 fu (B:Int) D=some (ZeM L):=by
 intro s;induction s with
 |zero=>
  intro B D fu h1 hB hB2 hf h;obtain⟨fu,rfl⟩ : ∃x,fu=x+1:=⟨fu-1,by omega⟩;unfold ZaL;rw[Zal,if_neg (by omega),h.one hB (by omega)]
 |succ s ih=>
  intro B D fu h1 hB hB2 hf h;obtain⟨fu,rfl⟩ : ∃x,fu=x+1:=⟨fu-1,by omega⟩;unfold ZaL;rw[Zal];by_cases h2:B<L.length
  ·have e3:ZpP (2:Int) (B:Int)=((2*B:Nat):Int):=by rw[ZuK (by omega) (by omega)];omega
   rw[if_pos (by omega),e3];have hq:L.length / (2*B)+1≤(((L.length:Nat):Int)-((2*B:Nat):Int)).toNat+2:=by
    by_cases h4:L.length<2*B
    ·rw[Nat.div_eq_of_lt h4];omega
    ·rw[Nat.div_eq_sub_div (by omega) (by omega)];have:=Nat.div_le_self (L.length-2*B) (2*B);omega
   obtain⟨D',d1,d2⟩:=st_c2 B hB (by omega) k0 (ZaL (L.length:Int) v7 v8 k0 fu) (L.length / (2*B)) L [] D _ (Nat.lt_mul_div_succ _ (by omega)) hq (by simp;omega) h;simp only[List.length_nil,Nat.zero_add,List.nil_append]at d2;have d2':ZaS (L.length:Int) (B:Int) k0 (ZaL (L.length:Int) v7 v8 k0 fu) ((((L.length:Nat):Int)-((2*B:Nat):Int)).toNat+2) 0 ((2*B:Nat):Int) D=_:=d2;rw[d2'];exact ih (2*B) D' fu (by omega) (by omega) (by omega) (by omega) d1
  ·rw[if_neg (by omega),h.one hB (by omega)]
theorem st_c0(A:Prs)(hA:A.length≤800):∀(s:Nat)(L P:Prs)(fu:Nat),L.length<20*(s+1)→s+1≤fu→P.length+L.length=A.length→(∀D,Blk 20 L D→Blk 20 A (P++D)) →
  ZaK (A.length:Int) fu 20 (P.length:Int) ((P.length+20:Nat):Int) (P++L)=some (ZeM A):=by
 intro s;have fin:∀(L P:Prs)(fu:Nat),L.length<20→P.length+L.length=A.length→(∀D,Blk 20 L D→Blk 20 A (P++D)) →
   ZaK (A.length:Int) (fu+1) 20 (P.length:Int) ((P.length+20:Nat):Int) (P++L)=some (ZeM A):=by
  intro L P fu h1 hl hP;unfold ZaK;have hi:=ZDO P L [] (by simp;omega) (P.length:Int) (A.length:Int) rfl (by omega);simp only[List.append_nil]at hi;rw[Zal,if_neg (by omega),hi,ZaP];exact st_c1 _ _ _ A hA (A.length-20) 20 _ _ (Nat.le_refl _) (by omega) (by omega) (by omega) (hP _ (Blk.last L (by omega)))
 induction s with
 |zero=>
  intro L P fu h1 hf hl hP;obtain⟨fu,rfl⟩ : ∃x,fu=x+1:=⟨fu-1,by omega⟩;exact fin L P fu (by omega) hl hP
 |succ s ih=>
  intro L P fu h1 hf hl hP;obtain⟨fu,rfl⟩ : ∃x,fu=x+1:=⟨fu-1,by omega⟩;by_cases h2:L.length<20
  ·exact fin L P fu h2 hl hP
  ·unfold ZaK;have lt:(L.take 20).length=20:=by simp;omega
   have hi:=ZDO P (L.take 20) (L.drop 20) (by simp;omega) (P.length:Int) ((P.length+20:Nat):Int) rfl (by rw[lt]);rw[List.take_append_drop]at hi;have e1:Zaw ((P.length+20:Nat):Int) 20=((P.length+20+20:Nat):Int):=by rw[ZdP (by omega) (by omega)];omega
   rw[Zal,if_pos (by omega),hi,ZaP,e1];have li:(ZeM (L.take 20)).length=20:=by rw[ZhO,lt]
   have:=ih (L.drop 20) (P++ZeM (L.take 20)) fu (by rw[List.length_drop];omega) (by omega) (by simp only[List.length_append,li,List.length_drop];omega) (fun D hD=>by
    have:=hP _ (Blk.more L D (by omega) hD);rwa [←List.append_assoc]at this)
   simp only[List.length_append,li,List.append_assoc]at this;exact this
theorem Zxg(A:Prs)(hA:A.length≤800):ZbC A=some (ZeM A):=by
 unfold ZbC ZcL;have hq:A.length / 20+1≤(((A.length:Nat):Int)-(20:Int)).toNat+2:=by omega
 have:=st_c0 A hA (A.length / 20) A [] ((((A.length:Nat):Int)-(20:Int)).toNat+2) (by omega) hq (by simp) (fun D h=>h);simp only[List.length_nil,Nat.zero_add,List.nil_append]at this;have this':ZaK (A.length:Int) ((((A.length:Nat):Int)-(20:Int)).toNat+2) 20 0 20 A=some (ZeM A):=this;rw[this'];rfl
theorem Zvy(A:Prs)(hA:A.length≤800):Zit A=some (ZeM A):=by
 unfold Zit;have ec:ZbL A=some A:=by
  unfold ZbL;rw[Zax ⟨by omega,by unfold maxLen;omega⟩]
 rw[ec,ZaP,Zxg A hA];rfl
end Go.Proofs.YtdjfoojllbfcgaaGreat
