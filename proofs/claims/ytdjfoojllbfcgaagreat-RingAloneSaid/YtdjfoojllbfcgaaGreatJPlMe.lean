import Derived.Test.YtdjfoojllbfcgaaGreatJPlT
namespace Go.Proofs.YtdjfoojllbfcgaaGreat
set_option linter.unusedSimpArgs false
set_option linter.unusedVariables false
def Bel'(n:Nat)(f:Nat->Bool)(p:Zag):Prop:=n<=p.fBits.toNat/\∀i,i<n->bitN p.fAddr i=f i
def ext'(p:Zag)(b:Bool):Nat->Bool:=fun i=>if i<p.fBits.toNat then bitN p.fAddr i else b
theorem ZjJ{p q:Zag}{b:Bool}:Bel' (p.fBits.toNat+1) (ext' p b) q↔p.fBits.toNat<q.fBits.toNat/\(∀i,i<p.fBits.toNat->bitN q.fAddr i=bitN p.fAddr i)/\bitN q.fAddr p.fBits.toNat=b:=by
 unfold Bel' ext';constructor
 .rintro ⟨h1,h2⟩;refine⟨by omega,fun i hi=>?_,?_⟩
  .have:=h2 i (by omega);rwa [if_pos hi]at this
  .have:=h2 p.fBits.toNat (by omega);rwa [if_neg (by omega)]at this
 .rintro ⟨h1,h2,h3⟩;refine⟨by omega,fun i hi=>?_⟩;by_cases h:i<p.fBits.toNat
  .rw[if_pos h];exact h2 i h
  .rw[if_neg h,show i=p.fBits.toNat by omega];exact h3
def ZoG(v:Bool):Zav->Nat->(Nat->Bool)->Prop | .nil,_,_=>True | .mk h has k0 k1,n,f=>RN h.fNet/\h.fNet.fAddr.fV6=v/\Bel' n f h.fNet/\ZoG v k0 (h.fNet.fBits.toNat+1) (ext' h.fNet false)/\ZoG v k1 (h.fNet.fBits.toNat+1) (ext' h.fNet true)
def Zbr:Zav->List Zaw | .nil=>[] | .mk h has k0 k1=>(if has then[h]else[])++Zbr k0++Zbr k1
theorem ZbG{v:Bool}:∀{nd:Zav}{n:Nat}{f:Nat->Bool},ZoG v nd n f->∀x∈Zbr nd,RN x.fNet/\x.fNet.fAddr.fV6=v/\Bel' n f x.fNet
 | .nil,_,_,_,x,hx=>by simp[Zbr]at hx
 | .mk h has k0 k1,n,f,hg,x,hx=>by
  obtain⟨g1,g2,g3,g4,g5⟩:=hg
  have iK:∀b,Bel' (h.fNet.fBits.toNat+1) (ext' h.fNet b) x.fNet->Bel' n f x.fNet:=fun b hb=>by
   obtain⟨b1,b2,_⟩:=ZjJ.1 hb
   have:=g3.1
   exact⟨by omega,fun i hi=>by rw[b2 i (by omega)];exact g3.2 i hi⟩
  simp only[Zbr,List.mem_append]at hx
  rcases hx with (hx|hx)|hx
  .split at hx
   .rw[List.mem_singleton]at hx;rw[hx];exact⟨g1,g2,g3⟩
   .simp at hx
  .obtain⟨h1,h2,h3⟩:=ZbG g4 x hx
   exact⟨h1,h2,iK _ h3⟩
  .obtain⟨h1,h2,h3⟩:=ZbG g5 x hx
   exact⟨h1,h2,iK _ h3⟩
theorem ZoG.rebase{v:Bool}{nd:Zav}{n m:Nat}{f g:Nat->Bool}(h:ZoG v nd n f)(hb:∀x has k0 k1,nd=.mk x has k0 k1->Bel' m g x.fNet):ZoG v nd m g:=by
 cases nd with
 |nil=>trivial
 |mk x has k0 k1=>exact⟨h.1,h.2.1,hb x has k0 k1 rfl,h.2.2.2⟩
def ZlZ(l:List Zaw)(n:Zag):Int×Bool:=match l.find? (fun x=>decide (x.fNet=n))with
 |some x=>(x.fV,true)
 |none=>(0,false)
theorem ZlL{l:List Zaw}{n:Zag}(h:∀x∈l,x.fNet≠n):l.find? (fun x=>decide (x.fNet=n))=none:=by
 rw[List.find?_eq_none];intro x hx;simpa using h x hx
theorem ZDk{v:Bool}{n:Zag}(hn:RN n)(hv:n.fAddr.fV6=v):∀fu (nd:Zav) (m:Nat) (f:Nat->Bool),ZoG v nd m f->n.fBits.toNat+1<fu+m ->
  Zds fu nd n=some (ZlZ (Zbr nd) n)\/(n.fBits.toNat<m/\fu=0):=by
 intro fu;induction fu with
 |zero=>intro nd m f _ h;exact .inr ⟨by omega,rfl⟩
 |succ fu ih=>
  intro nd m f hg hf;refine .inl ?_;cases nd with
  |nil=>rfl
  |mk h has k0 k1=>
   obtain⟨g1,g2,g3,g4,g5⟩:=hg;have hw:wid h.fNet.fAddr=wid n.fAddr:=by unfold wid;rw[g2,hv]
   have b0:=fun x hx=>ZjJ.1 (ZbG g4 x hx).2.2;have b1:=fun x hx=>ZjJ.1 (ZbG g5 x hx).2.2;have hnn:=g1.nn;have hnn':=hn.nn;simp only[Zds,Zam];by_cases hlt:h.fNet.fBits<n.fBits
   .rw[if_pos hlt];have ht:=ZxR hn h.fNet.fBits.toNat (by have:=hn.le;omega);rw[Int.toNat_of_nonneg hnn]at ht;rw[ht];have hh:∀x∈(if has then[h]else[]),x.fNet≠n:=fun x hx e=>by
     split at hx
     .rw[List.mem_singleton]at hx;subst hx;rw[e]at hlt;omega
     .simp at hx
    have gm:=g3.1;cases hb:bitN n.fAddr h.fNet.fBits.toNat with
    |false=>
     simp only[Bool.false_eq_true,if_false,Option.bind_some];rw[Zax (by omega)];have he:ZlZ (Zbr (.mk h has k0 k1)) n=ZlZ (Zbr k0) n:=by
      unfold ZlZ;simp only[Zbr];rw[List.find?_append,List.find?_append,ZlL hh,ZlL (l:=Zbr k1) fun x hx e=>by have:=(b1 x hx).2.2;rw[e,hb]at this;cases this];simp
     rw[he];rcases ih k0 _ _ g4 (by omega)with h|h
     .exact h
     .omega
    |true=>
     simp only[if_true,Option.bind_some];rw[Zax (by omega)];have he:ZlZ (Zbr (.mk h has k0 k1)) n=ZlZ (Zbr k1) n:=by
      unfold ZlZ;simp only[Zbr];rw[List.find?_append,List.find?_append,ZlL hh,ZlL (l:=Zbr k0) fun x hx e=>by have:=(b0 x hx).2.2;rw[e,hb]at this;cases this];simp
     rw[he];rcases ih k1 _ _ g5 (by omega)with h|h
     .exact h
     .omega
   .rw[if_neg hlt];have he:ZlZ (Zbr (.mk h has k0 k1)) n=ZlZ (if has then[h]else[]) n:=by
     unfold ZlZ;simp only[Zbr];rw[List.find?_append,List.find?_append,ZlL (l:=Zbr k0) fun x hx e=>by have:=(b0 x hx).1;rw[e]at this;omega,ZlL (l:=Zbr k1) fun x hx e=>by have:=(b1 x hx).1;rw[e]at this;omega];simp
    rw[he];cases has with
    |false=>rfl
    |true=>
     by_cases e:h.fNet=n
     .simp[ZlZ,e]
     .simp[ZlZ,e]
theorem Zze{v:Bool}{hit:Zaw}(hn:RN hit.fNet)(hv:hit.fNet.fAddr.fV6=v):∀fu (nd:Zav) (m:Nat) (f:Nat->Bool),ZoG v nd m f->Bel' m f hit.fNet->hit.fNet.fBits.toNat+1<fu+m ->
  ∃jY,ZeX fu nd hit=some jY/\ZoG v jY m f/\∀x,x∈Zbr jY↔x=hit\/(x∈Zbr nd/\x.fNet≠hit.fNet):=by
 intro fu;induction fu with
 |zero=>intro nd m f _ hb h;have:=hb.1;omega
 |succ fu ih=>
  intro nd m f hg cq hf;cases nd with
  |nil=>exact⟨_,rfl,⟨hn,hv,cq,trivial,trivial⟩,fun x=>by simp[Zbr]⟩
  |mk h has k0 k1=>
   have jQ:=hg;obtain⟨g1,g2,g3,g4,g5⟩:=hg;have hwd:wid h.fNet.fAddr=wid hit.fNet.fAddr:=by unfold wid;rw[g2,hv]
   have b0:=fun x hx=>ZjJ.1 (ZbG g4 x hx).2.2;have b1:=fun x hx=>ZjJ.1 (ZbG g5 x hx).2.2;have jZ:∀x∈Zbr (.mk h has k0 k1),h.fNet.fBits.toNat<=x.fNet.fBits.toNat/\∀i,i<h.fNet.fBits.toNat->bitN x.fNet.fAddr i=bitN h.fNet.fAddr i:=fun x hx=>by
    simp only[Zbr,List.mem_append]at hx;rcases hx with (hx|hx)|hx
    .split at hx
     .rw[List.mem_singleton]at hx;rw[hx];exact⟨Nat.le_refl _,fun _ _=>rfl⟩
     .simp at hx
    .obtain⟨x1,x2,_⟩:=b0 x hx;exact⟨by omega,x2⟩
    .obtain⟨x1,x2,_⟩:=b1 x hx;exact⟨by omega,x2⟩
   have n1:=g1.nn;have n2:=hn.nn;have l1:=g1.le;have l2:=hn.le;obtain⟨k,c1,c2,c3,c4,c5⟩:=ZGZ g1 hn (g2.trans hv.symm);simp only[ZeX,c1,Option.bind_some,Zam];by_cases hk:k<h.fNet.fBits.toNat
   .rw[if_pos (by omega)];have hbit:=ZxR g1 k (by omega);by_cases iL:k=hit.fNet.fBits.toNat
    .-- the new one stands above
     have e:((k:Int)==hit.fNet.fBits)=true:=by rw[beq_iff_eq];omega
     have hne:∀x∈Zbr (.mk h has k0 k1),x.fNet≠hit.fNet:=fun x hx e=>by have:=(jZ x hx).1;rw[e]at this;omega
     have hB:Bel' (hit.fNet.fBits.toNat+1) (ext' hit.fNet (bitN h.fNet.fAddr k)) h.fNet:=ZjJ.2 ⟨by omega,fun i hi=>c4 i (by omega),by rw[<-iL]⟩;have hG:ZoG v (.mk h has k0 k1) (hit.fNet.fBits.toNat+1) (ext' hit.fNet (bitN h.fNet.fAddr k)):=jQ.rebase fun x _ _ _ e=>by cases e;exact hB
     simp only[Zke,e,cond_true,hbit,Option.bind_some];cases hb:bitN h.fNet.fAddr k with
     |false=>
      rw[hb]at hG;simp only[Bool.false_eq_true,if_false];rw[Zax (by omega)];refine⟨_,rfl,⟨hn,hv,cq,hG,trivial⟩,fun x=>?_⟩;have:Zbr (.mk hit true (.mk h has k0 k1) .nil)=[hit]++Zbr (.mk h has k0 k1):=by simp[Zbr]
      rw[this,List.mem_append,List.mem_singleton];exact or_congr Iff.rfl ⟨fun hx=>⟨hx,hne x hx⟩,fun hx=>hx.1⟩
     |true=>
      rw[hb]at hG;simp only[if_true];rw[Zax (by omega)];refine⟨_,rfl,⟨hn,hv,cq,trivial,hG⟩,fun x=>?_⟩;have:Zbr (.mk hit true .nil (.mk h has k0 k1))=[hit]++Zbr (.mk h has k0 k1):=by simp[Zbr]
      rw[this,List.mem_append,List.mem_singleton];exact or_congr Iff.rfl ⟨fun hx=>⟨hx,hne x hx⟩,fun hx=>hx.1⟩
    .-- they part
     have hk2:k<hit.fNet.fBits.toNat:=by omega
     have e:((k:Int)==hit.fNet.fBits)=false:=by rw[beq_eq_false_iff_ne];omega
     have c7:=c5 hk hk2;have hne:∀x∈Zbr (.mk h has k0 k1),x.fNet≠hit.fNet:=fun x hx e=>c7 (by rw[<-(jZ x hx).2 k hk,e]);obtain⟨r1,r2⟩:=ZJN hn.ok hn.right k (by omega);have jk:ZfH hit.fNet.fAddr (k:Int)=some (⟨ZjC hit.fNet.fAddr k,(k:Int)⟩,true):=by
      rw[ZBB _ hn.ok,if_pos ⟨hn.right,by omega,by omega⟩,Int.toNat_natCast]
     have iM:(⟨ZjC hit.fNet.fAddr k,(k:Int)⟩ : Zag).fBits.toNat=k:=Int.toNat_natCast k;have bF:∀i,i<k->bitN (ZjC hit.fNet.fAddr k) i=bitN hit.fNet.fAddr i:=fun i hi=>by
      rw[Zlr hn.fits k i (by omega) (by omega),decide_eq_true hi];rfl
     have hm:m<=k:=by
      rcases Nat.lt_or_ge k m with hh|hh
      .exact absurd ((g3.2 k hh).trans (cq.2 k hh).symm) c7
      .exact hh
     have hP:Bel' m f ⟨ZjC hit.fNet.fAddr k,(k:Int)⟩:=⟨by rw[iM];exact hm,fun i hi=>by rw[bF i (by omega)];exact cq.2 i hi⟩;have hO:ZoG v (.mk h has k0 k1) ((⟨ZjC hit.fNet.fAddr k,(k:Int)⟩ : Zag).fBits.toNat+1) (ext' ⟨ZjC hit.fNet.fAddr k,(k:Int)⟩ (bitN h.fNet.fAddr k)):=jQ.rebase fun x _ _ _ e=>by
      cases e;exact ZjJ.2 ⟨by rw[iM];exact hk,fun i hi=>by rw[iM]at hi;rw[bF i hi];exact c4 i hi,by rw[iM]⟩
     have hL:ZoG v (.mk hit true .nil .nil) ((⟨ZjC hit.fNet.fAddr k,(k:Int)⟩ : Zag).fBits.toNat+1) (ext' ⟨ZjC hit.fNet.fAddr k,(k:Int)⟩ (bitN hit.fNet.fAddr k)):=
      ⟨hn,hv,ZjJ.2 ⟨by rw[iM];exact hk2,fun i hi=>by rw[iM]at hi;rw[bF i hi],by rw[iM]⟩,trivial,trivial⟩
     have bi:=ZxR hn k (by omega);simp only[Zke,e,cond_false,jk,hbit,bi,Option.bind_some];cases hb:bitN h.fNet.fAddr k with
     |false=>
      have ay:bitN hit.fNet.fAddr k=true:=by
       cases hq:bitN hit.fNet.fAddr k
       .rw[hb,hq]at c7;exact absurd rfl c7
       .rfl
      rw[hb]at hO;rw[ay]at hL;simp only[ay,Bool.false_eq_true,if_false,if_true];rw[Zax (by omega)];have e1:∀(A B:Option Zav),ix2 0 A B=A:=fun _ _=>rfl;have e2:∀(A B:Option Zav),ix2 1 A B=B:=fun _ _=>rfl;rw[e1,Zax (by omega),e2];refine⟨_,rfl,⟨r1,by simp only[ZiI];exact hv,hP,hO,hL⟩,fun x=>?_⟩;have:Zbr (.mk ⟨⟨ZjC hit.fNet.fAddr k,(k:Int)⟩,0⟩ false (.mk h has k0 k1) (.mk hit true .nil .nil))=Zbr (.mk h has k0 k1)++[hit]:=by simp[Zbr]
      rw[this,List.mem_append,List.mem_singleton,or_comm];exact or_congr Iff.rfl ⟨fun hx=>⟨hx,hne x hx⟩,fun hx=>hx.1⟩
     |true=>
      have ay:bitN hit.fNet.fAddr k=false:=by
       cases hq:bitN hit.fNet.fAddr k
       .rfl
       .rw[hb,hq]at c7;exact absurd rfl c7
      rw[hb]at hO;rw[ay]at hL;simp only[ay,Bool.false_eq_true,if_false,if_true];rw[Zax (by omega)];have e1:∀(A B:Option Zav),ix2 0 A B=A:=fun _ _=>rfl;have e2:∀(A B:Option Zav),ix2 1 A B=B:=fun _ _=>rfl;rw[e2,Zax (by omega),e1];refine⟨_,rfl,⟨r1,by simp only[ZiI];exact hv,hP,hL,hO⟩,fun x=>?_⟩;have:Zbr (.mk ⟨⟨ZjC hit.fNet.fAddr k,(k:Int)⟩,0⟩ false (.mk hit true .nil .nil) (.mk h has k0 k1))=[hit]++Zbr (.mk h has k0 k1):=by simp[Zbr]
      rw[this,List.mem_append,List.mem_singleton];exact or_congr Iff.rfl ⟨fun hx=>⟨hx,hne x hx⟩,fun hx=>hx.1⟩
   .rw[if_neg (by omega)];have iL:k=h.fNet.fBits.toNat:=by omega
    by_cases hke:k=hit.fNet.fBits.toNat
    .-- it is there
     have e:((k:Int)==hit.fNet.fBits)=true:=by rw[beq_iff_eq];omega
     have lN:h.fNet=hit.fNet:=ZKO g1 hn (g2.trans hv.symm) (by
      unfold bs;rw[<-iL,<-hke];apply List.map_congr_left;intro i hi;exact c4 i (by simpa using hi))
     rw[e,cond_true];refine⟨_,rfl,⟨hn,hv,cq,by rw[<-lN];exact g4,by rw[<-lN];exact g5⟩,fun x=>?_⟩;have n0:x∈Zbr k0->x.fNet≠hit.fNet:=fun hx e=>by have:=(b0 x hx).1;rw[e]at this;omega
     have n1:x∈Zbr k1->x.fNet≠hit.fNet:=fun hx e=>by have:=(b1 x hx).1;rw[e]at this;omega
     simp only[Zbr,List.mem_append,if_true,List.mem_singleton];constructor
     .rintro ((hx|hx)|hx)
      .exact .inl hx
      .exact .inr ⟨.inl (.inr hx),n0 hx⟩
      .exact .inr ⟨.inr hx,n1 hx⟩
     .rintro (hx|⟨(hx|hx)|hx,hne⟩)
      .exact .inl (.inl hx)
      .split at hx
       .rw[List.mem_singleton]at hx;rw[hx]at hne;exact absurd lN hne
       .simp at hx
      .exact .inl (.inr hx)
      .exact .inr hx
    .have e:((k:Int)==hit.fNet.fBits)=false:=by rw[beq_eq_false_iff_ne];omega
     have hbit:=ZxR hn k (by omega);have hB:Bel' (h.fNet.fBits.toNat+1) (ext' h.fNet (bitN hit.fNet.fAddr k)) hit.fNet:=ZjJ.2 ⟨by omega,fun i hi=>(c4 i (by omega)).symm,by rw[<-iL]⟩;have nh:∀x∈(if has then[h]else[]),x.fNet≠hit.fNet:=fun x hx e=>by
      split at hx
      .rw[List.mem_singleton]at hx;rw[hx]at e;rw[e]at iL;omega
      .simp at hx
     have gm:=g3.1;simp only[e,cond_false,hbit,Option.bind_some];cases hb:bitN hit.fNet.fAddr k with
     |false=>
      rw[hb]at hB;simp only[Bool.false_eq_true,if_false];rw[Zax (by omega)];obtain⟨jY,w1,w2,w3⟩:=ih k0 _ _ g4 hB (by omega);have e1:∀(A B:Option Zav),ix2 0 A B=A:=fun _ _=>rfl;rw[e1,w1];refine⟨_,rfl,⟨g1,g2,g3,w2,g5⟩,fun x=>?_⟩;have n1:x∈Zbr k1->x.fNet≠hit.fNet:=fun hx e=>by have:=(b1 x hx).2.2;rw[e,<-iL,hb]at this;cases this
      simp only[Zbr,List.mem_append,w3];constructor
      .rintro ((hx|hx|hx)|hx)
       .exact .inr ⟨.inl (.inl hx),nh x hx⟩
       .exact .inl hx
       .exact .inr ⟨.inl (.inr hx.1),hx.2⟩
       .exact .inr ⟨.inr hx,n1 hx⟩
      .rintro (hx|⟨(hx|hx)|hx,hne⟩)
       .exact .inl (.inr (.inl hx))
       .exact .inl (.inl hx)
       .exact .inl (.inr (.inr ⟨hx,hne⟩))
       .exact .inr hx
     |true=>
      rw[hb]at hB;simp only[if_true];rw[Zax (by omega)];obtain⟨jY,w1,w2,w3⟩:=ih k1 _ _ g5 hB (by omega);have e2:∀(A B:Option Zav),ix2 1 A B=B:=fun _ _=>rfl;rw[e2,w1];refine⟨_,rfl,⟨g1,g2,g3,g4,w2⟩,fun x=>?_⟩;have n1:x∈Zbr k0->x.fNet≠hit.fNet:=fun hx e=>by have:=(b0 x hx).2.2;rw[e,<-iL,hb]at this;cases this
      simp only[Zbr,List.mem_append,w3];constructor
      .rintro ((hx|hx)|hx|hx)
       .exact .inr ⟨.inl (.inl hx),nh x hx⟩
       .exact .inr ⟨.inl (.inr hx),n1 hx⟩
       .exact .inl hx
       .exact .inr ⟨.inr hx.1,hx.2⟩
      .rintro (hx|⟨(hx|hx)|hx,hne⟩)
       .exact .inr (.inl hx)
       .exact .inl (.inl hx)
       .exact .inl (.inr hx)
       .exact .inr (.inr ⟨hx,hne⟩)
def cov(a:Zai)(x:Zaw):Bool:=decide (∀i,i<x.fNet.fBits.toNat->bitN a i=bitN x.fNet.fAddr i)
theorem ZmL{α:Type}{p:α->Bool}{l:List α}(h:∀x∈l,p x=false):l.filter p=[]:=by
 rw[List.filter_eq_nil_iff];intro x hx;rw[h x hx];simp
theorem ZxF{v:Bool}{a:Zai}(ha:a.ok)(hr:Zda a=true)(hv:a.fV6=v):∀fu (nd:Zav) (m:Nat) (f:Nat->Bool) (w:List Zaw),ZoG v nd m f->(∀i,i<m->i<wid a->bitN a i=f i)->m<=wid a+1->wid a+1<fu+m->w.length<=m ->
  Zbv fu nd w a=some (w++(Zbr nd).filter (cov a)):=by
 have hwa:wid a<=128:=by unfold wid;split<;>omega
 intro fu;induction fu with
 |zero=>intro nd m f w _ _ _ h;omega
 |succ fu ih=>
  intro nd m f w hg hp hmw hf hl;cases nd with
  |nil=>simp[Zbv,Zbr]
  |mk h has k0 k1=>
   obtain⟨g1,g2,g3,g4,g5⟩:=hg;have hwd:wid h.fNet.fAddr=wid a:=by unfold wid;rw[g2,hv]
   have b0:=fun x hx=>ZjJ.1 (ZbG g4 x hx).2.2;have b1:=fun x hx=>ZjJ.1 (ZbG g5 x hx).2.2;have w0:=fun x hx=>(ZbG g4 x hx);have w1:=fun x hx=>(ZbG g5 x hx);have n1:=g1.nn;have l1:=g1.le;have gm:=g3.1;simp only[Zbv,ZLe _ a g1 ha,hr,decide_eq_true (g2.trans hv.symm),Bool.true_and,Option.bind_some,Zam];by_cases hc:∀i,i<h.fNet.fBits.toNat->bitN a i=bitN h.fNet.fAddr i
   .rw[if_pos hc];have lO:cov a h=true:=by unfold cov;rw[decide_eq_true_eq];exact hc
    -- what lies below
    have j0:∀w':List Zaw,w'.length<=h.fNet.fBits.toNat+1->((ZhF a h.fNet.fBits).bind fun x6=>need (0<=x6/\x6<((2:Nat):Int))<|ix2 x6 (Zbv fu k0 w' a) (Zbv fu k1 w' a))=some (w'++((Zbr k0).filter (cov a)++(Zbr k1).filter (cov a))):=by
     intro w' iN;by_cases hb:h.fNet.fBits.toNat<wid a
     .have ht:=ZHq (Zpp ha hr) h.fNet.fBits.toNat hb;rw[Int.toNat_of_nonneg n1]at ht;rw[ht];cases hbit:bitN a h.fNet.fBits.toNat with
      |false=>
       simp only[Bool.false_eq_true,if_false,Option.bind_some];rw[Zax (by omega),show ∀(A B:Option (List Zaw)),ix2 0 A B=A from fun _ _=>rfl];rw[ih k0 _ _ w' g4 (fun i hi cH=>by
        unfold ext';by_cases h3:i<h.fNet.fBits.toNat
        .rw[if_pos h3];exact hc i h3
        .rw[if_neg h3,show i=h.fNet.fBits.toNat by omega];exact hbit) (by omega) (by omega) iN]
       rw[ZmL (l:=Zbr k1) fun x hx=>?_]
       .simp
       .unfold cov;rw[decide_eq_false_iff_not];intro hq;obtain⟨x1,x2,x3⟩:=b1 x hx;have:=hq _ x1;rw[hbit,x3]at this;cases this
      |true=>
       simp only[if_true,Option.bind_some];rw[Zax (by omega),show ∀(A B:Option (List Zaw)),ix2 1 A B=B from fun _ _=>rfl];rw[ih k1 _ _ w' g5 (fun i hi cH=>by
        unfold ext';by_cases h3:i<h.fNet.fBits.toNat
        .rw[if_pos h3];exact hc i h3
        .rw[if_neg h3,show i=h.fNet.fBits.toNat by omega];exact hbit) (by omega) (by omega) iN]
       rw[ZmL (l:=Zbr k0) fun x hx=>?_]
       .simp
       .unfold cov;rw[decide_eq_false_iff_not];intro hq;obtain⟨x1,x2,x3⟩:=b0 x hx;have:=hq _ x1;rw[hbit,x3]at this;cases this
     .-- a whole address: nothing lies below
      have aT:∀(iK:Zav)(b:Bool),ZoG v iK (h.fNet.fBits.toNat+1) (ext' h.fNet b)->iK=.nil:=fun iK b dP=>by
       cases iK with
       |nil=>rfl
       |mk x hs q0 q1=>
        have h1:=dP.2.2.1.1;have h2:=dP.1.le;have h3:wid x.fNet.fAddr=wid a:=by unfold wid;rw[dP.2.1,hv]
        omega
      rw[aT k0 _ g4,aT k1 _ g5];have j3:ZhF a h.fNet.fBits=some 0:=by
       simp only[ZhF,ZCq,Option.bind_some,Zam];rw[if_neg (by omega),if_pos (by omega)]
      rw[j3];simp only[Option.bind_some];rw[Zax (by omega),show ∀(A B:Option (List Zaw)),ix2 0 A B=A from fun _ _=>rfl];have:=ih .nil (h.fNet.fBits.toNat+1) (ext' h.fNet false) w' trivial (fun i hi cH=>by
        unfold ext';rw[if_pos (by omega)];exact hc i (by omega)) (by omega) (by omega) iN
      rw[this];simp[Zbr]
    cases has with
    |true=>
     simp only[cond_true,Zbr,if_true];rw[Zax ⟨by simp;omega,by unfold maxLen;simp;omega⟩,j0 _ (by simp;omega)];simp[lO]
    |false=>
     simp only[cond_false,Zbr,Bool.false_eq_true,if_false];rw[j0 _ (by omega)];simp
   .rw[if_neg hc];rw[ZmL]
    .simp
    .intro x hx;unfold cov;rw[decide_eq_false_iff_not];intro hq;apply hc;intro i hi;simp only[Zbr,List.mem_append]at hx;rcases hx with (hx|hx)|hx
     .split at hx
      .rw[List.mem_singleton]at hx;rw[hx]at hq;exact hq i hi
      .simp at hx
     .obtain⟨x1,x2,_⟩:=b0 x hx;rw[hq i (by omega)];exact x2 i hi
     .obtain⟨x1,x2,_⟩:=b1 x hx;rw[hq i (by omega)];exact x2 i hi
theorem ZBs{a:Zai}(h:Fits a)(i:Nat)(hi:i<wid a):Zbq a (i:Int)=some (if bitN a i then 1 else 0):=by
 have h1:=h.hi0;have h2:=h.hi1;have h3:=h.lo0;have h4:=h.lo1;obtain⟨v,cH,lo⟩:=a;obtain⟨p,hp⟩:=Zje h.hi0;obtain⟨q,hq⟩:=Zje h.lo0;simp only at hp hq h1 h2 h3 h4;subst hp hq;have hw:∀k:Nat,k<64->(IntKind.u64.wrap ((k:Nat):Int))=((k:Nat):Int):=fun k hk=>ZhJ (by omega) (by omega);cases v with
 |false=>
  have hi:i<32:=hi;have e:ZbT (31:Int) (i:Int)=((31-i:Nat):Int):=by rw[Zil (by omega) (by omega)];omega
  simp only[Zbq,ZbC,Zcv,Zam,Option.bind_some,cond_false,Bool.not_false,cond_true,e,hw (31-i) (by omega)];rw[if_neg (by omega),if_neg (by omega),Zax (by omega),ZtO q _ (by omega) (by omega)];rfl
 |true=>
  have hi:i<128:=hi;have hb:bitN ⟨true,(p:Int),(q:Int)⟩ i=if 127-i<64 then q.testBit (127-i)else p.testBit (127-i-64):=by
   unfold bitN num wid;simp only[if_true,Int.toNat_natCast];rw[ZoO (by omega)]
  rw[hb];have et:Int.tmod (i:Int) 64=((i % 64:Nat):Int):=by rw[Int.tmod_eq_emod_of_nonneg (by omega)];rfl
  have hm:i % 64<64:=Nat.mod_lt _ (by omega);have e:ZbT (63:Int) ((i % 64:Nat):Int)=((63-i % 64:Nat):Int):=by rw[Zil (by omega) (by omega)];omega
  simp only[Zbq,ZbC,Zcv,Zam,Option.bind_some,cond_false,Bool.not_true,cond_true,et,e,hw (63-i % 64) (by omega)];rw[if_neg (by omega),if_neg (by omega)];by_cases h64:i<64
  .rw[if_pos (by omega),Zax (by omega),ZtO p _ (by omega) (by omega),if_neg (show ¬127-i<64 by omega),show 63-i % 64=127-i-64 by omega]
  .rw[if_neg (by omega),Zax (by omega),ZtO q _ (by omega) (by omega),if_pos (show 127-i<64 by omega),show 63-i % 64=127-i by omega]
theorem Zun(a:Zai):ZbC a=some (wid a:Int):=by
 unfold ZbC wid;cases a.fV6<;>rfl
theorem ZuE(a:Zai):wid a<=128:=by unfold wid;split<;>omega
theorem ZLs{i:Nat}(h:i<=1000000):ZaA (i:Int) 1=((i+1:Nat):Int):=by rw[Zeo (by omega) (by omega)];omega
theorem ZFM{p:Zag}(hf:Fits p.fAddr):∀fu (i:Nat),i<=wid p.fAddr->wid p.fAddr-i<fu->∃r,ZcZ fu (i:Int) p=some r/\(r=true↔∀j,i<=j->j<wid p.fAddr->bitN p.fAddr j=false):=by
 have hw:=ZuE p.fAddr;intro fu;induction fu with
 |zero=>intro _ _ h;omega
 |succ fu ih=>
  intro i hi lQ;simp only[ZcZ,Zun,Option.bind_some,Zam];by_cases h:i<wid p.fAddr
  .rw[if_pos (by omega),ZBs hf i h,ZLs (by omega)];simp only[Option.bind_some];obtain⟨r,h1,h2⟩:=ih (i+1) (by omega) (by omega);cases hb:bitN p.fAddr i with
   |true=>
    simp only[if_true,beq_self_eq_true,cond_true];refine⟨false,rfl,?_⟩;simp only[Bool.false_eq_true,false_iff];intro hq;have:=hq i (Nat.le_refl _) h;rw[hb]at this;cases this
   |false=>
    simp only[Bool.false_eq_true,if_false];rw[show ((0:Int)==1)=false from rfl,cond_false];refine⟨r,h1,h2.trans ⟨fun q j h3 h4=>?_,fun q j h3 h4=>q j (by omega) h4⟩⟩;by_cases h5:j=i
    .subst h5;exact hb
    .exact q j (by omega) h4
  .rw[if_neg (by omega)];exact⟨true,rfl,by simp;intro j h3 h4;omega⟩
theorem Ztk(p:Zag)(h:p.fAddr.ok):ZdQ p=some (ZhW p):=by
 simp only[ZdQ,ZjZ p.fAddr h,Zun,Option.bind_some,Zam];unfold ZhW;cases hr:Zda p.fAddr
 .simp
 .have hf:=Zpp h hr;simp only[Bool.not_true,cond_false,Bool.true_and];by_cases h0:p.fBits<0
  .rw[if_pos h0,show decide (0<=p.fBits)=false by rw[decide_eq_false_iff_not];omega];simp
  .rw[if_neg h0];by_cases h1:p.fBits>(wid p.fAddr:Int)
   .rw[if_pos h1,show decide (p.fBits<=(wid p.fAddr:Int))=false by rw[decide_eq_false_iff_not];omega];simp
   .rw[if_neg h1,show decide (0<=p.fBits)=true by rw[decide_eq_true_eq];omega,show decide (p.fBits<=(wid p.fAddr:Int))=true by rw[decide_eq_true_eq];omega];have hw:=ZuE p.fAddr;obtain⟨r,r1,r2⟩:=ZFM hf 1000000 p.fBits.toNat (by omega) (by omega);rw[Int.toNat_of_nonneg (by omega)]at r1;rw[r1,Option.some.injEq,Bool.true_and,Bool.true_and,Bool.eq_iff_iff,r2,decide_eq_true_eq];constructor
    .intro q;refine Ztc (ZjL hf _) hf (ZiI _ _) fun i hi=>?_;have hi:i<wid p.fAddr:=by unfold wid at hi ⊢;rwa [ZiI]at hi
     rw[Zlr hf p.fBits.toNat i (by omega) hi];by_cases hb:i<p.fBits.toNat
     .rw[decide_eq_true hb];rfl
     .rw[decide_eq_false hb,q i (by omega) hi];rfl
    .intro q j h3 h4;have:=Zlr hf p.fBits.toNat j (by omega) h4;rw[q,decide_eq_false (by omega)]at this;exact this
def hasS(p:Zag)(a:Zai):Bool:=ZhW p&&(Zda a&&decide (p.fAddr.fV6=a.fV6)&&decide (∀i,i<p.fBits.toNat->bitN a i=bitN p.fAddr i))
theorem ZzC{p:Zag}{a:Zai}(hp:RN p)(ha:Fits a)(hv:p.fAddr.fV6=a.fV6):∀fu (i:Nat),i<=p.fBits.toNat->p.fBits.toNat-i<fu->∃r,ZcS fu (i:Int) p a=some r/\(r=true↔∀j,i<=j->j<p.fBits.toNat->bitN a j=bitN p.fAddr j):=by
 have hw:=ZuE p.fAddr;have hwa:wid p.fAddr=wid a:=by unfold wid;rw[hv]
 have n1:=hp.nn;have l1:=hp.le;intro fu;induction fu with
 |zero=>intro _ _ h;omega
 |succ fu ih=>
  intro i hi lQ;simp only[ZcS,Zam];by_cases h:i<p.fBits.toNat
  .rw[if_pos (by omega),ZBs hp.fits i (by omega),ZBs ha i (by omega),ZLs (by omega)];simp only[Option.bind_some];obtain⟨r,h1,h2⟩:=ih (i+1) (by omega) (by omega);by_cases hb:bitN a i=bitN p.fAddr i
   .rw[hb];simp only[bne_self_eq_false,cond_false];refine⟨r,h1,h2.trans ⟨fun q j h3 h4=>?_,fun q j h3 h4=>q j (by omega) h4⟩⟩;by_cases h5:j=i
    .subst h5;exact hb
    .exact q j (by omega) h4
   .have hne:((if bitN p.fAddr i=true then(1:Int)else 0) != if bitN a i=true then 1 else 0)=true:=by
     revert hb
     cases bitN a i<;>cases bitN p.fAddr i<;>simp
    rw[hne,cond_true];refine⟨false,rfl,?_⟩;simp only[Bool.false_eq_true,false_iff];intro hq;exact hb (hq i (Nat.le_refl _) h)
  .rw[if_neg (by omega)];exact⟨true,rfl,by simp;intro j h3 h4;omega⟩
theorem ZHS(p:Zag)(a:Zai)(hp:p.fAddr.ok)(ha:a.ok):ZgY p a=some (hasS p a):=by
 simp only[ZgY,Ztk p hp,ZjZ a ha,Option.bind_some];unfold hasS;cases hc:ZhW p
 .rfl
 .have eK:=(ZwZ hp).1 hc;simp only[Bool.not_true,cond_false,Bool.true_and];cases hr:Zda a
  .rfl
  .simp only[Bool.not_true,cond_false,Bool.true_and];by_cases hv:p.fAddr.fV6=a.fV6
   .rw[show (!(p.fAddr.fV6==a.fV6))=false by simp[hv],cond_false,decide_eq_true hv,Bool.true_and];have hw:=ZuE p.fAddr;have n1:=eK.nn;have l1:=eK.le;obtain⟨r,r1,r2⟩:=ZzC eK (Zpp ha hr) hv 1000000 0 (by omega) (by omega);have r1:ZcS 1000000 0 p a=some r:=r1;rw[r1,Option.some.injEq,Bool.eq_iff_iff,r2,decide_eq_true_eq];exact⟨fun q j hj=>q j (by omega) hj,fun q j _ hj=>q j hj⟩
   .rw[show (!(p.fAddr.fV6==a.fV6))=true by simp[hv],cond_true,decide_eq_false hv];rfl
def f0:Nat->Bool:=fun _=>false
def GT:ZaH->Prop | .nil=>False | .mk r4 r6 _=>ZoG false r4 0 f0/\ZoG true r6 0 f0
def Zio:ZaH->List Zaw | .nil=>[] | .mk r4 r6 _=>Zbr r4++Zbr r6
theorem bel0(p:Zag):Bel' 0 f0 p:=⟨Nat.zero_le _,fun i hi=>by omega⟩
theorem ZzY{t:ZaH}(h:GT t):∀x∈Zio t,RN x.fNet:=by
 cases t with
 |nil=>exact h.elim
 |mk r4 r6 n=>
  intro x hx;simp only[Zio,List.mem_append]at hx;rcases hx with hx|hx
  .exact(ZbG h.1 x hx).1
  .exact(ZbG h.2 x hx).1
theorem ZGA(a:Zai):ZgF a=some (if a.fV6 then 1 else 0):=by
 unfold ZgF;cases a.fV6<;>rfl
theorem ZCC{t:ZaH}(h:GT t)(n:Zag)(hn:n.fAddr.ok):Zhv t n=some (if ZhW n then ZlZ (Zio t) n else(0,false)):=by
 cases t with
 |nil=>exact h.elim
 |mk r4 r6 k=>
  simp only[Zhv,ZoF n hn,Option.bind_some,ZGA];cases hr:ZhW n
  .rfl
  .have eK:=(ZwZ hn).1 hr;have hb:n.fBits.toNat<=128:=by have:=eK.le;have:=eK.nn;have:=ZuE n.fAddr;omega
   simp only[Bool.not_true,cond_false,if_true];cases hv:n.fAddr.fV6 with
   |false=>
    simp only[Bool.false_eq_true,if_false];rw[Zax (by omega),show ∀(A B:Option (Int×Bool)),ix2 0 A B=A from fun _ _=>rfl];rcases ZDk eK hv 1000000 r4 0 f0 h.1 (by omega)with e|e
    .rw[e];unfold ZlZ;simp only[Zio];rw[List.find?_append,ZlL (l:=Zbr r6) fun x hx e=>by have:=(ZbG h.2 x hx).2.1;rw[e,hv]at this;cases this];simp
    .omega
   |true=>
    simp only[if_true];rw[Zax (by omega),show ∀(A B:Option (Int×Bool)),ix2 1 A B=B from fun _ _=>rfl];rcases ZDk eK hv 1000000 r6 0 f0 h.2 (by omega)with e|e
    .rw[e];unfold ZlZ;simp only[Zio];rw[List.find?_append,ZlL (l:=Zbr r4) fun x hx e=>by have:=(ZbG h.1 x hx).2.1;rw[e,hv]at this;cases this];simp
    .omega
theorem ZFr{t:ZaH}(h:GT t)(n:Zag)(hn:n.fAddr.ok)(val:Int)(hr:ZhW n=true):∃t',ZeK t n val=some t'/\GT t'/\∀x,x∈Zio t'↔x=⟨n,val⟩\/(x∈Zio t/\x.fNet≠n):=by
 cases t with
 |nil=>exact h.elim
 |mk r4 r6 k=>
  have eK:=(ZwZ hn).1 hr;have hb:n.fBits.toNat<=128:=by have:=eK.le;have:=eK.nn;have:=ZuE n.fAddr;omega
  have hg:=ZCC h n hn;simp only[ZeK,ZeY,ZoF n hn,hr,hg,if_true,Option.bind_some,Bool.not_true,cond_false,ZGA];have j4:n.fAddr.fV6=false->∃r,ZeX 1000 r4 ⟨n,val⟩=some r/\ZoG false r 0 f0/\∀x,(x∈Zbr r\/x∈Zbr r6)↔x=⟨n,val⟩\/((x∈Zbr r4\/x∈Zbr r6)/\x.fNet≠n):=fun hv=>by
   obtain⟨r,w1,w2,w3⟩:=Zze (hit:=⟨n,val⟩) eK hv 1000 r4 0 f0 h.1 (bel0 _) (by simp only;omega);refine⟨r,w1,w2,fun x=>?_⟩;rw[w3 x];have h6:x∈Zbr r6->x.fNet≠n:=fun hx e=>by have:=(ZbG h.2 x hx).2.1;rw[e,hv]at this;cases this
   constructor
   .rintro ((hx|hx)|hx)
    .exact .inl hx
    .exact .inr ⟨.inl hx.1,hx.2⟩
    .exact .inr ⟨.inr hx,h6 hx⟩
   .rintro (hx|⟨hx|hx,hne⟩)
    .exact .inl (.inl hx)
    .exact .inl (.inr ⟨hx,hne⟩)
    .exact .inr hx
  have j5:n.fAddr.fV6=true->∃r,ZeX 1000 r6 ⟨n,val⟩=some r/\ZoG true r 0 f0/\∀x,(x∈Zbr r4\/x∈Zbr r)↔x=⟨n,val⟩\/((x∈Zbr r4\/x∈Zbr r6)/\x.fNet≠n):=fun hv=>by
   obtain⟨r,w1,w2,w3⟩:=Zze (hit:=⟨n,val⟩) eK hv 1000 r6 0 f0 h.2 (bel0 _) (by simp only;omega);refine⟨r,w1,w2,fun x=>?_⟩;rw[w3 x];have h4:x∈Zbr r4->x.fNet≠n:=fun hx e=>by have:=(ZbG h.1 x hx).2.1;rw[e,hv]at this;cases this
   constructor
   .rintro (hx|hx|hx)
    .exact .inr ⟨.inl hx,h4 hx⟩
    .exact .inl hx
    .exact .inr ⟨.inr hx.1,hx.2⟩
   .rintro (hx|⟨hx|hx,hne⟩)
    .exact .inr (.inl hx)
    .exact .inl hx
    .exact .inr (.inr ⟨hx,hne⟩)
  have e1:∀(A B:Option ZaH),ix2 0 A B=A:=fun _ _=>rfl;have e2:∀(A B:Option ZaH),ix2 1 A B=B:=fun _ _=>rfl;cases hv:n.fAddr.fV6 with
  |false=>
   obtain⟨r,w1,w2,w3⟩:=j4 hv;cases(ZlZ (Zio (.mk r4 r6 k)) n).2 <;>
   .simp only[Bool.not_false,Bool.not_true,cond_true,cond_false,Bool.false_eq_true,if_false];rw[Zax (by omega),e1,w1];exact⟨_,rfl,⟨w2,h.2⟩,fun x=>by simp only[Zio,List.mem_append];exact w3 x⟩
  |true=>
   obtain⟨r,w1,w2,w3⟩:=j5 hv;cases(ZlZ (Zio (.mk r4 r6 k)) n).2 <;>
   .simp only[Bool.not_false,Bool.not_true,cond_true,cond_false,if_true];rw[Zax (by omega),e2,w1];exact⟨_,rfl,⟨h.1,w2⟩,fun x=>by simp only[Zio,List.mem_append];exact w3 x⟩
theorem ZoR{v:Bool}:∀{nd:Zav}{n:Nat}{f:Nat->Bool},ZoG v nd n f->(Zbr nd).Pairwise fun x y=>x.fNet≠y.fNet
 | .nil,_,_,_=>List.Pairwise.nil
 | .mk h has k0 k1,n,f,hg=>by
  obtain⟨g1,g2,g3,g4,g5⟩:=hg
  have b0:=fun x hx=>ZjJ.1 (ZbG g4 x hx).2.2
  have b1:=fun x hx=>ZjJ.1 (ZbG g5 x hx).2.2
  have hh:∀x∈(if has then[h]else[]),x.fNet=h.fNet:=fun x hx=>by
   split at hx
   .rw[List.mem_singleton]at hx;rw[hx]
   .simp at hx
  simp only[Zbr]
  rw[List.pairwise_append,List.pairwise_append]
  refine⟨⟨?_,ZoR g4,fun x hx y hy e=>?_⟩,ZoR g5,fun x hx y hy e=>?_⟩
  .split
   .exact List.pairwise_singleton _ _
   .exact List.Pairwise.nil
  .have:=(b0 y hy).1
   rw[<-e,hh x hx]at this;omega
  .rcases List.mem_append.1 hx with hx|hx
   .have:=(b1 y hy).1
    rw[<-e,hh x hx]at this;omega
   .have h1:=(b0 x hx).2.2
    have h2:=(b1 y hy).2.2
    rw[e,h2]at h1;cases h1
theorem ZzZ{t:ZaH}(h:GT t):(Zio t).Pairwise fun x y=>x.fNet≠y.fNet:=by
 cases t with
 |nil=>exact h.elim
 |mk r4 r6 k=>
  simp only[Zio];rw[List.pairwise_append];refine⟨ZoR h.1,ZoR h.2,fun x hx y hy e=>?_⟩;have h1:=(ZbG h.1 x hx).2.1;have h2:=(ZbG h.2 y hy).2.1;rw[e,h2]at h1;cases h1
theorem ZGl{l:List Zaw}{n:Zag}(h:(ZlZ l n).2=true):∃x∈l,x.fNet=n/\x.fV=(ZlZ l n).1:=by
 unfold ZlZ at h ⊢;cases hq:l.find? (fun x=>decide (x.fNet=n))with
 |none=>rw[hq]at h;cases h
 |some x=>
  have:=List.find?_some hq;exact⟨x,List.mem_of_find?_eq_some hq,by simpa using this,rfl⟩
theorem ZIl{l:List Zaw}{n:Zag}(h:(ZlZ l n).2=false):∀x∈l,x.fNet≠n:=by
 unfold ZlZ at h;cases hq:l.find? (fun x=>decide (x.fNet=n))with
 |none=>rw[List.find?_eq_none]at hq;intro x hx;simpa using hq x hx
 |some x=>rw[hq]at h;cases h
theorem ZIO{l:List Zaw}(h:l.Pairwise fun x y=>x.fNet≠y.fNet){x y:Zaw}(hx:x∈l)(hy:y∈l)(e:x.fNet=y.fNet):x=y:=by
 obtain⟨i,hi,rfl⟩:=List.getElem_of_mem hx;obtain⟨j,hj,rfl⟩:=List.getElem_of_mem hy;have hp:=List.pairwise_iff_getElem.1 h;rcases Nat.lt_trichotomy i j with h1|h1|h1
 .exact absurd e (hp i j hi hj h1)
 .subst h1;rfl
 .exact absurd e.symm (hp j i hj hi h1)
theorem ZsY{v:Bool}{a:Zai}(hv:a.fV6=v):∀{nd:Zav}{m:Nat}{f:Nat->Bool},ZoG v nd m f->m<=wid a+1->((Zbr nd).filter (cov a)).length+m<=wid a+1
 | .nil,m,f,_,h=>by simp[Zbr];exact h
 | .mk h has k0 k1,m,f,hg,hm=>by
  obtain⟨g1,g2,g3,g4,g5⟩:=hg
  have b0:=fun x hx=>ZjJ.1 (ZbG g4 x hx).2.2
  have b1:=fun x hx=>ZjJ.1 (ZbG g5 x hx).2.2
  have hw:wid h.fNet.fAddr=wid a:=by unfold wid;rw[g2,hv]
  have n1:=g1.nn;have l1:=g1.le;have gm:=g3.1
  have i0:=ZsY hv g4 (by omega)
  have i1:=ZsY hv g5 (by omega)
  have hh:((if has then[h]else[]).filter (cov a)).length<=1:=by
   split
   .exact List.length_filter_le _ _
   .simp
  have hz:((Zbr k0).filter (cov a)).length=0\/((Zbr k1).filter (cov a)).length=0:=by
   cases hb:bitN a h.fNet.fBits.toNat with
   |false=>
    refine .inr ?_;rw[ZmL]
    .rfl
    .intro x hx;unfold cov;rw[decide_eq_false_iff_not];intro hq;obtain⟨x1,x2,x3⟩:=b1 x hx;have:=hq _ x1;rw[hb,x3]at this;cases this
   |true=>
    refine .inl ?_;rw[ZmL]
    .rfl
    .intro x hx;unfold cov;rw[decide_eq_false_iff_not];intro hq;obtain⟨x1,x2,x3⟩:=b0 x hx;have:=hq _ x1;rw[hb,x3]at this;cases this
  simp only[Zbr,List.filter_append,List.length_append];omega
theorem ZDR{t:ZaH}(h:GT t)(a:Zai)(ha:a.ok):∃L,Zgi t a=some L/\L.length<=maxLen/\∀x,x∈L↔x∈Zio t/\hasS x.fNet a=true:=by
 cases t with
 |nil=>exact h.elim
 |mk r4 r6 k=>
  simp only[Zgi,ZjU a ha,Option.bind_some,ZGA];cases hr:Zda a
  .exact⟨[],rfl,by simp,fun x=>by simp[hasS,hr]⟩
  .simp only[Bool.not_true,cond_false];have hw:=ZuE a;have e1:∀(A B:Option (List Zaw)),ix2 0 A B=A:=fun _ _=>rfl;have e2:∀(A B:Option (List Zaw)),ix2 1 A B=B:=fun _ _=>rfl;have hs:∀x:Zaw,RN x.fNet->hasS x.fNet a=(decide (x.fNet.fAddr.fV6=a.fV6)&&cov a x):=fun x hx=>by
    unfold hasS cov;rw[(ZwZ hx.ok).2 hx,hr,Bool.true_and,Bool.true_and]
   cases hv:a.fV6 with
   |false=>
    simp only[Bool.false_eq_true,if_false];rw[Zax (by omega),e1,ZxF ha hr hv 1000000 r4 0 f0 [] h.1 (fun i hi=>by omega) (by omega) (by omega) (by simp)];refine⟨_,rfl,by have:=ZsY hv h.1 (by omega);unfold maxLen;simp only[List.nil_append];omega,fun x=>?_⟩;simp only[List.nil_append,List.mem_filter,Zio,List.mem_append];constructor
    .rintro ⟨hx,hc⟩;have:=ZbG h.1 x hx;rw[hs x this.1,this.2.1,hv,hc];exact⟨.inl hx,rfl⟩
    .rintro ⟨hx|hx,hc⟩
     .have:=ZbG h.1 x hx;rw[hs x this.1,Bool.and_eq_true]at hc;exact⟨hx,hc.2⟩
     .have:=ZbG h.2 x hx;rw[hs x this.1,this.2.1,hv]at hc;simp at hc
   |true=>
    simp only[if_true];rw[Zax (by omega),e2,ZxF ha hr hv 1000000 r6 0 f0 [] h.2 (fun i hi=>by omega) (by omega) (by omega) (by simp)];refine⟨_,rfl,by have:=ZsY hv h.2 (by omega);unfold maxLen;simp only[List.nil_append];omega,fun x=>?_⟩;simp only[List.nil_append,List.mem_filter,Zio,List.mem_append];constructor
    .rintro ⟨hx,hc⟩;have:=ZbG h.2 x hx;rw[hs x this.1,this.2.1,hv,hc];exact⟨.inr hx,rfl⟩
    .rintro ⟨hx|hx,hc⟩
     .have:=ZbG h.1 x hx;rw[hs x this.1,this.2.1,hv]at hc;simp at hc
     .have:=ZbG h.2 x hx;rw[hs x this.1,Bool.and_eq_true]at hc;exact⟨hx,hc.2⟩
structure Idx (ae:Int) (t:ZaH) (l:List Zaf):Prop where
 gt:GT t
 from_:∀x∈Zio t,∃b∈l,ae<b.fUntil/\b.fNet=x.fNet/\b.fUntil=x.fV
 has:∀b∈l,ae<b.fUntil->ZhW b.fNet=true->∃x∈Zio t,x.fNet=b.fNet/\b.fUntil<=x.fV
theorem Zyz{ae:Int}{t:ZaH}{l:List Zaf}{b:Zaf}(h:Idx ae t l)(hb:ae<b.fUntil->ZhW b.fNet=true->∃x∈Zio t,x.fNet=b.fNet/\b.fUntil<=x.fV):Idx ae t (l++[b]):=
 ⟨h.gt,fun x hx=>by obtain⟨c,h1,h2⟩:=h.from_ x hx;exact⟨c,by simp[h1],h2⟩,fun c hc h1 h2=>by
  rcases List.mem_append.1 hc with hc|hc
  .exact h.has c hc h1 h2
  .rw[List.mem_singleton]at hc;subst hc;exact hb h1 h2⟩
theorem Zyy{ae:Int}{t:ZaH}{l:List Zaf}{b:Zaf}(h:Idx ae t l)(hb:b.fNet.fAddr.ok)(hl:ae<b.fUntil)(ck:∀x∈Zio t,x.fNet=b.fNet->x.fV<=b.fUntil):∃t',ZeK t b.fNet b.fUntil=some t'/\Idx ae t' (l++[b]):=by
 cases hr:ZhW b.fNet with
 |true=>
  obtain⟨t',w1,w2,w3⟩:=ZFr h.gt b.fNet hb b.fUntil hr;refine⟨t',w1,w2,fun x hx=>?_,fun c hc h1 h2=>?_⟩
  .rcases(w3 x).1 hx with e|⟨hx,hne⟩
   .subst e;exact⟨b,by simp,hl,rfl,rfl⟩
   .obtain⟨c,h1,h2⟩:=h.from_ x hx;exact⟨c,by simp[h1],h2⟩
  .by_cases e:c.fNet=b.fNet
   .refine⟨⟨b.fNet,b.fUntil⟩,(w3 _).2 (.inl rfl),e.symm,?_⟩;rcases List.mem_append.1 hc with hc|hc
    .obtain⟨x,x1,x2,x3⟩:=h.has c hc h1 h2;have:=ck x x1 (x2.trans e);simp only;omega
    .rw[List.mem_singleton]at hc;subst hc;exact Int.le_refl _
   .rcases List.mem_append.1 hc with hc|hc
    .obtain⟨x,x1,x2,x3⟩:=h.has c hc h1 h2;exact⟨x,(w3 x).2 (.inr ⟨x1,fun q=>e (x2.symm.trans q)⟩),x2,x3⟩
    .rw[List.mem_singleton]at hc;subst hc;exact absurd rfl e
 |false=>
  refine⟨t,?_,Zyz h fun _ q=>by rw[hr]at q;cases q⟩;cases t with
  |nil=>exact h.gt.elim
  |mk r4 r6 k=>
   simp only[ZeK,ZeY,ZoF b.fNet hb,hr,Option.bind_some,Bool.not_false,cond_true]
theorem ZHn(b:Zaf)(ae:Int):Zpo b ae=some (decide (ae<b.fUntil)):=rfl
theorem ZEC(l:List Zaf)(ae:Int)(hl:l.length<=maxLen)(hok:∀b∈l,b.ok):∀fu (i:Nat) (t:ZaH),i<=l.length->l.length-i<fu->Idx ae t (l.take i)->∃t',ZdF ae fu t l (l.length:Int) (i:Int)=some t'/\Idx ae t' l:=by
 intro fu;induction fu with
 |zero=>intro _ _ _ h;omega
 |succ fu ih=>
  intro i t hi hf h;simp only[ZdF,Zam];by_cases hlt:i<l.length
  .rw[if_pos (by omega),Zax ⟨by omega,by omega⟩];simp only[Int.toNat_natCast];have cV:=hok _ (Zeu l Zaf.d i hlt);have dg:l.take (i+1)=l.take i++[l.getD i Zaf.d]:=by rw[List.take_succ_eq_append_getElem hlt,Zdw l _ i hlt]
   generalize l.getD i Zaf.d=b at cV dg ⊢;rw[ZCC h.gt b.fNet cV.1.1,ZHn];simp only[Option.bind_some];rw[add1 hlt hl];have next:∀t',Idx ae t' (l.take i++[b])->∃t'',ZdF ae fu t' l (l.length:Int) ((i+1:Nat):Int)=some t''/\Idx ae t'' l:=fun t' ht'=>ih (i+1) t' (by omega) (by omega) (by rw[dg];exact ht')
   by_cases hlv:ae<b.fUntil
   .rw[decide_eq_true hlv,cond_true];cases hr:ZhW b.fNet with
    |false=>
     simp only[Bool.false_eq_true,if_false,Bool.not_false,cond_true];obtain⟨t',s1,s2⟩:=Zyy h cV.1.1 hlv (fun x hx e=>by
      have:=(ZwZ cV.1.1).2 (e ▸ ZzY h.gt x hx);rw[hr]at this;cases this)
     rw[s1];exact next t' s2
    |true=>
     simp only[if_true];cases hq:(ZlZ (Zio t) b.fNet).2 with
     |false=>
      simp only[Bool.not_false,cond_true];obtain⟨t',s1,s2⟩:=Zyy h cV.1.1 hlv (fun x hx e=>absurd e (ZIl hq x hx));rw[s1];exact next t' s2
     |true=>
      simp only[Bool.not_true,cond_false];obtain⟨y,y1,y2,y3⟩:=ZGl hq;by_cases hlt2:(ZlZ (Zio t) b.fNet).1<b.fUntil
      .rw[if_pos hlt2];obtain⟨t',s1,s2⟩:=Zyy h cV.1.1 hlv (fun x hx e=>by
        have:=ZIO (ZzZ h.gt) hx y1 (e.trans y2.symm);rw[this];omega)
       rw[s1];exact next t' s2
      .rw[if_neg hlt2];exact next t (Zyz h fun _ _=>⟨y,y1,y2,by omega⟩)
   .rw[decide_eq_false hlv,cond_false];exact next t (Zyz h fun q=>absurd q hlv)
  .rw[if_neg (by omega)];refine⟨t,rfl,?_⟩;rw[List.take_of_length_le (by omega)]at h;exact h
theorem ZIk(l:List Zaf)(ae:Int)(hl:l.length<=maxLen)(hok:∀b∈l,b.ok):∃t,ZlK l ae=some t/\Idx ae t l:=by
 have:=ZEC l ae hl hok ((((l.length:Nat):Int)-(0:Int)).toNat+2) 0 (.mk .nil .nil 0) (by omega) (by omega) ⟨⟨trivial,trivial⟩,fun x hx=>by simp[Zio,Zbr]at hx,fun b hb=>by simp at hb⟩;simpa[ZlK,Zof]using this
def ZmS(l:List Zaf)(a:Zai)(ae:Int)(b:Zaf):Prop:=b∈l/\ae<b.fUntil/\hasS b.fNet a=true
def Zwo(l:List Zaf)(a:Zai)(ae r:Int):Prop:=(r=0/\∀b,¬ZmS l a ae b)\/∃b,ZmS l a ae b/\r=b.fUntil/\∀c,ZmS l a ae c->c.fUntil<=r
theorem Zxp{l l':List Zaf}{a:Zai}{ae r s:Int}(h:Zwo l a ae r)(h':Zwo l' a ae s)(e:∀b,ZmS l a ae b↔ZmS l' a ae b):r=s:=by
 rcases h with⟨h1,h2⟩|⟨b,h1,h2,h3⟩
 .rcases h' with⟨g1,g2⟩|⟨c,g1,g2,g3⟩
  .omega
  .exact absurd ((e c).2 g1) (h2 c)
 .rcases h' with⟨g1,g2⟩|⟨c,g1,g2,g3⟩
  .exact absurd ((e b).1 h1) (g2 b)
  .have:=h3 c ((e c).2 g1);have:=g3 b ((e b).1 h1);omega
theorem ZIg(L:List Zaw)(hL:L.length<=maxLen):∀fu (i:Nat) (v:Int),i<=L.length->L.length-i<fu->∃r,Zgx fu v L (L.length:Int) (i:Int)=some r/\v<=r/\(∀x∈L.drop i,x.fV<=r)/\(r=v\/∃x∈L.drop i,r=x.fV):=by
 intro fu;induction fu with
 |zero=>intro _ _ _ h;omega
 |succ fu ih=>
  intro i v hi hf;simp only[Zgx,Zam];by_cases h:i<L.length
  .rw[if_pos (by omega),Zax ⟨by omega,by omega⟩];simp only[Int.toNat_natCast];rw[add1 h hL,ZdK L Zaw.d i h];generalize L.getD i Zaw.d=x;obtain⟨r,r1,r2,r3,r4⟩:=ih (i+1) (if x.fV>v then x.fV else v) (by omega) (by omega);refine⟨r,r1,by split at r2<;>omega,fun y hy=>?_,?_⟩
   .rcases List.mem_cons.1 hy with e|hy
    .subst e;split at r2<;>omega
    .exact r3 y hy
   .rcases r4 with e|⟨y,y1,y2⟩
    .split at e
     .exact .inr ⟨x,by simp,e⟩
     .exact .inl e
    .exact .inr ⟨y,by simp[y1],y2⟩
  .rw[if_neg (by omega)];have:L.drop i=[]:=List.drop_eq_nil_of_le (by omega);exact⟨v,rfl,Int.le_refl _,by simp[this],.inl rfl⟩
theorem ZxQ(l:List Zaf)(a:Zai)(ae:Int)(hl:l.length<=maxLen)(hok:∀b∈l,b.ok)(ha:a.ok):∃r,ZhH l a ae=some r/\Zwo l a ae r:=by
 obtain⟨t,t1,t2⟩:=ZIk l ae hl hok;obtain⟨L,c1,hL,c2⟩:=ZDR t2.gt a ha;simp only[ZhH,t1,c1,Option.bind_some];have one:∀x∈L,∃b,ZmS l a ae b/\b.fUntil=x.fV:=fun x hx=>by
  obtain⟨x1,x2⟩:=(c2 x).1 hx;obtain⟨b,b1,b2,b3,b4⟩:=t2.from_ x x1;exact⟨b,⟨b1,b2,by rw[b3];exact x2⟩,b4⟩
 have fW:∀b,ZmS l a ae b->∃x∈L,b.fUntil<=x.fV:=fun b hb=>by
  have hr:ZhW b.fNet=true:=by have:=hb.2.2;unfold hasS at this;rw[Bool.and_eq_true]at this;exact this.1
  obtain⟨x,x1,x2,x3⟩:=t2.has b hb.1 hb.2.1 hr;exact⟨x,(c2 x).2 ⟨x1,by rw[x2];exact hb.2.2⟩,x3⟩
 by_cases h0:L=[]
 .subst h0;refine⟨0,rfl,.inl ⟨rfl,fun b hb=>?_⟩⟩;obtain⟨x,hx,_⟩:=fW b hb;simp at hx
 .have iO:0<L.length:=List.length_pos_iff.2 h0;rw[show (((L.length:Nat):Int)==0)=false by rw[beq_eq_false_iff_ne];omega,cond_false,Zax ⟨by omega,by omega⟩];obtain⟨r,r1,r2,r3,r4⟩:=ZIg L hL ((((L.length:Nat):Int)-(0:Int)).toNat+2) 0 (L.getD (0:Int).toNat Zaw.d).fV (by omega) (by omega);simp only[Int.natCast_zero,List.drop_zero]at r1 r3 r4;refine⟨r,r1,.inr ?_⟩;have bW:∃x∈L,r=x.fV:=by
   rcases r4 with e|e
   .exact⟨_,Zeu L Zaw.d 0 iO,e⟩
   .exact e
  obtain⟨x,x1,x2⟩:=bW;obtain⟨b,b1,b2⟩:=one x x1;refine⟨b,b1,by omega,fun c hc=>?_⟩;obtain⟨y,y1,y2⟩:=fW c hc;have:=r3 y y1;omega
theorem Zyg(l:List Zaf)(a:Zai)(ae:Int)(hl:l.length<=maxLen)(hok:∀b∈l,b.ok)(ha:a.ok):∀fu (i:Nat) (v:Int) (q:Bool),i<=l.length->l.length-i<fu ->
  ∃r,ZbB l ae fu v q (i:Int) a=some r/\(∀b,ZmS (l.drop i) a ae b->b.fUntil<=r)/\(q=true->v<=r)/\(r=v\/∃b,ZmS (l.drop i) a ae b/\r=b.fUntil)/\(q=false->(∃b,ZmS (l.drop i) a ae b)->∃b,ZmS (l.drop i) a ae b/\r=b.fUntil):=by
 intro fu;induction fu with
 |zero=>intro _ _ _ _ h;omega
 |succ fu ih=>
  intro i v q hi hf;simp only[ZbB,Zam];by_cases h:i<l.length
  .rw[if_pos (by omega),Zax ⟨by omega,by omega⟩];simp only[Int.toNat_natCast];have cV:=hok _ (Zeu l Zaf.d i h);rw[add1 h hl,ZdK l Zaf.d i h];generalize l.getD i Zaf.d=b at cV ⊢;have lR:Zgs b a ae=some (decide (ae<b.fUntil)&&hasS b.fNet a):=by
    simp only[Zgs,ZHS _ _ cV.1.1 ha,Zam,gt_iff_lt,Option.bind_some];by_cases h:ae<b.fUntil
    .rw[if_pos h,decide_eq_true h];rfl
    .rw[if_neg h,decide_eq_false h];rfl
   rw[lR];simp only[Option.bind_some];have bY:∀c,ZmS (l.drop (i+1)) a ae c->ZmS (b :: l.drop (i+1)) a ae c:=fun c hc=>⟨by simp[hc.1],hc.2⟩;cases hq:(decide (ae<b.fUntil)&&hasS b.fNet a)with
   |false=>
    simp only[cond_false];have aT:∀c,ZmS (b :: l.drop (i+1)) a ae c↔ZmS (l.drop (i+1)) a ae c:=fun c=>by
     refine⟨fun hc=>⟨?_,hc.2⟩,bY c⟩;rcases List.mem_cons.1 hc.1 with e|hm
     .subst e;rw[decide_eq_true hc.2.1,hc.2.2]at hq;cases hq
     .exact hm
    obtain⟨r,r1,r2,r3,r4,r5⟩:=ih (i+1) v q (by omega) (by omega);refine⟨r,r1,fun c hc=>r2 c ((aT c).1 hc),r3,?_,fun hf hx=>?_⟩
    .rcases r4 with e|⟨c,c1,c2⟩
     .exact .inl e
     .exact .inr ⟨c,bY c c1,c2⟩
    .obtain⟨c,hc⟩:=hx;obtain⟨d,d1,d2⟩:=r5 hf ⟨c,(aT c).1 hc⟩;exact⟨d,bY d d1,d2⟩
   |true=>
    simp only[cond_true];rw[Bool.and_eq_true,decide_eq_true_eq]at hq;have hb:ZmS (b :: l.drop (i+1)) a ae b:=⟨by simp,hq⟩
    -- what follows from a step that took b's,or something longer
    have step:∀v',b.fUntil<=v'->(q=true->v<=v')->(v'=b.fUntil\/(q=true/\v'=v))->∃r,ZbB l ae fu v' true ((i+1:Nat):Int) a=some r/\(∀c,ZmS (b :: l.drop (i+1)) a ae c->c.fUntil<=r)/\(q=true->v<=r)/\(r=v\/∃c,ZmS (b :: l.drop (i+1)) a ae c/\r=c.fUntil)/\(q=false->(∃c,ZmS (b :: l.drop (i+1)) a ae c)->∃c,ZmS (b :: l.drop (i+1)) a ae c/\r=c.fUntil):=by
     intro v' g1 g2 g3;obtain⟨r,r1,r2,r3,r4,r5⟩:=ih (i+1) v' true (by omega) (by omega);have r3':=r3 rfl;refine⟨r,r1,fun c hc=>?_,fun dS=>by have:=g2 dS;omega,?_,fun hf _=>?_⟩
     .rcases List.mem_cons.1 hc.1 with e|hm
      .subst e;omega
      .exact r2 c ⟨hm,hc.2⟩
     .rcases r4 with e|⟨c,c1,c2⟩
      .rcases g3 with e2|⟨_,e2⟩
       .exact .inr ⟨b,hb,by omega⟩
       .exact .inl (by omega)
      .exact .inr ⟨c,bY c c1,c2⟩
     .rcases r4 with e|⟨c,c1,c2⟩
      .rcases g3 with e2|⟨e1,_⟩
       .exact⟨b,hb,by omega⟩
       .rw[hf]at e1;cases e1
      .exact⟨c,bY c c1,c2⟩
    cases q with
    |false=>
     rw[Bool.not_false,cond_true];exact step b.fUntil (Int.le_refl _) (fun h=>by cases h) (.inl rfl)
    |true=>
     rw[Bool.not_true,cond_false];by_cases hgt:b.fUntil>v
     .rw[if_pos hgt];exact step b.fUntil (Int.le_refl _) (fun _=>by omega) (.inl rfl)
     .rw[if_neg hgt];exact step v (by omega) (fun _=>Int.le_refl _) (.inr ⟨rfl,rfl⟩)
  .rw[if_neg (by omega)];have:l.drop i=[]:=List.drop_eq_nil_of_le (by omega);rw[this];exact⟨v,rfl,fun b hb=>by simp[ZmS]at hb,fun _=>Int.le_refl _,.inl rfl,fun _ ⟨b,hb⟩=>by simp[ZmS]at hb⟩
theorem ZuT(l:List Zaf)(a:Zai)(ae:Int)(hl:l.length<=maxLen)(hok:∀b∈l,b.ok)(ha:a.ok):∃r,ZeG l a ae=some r/\Zwo l a ae r:=by
 obtain⟨r,r1,r2,r3,r4,r5⟩:=Zyg l a ae hl hok ha ((((l.length:Nat):Int)-(0:Int)).toNat+2) 0 0 false (by omega) (by omega);simp only[Int.natCast_zero,List.drop_zero]at r1 r2 r4 r5;refine⟨r,r1,?_⟩;by_cases h:∃b,ZmS l a ae b
 .obtain⟨b,b1,b2⟩:=r5 trivial h;exact .inr ⟨b,b1,b2,r2⟩
 .refine .inl ⟨?_,fun b hb=>h ⟨b,hb⟩⟩;rcases r4 with e|⟨b,b1,_⟩
  .exact e
  .exact absurd ⟨b,b1⟩ h
def Zno(b:Zaf):Bool:=ZhW b.fNet&&decide (1<=b.fUntil)&&decide (b.fUntil<=1099511627776)
theorem ZBr(b:Zaf)(h:b.ok):ZfV b=some (Zno b):=by
 simp only[ZfV,Ztk _ h.1.1,Zno,Option.bind_some,Zam];cases ZhW b.fNet
 .rfl
 .simp only[cond_true,Bool.true_and];by_cases h1:1<=b.fUntil
  .rw[if_pos (by omega),decide_eq_true h1];rfl
  .rw[if_neg (by omega),decide_eq_false h1];rfl
def ZJh(l:List Zaf):Prop:=(∀b∈l,Zno b=true)/\l.Pairwise fun a b=>cmpN a.fNet b.fNet<0
theorem ZHi(l:List Zaf):(∀j,0<=j->j<l.length->Zno (l.getD j Zaf.d)=true/\(0<j->cmpN (l.getD (j-1) Zaf.d).fNet (l.getD j Zaf.d).fNet<0))↔ZJh l:=by
 constructor
 .intro h;refine⟨fun b hb=>?_,Zoa (R:=fun a b:Zaf=>cmpN a.fNet b.fNet<0) (fun a b c h1 h2=>ZoD h1 h2) l fun i a b ha hb=>?_⟩
  .obtain⟨i,hi,rfl⟩:=List.getElem_of_mem hb;have:=(h i (by omega) hi).1;rwa [Zdw l _ i hi]at this
  .obtain⟨h1,e1⟩:=List.getElem?_eq_some_iff.1 ha;obtain⟨h2,e2⟩:=List.getElem?_eq_some_iff.1 hb;have:=(h (i+1) (by omega) h2).2 (by omega);rw[Nat.add_sub_cancel,Zdw l _ i h1,Zdw l _ (i+1) h2,e1,e2]at this;exact this
 .rintro ⟨h1,h2⟩ j _ hj;refine⟨h1 _ (Zeu l _ j hj),fun h0=>?_⟩;rw[Zdw l _ j hj,Zdw l _ (j-1) (by omega)];exact List.pairwise_iff_getElem.1 h2 (j-1) j (by omega) hj (by omega)
theorem rr_in(l:List Zaf)(hl:l.length<=maxLen)(v3:Nat)(h3:v3<l.length)(k:Int->Option Bool):∀fu (i:Nat),i<=v3->v3-i<fu ->
  ((∀j,i<=j->j<v3->cmpN (l.getD j Zaf.d).fNet (l.getD v3 Zaf.d).fNet<0)/\ZbR l (v3:Int) k fu (i:Int)=k ((v3+1:Nat):Int))\/((¬∀j,i<=j->j<v3->cmpN (l.getD j Zaf.d).fNet (l.getD v3 Zaf.d).fNet<0)/\ZbR l (v3:Int) k fu (i:Int)=some false):=by
 intro fu;induction fu with
 |zero=>intro _ _ h;omega
 |succ fu ih=>
  intro i hi hf;simp only[ZbR,Zam,ZHR,Option.bind_some];by_cases h:i<v3
  .rw[if_pos (by omega),Zax ⟨by omega,by omega⟩,Zax ⟨by omega,by omega⟩];simp only[Int.toNat_natCast];by_cases hc:cmpN (l.getD i Zaf.d).fNet (l.getD v3 Zaf.d).fNet>=0
   .rw[if_pos hc];exact .inr ⟨fun q=>by have:=q i (Nat.le_refl _) h;omega,rfl⟩
   .rw[if_neg hc,add1 (n:=l.length) (by omega) hl];rcases ih (i+1) (by omega) (by omega)with⟨q1,q2⟩|⟨q1,q2⟩
    .refine .inl ⟨fun j h1 h2=>?_,q2⟩;by_cases e:j=i
     .subst e;omega
     .exact q1 j (by omega) h2
    .exact .inr ⟨fun q=>q1 fun j h1 h2=>q j (by omega) h2,q2⟩
  .rw[if_neg (by omega),add1 h3 hl];exact .inl ⟨fun j h1 h2=>by omega,rfl⟩
theorem ZKM(l:List Zaf)(hl:l.length<=maxLen)(hok:∀b∈l,b.ok):∀fu (i:Nat),i<=l.length->l.length-i<fu ->
  ∃r,Zbu l fu (i:Int)=some r/\(r=true↔∀j,i<=j->j<l.length->Zno (l.getD j Zaf.d)=true/\∀q,0<=q->q<j->cmpN (l.getD q Zaf.d).fNet (l.getD j Zaf.d).fNet<0):=by
 intro fu;induction fu with
 |zero=>intro _ _ h;omega
 |succ fu ih=>
  intro i hi hf;simp only[Zbu,Zam];by_cases h:i<l.length
  .rw[if_pos (by omega),Zax ⟨by omega,by omega⟩];simp only[Int.toNat_natCast];rw[ZBr _ (hok _ (Zeu l Zaf.d i h))];simp only[Option.bind_some];obtain⟨r,r1,r2⟩:=ih (i+1) (by omega) (by omega);have more:(∀j,i<=j->j<l.length->Zno (l.getD j Zaf.d)=true/\∀q,0<=q->q<j->cmpN (l.getD q Zaf.d).fNet (l.getD j Zaf.d).fNet<0)↔(Zno (l.getD i Zaf.d)=true/\∀q,0<=q->q<i->cmpN (l.getD q Zaf.d).fNet (l.getD i Zaf.d).fNet<0)/\r=true:=by
    rw[r2];constructor
    .intro q;exact⟨q i (Nat.le_refl _) h,fun j h1 h2=>q j (by omega) h2⟩
    .rintro ⟨q1,q2⟩ j h1 h2;by_cases e:j=i
     .subst e;exact q1
     .exact q2 j (by omega) h2
   rw[more];cases hb:Zno (l.getD i Zaf.d)with
   |false=>exact⟨false,rfl,by simp⟩
   |true=>
    simp only[Bool.not_true,cond_false];rcases rr_in l hl i h (Zbu l fu) (((i:Int)-(0:Int)).toNat+2) 0 (by omega) (by omega)with⟨q1,q2⟩|⟨q1,q2⟩
    .have q2:ZbR l (i:Int) (Zbu l fu) (((i:Int)-(0:Int)).toNat+2) 0=Zbu l fu ((i+1:Nat):Int):=q2;rw[q2];exact⟨r,r1,⟨fun q=>⟨⟨trivial,q1⟩,q⟩,fun q=>q.2⟩⟩
    .have q2:ZbR l (i:Int) (Zbu l fu) (((i:Int)-(0:Int)).toNat+2) 0=some false:=q2;rw[q2];exact⟨false,rfl,by simp only[Bool.false_eq_true,false_iff];exact fun q=>q1 q.1.2⟩
  .rw[if_neg (by omega)];exact⟨true,rfl,by simp;intro j h1 h2;omega⟩
theorem ZEk(l:List Zaf)(hl:l.length<=maxLen)(hok:∀b∈l,b.ok):∃r,Zho l=some r/\(r=true↔ZJh l):=by
 obtain⟨r,r1,r2⟩:=ZKM l hl hok ((((l.length:Nat):Int)-(0:Int)).toNat+2) 0 (by omega) (by omega);refine⟨r,r1,r2.trans ?_⟩;constructor
 .intro h;exact(ZHi l).1 fun j h1 h2=>⟨(h j h1 h2).1,fun h0=>(h j h1 h2).2 (j-1) (by omega) (by omega)⟩
 .rintro ⟨h1,h2⟩ j _ hj;refine⟨h1 _ (Zeu l _ j hj),fun q _ hq=>?_⟩;rw[Zdw l _ j hj,Zdw l _ q (by omega)];exact List.pairwise_iff_getElem.1 h2 q j (by omega) hj hq
def u64r(x:Int):Prop:=0<=x/\x<=18446744073709551615
theorem ZoH(a:Int):u64r (IntKind.wrap .u64 a):=by
 unfold u64r;simp only[IntKind.wrap,IntKind.bits,IntKind.signed];simp;omega
theorem ZJd{a:Int}(h:u64r a):IntKind.wrap .u64 a=a:=ZhJ h.1 h.2
theorem ZtR{a:Int}(h:u64r a)(k:Int)(hk:0<k):IntKind.wrap .u64 (Int.tdiv a k)=Int.fdiv a k:=by
 obtain⟨n,rfl⟩ : ∃n:Nat,a=n:=⟨a.toNat,by have:=h.1;omega⟩;obtain⟨m,rfl⟩ : ∃m:Nat,k=m:=⟨k.toNat,by omega⟩;have h1:=h.2;rw[Int.fdiv_eq_tdiv_of_nonneg (by omega) (by omega)];refine ZJd ⟨Int.tdiv_nonneg (by omega) (by omega),?_⟩;have:Int.tdiv (n:Int) (m:Int)<=(n:Int):=by
  rw[<-Int.ofNat_tdiv];have:=Nat.div_le_self n m;omega
 omega
theorem pw30:(2:Int) ^ (min (30:Int).toNat (IntKind.bits .u64))=1073741824:=by decide
theorem pw27:(2:Int) ^ (min (27:Int).toNat (IntKind.bits .u64))=134217728:=by decide
theorem pw31:(2:Int) ^ (min (31:Int).toNat (IntKind.bits .u64))=2147483648:=by decide
theorem pw32:(2:Int) ^ (min (32:Int).toNat (IntKind.bits .u64))=4294967296:=by decide
theorem pw57:(2:Int) ^ (min (57:Int).toNat (IntKind.bits .u64))=144115188075855872:=by decide
theorem pw7:(2:Int) ^ (min (7:Int).toNat (IntKind.bits .u64))=128:=by decide
theorem ZBA(x:Int)(h:u64r x):∃y,Zmx x=some y/\Zew x=some y/\u64r y:=by
 unfold Zmx Zew;simp only[pw30,pw27,pw31,ZtR h 1073741824 (by omega),ZtR (ZoH _) 134217728 (by omega),ZtR (ZoH _) 2147483648 (by omega)];exact⟨_,rfl,rfl,ZoH _⟩
theorem ZKS(a b:Nat)(ha:a<2 ^ 64)(hb:b<2 ^ 64):IntKind.u64.wrap (((BitVec.ofInt (IntKind.bits .u64) (a:Int)) ||| (BitVec.ofInt (IntKind.bits .u64) (b:Int))).toNat:Int)=((a |||b:Nat):Int):=by
 have h1:∀c:Nat,c<2 ^ 64->(BitVec.ofInt 64 (c:Int)).toNat=c:=fun c hc=>by
  rw[BitVec.ofInt_natCast,BitVec.toNat_ofNat];exact Nat.mod_eq_of_lt hc
 have h2:((BitVec.ofInt (IntKind.bits .u64) (a:Int)) ||| (BitVec.ofInt (IntKind.bits .u64) (b:Int))).toNat=a |||b:=by
  show (BitVec.ofInt 64 (a:Int) |||BitVec.ofInt 64 (b:Int)).toNat=a |||b;rw[BitVec.toNat_or,h1 a ha,h1 b hb]
 rw[h2];have:=Nat.or_lt_two_pow ha hb;exact ZhJ (by omega) (by omega)
theorem rot7(x:Int)(h:u64r x):Zel x 7=some (IntKind.wrap .u64 (IntKind.wrap .u64 (x * 128)+IntKind.wrap .u64 (Int.tdiv x 144115188075855872))):=by
 unfold Zel;have e7:IntKind.wrap .u64 (((BitVec.ofInt (IntKind.bits .u64) (IntKind.wrap .u64 (7:Int))) &&& (BitVec.ofInt (IntKind.bits .u64) (63:Int))).toNat:Int)=7:=by decide
 have e57:IntKind.wrap .u64 ((64:Int)-7)=57:=by decide
 simp only[e7,e57,pw57,pw7];rw[Zax (by omega),Zax (by omega),ZtR h 144115188075855872 (by omega)];obtain⟨n,rfl⟩ : ∃n:Nat,x=n:=⟨x.toNat,by have:=h.1;omega⟩;have h1:=h.2;have e1:IntKind.wrap .u64 ((n:Int) * 128)=((n % 2 ^ 57 * 128:Nat):Int):=by
  simp only[IntKind.wrap,IntKind.bits,IntKind.signed];simp;omega
 have e2:Int.fdiv (n:Int) 144115188075855872=((n / 2 ^ 57:Nat):Int):=by
  rw[Int.fdiv_eq_tdiv_of_nonneg (by omega) (by omega)];exact(Int.ofNat_tdiv n 144115188075855872).symm
 have hlt:n % 2 ^ 57 * 128<2 ^ 64:=by omega
 have hlt2:n / 2 ^ 57<2 ^ 7:=by omega
 rw[e1,e2,ZKS _ _ hlt (by omega)];have e3:n % 2 ^ 57 * 128 |||n / 2 ^ 57=n % 2 ^ 57 * 128+n / 2 ^ 57:=by
  have:=Nat.shiftLeft_add_eq_or_of_lt hlt2 (n % 2 ^ 57);rw[Nat.shiftLeft_eq]at this;exact this.symm
 rw[e3];congr 1;rw[ZhJ (by omega) (by omega)];omega
theorem ZJn(k:Int)(l:List Int)(hl:l.length<=1000):∃h,ZqY k l=some h/\Zgo k l=some h/\u64r h:=by
 have hL:l.length<=maxLen:=by unfold maxLen;omega
 have aH:∀fu (i:Nat) (v:Int),u64r v->i<=l.length->l.length-i<fu->∃h,ZjE fu v l (l.length:Int) (i:Int)=some h/\ZdO l fu v (i:Int)=some h/\u64r h:=by
  intro fu;induction fu with
  |zero=>intro i v _ _ h;omega
  |succ fu ih=>
   intro i v hv hi hf;unfold ZjE ZdO;simp only[Zam];by_cases h:i<l.length
   .rw[if_pos (by omega),if_pos (by omega),Zax ⟨by omega,by omega⟩,Zax ⟨by omega,by omega⟩,rot7 v hv];obtain⟨y,h1,h2,h3⟩:=ZBA _ (ZoH ((l.getD ((i:Int)).toNat (0:Int))+(11400714819323198485:Int)));simp only[h1,h2,Option.bind_some];obtain⟨z,h4,h5,h6⟩:=ZBA _ (ZoH (((BitVec.ofInt (IntKind.bits .u64) (IntKind.wrap .u64 (IntKind.wrap .u64 (v * 128)+IntKind.wrap .u64 (Int.tdiv v 144115188075855872)))) ^^^ (BitVec.ofInt (IntKind.bits .u64) y)).toNat:Int));simp only[h4,h5,Option.bind_some,add1 h hL];exact ih (i+1) z h6 (by omega) (by omega)
   .rw[if_neg (by omega),if_neg (by omega)];exact⟨v,rfl,rfl,hv⟩
 unfold ZqY Zgo;obtain⟨y,h1,h2,h3⟩:=ZBA _ (ZoH (k+(11400714819323198485:Int)));simp only[h1,h2,Option.bind_some];exact aH _ 0 y h3 (by omega) (by omega)
theorem ZKc(k:Int)(n:Zag):∃h,Zqn k n=some h/\ZgX k n=some h/\u64r h:=by
 unfold Zqn ZgX;cases n.fAddr.fV6
 .obtain⟨h,h1,h2,h3⟩:=ZJn k [(4:Int),n.fAddr.fHi,n.fAddr.fLo,(IntKind.wrap .u64 n.fBits)] (by simp);simp only[cond_false,h1,h2,Option.bind_some];exact⟨h,rfl,rfl,h3⟩
 .obtain⟨h,h1,h2,h3⟩:=ZJn k [(6:Int),n.fAddr.fHi,n.fAddr.fLo,(IntKind.wrap .u64 n.fBits)] (by simp);simp only[cond_true,h1,h2,Option.bind_some];exact⟨h,rfl,rfl,h3⟩
theorem ZIL(h n:Int)(hh:u64r h)(h1:1<=n)(h8:n<=8):∃r,Zmy h n=some r/\ZfW h n=some r/\0<=r/\r<n:=by
 unfold Zmy ZfW;simp only[Zam,pw32];rw[if_neg (by omega),if_neg (by omega),if_neg (by omega),if_neg (by omega),ZtR hh 4294967296 (by omega),ZtR (ZoH _) 4294967296 (by omega)];refine⟨_,rfl,rfl,?_⟩;obtain⟨a,rfl⟩ : ∃a:Nat,h=a:=⟨h.toNat,by have:=hh.1;omega⟩;have h2:=hh.2;have e1:Int.fdiv (a:Int) 4294967296=((a / 4294967296:Nat):Int):=by
  rw[Int.fdiv_eq_tdiv_of_nonneg (by omega) (by omega)];exact(Int.ofNat_tdiv a 4294967296).symm
 rw[e1,ZJd (a:=n) ⟨by omega,by omega⟩];have hb:∀m:Nat,1<=m->m<=8->a / 4294967296*m<4294967296*m:=fun m h1 h2=>by
  have:a / 4294967296<4294967296:=by omega
  exact Nat.mul_lt_mul_of_pos_right this (by omega)
 obtain⟨m,rfl⟩ : ∃m:Nat,n=m:=⟨n.toNat,by omega⟩;have hb:=hb m (by omega) (by omega);generalize hq:a / 4294967296*m=q at hb;have e2:((a / 4294967296:Nat):Int)*(m:Int)=(q:Int):=by rw[<-hq];simp
 rw[e2,ZhJ (a:=(q:Int)) (by omega) (by omega)];have e3:Int.fdiv (q:Int) 4294967296=((q / 4294967296:Nat):Int):=by
  rw[Int.fdiv_eq_tdiv_of_nonneg (by omega) (by omega)];exact(Int.ofNat_tdiv q 4294967296).symm
 rw[e3,ZnW (by omega) (by omega)];omega
theorem ZEx{a:Zai}(h:Fits a):ZjC a (wid a)=a:=by
 refine Ztc (ZjL h _) h (ZiI a _) fun i hi=>?_;have hw:wid (ZjC a (wid a))=wid a:=by unfold wid;rw[ZiI]
 rw[hw]at hi;rw[Zlr h (wid a) i (Nat.le_refl _) hi,decide_eq_true hi,Bool.true_and]
def ZGx(a:Zai):Zag:=if Zda a=true then⟨a,(wid a:Int)⟩else⟨⟨false,0,0⟩,0⟩
theorem ZHh(a:Zai)(h:a.ok):ZmJ a=some (ZGx a):=by
 unfold ZmJ ZGx;simp only[ZCq,Option.bind_some,ZBB a h];by_cases hr:Zda a=true
 .rw[if_pos ⟨hr,by omega,by omega⟩,if_pos hr];simp only[Int.toNat_natCast,ZEx (Zpp h hr)]
 .rw[if_neg (fun x=>hr x.1),if_neg hr]
theorem ZIC(hi lo:Nat)(h1:hi<2 ^ 64)(h2:lo<2 ^ 64):∀fu (i:Nat) (z:Int),i<=64->64-i<fu->(i<64->z=((2 ^ (63-i):Nat):Int)) ->
  Zby (hi:Int) (lo:Int) 128 fu ((hi-hi % 2 ^ (64-i):Nat):Int) ((lo-lo % 2 ^ (64-i):Nat):Int) z (i:Int)=some ((hi:Int),(lo:Int)):=by
 intro fu;induction fu with
 |zero=>intro i z _ h;omega
 |succ fu ih=>
  intro i z hi64 hf hz;unfold Zby
  simp only[Zam];by_cases h:i<64
  .have e1:ZaA (i:Int) 64=((i+64:Nat):Int):=by rw[Zeo (by omega) (by omega)];omega
   have e2:ZaA (i:Int) 1=((i+1:Nat):Int):=by rw[Zeo (by omega) (by omega)];omega
   have hz:=hz h;obtain⟨p,hp⟩ : ∃p:Nat,p=2 ^ (63-i):=⟨_,rfl⟩;have hp0:0<p:=by rw[hp];exact Nat.two_pow_pos _
   have a6:2 ^ (64-i)=2*p:=by rw[hp,show 64-i=(63-i)+1 by omega,Nat.pow_succ];omega
   have hp3:p<=2 ^ 63:=by rw[hp];exact Nat.pow_le_pow_right (by omega) (by omega)
   have a7:p<2 ^ 64:=by omega
   rw[<-hp]at hz;subst hz;have j6:IntKind.wrap .u64 (Int.tdiv (p:Int) 2)=((p / 2:Nat):Int):=by
    rw[ZtR ⟨by omega,by omega⟩ 2 (by omega),Int.fdiv_eq_tdiv_of_nonneg (by omega) (by omega)];exact(Int.ofNat_tdiv p 2).symm
   have cK:i+1<64->((p / 2:Nat):Int)=((2 ^ (63-(i+1)):Nat):Int):=fun hh=>by
    have:p=2 * 2 ^ (63-(i+1)):=by rw[hp,show 63-i=(63-(i+1))+1 by omega,Nat.pow_succ];omega
    rw[this];congr 1;omega
   have bit:∀n:Nat,n<2 ^ 64->IntKind.wrap .u64 (Int.tdiv (n:Int) (p:Int))=((n / p:Nat):Int):=fun n hn=>by
    rw[ZtR ⟨by omega,by omega⟩ _ (by omega),Int.fdiv_eq_tdiv_of_nonneg (by omega) (by omega)];exact(Int.ofNat_tdiv n p).symm
   have step:∀n:Nat,n<2 ^ 64->(n / p % 2=1->IntKind.wrap .u64 (((n-n % 2 ^ (64-i):Nat):Int)+(p:Int))=((n-n % 2 ^ (64-(i+1)):Nat):Int))/\(n / p % 2≠1->((n-n % 2 ^ (64-i):Nat):Int)=((n-n % 2 ^ (64-(i+1)):Nat):Int)):=fun n hn=>by
    have e:2 ^ (64-(i+1))=p:=by rw[hp];congr 1;omega
    rw[e,a6];have hm:n % (2*p)=n % p+p*(n / p % 2):=by rw[Nat.mul_comm 2 p];exact Nat.mod_mul
    have hm2:n % p<p:=Nat.mod_lt _ hp0;have hm3:n % (2*p)<=n:=Nat.mod_le _ _;refine⟨fun hb=>?_,fun hb=>?_⟩
    .rw[hb,Nat.mul_one]at hm;rw[ZhJ (by omega) (by omega)];omega
    .have bj:n / p % 2=0:=by omega
     rw[bj,Nat.mul_zero]at hm;rw[hm];congr 1
   have tm:∀n:Nat,((Int.tmod ((n:Nat):Int) 2)==(1:Int))=decide (n % 2=1):=fun n=>by
    have:Int.tmod ((n:Nat):Int) 2=((n % 2:Nat):Int):=(Int.ofNat_tmod n 2).symm;rw[this];by_cases hh:n % 2=1
    .rw[hh];rfl
    .rw[decide_eq_false hh];exact beq_false_of_ne (by omega)
   have bZ:∀v8:Int,v8=((hi-hi % 2 ^ (64-(i+1)):Nat):Int)->ZdC (hi:Int) (lo:Int) 128 ((lo-lo % 2 ^ (64-i):Nat):Int) (p:Int) (i:Int) (Zby (hi:Int) (lo:Int) 128 fu) v8=some ((hi:Int),(lo:Int)):=by
    rintro v8 rfl;unfold ZdC;simp only[Zam,e1,e2,j6,bit lo h2,tm];rw[if_pos (by omega),Zax (by omega)];by_cases hb:lo / p % 2=1
    .rw[if_pos hb,(step lo h2).1 hb];exact ih (i+1) _ (by omega) (by omega) cK
    .rw[if_neg hb,(step lo h2).2 hb];exact ih (i+1) _ (by omega) (by omega) cK
   rw[if_pos (by omega),if_pos (by omega),Zax (by omega)];simp only[bit hi h1,tm,Zam];by_cases hb:hi / p % 2=1
   .rw[if_pos hb];exact bZ _ ((step hi h1).1 hb)
   .rw[if_neg hb];exact bZ _ ((step hi h1).2 hb)
  .have:i=64:=by omega
   subst this;rw[if_neg (by omega)];simp[Nat.mod_one]
theorem ZFL(hi lo:Nat)(h1:hi<2 ^ 64)(h2:lo<2 ^ 64):ZdV (hi:Int) (lo:Int) 128=some ((hi:Int),(lo:Int)):=by
 unfold ZdV;have:=ZIC hi lo h1 h2 66 0 9223372036854775808 (by omega) (by omega) (fun _=>by decide);have e1:hi-hi % 2 ^ (64-0)=0:=by rw[Nat.sub_zero,Nat.mod_eq_of_lt h1];omega
 have e2:lo-lo % 2 ^ (64-0)=0:=by rw[Nat.sub_zero,Nat.mod_eq_of_lt h2];omega
 rw[e1,e2]at this;exact this
theorem ZHQ(a:Zai)(h:a.ok):Zgt a=some (ZGx a):=by
 unfold Zgt ZhU ZGx;simp only[Zun,Option.bind_some,ZjZ a h,Zam];by_cases hr:Zda a=true
 .rw[hr,Bool.not_true,cond_false,if_neg (by omega),if_neg (by omega),if_pos rfl];unfold ZhT ZeU ZeT;simp only[ZjZ a h,hr,Bool.not_true,cond_false,Option.bind_some,Zam,Zun];rw[if_neg (by omega),if_neg (by omega)];have hf:=Zpp h hr;obtain⟨v6,hi,lo⟩:=a;have a1:=hf.hi0;have a2:=hf.hi1;have a3:=hf.lo0;have a4:=hf.lo1;simp only at a1 a2 a3 a4;obtain⟨x,rfl⟩ : ∃x:Nat,hi=x:=⟨hi.toNat,by omega⟩;obtain⟨y,rfl⟩ : ∃y:Nat,lo=y:=⟨lo.toNat,by omega⟩;cases v6
  .have hv:=hf.v4 rfl;have e:wid ⟨false,(x:Int),(y:Int)⟩=32:=rfl;have e1:ZaA (96:Int) ((32:Nat):Int)=128:=by decide
   simp only[e,e1,cond_false];have:=ZFL 0 y (by omega) (by omega);have e0:ZdV (0:Int) (y:Int) 128=some (((0:Nat):Int),(y:Int)):=this;rw[e0,Option.bind_some];simp only at hv;simp[hv.1]
  .have e:wid ⟨true,(x:Int),(y:Int)⟩=128:=rfl;simp only[e,cond_true];have:=ZFL x y (by omega) (by omega);have e0:ZdV (x:Int) (y:Int) ((128:Nat):Int)=some ((x:Int),(y:Int)):=this;rw[e0,Option.bind_some];rfl
 .simp[hr]
def Zmo(a:Zai)(s n:Int):Int:=(ZjP a s n).getD 0
def ZnZ(p:Int):Int:=if p<1 then 1 else if p>8 then 8 else p
theorem Zuk(a:Zai)(h:a.ok)(s n:Int):ZjP a s n=some (Zmo a s n)/\Zgn a s n=some (Zmo a s n)/\0<=Zmo a s n/\Zmo a s n<ZnZ n:=by
 have e1:Zkp n=some (ZnZ n):=by
  unfold Zkp ZnZ;congr 1
  repeat' split
  all_goals omega
 have e2:Zdl n=some (ZnZ n):=by
  unfold Zdl ZnZ;simp only[Zam]
  repeat' split
  all_goals rfl
 have e3:1<=ZnZ n/\ZnZ n<=8:=by
  unfold ZnZ
  repeat' split
  all_goals omega
 obtain⟨m,h1,h2,h3⟩:=ZKc s (ZGx a);obtain⟨r,h4,h5,h6,h7⟩:=ZIL m (ZnZ n) h3 e3.1 e3.2;have q1:ZjP a s n=some r:=by
  unfold ZjP;simp only[ZHh a h,h1,e1,h4,Option.bind_some]
 have q2:Zgn a s n=some r:=by
  unfold Zgn;simp only[ZHQ a h,h2,e2,h5,Option.bind_some]
 have q3:Zmo a s n=r:=by unfold Zmo;rw[q1];rfl
 rw[q3];exact⟨q1,q2,h6,h7⟩
def cntP(l:List Zab)(b:Bool):Int:=((l.countP fun p=>p.fIn==b:Nat):Int)
theorem ZoK(l:List Zab)(b:Bool)(hl:l.length<=maxLen):Zdm l b=some (cntP l b):=by
 simp only[Zdm];have:=Zxn l Zab.d (fun p=>p.fIn==b) hl (fun fu n i=>Zca l b fu n i) (fun fu i n hi=>by
   simp only[Zca,Zam];rw[if_pos (by omega),Zax ⟨by omega,by omega⟩];simp only[Int.toNat_natCast];cases((l.getD i Zab.d).fIn==b)<;>rfl) (fun fu n=>by
   simp only[Zca,Zam];rw[if_neg (by omega)]) ((((l.length:Nat):Int)-(0:Int)).toNat+2) 0 0 (by omega) (by omega) (by omega)
 simp only[Int.natCast_zero,List.drop_zero]at this;rw[this];unfold cntP;congr 2;omega
theorem Zwa(l:List Zab)(b:Bool):0<=cntP l b/\cntP l b<=(l.length:Int):=by
 unfold cntP;have:=List.countP_le_length (p:=fun p:Zab=>p.fIn==b) (l:=l);omega
def addT(a b:Int):Int:=fitI (fitI a+fitI b)
theorem ZBo(a b:Int):Zog a b=some (addT a b)/\Zez a b=some (addT a b):=by
 have h1:=ZtI a;have h2:=ZtI b;have e:ZaA (fitI a) (fitI b)=fitI a+fitI b:=Zeo (by omega) (by omega);constructor
 .unfold Zog addT;simp only[ZnX,Option.bind_some,e]
 .unfold Zez addT;simp only[Zqb,Option.bind_some,e]
abbrev Prs:=List Zab
def ltP(x y:Zab):Bool:=decide (cmpE x.fEnd y.fEnd<0)
theorem Zqj{x y:Zab}:ltP x y=true↔cmpE x.fEnd y.fEnd<0:=by unfold ltP;simp
theorem ZCY{x y:Zab}:ltP x y=false↔¬cmpE x.fEnd y.fEnd<0:=by unfold ltP;simp
theorem ZBC{x y z:Zab}(h1:ltP x y=false)(h2:ltP y z=false):ltP x z=false:=by
 rw[ZCY]at *
 intro h;have e:cmpE x.fEnd y.fEnd=0\/0<cmpE x.fEnd y.fEnd:=by omega
 rcases e with e|e
 .rw[ZmQ.1 e]at h;exact h2 h
 .exact h2 (Zrb (ZkM.1 e) h)
theorem ZKe{x y z:Zab}(h1:ltP z x=true)(h2:ltP y x=false):ltP z y=true:=by
 cases h:ltP z y with
 |true=>rfl
 |false=>rw[ZBC h h2]at h1;cases h1
def mrg:Prs->Prs->Prs | [],ys=>ys|x :: xs,[]=>x :: xs|x :: xs,y :: ys=>if ltP y x=true then y :: mrg (x :: xs) ys else x :: mrg xs (y :: ys)
termination_by xs ys=>xs.length+ys.length
theorem Zqg(xs:Prs):mrg xs []=xs:=by cases xs<;>simp[mrg]
theorem Zkb(xs:Prs):mrg [] xs=xs:=by simp[mrg]
theorem Zvj{x y:Zab}(xs ys:Prs)(h:ltP y x=true):mrg (x :: xs) (y :: ys)=y :: mrg (x :: xs) ys:=by rw[mrg,if_pos h]
theorem Zvk{x y:Zab}(xs ys:Prs)(h:ltP y x=false):mrg (x :: xs) (y :: ys)=x :: mrg xs (y :: ys):=by rw[mrg,if_neg (by simp[h])]
theorem ZzR:∀(n:Nat)(x1 x2 y1 y2:Prs),x1.length+y1.length<=n->(∀y∈y1,∀x∈x2,ltP y x=true)->(∀x∈x1,∀y∈y2,ltP y x=false)->mrg (x1++x2) (y1++y2)=mrg x1 y1++mrg x2 y2:=by
 intro n;induction n with
 |zero=>
  intro x1 x2 y1 y2 h _ _;obtain rfl:=List.eq_nil_of_length_eq_zero (show x1.length=0 by omega);obtain rfl:=List.eq_nil_of_length_eq_zero (show y1.length=0 by omega);simp[Zkb]
 |succ n ih=>
  intro x1 x2 y1 y2 h h1 h2;cases x1 with
  |nil=>
   cases y1 with
   |nil=>simp[Zkb]
   |cons y y1=>
    cases x2 with
    |nil=>simp[Zkb]
    |cons x x2=>
     simp only[List.length_cons,List.length_nil]at h;rw[List.nil_append,List.cons_append,Zvj _ _ (h1 y (by simp) x (by simp)),Zkb];have:=ih [] (x :: x2) y1 y2 (by simp only[List.length_nil];omega) (fun y' iW=>h1 y' (by simp[iW])) (by simp);rw[List.nil_append,Zkb]at this;rw[this];rfl
  |cons x x1=>
   cases y1 with
   |nil=>
    cases y2 with
    |nil=>simp[Zqg]
    |cons y y2=>
     simp only[List.length_cons,List.length_nil]at h;rw[List.nil_append,List.cons_append,Zvk _ _ (h2 x (by simp) y (by simp)),Zqg];have:=ih x1 x2 [] (y :: y2) (by simp only[List.length_nil];omega) (by simp) (fun x' i3=>h2 x' (by simp[i3]));rw[List.nil_append,Zqg]at this;rw[this];rfl
   |cons y y1=>
    simp only[List.length_cons]at h;rw[List.cons_append,List.cons_append];cases h3:ltP y x with
    |true=>
     rw[Zvj _ _ h3,Zvj _ _ h3,<-List.cons_append,ih (x :: x1) x2 y1 y2 (by simp only[List.length_cons];omega) (fun y' iW=>h1 y' (by simp[iW])) h2];rfl
    |false=>
     have:=ih x1 x2 (y :: y1) y2 (by simp only[List.length_cons];omega) h1 (fun x' i3=>h2 x' (by simp[i3]));rw[List.cons_append]at this;rw[Zvk _ _ h3,Zvk _ _ h3,this];rfl
theorem ZKb:∀(n:Nat)(a b:Prs),a.length+b.length<=n->(mrg a b).length=a.length+b.length:=by
 intro n;induction n with
 |zero=>
  intro a b h;obtain rfl:=List.eq_nil_of_length_eq_zero (show a.length=0 by omega);simp[Zkb]
 |succ n ih=>
  intro a b h;cases a with
  |nil=>simp[Zkb]
  |cons x a=>
   cases b with
   |nil=>simp[Zqg]
   |cons y b=>
    simp only[List.length_cons]at h ⊢;cases h3:ltP y x with
    |true=>rw[Zvj _ _ h3,List.length_cons,ih _ _ (by simp only[List.length_cons];omega)];simp only[List.length_cons];omega
    |false=>rw[Zvk _ _ h3,List.length_cons,ih _ _ (by simp only[List.length_cons];omega)];simp only[List.length_cons];omega
theorem ZGc:∀(n:Nat)(a b:Prs),a.length+b.length<=n->∀z∈mrg a b,z∈a\/z∈b:=by
 intro n;induction n with
 |zero=>
  intro a b h z hz;obtain rfl:=List.eq_nil_of_length_eq_zero (show a.length=0 by omega);rw[Zkb]at hz;exact .inr hz
 |succ n ih=>
  intro a b h z hz;cases a with
  |nil=>rw[Zkb]at hz;exact .inr hz
  |cons x a=>
   cases b with
   |nil=>rw[Zqg]at hz;exact .inl hz
   |cons y b=>
    simp only[List.length_cons]at h;cases h3:ltP y x with
    |true=>
     rw[Zvj _ _ h3]at hz;rcases List.mem_cons.1 hz with hz|hz
     .exact .inr (by simp[hz])
     .rcases ih _ _ (by simp only[List.length_cons];omega) z hz with q|q
      .exact .inl q
      .exact .inr (by simp[q])
    |false=>
     rw[Zvk _ _ h3]at hz;rcases List.mem_cons.1 hz with hz|hz
     .exact .inl (by simp[hz])
     .rcases ih _ _ (by simp only[List.length_cons];omega) z hz with q|q
      .exact .inl (by simp[q])
      .exact .inr q
def SrtP(l:Prs):Prop:=l.Pairwise fun x y=>ltP y x=false
theorem ZCZ{x y:Zab}(h:ltP x y=true):ltP y x=false:=by
 rw[Zqj]at h;rw[ZCY];intro h2;have:=ZkM.2 h2;omega
theorem ZGb:∀(n:Nat)(a b:Prs),a.length+b.length<=n->SrtP a->SrtP b->SrtP (mrg a b):=by
 intro n;induction n with
 |zero=>
  intro a b h ha hb;obtain rfl:=List.eq_nil_of_length_eq_zero (show a.length=0 by omega);rw[Zkb];exact hb
 |succ n ih=>
  intro a b h ha hb;cases a with
  |nil=>rw[Zkb];exact hb
  |cons x a=>
   cases b with
   |nil=>rw[Zqg];exact ha
   |cons y b=>
    simp only[List.length_cons]at h;have cw:=List.pairwise_cons.1 ha;have ay:=List.pairwise_cons.1 hb;cases h3:ltP y x with
    |true=>
     rw[Zvj _ _ h3];refine List.pairwise_cons.2 ⟨fun z hz=>?_,ih _ _ (by simp only[List.length_cons];omega) ha ay.2⟩;rcases ZGc _ _ _ (Nat.le_refl _) z hz with q|q
     .have:ltP x y=false:=ZCZ h3;rcases List.mem_cons.1 q with q|q
      .rw[q];exact this
      .exact ZBC (cw.1 z q) this
     .exact ay.1 z q
    |false=>
     rw[Zvk _ _ h3];refine List.pairwise_cons.2 ⟨fun z hz=>?_,ih _ _ (by simp only[List.length_cons];omega) cw.2 hb⟩;rcases ZGc _ _ _ (Nat.le_refl _) z hz with q|q
     .exact cw.1 z q
     .rcases List.mem_cons.1 q with q|q
      .rw[q];exact h3
      .exact ZBC (ay.1 z q) h3
def ZpE(l:Prs):Prs:=l.foldl (fun o x=>mrg o [x]) []
theorem Zsx(l:Prs)(x:Zab):ZpE (l++[x])=mrg (ZpE l) [x]:=by unfold ZpE;rw[List.foldl_append];rfl
theorem ZGi(l:Prs):(ZpE l).length=l.length:=by
 have:∀n,n<=l.length->(ZpE (l.take n)).length=n:=by
  intro n;induction n with
  |zero=>intro _;simp[ZpE]
  |succ n ih=>
   intro h;rw[List.take_succ_eq_append_getElem (show n<l.length by omega),Zsx,ZKb _ _ _ (Nat.le_refl _),ih (by omega)];rfl
 have h:=this l.length (Nat.le_refl _);rwa [List.take_length]at h
theorem ZAb(l:Prs):SrtP (ZpE l):=by
 have:∀n,n<=l.length->SrtP (ZpE (l.take n)):=by
  intro n;induction n with
  |zero=>intro _;simp[ZpE,SrtP]
  |succ n ih=>
   intro h;rw[List.take_succ_eq_append_getElem (show n<l.length by omega),Zsx];exact ZGb _ _ _ (Nat.le_refl _) (ih (by omega)) (by simp[SrtP])
 have h:=this l.length (Nat.le_refl _);rwa [List.take_length]at h
theorem ZKa{o1 o2:Prs}{x:Zab}(h1:∀y∈o1,ltP x y=false)(h2:∀y∈o2,ltP x y=true):mrg (o1++o2) [x]=o1++x :: o2:=by
 have a:=ZzR _ o1 o2 [x] [] (Nat.le_refl _) (fun y hy z hz=>by rw[List.mem_singleton.1 hy];exact h2 z hz) (by simp);have b:=ZzR _ o1 [] [] [x] (Nat.le_refl _) (by simp) (fun z hz y hy=>by rw[List.mem_singleton.1 hy];exact h1 z hz);simp only[List.append_nil,List.nil_append,Zqg,Zkb]at a b;rw[a,b];simp
theorem ZCL(o:Prs)(x:Zab)(hs:SrtP o)(hl:o.length<=900000):Zev o x=some (mrg o [x]):=by
 have hm:o.length<=maxLen:=by unfold maxLen;omega
 have aH:∀(fu i:Nat),i<=o.length->o.length-i<fu->(∀y∈o.take i,ltP x y=false)->Zdz o fu (i:Int) x=some (mrg o [x]):=by
  intro fu;induction fu with
  |zero=>intro _ _ h;omega
  |succ fu ih=>
   intro i hi hf cg;unfold Zdz;have bC:(∀y∈o.drop i,ltP x y=true)->o.take i++[x]++o.drop i=mrg o [x]:=fun h=>by
    have:=ZKa cg h;rw[List.take_append_drop]at this;rw[this];simp
   have lt:(o.take i).length=i:=by simp;omega
   have ld:(o.drop i).length=o.length-i:=by simp
   have n1:(o.take i).length * 80<=140737488355328/\(o.take i).length<=maxLen:=by rw[lt];unfold maxLen;omega
   have n2:(o.take i++[x]).length * 80<=140737488355328/\(o.take i++[x]).length<=maxLen:=by simp only[List.length_append,lt,List.length_singleton,maxLen];omega
   have n3:(o.take i++[x]++o.drop i).length * 80<=140737488355328/\(o.take i++[x]++o.drop i).length<=maxLen:=by simp only[List.length_append,lt,ld,List.length_singleton,maxLen];omega
   simp only[Zam,Int.toNat_natCast,List.nil_append,Zax n1,Zax n2,Zax n3];by_cases h:i<o.length
   .rw[if_pos (by omega),Zax ⟨by omega,by omega⟩,Zsg,ZaK];have e1:ZaA (i:Int) 1=((i+1:Nat):Int):=add1 h hm;have hd:=ZdK o Zab.d i h;by_cases hc:cmpE (o.getD i Zab.d).fEnd x.fEnd<=0
    .rw[if_pos hc,e1];refine ih (i+1) (by omega) (by omega) fun y hy=>?_;rw[List.take_succ_eq_append_getElem h,<-Zdw o Zab.d i h]at hy;rcases List.mem_append.1 hy with q|q
     .exact cg y q
     .rw[List.mem_singleton.1 q,ZCY];intro h2;have:=ZkM.2 h2;omega
    .rw[if_neg hc,Zax ⟨by omega,by omega⟩,bC];intro y hy;have hx:ltP x (o.getD i Zab.d)=true:=by rw[Zqj];exact ZkM.1 (by omega)
     rw[hd]at hy;have hp:SrtP (o.drop i):=List.Pairwise.sublist (List.drop_sublist i o) hs;rw[hd]at hp;rcases List.mem_cons.1 hy with q|q
     .rw[q];exact hx
     .exact ZKe hx ((List.pairwise_cons.1 hp).1 y q)
   .rw[if_neg (by omega),Zax ⟨by omega,by omega⟩,bC];intro y hy;rw[List.drop_eq_nil_of_le (by omega)]at hy;cases hy
 unfold Zev;have:=aH ((((o.length:Nat):Int)-(0:Int)).toNat+2) 0 (by omega) (by omega) (by simp);exact this
theorem ZEj(l:Prs)(hl:l.length<=900000):Zfw l=some (ZpE l):=by
 have hm:l.length<=maxLen:=by unfold maxLen;omega
 have aH:∀(fu i:Nat),i<=l.length->l.length-i<fu->ZcJ l fu (i:Int) (ZpE (l.take i))=some (ZpE l):=by
  intro fu;induction fu with
  |zero=>intro _ _ h;omega
  |succ fu ih=>
   intro i hi hf;unfold ZcJ;simp only[Zam,Int.toNat_natCast];by_cases h:i<l.length
   .have e1:ZaA (i:Int) 1=((i+1:Nat):Int):=add1 h hm;rw[if_pos (by omega),Zax ⟨by omega,by omega⟩,ZCL _ _ (ZAb _) (by rw[ZGi];simp;omega),ZaK,e1,<-Zsx,Zdw l _ i h,<-List.take_succ_eq_append_getElem h];exact ih (i+1) (by omega) (by omega)
   .rw[if_neg (by omega),List.take_of_length_le (by omega)]
 unfold Zfw;have:=aH ((((l.length:Nat):Int)-(0:Int)).toNat+2) 0 (by omega) (by omega);exact this
def inI(n a b:Int):Bool:=decide (a<=n)&&decide (n<=b)
def nowB(x:ZaB):Bool:=inI x.fNow 0 1099511627776
def ZiQ(x:ZaB):Bool:=if x.fKind=1\/x.fKind=12\/x.fKind=13 then Zlu x.fEnd&&nowB x else if x.fKind=2 then Zlu x.fEnd else if x.fKind=3\/x.fKind=9 then nowB x else if x.fKind=4 then Zlu x.fEnd&&(nowB x&&inI x.fNum 0 1073741824)else if x.fKind=5 then Zlu x.fEnd&&(inI x.fNum 1 5&&nowB x)else if x.fKind=6 then ZhW x.fNet&&(inI x.fNum 1 1099511627776&&nowB x)else if x.fKind=7 then ZhW x.fNet else if x.fKind=8 then Zda x.fEnd.fAddr&&nowB x else if x.fKind=10 then true else if x.fKind=11 then Zlu x.fEnd&&inI x.fNum 1 1048576 else false
def ZBu(x:ZaB)(s:Int×Int)(p:Int):Bool:=if p=0 then Zlu x.fEnd else if p=1 then ZhW x.fNet else if p=2 then Zda x.fEnd.fAddr else if p=3 then nowB x else if p=4 then inI x.fNum s.1 s.2 else true
theorem ZCo(x:ZaB)(hx:x.ok)(s:Int×Int)(hs:Zlh x.fKind=some s)(p:Int):ZlI x p=some (ZBu x s p):=by
 have he:x.fEnd.ok:=hx.2.1;have hn:x.fNet.ok:=hx.2.2.1;unfold ZlI ZBu;simp only[ZcM,ZxE _ he,ZoF _ hn.1,ZjU _ he.1,hs,Option.bind_some,nowB,inI,Zam]
 repeat' split
 all_goals first|rfl | (simp_all;done) | (simp_all;omega)
theorem ZCp(x:ZaB)(hx:x.ok)(s:Int×Int)(hs:Zlh x.fKind=some s)(l:List Int)(hl:l.length<=100):ZeA ((((l.length:Nat):Int)-(0:Int)).toNat+2) l (l.length:Int) 0 x=some (l.all (ZBu x s)):=by
 have hL:l.length<=maxLen:=by unfold maxLen;omega
 have aH:∀fu (i:Nat),i<=l.length->l.length-i<fu->ZeA fu l (l.length:Int) (i:Int) x=some ((l.drop i).all (ZBu x s)):=by
  intro fu;induction fu with
  |zero=>intro i _ h;omega
  |succ fu ih=>
   intro i hi hf;unfold ZeA;simp only[Zam];by_cases h:i<l.length
   .rw[if_pos (by omega),Zax ⟨by omega,by omega⟩,ZCo x hx s hs,Option.bind_some,add1 h hL,ZdK l (0:Int) i h,List.all_cons,Int.toNat_natCast];cases ZBu x s (l.getD i 0)with
    |true=>simp only[Bool.not_true,cond_false,Bool.true_and];exact ih (i+1) (by omega) (by omega)
    |false=>rfl
   .rw[if_neg (by omega),List.drop_of_length_le (by omega)];rfl
 exact aH _ 0 (by omega) (by omega)
theorem ZHa(k:Int):∃t,ZmI k=some t/\((t.toList==(⟨#[]⟩ : ByteArray).toList) = !(decide (1<=k)&&decide (k<=13))):=by
 unfold ZmI Znw ZsH;simp only[Option.bind_some,Zam];by_cases h0:k<0
 .rw[if_pos h0];refine⟨_,rfl,?_⟩;rw[decide_eq_false (show ¬1<=k by omega)];simp
 .rw[if_neg h0];by_cases h1:k>=14
  .have h2:k>=(([(⟨#[]⟩ : ByteArray),(⟨#[97,99,99,101,112,116]⟩ : ByteArray),(⟨#[108,101,97,118,101]⟩ : ByteArray),(⟨#[100,105,97,108]⟩ : ByteArray),(⟨#[114,101,115,117,108,116]⟩ : ByteArray),(⟨#[98,108,97,109,101]⟩ : ByteArray),(⟨#[98,97,110]⟩ : ByteArray),(⟨#[117,110,98,97,110]⟩ : ByteArray),(⟨#[98,97,110,110,101,100]⟩ : ByteArray),(⟨#[116,105,99,107]⟩ : ByteArray),(⟨#[108,105,115,116]⟩ : ByteArray),(⟨#[112,111,110,103]⟩ : ByteArray),(⟨#[119,111,114,107]⟩ : ByteArray),(⟨#[108,101,97,114,110]⟩ : ByteArray)]:List ByteArray).length:Int):=h1;rw[if_pos h2];refine⟨_,rfl,?_⟩;rw[decide_eq_true (show 1<=k by omega),decide_eq_false (show ¬k<=13 by omega)];simp
  .obtain h|h|h|h|h|h|h|h|h|h|h|h|h|h:k=0\/k=1\/k=2\/k=3\/k=4\/k=5\/k=6\/k=7\/k=8\/k=9\/k=10\/k=11\/k=12\/k=13:=by omega
   all_goals subst h;exact⟨_,rfl,by decide +kernel⟩
theorem ZEX(x:ZaB)(hx:x.ok):ZlJ x=some (ZiQ x):=by
 obtain⟨t,h1,h2⟩:=ZHa x.fKind;unfold ZlJ;rw[h1,Option.bind_some,h2];by_cases hk:1<=x.fKind/\x.fKind<=13
 .rw[decide_eq_true hk.1,decide_eq_true hk.2];simp only[Bool.and_self,Bool.not_true,cond_false];have key:∀(k:Int)(l:List Int)(s:Int×Int),x.fKind=k->ZjT k=some l->Zlh k=some s->l.length<=100->l.all (ZBu x s)=ZiQ x->((ZjT x.fKind).bind fun x2=>ZeA ((((x2.length:Nat):Int)-(0:Int)).toNat+2) x2 ((x2.length:Nat):Int) (0:Int) x)=some (ZiQ x):=by
   intro k l s e h3 h4 h5 h6;rw[e,h3,Option.bind_some,ZCp x hx s (by rw[e];exact h4) l h5,h6]
  obtain h|h|h|h|h|h|h|h|h|h|h|h|h:x.fKind=1\/x.fKind=2\/x.fKind=3\/x.fKind=4\/x.fKind=5\/x.fKind=6\/x.fKind=7\/x.fKind=8\/x.fKind=9\/x.fKind=10\/x.fKind=11\/x.fKind=12\/x.fKind=13:=by omega
  all_goals exact key _ _ _ h rfl rfl (by simp) (by simp[ZiQ,h,ZBu])
 .have hf:(decide (1<=x.fKind)&&decide (x.fKind<=13))=false:=by
   rw[Bool.and_eq_false_iff,decide_eq_false_iff_not,decide_eq_false_iff_not];omega
  rw[hf];simp only[Bool.not_false,cond_true];unfold ZiQ
  repeat' rw[if_neg (by omega)]
theorem ZEl(x:ZaB)(hx:x.ok)(a b:Int)(s:ByteArray)(L:List Int)(hL:L.length=s.size)(h:∀i:Nat,i<s.size->((ZkX s i:Nat):Int)=L.getD i 0)(hs:s.size<=100) :
  Zbe a b x ((((s.size:Nat):Int)-(0:Int)).toNat+2) s 0=some (L.all fun c=>if c=101 then Zlu x.fEnd else if c=110 then ZhW x.fNet else if c=97 then Zda x.fEnd.fAddr else if c=116 then nowB x else if c=107 then inI x.fNum a b else true):=by
 have he:x.fEnd.ok:=hx.2.1;have hn:x.fNet.ok:=hx.2.2.1;have aH:∀fu (i:Nat),i<=s.size->s.size-i<fu->Zbe a b x fu s (i:Int)=some ((L.drop i).all fun c=>if c=101 then Zlu x.fEnd else if c=110 then ZhW x.fNet else if c=97 then Zda x.fEnd.fAddr else if c=116 then nowB x else if c=107 then inI x.fNum a b else true):=by
  intro fu;induction fu with
  |zero=>intro i _ h;omega
  |succ fu ih=>
   intro i hi hf;unfold Zbe;simp only[Zam,ZcM,Zqa _ he,Ztk _ hn.1,ZjZ _ he.1,Option.bind_some];by_cases hlt:i<s.size
   .rw[if_pos (by omega),Zax ⟨by omega,by omega⟩,add1 (n:=s.size) hlt (by unfold maxLen;omega),ZdK L (0:Int) i (by omega),List.all_cons,Int.toNat_natCast,h i hlt,ih (i+1) (by omega) (by omega)];generalize hR:((L.drop (i+1)).all fun c=>if c=101 then Zlu x.fEnd else if c=110 then ZhW x.fNet else if c=97 then Zda x.fEnd.fAddr else if c=116 then nowB x else if c=107 then inI x.fNum a b else true)=R;have fW:∀q:Bool,(bif !q then some false else some R)=some (q&&R):=fun q=>by cases q<;>rfl
    simp only[fW];have rng:∀n lo hi:Int,(if n<lo then some false else if n>hi then some false else some R)=some (inI n lo hi&&R):=fun n lo hi=>by
     unfold inI;by_cases h1:n<lo
     .rw[if_pos h1,decide_eq_false (by omega)];rfl
     .rw[if_neg h1,decide_eq_true (show lo<=n by omega)];by_cases h2:n>hi
      .rw[if_pos h2,decide_eq_false (by omega)];rfl
      .rw[if_neg h2,decide_eq_true (show n<=hi by omega)];rfl
    simp only[rng];unfold nowB
    repeat' split
    all_goals first|rfl|omega
   .rw[if_neg (by omega),List.drop_of_length_le (by omega)];rfl
 exact aH _ 0 (by omega) (by omega)
theorem ZoJ(x:ZaB)(hx:x.ok):ZfP x=some (ZiQ x):=by
 unfold ZfP ZcW;simp only[Zam,ZcM];by_cases h1:x.fKind<1
 .rw[if_pos h1];unfold ZiQ
  repeat' rw[if_neg (by omega)]
 .rw[if_neg h1];by_cases h2:x.fKind>13
  .rw[if_pos h2];unfold ZiQ
   repeat' rw[if_neg (by omega)]
  .rw[if_neg h2];have key:∀(k a b:Int)(s:ByteArray)(L:List Int),x.fKind=k->ZfO k=some s->L.length=s.size->(∀i:Nat,i<s.size->((ZkX s i:Nat):Int)=L.getD i 0)->s.size<=100 ->
     (L.all fun c=>if c=101 then Zlu x.fEnd else if c=110 then ZhW x.fNet else if c=97 then Zda x.fEnd.fAddr else if c=116 then nowB x else if c=107 then inI x.fNum a b else true)=ZiQ x ->
     ((ZfO x.fKind).bind fun x1=>Zbe a b x ((((x1.size:Nat):Int)-(0:Int)).toNat+2) x1 (0:Int))=some (ZiQ x):=by
    intro k a b s L e h3 h4 h5 h6 h7;rw[e,h3,Option.bind_some,ZEl x hx a b s L h4 h5 h6,h7]
   obtain h|h|h|h|h|h|h|h|h|h|h|h|h:x.fKind=1\/x.fKind=2\/x.fKind=3\/x.fKind=4\/x.fKind=5\/x.fKind=6\/x.fKind=7\/x.fKind=8\/x.fKind=9\/x.fKind=10\/x.fKind=11\/x.fKind=12\/x.fKind=13:=by omega
   .rw[if_neg (by omega),if_neg (by omega),if_neg (by omega)];exact key 1 _ _ _ [101,116] h rfl rfl (by decide) (by decide) (by simp[ZiQ,h])
   .rw[if_neg (by omega),if_neg (by omega),if_neg (by omega)];exact key 2 _ _ _ [101] h rfl rfl (by decide) (by decide) (by simp[ZiQ,h])
   .rw[if_neg (by omega),if_neg (by omega),if_neg (by omega)];exact key 3 _ _ _ [116] h rfl rfl (by decide) (by decide) (by simp[ZiQ,h])
   .rw[if_neg (by omega),if_neg (by omega),if_neg (by omega)];exact key 4 _ _ _ [101,103,116,107] h rfl rfl (by decide) (by decide) (by simp[ZiQ,h])
   .rw[if_pos h];exact key 5 _ _ _ [101,107,116] h rfl rfl (by decide) (by decide) (by simp[ZiQ,h])
   .rw[if_neg (by omega),if_pos h];exact key 6 _ _ _ [110,107,116] h rfl rfl (by decide) (by decide) (by simp[ZiQ,h])
   .rw[if_neg (by omega),if_neg (by omega),if_neg (by omega)];exact key 7 _ _ _ [110] h rfl rfl (by decide) (by decide) (by simp[ZiQ,h])
   .rw[if_neg (by omega),if_neg (by omega),if_neg (by omega)];exact key 8 _ _ _ [97,116] h rfl rfl (by decide) (by decide) (by simp[ZiQ,h])
   .rw[if_neg (by omega),if_neg (by omega),if_neg (by omega)];exact key 9 _ _ _ [116] h rfl rfl (by decide) (by decide) (by simp[ZiQ,h])
   .rw[if_neg (by omega),if_neg (by omega),if_neg (by omega)];exact key 10 _ _ _ [] h rfl rfl (by decide) (by decide) (by simp[ZiQ,h])
   .rw[if_neg (by omega),if_neg (by omega),if_pos h];exact key 11 _ _ _ [101,107] h rfl rfl (by decide) (by decide) (by simp[ZiQ,h])
   .rw[if_neg (by omega),if_neg (by omega),if_neg (by omega)];exact key 12 _ _ _ [101,116] h rfl rfl (by decide) (by decide) (by simp[ZiQ,h])
   .rw[if_neg (by omega),if_neg (by omega),if_neg (by omega)];exact key 13 _ _ _ [101,116] h rfl rfl (by decide) (by decide) (by simp[ZiQ,h])
def gv(v:Zah):Prop:=v.ok/\v.fBans.length<=5000/\v.fBook.length<=5000
structure Gd (l:List Zah):Prop where
 len:l.length<=400000
 val:∀v∈l,gv v
theorem Gd.drop{l:List Zah}(h:Gd l)(a:Nat):Gd (l.drop a):=⟨by have:=h.len;simp;omega,fun v hv=>h.val v (List.mem_of_mem_drop hv)⟩
def Zef(k:Int):Zaq:=⟨k,endZ,0,0,[]⟩
def pt(c:Zau)(x:ZaB):Int:=Zmo x.fEnd.fAddr c.fSecret c.fShards
section
variable {c:Zau} {x:ZaB} (hx:x.ok)
include hx
theorem pt_le:0<=pt c x/\pt c x<=7:=by
 obtain⟨_,_,h1,h2⟩:=Zuk x.fEnd.fAddr hx.2.1.1 c.fSecret c.fShards;have:ZnZ c.fShards<=8:=by
  unfold ZnZ
  repeat' split
  all_goals omega
 unfold pt;omega
theorem ZKP:ZaA 2 (pt c x)=2+pt c x:=by
 have:=pt_le (c:=c) hx;exact Zeo (by omega) (by omega)
end
def Zza:Pr Zaq:=(keyP 8 0 true).bind fun _=>.ret (Zef 1)
section
variable {c:Zau} {x:ZaB} (hx:x.ok) {l:List Zah} (hl:Gd l)
include hx hl
end
section
variable {c:Zau} {x:ZaB} (hx:x.ok) {l:List Zah} (hl:Gd l)
include hx hl
end
def StrP(l:Prs):Prop:=l.Pairwise fun x y=>ltP x y=true
theorem Zur:∀(n:Nat)(a b:Prs),a.length+b.length<=n->(mrg a b).Perm (a++b)
 | 0,a,b,h=>by
  obtain rfl:=List.eq_nil_of_length_eq_zero (show a.length=0 by omega)
  rw[Zkb];exact List.Perm.refl _
 |n+1,[],b,h=>by rw[Zkb];exact List.Perm.refl _
 |n+1,x :: a,[],h=>by rw[Zqg,List.append_nil]
 |n+1,x :: a,y :: b,h=>by
  simp only[List.length_cons]at h
  cases hc:ltP y x with
  |true=>
   rw[Zvj _ _ hc]
   refine((Zur n (x :: a) b (by simp only[List.length_cons];omega)).cons y).trans ?_
   exact List.perm_middle.symm
  |false=>
   rw[Zvk _ _ hc]
   exact(Zur n a (y :: b) (by simp only[List.length_cons];omega)).cons x
theorem ZEA(l:Prs):(ZpE l).Perm l:=by
 have:∀n,n<=l.length->(ZpE (l.take n)).Perm (l.take n):=by
  intro n;induction n with
  |zero=>intro _;simp[ZpE]
  |succ n ih=>
   intro h;rw[List.take_succ_eq_append_getElem (show n<l.length by omega),Zsx];exact(Zur _ _ _ (Nat.le_refl _)).trans ((ih (by omega)).append_right _)
 have h:=this l.length (Nat.le_refl _);rwa [List.take_length]at h
theorem ZwV:∀(m l:Prs),SrtP l->StrP m->l.Perm m->l=m
 | [],l,_,_,h=>List.perm_nil.1 h
 |y :: m,l,hl,hm,h=>by
  cases l with
  |nil=>exact absurd h.length_eq (by simp)
  |cons x l=>
   have gC:=List.pairwise_cons.1 hl
   have hm':=List.pairwise_cons.1 hm
   by_cases e:x=y
   .subst e
    rw[ZwV m l gC.2 hm'.2 h.cons_inv]
   .have h1:y∈x :: l:=h.symm.subset (by simp)
    have h2:x∈y :: m:=h.subset (by simp)
    rcases List.mem_cons.1 h1 with h1|h1
    .exact absurd h1.symm e
    .rcases List.mem_cons.1 h2 with h2|h2
     .exact absurd h2 e
     .have q1:=gC.1 y h1
      have q2:=hm'.1 x h2
      rw[q1]at q2;cases q2
theorem ZAa{xs l:Prs}(hl:StrP l)(h:xs.Perm l):ZpE xs=l:=ZwV l _ (ZAb xs) hl ((ZEA xs).trans h)
theorem StrP.filter{l:Prs}(h:StrP l)(p:Zab->Bool):StrP (l.filter p):=List.Pairwise.filter p h
theorem StrP.inj{l:Prs}(h:StrP l){x y:Zab}(hx:x∈l)(hy:y∈l)(e:x.fEnd=y.fEnd):x=y:=by
 induction l with
 |nil=>cases hx
 |cons z l ih=>
  have hz:=List.pairwise_cons.1 h;have key:∀{w},w∈l->w.fEnd≠z.fEnd:=fun{w} hw ew=>by
   have:=Zqj.1 (hz.1 w hw);rw[ZmQ.2 ew.symm]at this;omega
  rcases List.mem_cons.1 hx with h1|h1<;>rcases List.mem_cons.1 hy with h2|h2
  .rw[h1,h2]
  .exact absurd (by rw[<-e,h1]) (key h2)
  .exact absurd (by rw[e,h2]) (key h1)
  .exact ih hz.2 h1 h2
theorem ZCO{a:Zai}(h:a.ok)(s n:Int):0<=Zmo a s n/\Zmo a s n<(ZaT n:Int):=by
 obtain⟨_,_,h1,h2⟩:=Zuk a h s n;have:ZnZ n=(ZaT n:Int):=by
  unfold ZnZ ZaT
  repeat' split
  all_goals omega
 omega
def Zpx(sec nsh:Int)(k:Nat)(p:Zab):Bool:=decide (Zmo p.fEnd.fAddr sec nsh=(k:Int))
def ZjV(l:Prs)(sec nsh:Int)(k:Nat):Prs:=l.filter (Zpx sec nsh k)
def shF(a b:Prs):Zad:=⟨(a.length:Int),a++b⟩
abbrev PPs:=List (Prs×Prs)
def shP(ps:PPs):List Zad:=ps.map fun x=>shF x.1 x.2
theorem ZoI(ps:PPs):(shP ps).length=ps.length:=by simp[shP]
theorem ZBn(ps:PPs){i:Nat}(hi:i<ps.length):(shP ps).getD i Zad.d=shF (ps.getD i ([],[])).1 (ps.getD i ([],[])).2:=by
 simp[shP,List.getD_eq_getElem?_getD,hi]
theorem ZJL(ps:PPs)(i:Nat)(a b:Prs):(shP ps).set i (shF a b)=shP (ps.set i (a,b)):=by
 simp[shP,List.map_set]
def ps0(l:Prs)(sec nsh:Int)(n:Nat):PPs:=(List.range n).map fun k=>(ZjV l sec nsh k,[])
theorem Ztl(l:Prs)(sec nsh:Int)(n:Nat):(ps0 l sec nsh n).length=n:=by simp[ps0]
theorem ZJW(l:Prs)(sec nsh:Int){n i:Nat}(hi:i<n):(ps0 l sec nsh n).getD i ([],[])=(ZjV l sec nsh i,[]):=by
 simp[ps0,List.getD_eq_getElem?_getD,hi]
theorem ZAo{α:Type}(p q:α->Bool):∀(l:List α),(∀x∈l,p x=true->q x=false)->(l.filter p++l.filter q).Perm (l.filter fun x=>p x||q x)
 | [],_=>by simp
 |x :: l,h=>by
  have ih:=ZAo p q l fun y hy=>h y (List.mem_cons_of_mem _ hy)
  have hx:=h x (by simp)
  cases hp:p x with
  |true=>
   rw[List.filter_cons_of_pos hp,List.filter_cons_of_neg (by simp[hx hp]),List.filter_cons_of_pos (by simp[hp])]
   exact ih.cons x
  |false=>
   rw[List.filter_cons_of_neg (by simp[hp])]
   cases hq:q x with
   |true=>
    rw[List.filter_cons_of_pos hq,List.filter_cons_of_pos (by simp[hq])]
    exact List.perm_middle.trans (ih.cons x)
   |false=>
    rw[List.filter_cons_of_neg (by simp[hq]),List.filter_cons_of_neg (by simp[hp,hq])]
    exact ih
theorem Zxi(l:Prs)(sec nsh:Int):∀(n:Nat),(((List.range n).map (ZjV l sec nsh)).flatten).Perm (l.filter fun p=>decide (0<=Zmo p.fEnd.fAddr sec nsh/\Zmo p.fEnd.fAddr sec nsh<(n:Int)))
 | 0=>by
  have:(l.filter fun p=>decide (0<=Zmo p.fEnd.fAddr sec nsh/\Zmo p.fEnd.fAddr sec nsh<((0:Nat):Int)))=[]:=by
   rw[List.filter_eq_nil_iff];intro p _;simp only[decide_eq_true_eq];omega
  rw[this];simp
 |n+1=>by
  rw[List.range_succ,List.map_append,List.flatten_append];simp only[List.map_cons,List.map_nil,List.flatten_cons,List.flatten_nil,List.append_nil];refine((Zxi l sec nsh n).append_right _).trans ?_;unfold ZjV;refine(ZAo _ _ l fun p _ h=>?_).trans ?_
  .simp only[Zpx,decide_eq_true_eq,decide_eq_false_iff_not]at h ⊢;omega
  .have:(l.filter fun x=>(decide (0<=Zmo x.fEnd.fAddr sec nsh/\Zmo x.fEnd.fAddr sec nsh<(n:Int))||Zpx sec nsh n x))=l.filter fun p=>decide (0<=Zmo p.fEnd.fAddr sec nsh/\Zmo p.fEnd.fAddr sec nsh<((n+1:Nat):Int)):=by
    apply List.filter_congr;intro p _;unfold Zpx;rw[Bool.eq_iff_iff];simp only[Bool.or_eq_true,decide_eq_true_eq];omega
   rw[this]
theorem Zlj{l:Prs}(hok:∀p∈l,p.ok)(sec nsh:Int):((ps0 l sec nsh (ZaT nsh)).map (·.1)).flatten.Perm l:=by
 have h:=Zxi l sec nsh (ZaT nsh);have e:(l.filter fun p=>decide (0<=Zmo p.fEnd.fAddr sec nsh/\Zmo p.fEnd.fAddr sec nsh<(ZaT nsh:Int)))=l:=by
  rw[List.filter_eq_self];intro p hp;simp only[decide_eq_true_eq];exact ZCO (hok p hp).1.1 sec nsh
 rw[e]at h;have e2:(ps0 l sec nsh (ZaT nsh)).map (·.1)=(List.range (ZaT nsh)).map (ZjV l sec nsh):=by simp[ps0]
 rw[e2];exact h
def Zrw(L:List Prs)(i:Nat):Prs:=(L.take i).flatten++(L.drop (i+1)).flatten
theorem ZGy(L:List Prs){i:Nat}(hi:i<L.length):L.flatten.Perm (L.getD i []++Zrw L i):=by
 have e:L=L.take i++L.getD i [] :: L.drop (i+1):=by rw[<-ZdK L [] i hi,List.take_append_drop]
 conv=>lhs;rw[e]
 rw[List.flatten_append,List.flatten_cons];unfold Zrw;rw[<-List.append_assoc,<-List.append_assoc];exact(List.perm_append_comm).append_right _
theorem ZEr(L:List Prs)(i:Nat)(x:Prs):Zrw (L.set i x) i=Zrw L i:=by
 unfold Zrw;rw[List.take_set_of_le (Nat.le_refl i),List.drop_set_of_lt (by omega)]
theorem ZIr(L:List Prs){i:Nat}(hi:i<L.length)(x:Prs):(L.set i x).flatten.Perm (x++Zrw L i):=by
 have h:=ZGy (L.set i x) (i:=i) (by simpa using hi);rw[ZxT L _ hi,ZEr]at h;exact h
theorem ZDZ(l:Prs)(sec nsh:Int)(hl:l.length<=1000)(hok:∀p∈l,p.ok):ZfQ l sec nsh=some (shP (ps0 l sec nsh (ZaT nsh))):=by
 have h8:=ZgD nsh;have dE:∀(v8:Nat)(w7:List Zad)(kg:Int->List Zad->Option (List Zad)),w7.length<=100->v8<=100->∀(k i fu:Nat),l.length-i=k->i<=l.length->k+1<=fu ->
   ZbZ l sec nsh (v8:Int) kg fu (i:Int) w7 (((ZjV (l.take i) sec nsh v8).length:Nat):Int) (ZjV (l.take i) sec nsh v8)=kg ((v8+1:Nat):Int) (w7++[shF (ZjV l sec nsh v8) []]):=by
  intro v8 w7 kg hw hv k;induction k with
  |zero=>
   intro i fu hk hi hf;obtain⟨fu,rfl⟩ : ∃x,fu=x+1:=⟨fu-1,by omega⟩;have e1:ZaA (v8:Int) 1=((v8+1:Nat):Int):=add1 (n:=v8+1) (by omega) (by simp only[maxLen];omega);unfold ZbZ;rw[Zam,if_neg (by omega),List.take_of_length_le (by omega),Zax ⟨by simp;omega,by simp[maxLen];omega⟩,e1];unfold shF;rw[List.append_nil]
  |succ k ih=>
   intro i fu hk hi hf;obtain⟨fu,rfl⟩ : ∃x,fu=x+1:=⟨fu-1,by omega⟩;have cm:i<l.length:=by omega
   have e1:ZaA (i:Int) 1=((i+1:Nat):Int):=add1 (n:=i+1) (by omega) (by simp only[maxLen];omega);have hle:(ZjV (l.take i) sec nsh v8).length<=i:=by
    have:=List.length_filter_le (Zpx sec nsh v8) (l.take i);simp only[List.length_take]at this;unfold ZjV;omega
   have dg:l.take (i+1)=l.take i++[l.getD i Zab.d]:=by rw[List.take_succ_eq_append_getElem cm,Zdw l _ i cm]
   have hp:=(Zuk (l.getD i Zab.d).fEnd.fAddr (hok _ (Zeu l _ i cm)).1.1 sec nsh).2.1;unfold ZbZ;rw[Zam,if_pos (by omega),Zax ⟨by omega,by omega⟩,Int.toNat_natCast,hp,ZaK,ZcM];have e2:∀(b:Bool),Zpx sec nsh v8 (l.getD i Zab.d)=b->ZjV (l.take (i+1)) sec nsh v8=ZjV (l.take i) sec nsh v8++(if b=true then[l.getD i Zab.d]else[]):=by
    intro b hb;unfold ZjV;rw[dg,List.filter_append];cases b with
    |true=>rw[List.filter_cons_of_pos hb];rfl
    |false=>rw[List.filter_cons_of_neg (by rw[hb];decide)];rfl
   by_cases h:Zmo (l.getD i Zab.d).fEnd.fAddr sec nsh=(v8:Int)
   .rw[if_pos h,Zax ⟨by simp only[List.length_append,List.length_singleton];omega,by simp only[List.length_append,List.length_singleton,maxLen];omega⟩,e1];have e3:ZaA (((ZjV (l.take i) sec nsh v8).length:Nat):Int) 1=(((ZjV (l.take i) sec nsh v8).length+1:Nat):Int):=add1 (n:=(ZjV (l.take i) sec nsh v8).length+1) (by omega) (by simp only[maxLen];omega);have:=ih (i+1) fu (by omega) (by omega) (by omega);rw[e2 true (by unfold Zpx;rw[decide_eq_true_eq];exact h)]at this;simp only[if_true,List.length_append,List.length_singleton]at this;rw[e3];exact this
   .rw[if_neg h,e1];have:=ih (i+1) fu (by omega) (by omega) (by omega);rw[e2 false (by unfold Zpx;rw[decide_eq_false_iff_not];exact h)]at this;simp only[Bool.false_eq_true,if_false,List.append_nil]at this;exact this
 have fB:∀(k i fu:Nat),ZaT nsh-i=k->i<=ZaT nsh->k+1<=fu->ZbO l sec nsh fu (i:Int) (shP (ps0 l sec nsh i))=some (shP (ps0 l sec nsh (ZaT nsh))):=by
  intro k;induction k with
  |zero=>
   intro i fu hk hi hf;obtain⟨fu,rfl⟩ : ∃x,fu=x+1:=⟨fu-1,by omega⟩;have:i=ZaT nsh:=by omega
   subst this;unfold ZbO;rw[Zxh,ZaK,Zam,if_neg (by omega)]
  |succ k ih=>
   intro i fu hk hi hf;obtain⟨fu,rfl⟩ : ∃x,fu=x+1:=⟨fu-1,by omega⟩;unfold ZbO;rw[Zxh,ZaK,Zam,if_pos (by omega)];have h:=dE i (shP (ps0 l sec nsh i)) (ZbO l sec nsh fu) (by rw[ZoI,Ztl];omega) (by omega) l.length 0 ((((l.length:Nat):Int)-(0:Int)).toNat+2) (by omega) (by omega) (by omega);have e0:ZjV (l.take 0) sec nsh i=[]:=by simp[ZjV]
   rw[e0]at h;have e:shP (ps0 l sec nsh i)++[shF (ZjV l sec nsh i) []]=shP (ps0 l sec nsh (i+1)):=by
    unfold shP ps0;rw[List.range_succ];simp
   rw[e]at h;refine h.trans ?_;exact ih (i+1) fu (by omega) (by omega) (by omega)
 exact fB (ZaT nsh) 0 1000000 (by omega) (by omega) (by omega)
theorem ZJX(a b:Prs)(h:(a++b).length<=10000):ZfR (shF a b)=some a:=by
 have hl:(a++b).length=a.length+b.length:=List.length_append;have aH:∀(k i fu:Nat),a.length-i=k->i<=a.length->k+1<=fu->Zcr fu (i:Int) (a.take i) (shF a b)=some a:=by
  intro k;induction k with
  |zero=>
   intro i fu hk hi hf;obtain⟨fu,rfl⟩ : ∃x,fu=x+1:=⟨fu-1,by omega⟩;unfold Zcr;rw[Zam,if_neg (by show ¬((i:Int)<(a.length:Int));omega),List.take_of_length_le (by omega)]
  |succ k ih=>
   intro i fu hk hi hf;obtain⟨fu,rfl⟩ : ∃x,fu=x+1:=⟨fu-1,by omega⟩;have cm:i<a.length:=by omega
   have e1:ZaA (i:Int) 1=((i+1:Nat):Int):=add1 (n:=i+1) (by omega) (by simp only[maxLen];omega);have e2:(a++b).getD i Zab.d=a.getD i Zab.d:=by simp[List.getD_eq_getElem?_getD,List.getElem?_append_left cm]
   have e3:a.take (i+1)=a.take i++[a.getD i Zab.d]:=by rw[List.take_succ_eq_append_getElem cm,Zdw a _ i cm]
   unfold Zcr;rw[Zam,if_pos (by show (i:Int)<(a.length:Int);omega),Zam,if_pos (by show (i:Int)<(((a++b).length:Nat):Int);omega)];show (need (0<=(i:Int)/\(i:Int)<(((a++b).length:Nat):Int)) _)=_;rw[Zax ⟨by omega,by omega⟩,Int.toNat_natCast];show (need _ _)=_;rw[show (shF a b).fSlots=a++b from rfl,e2,<-e3,Zax ⟨by simp only[List.length_take];omega,by simp only[List.length_take,maxLen];omega⟩,e1];exact ih (i+1) fu (by omega) (by omega) (by omega)
 exact aH a.length 0 1000000 (by omega) (by omega) (by omega)
theorem ZGg(ps:PPs)(h1:ps.length<=100)(h2:∀x∈ps,(x.1++x.2).length<=1000):Zeg (shP ps)=some (ZpE (ps.map (·.1)).flatten):=by
 have hlen:∀i,i<=ps.length->((ps.take i).map (·.1)).flatten.length<=i * 1000:=by
  intro i;induction i with
  |zero=>intro _;simp
  |succ i ih=>
   intro h;have hi:i<ps.length:=by omega
   have:=h2 _ (Zeu ps ([],[]) i hi);rw[List.length_append]at this;rw[List.take_succ_eq_append_getElem hi,List.map_append,List.flatten_append,List.length_append];have e:ps[i]=ps.getD i ([],[]):=(Zdw ps _ i hi).symm;simp only[List.map_cons,List.map_nil,List.flatten_cons,List.flatten_nil,List.append_nil,e];have:=ih (by omega);omega
 have aH:∀(k i fu:Nat),ps.length-i=k->i<=ps.length->k+1<=fu->ZcC (shP ps) fu (i:Int) ((ps.take i).map (·.1)).flatten=some (ZpE (ps.map (·.1)).flatten):=by
  intro k;induction k with
  |zero=>
   intro i fu hk hi hf;obtain⟨fu,rfl⟩ : ∃x,fu=x+1:=⟨fu-1,by omega⟩;have:=hlen ps.length (Nat.le_refl _);rw[List.take_length]at this;unfold ZcC;rw[ZoI,Zam,if_neg (by omega),List.take_of_length_le (by omega),ZEj _ (by omega)];rfl
  |succ k ih=>
   intro i fu hk hi hf;obtain⟨fu,rfl⟩ : ∃x,fu=x+1:=⟨fu-1,by omega⟩;have cm:i<ps.length:=by omega
   have e1:ZaA (i:Int) 1=((i+1:Nat):Int):=add1 (n:=i+1) (by omega) (by simp only[maxLen];omega);have h3:=h2 _ (Zeu ps ([],[]) i cm);have e3:((ps.take i).map (·.1)).flatten++(ps.getD i ([],[])).1=((ps.take (i+1)).map (·.1)).flatten:=by
    rw[List.take_succ_eq_append_getElem cm,List.map_append,List.flatten_append,Zdw ps _ i cm];simp
   have h4:=hlen (i+1) (by omega);unfold ZcC;rw[ZoI,Zam,if_pos (by omega),Zax ⟨by omega,by omega⟩,Int.toNat_natCast,ZBn ps cm,ZJX _ _ (by omega),ZaK,e3,Zax ⟨by omega,by unfold maxLen;omega⟩,e1];exact ih (i+1) fu (by omega) (by omega) (by omega)
 unfold Zeg;have:=aH ps.length 0 ((((shP ps).length:Nat)-(0:Int)).toNat+2) (by omega) (by omega) (by rw[ZoI];omega);simpa using this
theorem ZHj{ah out:Int}{bans fC:List Zaf}{book fD:List Zaa}{sh:List Zad}{n:Nat}(hn:n<=100){peers:Prs}(hp:peers.length<=1000){d:Int}(h1:ah=cntP peers true)(h2:out=d) :
  Zgv (memM ah out bans book sh n fun _=>ZhK) ⟨fC,fD,peers⟩ d=some true:=by
 have c1:∀(kg:Int->Int->ZaC->Zas->Option Bool)(v8:Int)(k i fu:Nat),n+2-i=k->i<=n+2->k+1<=fu->ZcF d ah v8 (memM ah out bans book sh n fun _=>ZhK) ⟨fC,fD,peers⟩ kg fu (i:Int)=some true:=by
  intro kg v8 k;induction k with
  |zero=>
   intro i fu hk hi hf;obtain⟨fu,rfl⟩ : ∃x,fu=x+1:=⟨fu-1,by omega⟩;unfold ZcF;show (bif(decide ((i:Int)<(((lks n fun _=>ZhK).length:Nat):Int)))then _ else _)=_;rw[Zvn,Zam,if_neg (by omega)];show (bif(ah==ah)then some (out==d)else some false)=_;rw[beq_self_eq_true,cond_true,h2,beq_self_eq_true]
  |succ k ih=>
   intro i fu hk hi hf;obtain⟨fu,rfl⟩ : ∃x,fu=x+1:=⟨fu-1,by omega⟩;have e1:ZaA (i:Int) 1=((i+1:Nat):Int):=add1 (n:=i+1) (by omega) (by simp only[maxLen];omega);unfold ZcF;show (bif(decide ((i:Int)<(((lks n fun _=>ZhK).length:Nat):Int)))then _ else _)=_;rw[Zvn,Zam,if_pos (by omega)];show (need (0<=(i:Int)/\(i:Int)<(((lks n fun _=>ZhK).length:Nat):Int)) _)=_;rw[Zvn,Zax ⟨by omega,by omega⟩,Int.toNat_natCast];show (bif(((lks n fun _=>ZhK).getD i Zat.d).fBy != 0)then _ else _)=_;rw[ZBE _ (by omega)];show (bif(decide (((((lks n fun _=>ZhK).getD i Zat.d).fShare.length:Nat):Int)>0))then _ else _)=_;rw[ZBE _ (by omega),e1];exact ih (i+1) fu (by omega) (by omega) (by omega)
 have c0:∀(k i fu:Nat),peers.length-i=k->i<=peers.length->k+1<=fu->ZbL d fu (cntP (peers.take i) true) (i:Int) (memM ah out bans book sh n fun _=>ZhK) ⟨fC,fD,peers⟩=some true:=by
  intro k;induction k with
  |zero=>
   intro i fu hk hi hf;obtain⟨fu,rfl⟩ : ∃x,fu=x+1:=⟨fu-1,by omega⟩;unfold ZbL;rw[Zam,if_neg (by show ¬((i:Int)<((peers.length:Nat):Int));omega),List.take_of_length_le (by omega),<-h1];exact c1 _ _ (n+2) 0 1000000 (by omega) (by omega) (by omega)
  |succ k ih=>
   intro i fu hk hi hf;obtain⟨fu,rfl⟩ : ∃x,fu=x+1:=⟨fu-1,by omega⟩;have cm:i<peers.length:=by omega
   have e1:ZaA (i:Int) 1=((i+1:Nat):Int):=add1 (n:=i+1) (by omega) (by simp only[maxLen];omega);have e3:peers.take (i+1)=peers.take i++[peers.getD i Zab.d]:=by rw[List.take_succ_eq_append_getElem cm,Zdw peers _ i cm]
   have hc:=Zwa (peers.take i) true;have e4:cntP (peers.take (i+1)) true=cntP (peers.take i) true+(if(peers.getD i Zab.d).fIn=true then 1 else 0):=by
    unfold cntP;rw[e3,List.countP_append];generalize peers.getD i Zab.d=q;cases h:q.fIn<;>simp[h]
   have hl:(peers.take i).length<=1000:=by simp;omega
   unfold ZbL;rw[Zam,if_pos (by show (i:Int)<((peers.length:Nat):Int);omega)];show (need (0<=(i:Int)/\(i:Int)<((peers.length:Nat):Int)) _)=_;rw[Zax ⟨by omega,by omega⟩,Int.toNat_natCast,e1];have:=ih (i+1) fu (by omega) (by omega) (by omega);rw[e4]at this;show (bif(peers.getD i Zab.d).fIn then _ else _)=_;cases hin:(peers.getD i Zab.d).fIn with
   |true=>
    rw[hin,if_pos rfl]at this;rw[cond_true,Zeo (by omega) (by omega)];exact this
   |false=>
    rw[hin,if_neg (by decide),Int.add_zero]at this;rw[cond_false];exact this
 have:=c0 peers.length 0 1000000 (by omega) (by omega) (by omega);have e0:cntP (peers.take 0) true=0:=by simp[cntP]
 rw[e0]at this;exact this
theorem ZId(c:Zau)(s:Zas)(hok:∀p∈s.fPeers,p.ok)(h1:s.fPeers.length<=100)(h2:s.fBook.length<=100) :
  ZgS c s=some (memM (cntP s.fPeers true) (cntP s.fPeers false+Zcz s.fBook 2) s.fBans s.fBook (shP (ps0 s.fPeers c.fSecret c.fShards (ZaT c.fShards))) (ZaT c.fShards) fun _=>ZhK):=by
 have h8:=ZgD c.fShards;have hc:=Zwa s.fPeers false;have hb:0<=Zcz s.fBook 2/\Zcz s.fBook 2<=100:=by
  unfold Zcz;have:=List.countP_le_length (p:=fun x:Zaa=>decide (x.fState=2)) (l:=s.fBook);omega
 have e2:ZaA ((ZaT c.fShards:Nat):Int) 2=((ZaT c.fShards+2:Nat):Int):=by rw[Zeo (by omega) (by omega)];omega
 unfold ZgS;rw[ZoK _ _ (by unfold maxLen;omega),ZaK,ZoK _ _ (by unfold maxLen;omega),ZaK,ZzB _ _ (by unfold maxLen;omega),ZaK,ZDZ _ _ _ (by omega) hok,ZaK];simp only[ZoI,Ztl,e2];rw[Zax ⟨by omega,by omega,by omega,by omega⟩,Zeo (by omega) (by omega)];have e3:List.replicate ((ZaT c.fShards+2:Nat):Int).toNat Zat.d=lks (ZaT c.fShards) fun _=>ZhK:=by
  rw[Int.toNat_natCast];apply List.ext_getElem
  .simp[lks]
  .intro i h1 h2;simp[lks];rfl
 rw[e3];rfl
theorem ZDX{ah out:Int}{bans:List Zaf}{book:List Zaa}{ps:PPs}{n:Nat}{f:Nat->Zat}(h1:ps.length<=100)(h2:∀x∈ps,(x.1++x.2).length<=1000){peers:Prs}(hp:StrP peers)(j7:((ps.map (·.1)).flatten).Perm peers) :
  ZeD (memM ah out bans book (shP ps) n f)=some ⟨bans,book,peers⟩:=by
 unfold ZeD;show ((Zeg (shP ps)).bind fun x1=>some (Zas.mk bans book x1))=_;rw[ZGg ps h1 h2,ZaK,ZAa hp j7]
theorem Zwu(s:Zas)(h1:s.fBans.length<=1000000)(h2:s.fBook.length<=1000000)(h3:s.fPeers.length<=1000000):Zfc s s=some true:=by
 unfold Zfc;rw[ZxW _ h1,ZaK,cond_true,ZxV _ h2,ZaK,cond_true,Zrt _ h3];rfl
theorem ZqG(s:Zas)(h1:s.fPeers.length<=1000)(h2:s.fBook.length<=1000):ZcB s=some (cntP s.fPeers false+Zcz s.fBook 2):=by
 have hc:=Zwa s.fPeers false;have hb:0<=Zcz s.fBook 2/\Zcz s.fBook 2<=1000:=by
  unfold Zcz;have:=List.countP_le_length (p:=fun x:Zaa=>decide (x.fState=2)) (l:=s.fBook);omega
 unfold ZcB;rw[ZoK _ _ (by unfold maxLen;omega),ZaK,ZzB _ _ (by unfold maxLen;omega),ZaK,Zeo (by omega) (by omega)]
theorem ZBH(n a b:Int):Zbm n a b=some (decide (n>=a)&&decide (n<=b)):=by
 unfold Zbm;cases decide (n>=a)<;>rfl
theorem ZyH{α:Type}{c:Bool}{x y:Option α}(h1:∃b,x=some b)(h2:∃b,y=some b):∃b,(bif c then x else y)=some b:=by
 cases c
 .exact h2
 .exact h1
theorem ZJR(c:Zau):∃b,Zdn c=some b:=by
 unfold Zdn;simp only[ZbQ,Zct,ZBH,ZaK]
 repeat' first|exact⟨_,rfl⟩|apply ZyH
theorem ZEg(c:Zau):ZbQ false c=some false:=by
 simp[ZbQ,Zct,ZBH]
theorem ZCI{c:Zau}(h:Zdn c=some true):1<=c.fShards/\c.fShards<=8:=by
 unfold Zdn at h;simp only[ZBH,ZaK,ZEg]at h;cases h1:(decide (c.fMaxIn>=0)&&decide (c.fMaxIn<=65535))with
 |false=>rw[h1]at h;simp at h
 |true=>
  rw[h1,cond_true]at h;cases h2:(decide (c.fMaxOut>=0)&&decide (c.fMaxOut<=65535))with
  |false=>rw[h2]at h;simp at h
  |true=>
   rw[h2,cond_true]at h;cases h3:(decide (c.fShards>=1)&&decide (c.fShards<=8))with
   |false=>rw[h3]at h;simp at h
   |true=>
    rw[Bool.and_eq_true,decide_eq_true_eq,decide_eq_true_eq]at h3;omega
theorem ZJS(p:Zab)(h:p.ok):∃b,ZfU p=some b:=by
 unfold ZfU;rw[Zqa _ h.1,ZaK]
 repeat' first|exact⟨_,rfl⟩|apply ZyH
theorem ZJQ(l:Prs)(hl:l.length<=1000)(hok:∀p∈l,p.ok):∃b,Zhn l=some b/\(b=true->StrP l):=by
 have dE:∀(v3:Nat)(kg:Int->Option Bool)(Q:Prop),v3<l.length->(∃b,kg ((v3+1:Nat):Int)=some b/\(b=true->Q))->∀(k i fu:Nat),v3-i=k->i<=v3->k+1<=fu ->
   ∃b,Zcs l (v3:Int) kg fu (i:Int)=some b/\(b=true->Q/\∀j,i<=j->j<v3->cmpE (l.getD j Zab.d).fEnd (l.getD v3 Zab.d).fEnd<0):=by
  intro v3 kg Q hv hkg k;induction k with
  |zero=>
   intro i fu hk hi hf;obtain⟨fu,rfl⟩ : ∃x,fu=x+1:=⟨fu-1,by omega⟩;have e1:ZaA (v3:Int) 1=((v3+1:Nat):Int):=add1 (n:=v3+1) (by omega) (by simp only[maxLen];omega);unfold Zcs;rw[Zam,if_neg (by omega),e1];obtain⟨b,h1,h2⟩:=hkg;exact⟨b,h1,fun hb=>⟨h2 hb,fun j h3 h4=>by omega⟩⟩
  |succ k ih=>
   intro i fu hk hi hf;obtain⟨fu,rfl⟩ : ∃x,fu=x+1:=⟨fu-1,by omega⟩;have e1:ZaA (i:Int) 1=((i+1:Nat):Int):=add1 (n:=i+1) (by omega) (by simp only[maxLen];omega);unfold Zcs;rw[Zam,if_pos (by omega),Zax ⟨by omega,by omega⟩,Zax ⟨by omega,by omega⟩,Int.toNat_natCast,Int.toNat_natCast,Zsg,ZaK,Zam,e1];by_cases h:cmpE (l.getD i Zab.d).fEnd (l.getD v3 Zab.d).fEnd>=0
   .rw[if_pos h];exact⟨_,rfl,fun e=>by cases e⟩
   .rw[if_neg h];obtain⟨b,h1,h2⟩:=ih (i+1) fu (by omega) (by omega) (by omega);refine⟨b,h1,fun hb=>⟨(h2 hb).1,fun j h3 h4=>?_⟩⟩;by_cases hj:j=i
    .subst hj;omega
    .exact(h2 hb).2 j (by omega) h4
 have fB:∀(k i fu:Nat),l.length-i=k->i<=l.length->k+1<=fu->∃b,ZbP l fu (i:Int)=some b/\(b=true->∀q j,i<=q->j<q->q<l.length->cmpE (l.getD j Zab.d).fEnd (l.getD q Zab.d).fEnd<0):=by
  intro k;induction k with
  |zero=>
   intro i fu hk hi hf;obtain⟨fu,rfl⟩ : ∃x,fu=x+1:=⟨fu-1,by omega⟩;unfold ZbP;rw[Zam,if_neg (by omega)];exact⟨_,rfl,fun _ q j h1 h2 h3=>by omega⟩
  |succ k ih=>
   intro i fu hk hi hf;obtain⟨fu,rfl⟩ : ∃x,fu=x+1:=⟨fu-1,by omega⟩;obtain⟨b1,bk⟩:=ZJS _ (hok _ (Zeu l Zab.d i (by omega)));unfold ZbP;rw[Zam,if_pos (by omega),Zax ⟨by omega,by omega⟩,Int.toNat_natCast,bk,ZaK];cases b1 with
   |false=>exact⟨_,rfl,fun e=>by cases e⟩
   |true=>
    rw[Bool.not_true,cond_false];obtain⟨b,h1,h2⟩:=dE i (ZbP l fu) _ (by omega) (ih (i+1) fu (by omega) (by omega) (by omega)) i 0 (((i:Int)-(0:Int)).toNat+2) (by omega) (by omega) (by omega);refine⟨b,h1,fun hb q j h3 h4 h5=>?_⟩;obtain⟨h6,h7⟩:=h2 hb;by_cases hq:q=i
    .subst hq;exact h7 j (Nat.zero_le _) h4
    .exact h6 q j (by omega) h4 h5
 obtain⟨b,h1,h2⟩:=fB l.length 0 ((((l.length:Nat):Int)-(0:Int)).toNat+2) (by omega) (by omega) (by omega);refine⟨b,h1,fun hb=>?_⟩;unfold StrP;rw[List.pairwise_iff_getElem];intro j q hj hq hlt;have:=h2 hb q j (Nat.zero_le _) hlt hq;rw[Zdw l _ j hj,Zdw l _ q hq]at this;exact Zqj.2 this
def upR(l:Prs)(e:Zaa):Prop:=e.fState=3↔0<=ZkJ l e.fEnd/\(l.getD (ZkJ l e.fEnd).toNat Zab.d).fIn=false
structure RtS (c:Zau) (s:Zas):Prop where
 conf:Zdn c=some true
 peers:StrP s.fPeers
 book:Zxb s.fBook=true
 up:∀e∈s.fBook,upR s.fPeers e
theorem ZJP(c:Zau)(s:Zas)(hs:s.ok)(h1:s.fBans.length<=20)(h2:s.fBook.length<=20)(h3:s.fPeers.length<=20):∃b,ZfN c s=some b/\(b=true->RtS c s):=by
 obtain⟨⟨_,okb⟩,⟨_,oke⟩,⟨_,okp⟩,_⟩:=hs;have c1:∀(v5:Int)(kg:Int->Zas->Option Bool)(k i fu:Nat),s.fPeers.length-i=k->i<=s.fPeers.length->k+1<=fu->∃b,ZbY v5 s kg fu (i:Int)=some b:=by
  intro v5 kg k;induction k with
  |zero=>
   intro i fu hk hi hf;obtain⟨fu,rfl⟩ : ∃x,fu=x+1:=⟨fu-1,by omega⟩;unfold ZbY;rw[Zam,if_neg (by omega)];exact⟨_,rfl⟩
  |succ k ih=>
   intro i fu hk hi hf;obtain⟨fu,rfl⟩ : ∃x,fu=x+1:=⟨fu-1,by omega⟩;have e1:ZaA (i:Int) 1=((i+1:Nat):Int):=add1 (n:=i+1) (by omega) (by simp only[maxLen];omega);unfold ZbY;rw[Zam,if_pos (by omega),Zax ⟨by omega,by omega⟩,Int.toNat_natCast,e1,Zsf _ _ (by unfold maxLen;omega),ZaK];exact ZyH (ZyH ⟨_,rfl⟩ (ih (i+1) fu (by omega) (by omega) (by omega))) (ih (i+1) fu (by omega) (by omega) (by omega))
 have c0:∀(k i fu:Nat),s.fBook.length-i=k->i<=s.fBook.length->k+1<=fu->∃b,Zbt fu (i:Int) s=some b/\(b=true->∀j,i<=j->j<s.fBook.length->upR s.fPeers (s.fBook.getD j Zaa.d)):=by
  intro k;induction k with
  |zero=>
   intro i fu hk hi hf;obtain⟨fu,rfl⟩ : ∃x,fu=x+1:=⟨fu-1,by omega⟩;unfold Zbt;rw[Zam,if_neg (by omega)];obtain⟨b,hb⟩:=c1 (i:Int) (Zbt fu) s.fPeers.length 0 1000000 (by omega) (by omega) (by omega);exact⟨b,hb,fun _ j h4 h5=>by omega⟩
  |succ k ih=>
   intro i fu hk hi hf;obtain⟨fu,rfl⟩ : ∃x,fu=x+1:=⟨fu-1,by omega⟩;have e1:ZaA (i:Int) 1=((i+1:Nat):Int):=add1 (n:=i+1) (by omega) (by simp only[maxLen];omega);obtain⟨b,bk,bi⟩:=ih (i+1) fu (by omega) (by omega) (by omega);have hlt:=ZIs s.fPeers (s.fBook.getD i Zaa.d).fEnd;have bC:∀{P:Prop},(P↔upR s.fPeers (s.fBook.getD i Zaa.d))->P->b=true->∀j,i<=j->j<s.fBook.length->upR s.fPeers (s.fBook.getD j Zaa.d):=fun hP hp hb j h4 h5=>by
    by_cases hj:j=i
    .subst hj;exact hP.1 hp
    .exact bi hb j (by omega) h5
   unfold Zbt;rw[Zam,if_pos (by omega),Zax ⟨by omega,by omega⟩,Int.toNat_natCast,e1,ZpZ _ _ (by unfold maxLen;omega),ZaK,Zam];by_cases hf0:ZkJ s.fPeers (s.fBook.getD i Zaa.d).fEnd>=0
   .rw[if_pos hf0,Zax ⟨hf0,hlt⟩];cases hq:(((s.fBook.getD i Zaa.d).fState==3) == !(s.fPeers.getD (ZkJ s.fPeers (s.fBook.getD i Zaa.d).fEnd).toNat Zab.d).fIn)with
    |false=>exact⟨_,rfl,fun e=>by cases e⟩
    |true=>
     refine⟨b,bk,bC Iff.rfl ?_⟩;rw[beq_iff_eq]at hq;unfold upR;rw[<-beq_iff_eq,hq];generalize (s.fPeers.getD (ZkJ s.fPeers (s.fBook.getD i Zaa.d).fEnd).toNat Zab.d).fIn=z;exact⟨fun h=>⟨hf0,by cases z<;>first|rfl|cases h⟩,fun h=>by rw[h.2];rfl⟩
   .rw[if_neg hf0];cases hq:(((s.fBook.getD i Zaa.d).fState==3)==false)with
    |false=>exact⟨_,rfl,fun e=>by cases e⟩
    |true=>
     refine⟨b,bk,bC Iff.rfl ?_⟩;rw[beq_iff_eq]at hq;unfold upR;rw[<-beq_iff_eq,hq];exact⟨fun h=>(by cases h),fun h=>absurd h.1 hf0⟩
 obtain⟨b1,bk⟩:=ZJR c;obtain⟨b2,bi,_⟩:=ZEk s.fBans (by unfold maxLen;omega) okb;obtain⟨b4,hb4,lS⟩:=ZJQ s.fPeers (by omega) okp;obtain⟨b7,hb7,lT⟩:=c0 s.fBook.length 0 1000000 (by omega) (by omega) (by omega);unfold ZfN;rw[bk,ZaK];cases b1 with
 |false=>exact⟨_,rfl,fun e=>by cases e⟩
 |true=>
  rw[Bool.not_true,cond_false,bi,ZaK];cases b2 with
  |false=>exact⟨_,rfl,fun e=>by cases e⟩
  |true=>
   rw[Bool.not_true,cond_false,Zyf _ (by unfold maxLen;omega) oke,ZaK];cases hb3:Zxb s.fBook with
   |false=>exact⟨_,rfl,fun e=>by cases e⟩
   |true=>
    rw[Bool.not_true,cond_false,hb4,ZaK];cases b4 with
    |false=>exact⟨_,rfl,fun e=>by cases e⟩
    |true=>
     rw[Bool.not_true,cond_false,ZoK _ _ (by unfold maxLen;omega),ZaK,ZqG _ (by omega) (by omega),ZaK];cases decide (((s.fBans.length:Nat):Int)>c.fMaxBans)with
     |true=>exact⟨_,rfl,fun e=>by cases e⟩
     |false=>
      rw[cond_false];cases decide (((s.fBook.length:Nat):Int)>c.fMaxBook)with
      |true=>exact⟨_,rfl,fun e=>by cases e⟩
      |false=>
       rw[cond_false];cases decide (cntP s.fPeers true>c.fMaxIn)with
       |true=>exact⟨_,rfl,fun e=>by cases e⟩
       |false=>
        rw[cond_false];cases decide (cntP s.fPeers false+Zcz s.fBook 2>c.fMaxOut)with
        |true=>exact⟨_,rfl,fun e=>by cases e⟩
        |false=>
         rw[cond_false];refine⟨b7,hb7,fun hb=>⟨bk,lS rfl,hb3,fun e he=>?_⟩⟩;obtain⟨j,hj,rfl⟩:=List.getElem_of_mem he;have:=lT hb j (Nat.zero_le _) hj;rwa [Zdw s.fBook _ j hj]at this
theorem ZJK(s:Zas):∃b,ZfY s=some b/\(b=true->s.fBans.length<=20/\s.fBook.length<=20/\s.fPeers.length<=20):=by
 unfold ZfY;rw[Zam,Zam];by_cases h1:((s.fBans.length:Nat):Int)<=20
 .rw[if_pos h1];by_cases h2:((s.fBook.length:Nat):Int)<=20
  .rw[if_pos h2];exact⟨_,rfl,fun h=>by rw[decide_eq_true_eq]at h;omega⟩
  .rw[if_neg h2];exact⟨_,rfl,fun e=>by cases e⟩
 .rw[if_neg h1];exact⟨_,rfl,fun e=>by cases e⟩
theorem ZsP{l:Prs}{e:Zan}:ZkJ l e<0↔∀p∈l,p.fEnd≠e:=by
 unfold ZkJ;rw[Zsw];simp
theorem StrP.set{l:Prs}(h:StrP l){k:Nat}(hk:k<l.length){y:Zab}(he:y.fEnd=(l.getD k Zab.d).fEnd):StrP (l.set k y):=by
 unfold StrP at h ⊢;rw[List.pairwise_iff_getElem]at h ⊢;intro i j hi hj hij;simp only[List.length_set]at hi hj;have hh:=Zqj.1 (h i j hi hj hij);rw[Zdw l _ k hk]at he;rw[Zqj];simp only[List.getElem_set];by_cases h1:k=i<;>by_cases h2:k=j
 .omega
 .subst h1;rw[if_pos rfl,if_neg h2,he];exact hh
 .subst h2;rw[if_neg h1,if_pos rfl,he];exact hh
 .rw[if_neg h1,if_neg h2];exact hh
def oneI(b:Bool):Int:=if b=true then 1 else 0
theorem ZAI{a b:Prs}(h:a.Perm b)(t:Bool):cntP a t=cntP b t:=by
 unfold cntP;rw[h.countP_eq]
theorem ZAJ(p:Zab)(l:Prs)(t:Bool):cntP (p :: l) t=oneI (p.fIn==t)+cntP l t:=by
 unfold cntP oneI;rw[List.countP_cons];cases p.fIn==t<;>simp<;>omega
section
variable {l:Prs} {sec nsh:Int} {n i:Nat} (hi:i < n) {e:Zan} (he:Zmo e.fAddr sec nsh = (i:Int))
include hi he
omit hi in
theorem ZHZ{p:Zab}(hp:p∈l)(h:p.fEnd=e):p∈ZjV l sec nsh i:=by
 unfold ZjV;rw[List.mem_filter];exact⟨hp,by unfold Zpx;rw[decide_eq_true_eq,h];exact he⟩
omit hi he in
theorem Zyj{p:Zab}(h:p∈ZjV l sec nsh i):p∈l:=(List.mem_filter.1 h).1
theorem ZFU:(ZkJ (ZjV l sec nsh i) e<0↔ZkJ l e<0):=by
 have _u:=hi;rw[ZsP,ZsP];exact⟨fun h p hp e2=>h p (ZHZ he hp e2) e2,fun h p hp=>h p (Zyj hp)⟩
end
theorem Zxg{l:Prs}(hok:∀p∈l,p.ok)(sec nsh:Int){i:Nat}(hi:i<ZaT nsh)(x b:Prs) :
  (((ps0 l sec nsh (ZaT nsh)).set i (x,b)).map (·.1)).flatten.Perm (x++Zrw ((ps0 l sec nsh (ZaT nsh)).map (·.1)) i)/\l.Perm (ZjV l sec nsh i++Zrw ((ps0 l sec nsh (ZaT nsh)).map (·.1)) i):=by
 have hlen:((ps0 l sec nsh (ZaT nsh)).map (·.1)).length=ZaT nsh:=by simp[ps0]
 have e:((ps0 l sec nsh (ZaT nsh)).set i (x,b)).map (·.1)=((ps0 l sec nsh (ZaT nsh)).map (·.1)).set i x:=by rw[List.map_set]
 have e2:((ps0 l sec nsh (ZaT nsh)).map (·.1)).getD i []=ZjV l sec nsh i:=by simp[ps0,List.getD_eq_getElem?_getD,hi]
 refine⟨by rw[e];exact ZIr _ (by omega) x,?_⟩;have h:=ZGy ((ps0 l sec nsh (ZaT nsh)).map (·.1)) (i:=i) (by omega);rw[e2]at h;exact(Zlj hok sec nsh).symm.trans h
end Go.Proofs.YtdjfoojllbfcgaaGreat
