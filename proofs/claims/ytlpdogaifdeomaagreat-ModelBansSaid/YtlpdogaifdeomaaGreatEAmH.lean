import Derived.Test.YtlpdogaifdeomaaGreatEAmG
namespace Go.Proofs.YtlpdogaifdeomaaGreat
open Go.RowKit
set_option linter.unusedSimpArgs false
set_option linter.unusedVariables false
theorem ZrV{P:Program}(w:World)(t ty e:TypeId)(i:TypeInfo)(z:Value)(size bytes:Nat)(ht:P.underlying t=some (.slice e))(hi:P.info? e=some i)(hz:i.zero=some z)
  (ie:i.size=size) (kG:i.bytes=bytes) (bV:z.cells.size=size) (aX:0<size)
  (v:Value) (n:Nat) (xs:List Value) (bn:w.ownsRow 0 e size v n xs)
  (a:Addr) (m c:Nat) (bq:List Value) (hl:bq.length=m*size) (co:∀j u,bq[j]?=some u->w.cell? (a.add j)=some u) (h1:∀u∈bq,u.oneCell'=true)
  (kO:n+m<=maxLen) (eD:(n+m)*bytes<=140737488355328) :
  ∃v' w',(Builtin.append_ #[t,t] ty #[v,.slice (some a) m c]).run P w=.ok v' w'/\w'.ownsRow 0 e size v' (n+m) (xs++bq)/\w.grownBy w' v.ownBlock /\
   (v'.ownBlock=v.ownBlock\/∀k,v'.ownBlock=some k->w.heap.size<=k)/\w.drawn<=w'.drawn:=by
 obtain⟨v',w',hr,h2,h3,_⟩:=run_append_own (P:=P) w 0 t ty e i z size bytes ht hi hz ie kG bV aX v n xs bn a m c bq hl co h1 kO eD (Nat.zero_le _);refine⟨v',w',hr,h2,h3,?_⟩;subst ie;subst kG
 have lg:n+m<=9223372036854775807:=by simp only[maxLen]at kO;omega
 rcases bn.2 with⟨rfl,rfl⟩|⟨g,cap,cur,rfl,hbg,hg,fX,gT,dy,fi⟩
 .have hx:xs=[]:=List.eq_nil_of_length_eq_zero (by simpa using bn.1);subst hx;by_cases hm:m=0
  .subst hm;rcases h2.2 with⟨rfl,_⟩|⟨g,cap,cur,rfl,_,_,_,_,_,_⟩
   .have eE:(Builtin.append_ #[t,t] ty #[.slice none 0 0,.slice (some a) 0 c]).run P w=.ok (.slice none 0 0) w:=by
     simp[Builtin.append_,run_underlying ht,sizeOf,typeInfo,hi,Builtin.lenOf,Builtin.firstCells,loadCells,loadCellsFrom]
    have:=hr.symm.trans eE;simp only[Result.ok.injEq]at this;exact⟨.inl rfl,by rw[this.2];exact Nat.le_refl _⟩
   .have hn:bq=[]:=List.eq_nil_of_length_eq_zero (by simpa using hl);subst hn;have eE:(Builtin.append_ #[t,t] ty #[.slice none 0 0,.slice (some a) 0 c]).run P w=.ok (.slice none 0 0) w:=by
     simp[Builtin.append_,run_underlying ht,sizeOf,typeInfo,hi,Builtin.lenOf,Builtin.firstCells,loadCells,loadCellsFrom]
    have:=hr.symm.trans eE;simp at this
  .have eE:=run_append_nil (P:=P) w t ty e i z ht hi hz a m c bq hl co (by omega) (by omega) (by have hb:=eD;simp only[Nat.zero_add]at hb;omega);have:=hr.symm.trans eE;simp only[Result.ok.injEq]at this;rw[this.1,this.2];exact⟨.inr fun k hk=>by simp[Value.ownBlock]at hk;omega,Nat.le_succ _⟩
 .by_cases hroom:n+m<=cap
  .have fY:n*i.size+bq.length<=cur.size:=by rw[hl,dy,<-Nat.add_mul];exact Nat.mul_le_mul_right _ hroom
   have eE:=run_append_room (P:=P) w t ty e i ht hi g n cap cur hg a m c bq hl co h1 hroom fY;have:=hr.symm.trans eE;simp only[Result.ok.injEq]at this;rw[this.1,this.2];exact⟨.inl rfl,by simp[World.setRow]⟩
  .have holds:∀j u,xs[j]?=some u->w.cell? ((⟨g,0,none⟩ : Addr).add j)=some u:=bn.cells (g:=g) rfl;have eE:=run_append_grow (P:=P) w t ty e i z ht hi hz ⟨g,0,none⟩ n cap xs bn.1 holds a m c bq hl co (by omega) (by omega) (growslice_fits (by omega) eD);have:=hr.symm.trans eE;simp only[Result.ok.injEq]at this;rw[this.1,this.2];exact⟨.inr fun k hk=>by simp[Value.ownBlock]at hk;omega,Nat.le_succ _⟩
theorem Zvx{P:Program}(w:World)(t ty e:TypeId)(i:TypeInfo)(ht:P.underlying t=some (.slice e))(hi:P.info? e=some i)(a:Option Addr)(n cap c:Nat)(h:n<=cap) :
  (Builtin.append_ #[t,t] ty #[.slice a n cap,.slice none 0 c]).run P w=.ok (.slice a n cap) w:=by
 cases a<;>simp[Builtin.append_,run_underlying ht,sizeOf,typeInfo,hi,Builtin.lenOf,Builtin.firstCells,h,storeCells]
structure Ext (sz len k:Nat) (c cx:Nat->Nat->C) (n:Nat) (c':Nat->Nat->C):Prop where
 num:n=len+k
 old:∀i j,i<len->j<sz->c' i j=c i j
 new:∀i j,i<k->j<sz->c' (len+i) j=cx i j
def ZAG(st:St)(size:Nat):V->Option (Nat×(Nat->Nat->C))
 | .one (.sl sz k c)=>match Nat.beq sz size with
  |true=>some (k,c)
  |false=>none
 | .one (.osl id k)=>match hget st.heap id with
  |some (.rows _ sz len c)=>match Nat.beq sz size with
   |true=>some (len,c)
   |false=>none
  |_=>none
 | .one (.lit (.slice none 0 _))=>some (0,fun _ _=>.junk)
 | .one (.lit (.slice (some _) 0 _))=>some (0,fun _ _=>.junk)
 |_=>none
theorem ZFW{N:Nat}{F:Keep}{S:Nat->Prop}{m:Mp}{st:St}{a:Act}{w:World}(hs:Sim N F S m st a w){size:Nat}{x:V}{px:Value}{k:Nat}{c:Nat->Nat->C}(aX:0<size)(hx:RepV S w m x px)(h:ZAG st size x=some (k,c)) :
  (∃cap,px=.slice none 0 cap/\k=0)\/∃(ad:Addr)(cap:Nat)(bq:List Value),px=.slice (some ad) k cap/\bq.length=k*size/\(∀(j:Nat)(u:Value),bq[j]?=some u->w.cell? (ad.add j)=some u)/\(∀u∈bq,u.oneCell'=true) /\
   ∀i j,i<k->j<size->∃y,bq[i*size+j]?=some y/\RepC S w Zdb (c i j) y:=by
 have aM:∀{len:Nat}{cell:Nat->Nat->C}{pv:Value},RepC S w m (.sl size len cell) pv->∃a cap,pv=.slice a len cap/\((a=none/\len=0)\/∃(ad:Addr)(bq:List Value),a=some ad/\bq.length=len*size/\(∀(j:Nat)(u:Value),bq[j]?=some u->w.cell? (ad.add j)=some u)/\(∀u∈bq,u.oneCell'=true) /\
   ∀i j,i<len->j<size->∃y,bq[i*size+j]?=some y/\RepC S w Zdb (cell i j) y):=by
  intro len cell pv hr;cases hr with
  |sl b off vals hcap ha hc h1 hr=>
   rename_i a cap;refine⟨a,cap,rfl,?_⟩;by_cases hl:0<len
   .obtain⟨rfl,hb⟩:=ha hl;have idx:∀q,q<len*size->q / size<len/\q % size<size/\q / size*size+q % size=q:=by
     intro q hq;refine⟨(Nat.div_lt_iff_lt_mul aX).2 hq,Nat.mod_lt _ aX,?_⟩;rw[Nat.mul_comm];exact Nat.div_add_mod _ _
    refine .inr ⟨⟨b,off,none⟩,(List.range (len*size)).map fun q=>vals (q / size) (q % size),rfl,by simp,fun j u hu=>?_,fun u hu=>?_,fun i j hi hj=>?_⟩
    .simp only[List.getElem?_map,Option.map_eq_some_iff]at hu;obtain⟨q,hq,rfl⟩:=hu;obtain⟨eF,cV⟩:=List.getElem?_eq_some_iff.1 hq;simp at eF cV;subst cV;obtain⟨e1,e2,e3⟩:=idx j eF;rw[ZcS,<-hc _ _ e1 e2];congr 2;omega
    .simp only[List.mem_map,List.mem_range]at hu;obtain⟨q,hq,rfl⟩:=hu;obtain⟨e1,e2,e3⟩:=idx q hq;exact h1 _ _ e1 e2
    .refine⟨vals i j,?_,hr i j hi hj⟩;have hlt:i*size+j<len*size:=by
      have:(i+1)*size<=len*size:=Nat.mul_le_mul_right _ (by omega);rw[Nat.add_mul]at this;omega
     have e1:(i*size+j) / size=i:=by rw[Nat.mul_comm,Nat.mul_add_div aX,Nat.div_eq_of_lt hj,Nat.add_zero]
     have e2:(i*size+j) % size=j:=by rw[Nat.mul_comm,Nat.mul_add_mod,Nat.mod_eq_of_lt hj]
     simp[hlt,e1,e2]
   .have:len=0:=by omega
    subst this;cases a with
    |none=>exact .inl ⟨rfl,rfl⟩
    |some ad=>exact .inr ⟨ad,[],rfl,by simp,fun j u h=>by simp at h,fun u h=>by simp at h,fun i j h=>absurd h (by omega)⟩
 unfold ZAG at h;split at h
 .rename_i sz k' c';split at h
  .rename_i hb;obtain rfl:=ZaD hb;simp only[Option.some.injEq,Prod.mk.injEq]at h;obtain⟨rfl,rfl⟩:=h;obtain⟨a',cap,rfl,h2|⟨ad,bq,rfl,h3⟩⟩:=aM hx
   .obtain⟨rfl,rfl⟩:=h2;exact .inl ⟨cap,rfl,rfl⟩
   .exact .inr ⟨ad,cap,bq,rfl,h3⟩
  .cases h
 .rename_i id k';split at h
  .rename_i e sz len c' hl;split at h
   .rename_i bX;obtain rfl:=ZaD bX;simp only[Option.some.injEq,Prod.mk.injEq]at h;obtain⟨rfl,rfl⟩:=h;cases hx with
    |osl hm h00=>
     have hB:=hs.heap id _ hl;rw[hm]at hB;rename_i a0 cp;obtain⟨rfl,_,_,h4⟩:=Zlf hB;rcases h4 with⟨rfl,rfl,rfl⟩|⟨b,rfl⟩
     .exact .inl ⟨0,rfl,rfl⟩
     .obtain⟨xs,⟨hlen,dI⟩,hc,bQ⟩:=hB;rcases dI with⟨dI,_⟩|⟨g,cap,cur,dz,cJ,eC,eA,fL,fW,dW⟩
      .cases dI
      simp only[Value.slice.injEq,Option.some.injEq,Addr.mk.injEq,and_true]at dz;obtain⟨rfl,_,rfl⟩:=dz;refine .inr ⟨_,_,xs,rfl,hlen,fun j u hu=>?_,bQ,hc⟩;rw[ZcS,Nat.zero_add,ZlO eC];rw[<-dW,List.getElem?_take]at hu;split at hu
      .simpa using hu
      .simp at hu
   .cases h
  .cases h
 .simp only[Option.some.injEq,Prod.mk.injEq]at h;obtain⟨rfl,rfl⟩:=h;cases hx;exact .inl ⟨_,rfl,rfl⟩
 .rename_i ad cap;simp only[Option.some.injEq,Prod.mk.injEq]at h;obtain⟨rfl,rfl⟩:=h;cases hx;exact .inr ⟨ad,cap,[],rfl,by simp,fun j u h=>by simp at h,fun u h=>by simp at h,fun i j h=>absurd h (by omega)⟩
 .cases h
def Zkf(N:Nat)(T:Tab)(st:St)(d t:Nat)(s x:V)(an:Option Ans):Option (V×List Prop×St):=match ZdS T t with
 |some ti=>match ti.k with
  | .slice e=>match ZdS T e with
   |some te=>match Nat.ble 1 te.size,ZtB te,ZAG st te.size x,an,Zdm N d st with
    |true,some z,some (k,cx),some (.c n c'),true=>match Nat.beq z.length te.size with
     |true=>match s with
      | .one (.osl id l)=>match hget st.heap id with
       |some (.rows e' sz len c)=>match Nat.beq e' e,Nat.beq sz te.size with
        |true,true=>some (.one (.osl d n),[Ext sz len k c cx n c',n*te.bytes<=140737488355328,n<=maxLen],{ st with heap:=(d,.rows e sz n c') :: hdel st.heap id })
        |_,_=>none
       |_=>none
      | .one (.lit (.slice none 0 0))=>some (.one (.osl d n),[Ext te.size 0 k (fun _ _=>.junk) cx n c',n*te.bytes<=140737488355328,n<=maxLen],st.new d (.rows e te.size n c'))
      |_=>none
     |false=>none
    |_,_,_,_,_=>none
   |none=>none
  |_=>none
 |none=>none
theorem ZAU{e:TypeId}{sz:Nat}{v:Value}{n:Nat}{xs:List Value}{w:World}(h:w.ownsRow 0 e sz v n xs):v.ownBlock=blk v/\∃a c,v=.slice a n c/\n<=c:=by
 rcases h.2 with⟨rfl,rfl⟩|⟨g,cap,cur,rfl,_,_,h1,_⟩
 .exact⟨rfl,_,_,rfl,Nat.le_refl _⟩
 .exact⟨rfl,_,_,rfl,h1⟩
theorem Zvd{P:Program}{N:Nat}{S0:Nat->Prop}{w0:ZeB}{st:St}{a:Act}{w:World}{S:Nat->Prop}{m:Mp}(hs:Sim N w0.F S m st a w)(hg:Goes w0.F.no S0 S w0.w w){t ty e:TypeId}{i:TypeInfo}{z:Value}(ht:P.underlying t=some (.slice e))(hi:P.info? e=some i)(hz:i.zero=some z)
  (bV:z.cells.size=i.size) (aX:0<i.size) (d:Nat) (hq:Zdm N d st=true) (old:Option Nat) (v:Value) (len:Nat) (c:Nat->Nat->C) (xs:List Value) (bn:w.ownsRow 0 e i.size v len xs) (hc:∀i' j,i'<len->j<i.size->∃x,xs[i'*i.size+j]?=some x/\RepC S w Zdb (c i' j) x) (bQ:∀x∈xs,x.oneCell'=true)
  (dr:(old=none/\blk v=none)\/∃id b0,old=some id/\hget st.heap id=some b0/\blk v=blk (m id)) {k n:Nat} {cx c':Nat->Nat->C} {x:V} {px:Value} (hx:RepV S w m x px) (fC:ZAG st i.size x=some (k,cx)) (fB:Ext i.size len k c cx n c') (hb:n*i.bytes<=140737488355328) (hn:n<=maxLen) :
  ∃v' w',(Builtin.append_ #[t,t] ty #[v,px]).run P w=.ok v' w'/\Sim N w0.F S (upd m d v') { st with heap:=(d,.rows e i.size n c') :: ZtY st.heap old } a w'/\Goes w0.F.no S0 S w0.w w'/\RepV S w' (upd m d v') (.one (.osl d n)) v':=by
 obtain rfl:=fB.num;obtain⟨fZ,av,cv,rfl,hle⟩:=ZAU bn;have lh:∀k,blk (.slice av len cv)=some k->¬w0.F.no k:=by
  intro k hk;rcases dr with⟨_,h3⟩|⟨id,b0,h3,h4,h5⟩
  .rw[h3]at hk;cases hk
  .exact(hs.own id b0 h4 k (h5 ▸ hk)).2.1
 rcases ZFW hs aX hx fC with⟨cap,rfl,rfl⟩|⟨ad,cap,bq,rfl,hl,co,h1,lj⟩
 .have gJ:len=0\/∃b,av=some ⟨b,0,none⟩:=by
   rcases bn.2 with⟨h3,h4⟩|⟨g,gR,cur,h3,_⟩
   .exact .inl h4
   .cases h3;exact .inr ⟨g,rfl⟩
  refine⟨_,w,Zvx w t ty e i ht hi av len cv cap hle,?_,hg,RepC.osl (Zfb _ _ _) gJ hle⟩;refine hs.renew d hq _ _ old (Nat.le_refl _) (fun _ _ _=>rfl) (fun k hk=>?_) ⟨xs,by rw[Nat.add_zero];exact bn,fun i' j cY hj=>?_,bQ⟩
  .have h2:=bn.lt k (by rw[fZ];exact hk);refine⟨lh k hk,h2.2,.inl ?_⟩;rcases dr with⟨_,h3⟩|⟨id,b0,h3,h4,h5⟩
   .rw[h3]at hk;cases hk
   .exact⟨id,b0,h3,h4,h5 ▸ hk⟩
  .obtain⟨y,h3,h4⟩:=hc i' j (by omega) hj;exact⟨y,h3,by rw[fB.old i' j (by omega) hj];exact h4⟩
 .obtain⟨v',w',hr,cZ,bF,jD,cN⟩:=ZrV (P:=P) w t ty e i z i.size i.bytes ht hi hz rfl rfl bV aX _ len xs bn ad k cap bq hl co h1 hn hb;obtain⟨ig,av',cv',rfl,lk⟩:=ZAU cZ;have gU:w.grownBy w' (blk (.slice av len cv)):=by rw[<-fZ];exact bF
  have dt:ZfQ S w w':=fun q hq=>gU.block q (hs.dom q hq) (by
   intro e';rcases dr with⟨_,h3⟩|⟨id,b0,_,bH,h3⟩
   .rw[h3]at e';cases e'
   .exact(hs.own id b0 bH q (by rw[<-h3];exact e'.symm)).1 hq)
  have gJ:len+k=0\/∃b,av'=some ⟨b,0,none⟩:=by
   rcases cZ.2 with⟨h3,h4⟩|⟨g,gR,cur,h3,_⟩
   .exact .inl h4
   .cases h3;exact .inr ⟨g,rfl⟩
  refine⟨_,w',hr,?_,?_,RepC.osl (Zfb _ _ _) gJ lk⟩
  .refine hs.renew d hq _ _ old gU.size (fun q cK hne=>gU.block q cK (fun e'=>?_)) (fun q cK=>?_) ⟨xs++bq,cZ,fun i' j cY hj=>?_,fun y hy=>?_⟩
   .rcases dr with⟨_,h3⟩|⟨id,b0,h3,bH,h4⟩
    .rw[h3]at e';cases e'
    .exact hne id h3 ⟨b0,bH⟩ (by rw[<-h4];exact e'.symm)
   .have h2:=cZ.lt q (by rw[ig];exact cK);rw[ig,fZ]at jD;refine⟨jD.elim (fun h3=>lh q (h3 ▸ cK)) (fun h3 hF=>absurd (hs.base_le q hF) (Nat.not_lt.2 (h3 q cK))),h2.2,?_⟩;rcases jD with h3|h3
    .rcases dr with⟨_,h4⟩|⟨id,b0,h5,bH,h4⟩
     .rw[h4]at h3;rw[h3]at cK;cases cK
     .exact .inl ⟨id,b0,h5,bH,by rw[<-h4,<-h3];exact cK⟩
    .exact .inr (h3 q cK)
   .by_cases hlt:i'<len
    .obtain⟨y,h3,h4⟩:=hc i' j hlt hj;refine⟨y,?_,by rw[fB.old i' j hlt hj];exact h4.keep dt fun _ h=>h⟩;rw[List.getElem?_append_left (List.getElem?_eq_some_iff.1 h3).1];exact h3
    .obtain⟨y,h3,h4⟩:=lj (i'-len) j (by omega) hj;have e3:=fB.new (i'-len) j (by omega) hj;rw[show len+(i'-len)=i' by omega]at e3;refine⟨y,?_,by rw[e3];exact h4.keep dt fun _ h=>h⟩;have e4:i'*i.size=len*i.size+(i'-len)*i.size:=by rw[<-Nat.add_mul];congr 1;omega
     rw[List.getElem?_append_right (by rw[bn.1];omega),bn.1,<-h3];congr 1;omega
   .rcases List.mem_append.1 hy with hy|hy
    .exact bQ y hy
    .exact h1 y hy
  .refine hg.step (Bel.grown gU cN hs.base_le fun q hq=>?_) (fun _ h=>h) (fun _ h=>.inl h);exact fun e=>lh q e.symm hq
theorem ZsR{P:Program}{T:Tab}(hT:Zea P T){N:Nat}{S0:Nat->Prop}{w0:ZeB}{st:St}{a:Act}{w:World}{S:Nat->Prop}{m:Mp}(hs:Sim N w0.F S m st a w)(hg:Goes w0.F.no S0 S w0.w w)
  {d t ty:Nat} {s x v:V} {ps px:Value} {an:Option Ans} {obl:List Prop} {st':St} (cj:RepV S w m s ps) (du:RepV S w m x px) (h:Zkf N T st d t s x an=some (v,obl,st')) (ho:∀q∈obl,q) :
  ∃y w' m',(Builtin.append_ #[t,t] ty #[ps,px]).run P w=.ok y w'/\Sim N w0.F S m' st' a w'/\Goes w0.F.no S0 S w0.w w'/\RepV S w' m' v y:=by
 unfold Zkf at h;split at h
 .rename_i ti bw;obtain⟨dd,hu,hf⟩:=hT.under bw;split at h
  .rename_i e hk;rw[hk]at hf;cases dd<;>simp only[TK.fits]at hf;subst hf;split at h
   .rename_i te bU;obtain⟨i,hi,hi1,bC,iJ⟩:=hT.info bU;split at h
    .rename_i z k cx n c' bX hz fC hq;have aX:=Nat.le_of_ble_eq_true bX;split at h
     .rename_i ii;have ii:=ZaD ii;obtain⟨zv,hzv,bV⟩ : ∃zv,i.zero=some zv/\zv.cells.size=i.size:=by
       unfold ZtB at hz;split at hz
       .rename_i zv hq;have hr:=V.cells_rep (S:=S) (w:=w) (m:=m) (V.ofVal_rep zv) hz;exact⟨zv,by rw[iJ,hq],by have:=hr.1;simp at this;omega⟩
       .cases hz
      split at h
      .rename_i id l;split at h
       .rename_i e' sz len c hl;split at h
        .rename_i he iK;obtain rfl:=ZaD he;have iK:=ZaD iK;simp only[Option.some.injEq,Prod.mk.injEq]at h;obtain⟨rfl,rfl,rfl⟩:=h;subst iK;rw[<-hi1]at *
         rw[<-bC]at *
         cases cj with
         |osl hm h00=>
          have hB:=hs.heap id _ hl;rw[hm]at hB;obtain⟨rfl,_⟩:=Zlf hB;obtain⟨xs,bn,hc,bQ⟩:=hB;have o1:Ext i.size l k c cx n c':=ho _ (by simp);have o2:n*i.bytes<=140737488355328:=ho _ (by simp);have o3:n<=maxLen:=ho _ (by simp);obtain⟨v',w',h2,h3,h4,h5⟩:=Zvd (ty:=ty) hs hg hu hi hzv bV (by omega) d hq (some id) _ l c xs bn hc bQ (.inr ⟨id,_,rfl,hl,by rw[hm]⟩) du fC o1 o2 o3;exact⟨v',w',_,h2,h3,h4,h5⟩
        .cases h
       .cases h
      .simp only[Option.some.injEq,Prod.mk.injEq]at h;obtain⟨rfl,rfl,rfl⟩:=h;rw[<-hi1]at *
       rw[<-bC]at *
       cases cj;have o1:Ext i.size 0 k (fun _ _=>.junk) cx n c':=ho _ (by simp);have o2:n*i.bytes<=140737488355328:=ho _ (by simp);have o3:n<=maxLen:=ho _ (by simp);obtain⟨v',w',h2,h3,h4,h5⟩:=Zvd (ty:=ty) hs hg hu hi hzv bV (by omega) d hq none _ 0 _ [] (World.ownsRow_nil _ _ _ _) (fun i' j h=>absurd h (by omega)) (by simp) (.inl ⟨rfl,rfl⟩) du fC o1 o2 o3;exact⟨v',w',_,h2,Sim.reheap h3 (fun id b hb=>by rw[Zex]at hb;simpa only[ZtY,Zbg]using hb),h4,h5⟩
      .cases h
     .cases h
    .cases h
   .cases h
  .cases h
 .cases h
end Go.Proofs.YtlpdogaifdeomaaGreat
