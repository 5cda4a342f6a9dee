import Derived.Test.YtnigiacmmedkhaaGreatGAmG
namespace Go.Proofs.YtnigiacmmedkhaaGreat
open Go.RowKit
set_option linter.unusedSimpArgs false
set_option linter.unusedVariables false
theorem ZxY{P:Program}(w:World)(t ty e:TypeId)(i:TypeInfo)(z:Value)(size bytes:Nat)(ht:P.underlying t=some (.slice e))(hi:P.info? e=some i)(hz:i.zero=some z)
  (gh:i.size=size) (hby:i.bytes=bytes) (eu:z.cells.size=size) (aU:0<size)
  (v:Value) (n:Nat) (xs:List Value) (bf:w.ownsRow 0 e size v n xs)
  (a:Addr) (m c:Nat) (aZ:List Value) (hl:aZ.length=m*size) (bX:∀j u,aZ[j]?=some u->w.cell? (a.add j)=some u) (h1:∀u∈aZ,u.oneCell'=true)
  (h63:n+m<=maxLen) (dM:(n+m)*bytes<=140737488355328) :
  ∃v' w',(Builtin.append_ #[t,t] ty #[v,.slice (some a) m c]).run P w=.ok v' w'/\w'.ownsRow 0 e size v' (n+m) (xs++aZ)/\w.grownBy w' v.ownBlock /\
   (v'.ownBlock=v.ownBlock\/∀k,v'.ownBlock=some k->w.heap.size<=k)/\w.drawn<=w'.drawn:=by
 obtain⟨v',w',hr,h2,h3,_⟩:=run_append_own (P:=P) w 0 t ty e i z size bytes ht hi hz gh hby eu aU v n xs bf a m c aZ hl bX h1 h63 dM (Nat.zero_le _);refine⟨v',w',hr,h2,h3,?_⟩;subst gh;subst hby
 have jH:n+m<=9223372036854775807:=by simp only[maxLen]at h63;omega
 rcases bf.2 with⟨rfl,rfl⟩|⟨g,cap,cur,rfl,hbg,hg,hnc,ji,io,htake⟩
 .have hx:xs=[]:=List.eq_nil_of_length_eq_zero (by simpa using bf.1);subst hx;by_cases hm:m=0
  .subst hm;rcases h2.2 with⟨rfl,_⟩|⟨g,cap,cur,rfl,_,_,_,_,_,_⟩
   .have fU:(Builtin.append_ #[t,t] ty #[.slice none 0 0,.slice (some a) 0 c]).run P w=.ok (.slice none 0 0) w:=by
     simp[Builtin.append_,run_underlying ht,sizeOf,typeInfo,hi,Builtin.lenOf,Builtin.firstCells,loadCells,loadCellsFrom]
    have:=hr.symm.trans fU;simp only[Result.ok.injEq]at this;exact⟨.inl rfl,by rw[this.2];exact Nat.le_refl _⟩
   .have hn:aZ=[]:=List.eq_nil_of_length_eq_zero (by simpa using hl);subst hn;have fU:(Builtin.append_ #[t,t] ty #[.slice none 0 0,.slice (some a) 0 c]).run P w=.ok (.slice none 0 0) w:=by
     simp[Builtin.append_,run_underlying ht,sizeOf,typeInfo,hi,Builtin.lenOf,Builtin.firstCells,loadCells,loadCellsFrom]
    have:=hr.symm.trans fU;simp at this
  .have fU:=run_append_nil (P:=P) w t ty e i z ht hi hz a m c aZ hl bX (by omega) (by omega) (by have hb:=dM;simp only[Nat.zero_add]at hb;omega);have:=hr.symm.trans fU;simp only[Result.ok.injEq]at this;rw[this.1,this.2];exact⟨.inr fun k hk=>by simp[Value.ownBlock]at hk;omega,Nat.le_succ _⟩
 .by_cases hroom:n+m<=cap
  .have gA:n*i.size+aZ.length<=cur.size:=by rw[hl,io,<-Nat.add_mul];exact Nat.mul_le_mul_right _ hroom
   have fU:=run_append_room (P:=P) w t ty e i ht hi g n cap cur hg a m c aZ hl bX h1 hroom gA;have:=hr.symm.trans fU;simp only[Result.ok.injEq]at this;rw[this.1,this.2];exact⟨.inl rfl,by simp[World.setRow]⟩
  .have holds:∀j u,xs[j]?=some u->w.cell? ((⟨g,0,none⟩ : Addr).add j)=some u:=bf.cells (g:=g) rfl;have fU:=run_append_grow (P:=P) w t ty e i z ht hi hz ⟨g,0,none⟩ n cap xs bf.1 holds a m c aZ hl bX (by omega) (by omega) (growslice_fits (by omega) dM);have:=hr.symm.trans fU;simp only[Result.ok.injEq]at this;rw[this.1,this.2];exact⟨.inr fun k hk=>by simp[Value.ownBlock]at hk;omega,Nat.le_succ _⟩
theorem Zvd{P:Program}(w:World)(t ty e:TypeId)(i:TypeInfo)(ht:P.underlying t=some (.slice e))(hi:P.info? e=some i)(a:Option Addr)(n cap c:Nat)(h:n<=cap) :
  (Builtin.append_ #[t,t] ty #[.slice a n cap,.slice none 0 c]).run P w=.ok (.slice a n cap) w:=by
 cases a<;>simp[Builtin.append_,run_underlying ht,sizeOf,typeInfo,hi,Builtin.lenOf,Builtin.firstCells,h,storeCells]
structure Ext (sz len k:Nat) (c cx:Nat->Nat->C) (n:Nat) (c':Nat->Nat->C):Prop where
 num:n=len+k
 old:∀i j,i<len->j<sz->c' i j=c i j
 new:∀i j,i<k->j<sz->c' (len+i) j=cx i j
def ZDh(st:St)(size:Nat):V->Option (Nat×(Nat->Nat->C))
 | .one (.sl sz k c)=>match Nat.beq sz size with
  |true=>some (k,c)
  |false=>none
 | .one (.osl id k)=>match hget st.heap id with
  |some (.rows _ sz len c)=>match Nat.beq sz size with
   |true=>some (len,c)
   |false=>none
  |_=>none
 | .one (.lit (.slice none 0 _))=>some (0,fun _ _=>.junk)
 | .one (.lit (.slice (some _) 0 _))=>some (0,fun _ _=>.junk)
 |_=>none
theorem ZIt{N:Nat}{F:Keep}{S:Nat->Prop}{m:Mp}{st:St}{a:Act}{w:World}(hs:Sim N F S m st a w){size:Nat}{x:V}{px:Value}{k:Nat}{c:Nat->Nat->C}(aU:0<size)(hx:RepV S w m x px)(h:ZDh st size x=some (k,c)) :
  (∃cap,px=.slice none 0 cap/\k=0)\/∃(ad:Addr)(cap:Nat)(aZ:List Value),px=.slice (some ad) k cap/\aZ.length=k*size/\(∀(j:Nat)(u:Value),aZ[j]?=some u->w.cell? (ad.add j)=some u)/\(∀u∈aZ,u.oneCell'=true) /\
   ∀i j,i<k->j<size->∃y,aZ[i*size+j]?=some y/\RepC S w ZcK (c i j) y:=by
 have au:∀{len:Nat}{cell:Nat->Nat->C}{pv:Value},RepC S w m (.sl size len cell) pv->∃a cap,pv=.slice a len cap/\((a=none/\len=0)\/∃(ad:Addr)(aZ:List Value),a=some ad/\aZ.length=len*size/\(∀(j:Nat)(u:Value),aZ[j]?=some u->w.cell? (ad.add j)=some u)/\(∀u∈aZ,u.oneCell'=true) /\
   ∀i j,i<len->j<size->∃y,aZ[i*size+j]?=some y/\RepC S w ZcK (cell i j) y):=by
  intro len cell pv hr;cases hr with
  |sl b off vals hcap ha hc h1 hr=>
   rename_i a cap;refine⟨a,cap,rfl,?_⟩;by_cases hl:0<len
   .obtain⟨rfl,hb⟩:=ha hl;have idx:∀q,q<len*size->q / size<len/\q % size<size/\q / size*size+q % size=q:=by
     intro q hq;refine⟨(Nat.div_lt_iff_lt_mul aU).2 hq,Nat.mod_lt _ aU,?_⟩;rw[Nat.mul_comm];exact Nat.div_add_mod _ _
    refine .inr ⟨⟨b,off,none⟩,(List.range (len*size)).map fun q=>vals (q / size) (q % size),rfl,by simp,fun j u hu=>?_,fun u hu=>?_,fun i j hi hj=>?_⟩
    .simp only[List.getElem?_map,Option.map_eq_some_iff]at hu;obtain⟨q,hq,rfl⟩:=hu;obtain⟨dN,cy⟩:=List.getElem?_eq_some_iff.1 hq;simp at dN cy;subst cy;obtain⟨e1,e2,e3⟩:=idx j dN;rw[ZhR,<-hc _ _ e1 e2];congr 2;omega
    .simp only[List.mem_map,List.mem_range]at hu;obtain⟨q,hq,rfl⟩:=hu;obtain⟨e1,e2,e3⟩:=idx q hq;exact h1 _ _ e1 e2
    .refine⟨vals i j,?_,hr i j hi hj⟩;have hlt:i*size+j<len*size:=by
      have:(i+1)*size<=len*size:=Nat.mul_le_mul_right _ (by omega);rw[Nat.add_mul]at this;omega
     have e1:(i*size+j) / size=i:=by rw[Nat.mul_comm,Nat.mul_add_div aU,Nat.div_eq_of_lt hj,Nat.add_zero]
     have e2:(i*size+j) % size=j:=by rw[Nat.mul_comm,Nat.mul_add_mod,Nat.mod_eq_of_lt hj]
     simp[hlt,e1,e2]
   .have:len=0:=by omega
    subst this;cases a with
    |none=>exact .inl ⟨rfl,rfl⟩
    |some ad=>exact .inr ⟨ad,[],rfl,by simp,fun j u h=>by simp at h,fun u h=>by simp at h,fun i j h=>absurd h (by omega)⟩
 unfold ZDh at h;split at h
 .rename_i sz k' c';split at h
  .rename_i hb;obtain rfl:=ZaH hb;simp only[Option.some.injEq,Prod.mk.injEq]at h;obtain⟨rfl,rfl⟩:=h;obtain⟨a',cap,rfl,h2|⟨ad,aZ,rfl,h3⟩⟩:=au hx
   .obtain⟨rfl,rfl⟩:=h2;exact .inl ⟨cap,rfl,rfl⟩
   .exact .inr ⟨ad,cap,aZ,rfl,h3⟩
  .cases h
 .rename_i id k';split at h
  .rename_i e sz len c' hl;split at h
   .rename_i bo;obtain rfl:=ZaH bo;simp only[Option.some.injEq,Prod.mk.injEq]at h;obtain⟨rfl,rfl⟩:=h;cases hx with
    |osl hm h00=>
     have hB:=hs.heap id _ hl;rw[hm]at hB;rename_i a0 cp;obtain⟨rfl,_,_,h4⟩:=ZkC hB;rcases h4 with⟨rfl,rfl,rfl⟩|⟨b,rfl⟩
     .exact .inl ⟨0,rfl,rfl⟩
     .obtain⟨xs,⟨hlen,cA⟩,hc,cC⟩:=hB;rcases cA with⟨cA,_⟩|⟨g,cap,cur,cD,bO,dr,ej,c9,eF,dH⟩
      .cases cA
      simp only[Value.slice.injEq,Option.some.injEq,Addr.mk.injEq,and_true]at cD;obtain⟨rfl,_,rfl⟩:=cD;refine .inr ⟨_,_,xs,rfl,hlen,fun j u hu=>?_,cC,hc⟩;rw[ZhR,Nat.zero_add,Zkh dr];rw[<-dH,List.getElem?_take]at hu;split at hu
      .simpa using hu
      .simp at hu
   .cases h
  .cases h
 .simp only[Option.some.injEq,Prod.mk.injEq]at h;obtain⟨rfl,rfl⟩:=h;cases hx;exact .inl ⟨_,rfl,rfl⟩
 .rename_i ad cap;simp only[Option.some.injEq,Prod.mk.injEq]at h;obtain⟨rfl,rfl⟩:=h;cases hx;exact .inr ⟨ad,cap,[],rfl,by simp,fun j u h=>by simp at h,fun u h=>by simp at h,fun i j h=>absurd h (by omega)⟩
 .cases h
def ZjR(N:Nat)(T:Tab)(st:St)(d t:Nat)(s x:V)(an:Option Ans):Option (V×List Prop×St):=match ZeV T t with
 |some ti=>match ti.k with
  | .slice e=>match ZeV T e with
   |some te=>match Nat.ble 1 te.size,Ztf te,ZDh st te.size x,an,ZdC N d st with
    |true,some z,some (k,cx),some (.c n c'),true=>match Nat.beq z.length te.size with
     |true=>match s with
      | .one (.osl id l)=>match hget st.heap id with
       |some (.rows e' sz len c)=>match Nat.beq e' e,Nat.beq sz te.size with
        |true,true=>some (.one (.osl d n),[Ext sz len k c cx n c',n*te.bytes<=140737488355328,n<=maxLen],{ st with heap:=(d,.rows e sz n c') :: hdel st.heap id })
        |_,_=>none
       |_=>none
      | .one (.lit (.slice none 0 0))=>some (.one (.osl d n),[Ext te.size 0 k (fun _ _=>.junk) cx n c',n*te.bytes<=140737488355328,n<=maxLen],st.new d (.rows e te.size n c'))
      |_=>none
     |false=>none
    |_,_,_,_,_=>none
   |none=>none
  |_=>none
 |none=>none
theorem ZJs{e:TypeId}{sz:Nat}{v:Value}{n:Nat}{xs:List Value}{w:World}(h:w.ownsRow 0 e sz v n xs):v.ownBlock=blk v/\∃a c,v=.slice a n c/\n<=c:=by
 rcases h.2 with⟨rfl,rfl⟩|⟨g,cap,cur,rfl,_,_,h1,_⟩
 .exact⟨rfl,_,_,rfl,Nat.le_refl _⟩
 .exact⟨rfl,_,_,rfl,h1⟩
theorem ZuE{P:Program}{N:Nat}{S0:Nat->Prop}{w0:ZeC}{st:St}{a:Act}{w:World}{S:Nat->Prop}{m:Mp}(hs:Sim N w0.F S m st a w)(hg:Goes w0.F.no S0 S w0.w w){t ty e:TypeId}{i:TypeInfo}{z:Value}(ht:P.underlying t=some (.slice e))(hi:P.info? e=some i)(hz:i.zero=some z)
  (eu:z.cells.size=i.size) (aU:0<i.size) (d:Nat) (hq:ZdC N d st=true) (old:Option Nat) (v:Value) (len:Nat) (c:Nat->Nat->C) (xs:List Value) (bf:w.ownsRow 0 e i.size v len xs) (hc:∀i' j,i'<len->j<i.size->∃x,xs[i'*i.size+j]?=some x/\RepC S w ZcK (c i' j) x) (cC:∀x∈xs,x.oneCell'=true)
  (dK:(old=none/\blk v=none)\/∃id b0,old=some id/\hget st.heap id=some b0/\blk v=blk (m id)) {k n:Nat} {cx c':Nat->Nat->C} {x:V} {px:Value} (hx:RepV S w m x px) (fW:ZDh st i.size x=some (k,cx)) (eE:Ext i.size len k c cx n c') (hb:n*i.bytes<=140737488355328) (hn:n<=maxLen) :
  ∃v' w',(Builtin.append_ #[t,t] ty #[v,px]).run P w=.ok v' w'/\Sim N w0.F S (upd m d v') { st with heap:=(d,.rows e i.size n c') :: ZtH st.heap old } a w'/\Goes w0.F.no S0 S w0.w w'/\RepV S w' (upd m d v') (.one (.osl d n)) v':=by
 obtain rfl:=eE.num;obtain⟨gB,av,cv,rfl,hle⟩:=ZJs bf;have jI:∀k,blk (.slice av len cv)=some k->¬w0.F.no k:=by
  intro k hk;rcases dK with⟨_,h3⟩|⟨id,b0,h3,h4,h5⟩
  .rw[h3]at hk;cases hk
  .exact(hs.own id b0 h4 k (h5 ▸ hk)).2.1
 rcases ZIt hs aU hx fW with⟨cap,rfl,rfl⟩|⟨ad,cap,aZ,rfl,hl,bX,h1,jJ⟩
 .have gi:len=0\/∃b,av=some ⟨b,0,none⟩:=by
   rcases bf.2 with⟨h3,h4⟩|⟨g,fS,cur,h3,_⟩
   .exact .inl h4
   .cases h3;exact .inr ⟨g,rfl⟩
  refine⟨_,w,Zvd w t ty e i ht hi av len cv cap hle,?_,hg,RepC.osl (ZfL _ _ _) gi hle⟩;refine hs.renew d hq _ _ old (Nat.le_refl _) (fun _ _ _=>rfl) (fun k hk=>?_) ⟨xs,by rw[Nat.add_zero];exact bf,fun i' j co hj=>?_,cC⟩
  .have h2:=bf.lt k (by rw[gB];exact hk);refine⟨jI k hk,h2.2,.inl ?_⟩;rcases dK with⟨_,h3⟩|⟨id,b0,h3,h4,h5⟩
   .rw[h3]at hk;cases hk
   .exact⟨id,b0,h3,h4,h5 ▸ hk⟩
  .obtain⟨y,h3,h4⟩:=hc i' j (by omega) hj;exact⟨y,h3,by rw[eE.old i' j (by omega) hj];exact h4⟩
 .obtain⟨v',w',hr,ez,cN,ij,hdr⟩:=ZxY (P:=P) w t ty e i z i.size i.bytes ht hi hz rfl rfl eu aU _ len xs bf ad k cap aZ hl bX h1 hn hb;obtain⟨gj,av',cv',rfl,jK⟩:=ZJs ez;have fX:w.grownBy w' (blk (.slice av len cv)):=by rw[<-gB];exact cN
  have cQ:Zgs S w w':=fun q hq=>fX.block q (hs.dom q hq) (by
   intro e';rcases dK with⟨_,h3⟩|⟨id,b0,_,hb0,h3⟩
   .rw[h3]at e';cases e'
   .exact(hs.own id b0 hb0 q (by rw[<-h3];exact e'.symm)).1 hq)
  have gi:len+k=0\/∃b,av'=some ⟨b,0,none⟩:=by
   rcases ez.2 with⟨h3,h4⟩|⟨g,fS,cur,h3,_⟩
   .exact .inl h4
   .cases h3;exact .inr ⟨g,rfl⟩
  refine⟨_,w',hr,?_,?_,RepC.osl (ZfL _ _ _) gi jK⟩
  .refine hs.renew d hq _ _ old fX.size (fun q dt hne=>fX.block q dt (fun e'=>?_)) (fun q dt=>?_) ⟨xs++aZ,ez,fun i' j co hj=>?_,fun y hy=>?_⟩
   .rcases dK with⟨_,h3⟩|⟨id,b0,h3,hb0,h4⟩
    .rw[h3]at e';cases e'
    .exact hne id h3 ⟨b0,hb0⟩ (by rw[<-h4];exact e'.symm)
   .have h2:=ez.lt q (by rw[gj];exact dt);rw[gj,gB]at ij;refine⟨ij.elim (fun h3=>jI q (h3 ▸ dt)) (fun h3 hF=>absurd (hs.base_le q hF) (Nat.not_lt.2 (h3 q dt))),h2.2,?_⟩;rcases ij with h3|h3
    .rcases dK with⟨_,h4⟩|⟨id,b0,h5,hb0,h4⟩
     .rw[h4]at h3;rw[h3]at dt;cases dt
     .exact .inl ⟨id,b0,h5,hb0,by rw[<-h4,<-h3];exact dt⟩
    .exact .inr (h3 q dt)
   .by_cases hlt:i'<len
    .obtain⟨y,h3,h4⟩:=hc i' j hlt hj;refine⟨y,?_,by rw[eE.old i' j hlt hj];exact h4.keep cQ fun _ h=>h⟩;rw[List.getElem?_append_left (List.getElem?_eq_some_iff.1 h3).1];exact h3
    .obtain⟨y,h3,h4⟩:=jJ (i'-len) j (by omega) hj;have e3:=eE.new (i'-len) j (by omega) hj;rw[show len+(i'-len)=i' by omega]at e3;refine⟨y,?_,by rw[e3];exact h4.keep cQ fun _ h=>h⟩;have e4:i'*i.size=len*i.size+(i'-len)*i.size:=by rw[<-Nat.add_mul];congr 1;omega
     rw[List.getElem?_append_right (by rw[bf.1];omega),bf.1,<-h3];congr 1;omega
   .rcases List.mem_append.1 hy with hy|hy
    .exact cC y hy
    .exact h1 y hy
  .refine hg.step (Bel.grown fX hdr hs.base_le fun q hq=>?_) (fun _ h=>h) (fun _ h=>.inl h);exact fun e=>jI q e.symm hq
theorem Zsx{P:Program}{T:Tab}(hT:Zes P T){N:Nat}{S0:Nat->Prop}{w0:ZeC}{st:St}{a:Act}{w:World}{S:Nat->Prop}{m:Mp}(hs:Sim N w0.F S m st a w)(hg:Goes w0.F.no S0 S w0.w w)
  {d t ty:Nat} {s x v:V} {ps px:Value} {an:Option Ans} {obl:List Prop} {st':St} (bL:RepV S w m s ps) (cR:RepV S w m x px) (h:ZjR N T st d t s x an=some (v,obl,st')) (ho:∀q∈obl,q) :
  ∃y w' m',(Builtin.append_ #[t,t] ty #[ps,px]).run P w=.ok y w'/\Sim N w0.F S m' st' a w'/\Goes w0.F.no S0 S w0.w w'/\RepV S w' m' v y:=by
 unfold ZjR at h;split at h
 .rename_i ti a7;obtain⟨dd,hu,hf⟩:=hT.under a7;split at h
  .rename_i e hk;rw[hk]at hf;cases dd<;>simp only[TK.fits]at hf;subst hf;split at h
   .rename_i te bF;obtain⟨i,hi,hi1,br,gC⟩:=hT.info bF;split at h
    .rename_i z k cx n c' bo hz fW hq;have aU:=Nat.le_of_ble_eq_true bo;split at h
     .rename_i gk;have gk:=ZaH gk;obtain⟨zv,hzv,eu⟩ : ∃zv,i.zero=some zv/\zv.cells.size=i.size:=by
       unfold Ztf at hz;split at hz
       .rename_i zv hq;have hr:=V.cells_rep (S:=S) (w:=w) (m:=m) (V.ofVal_rep zv) hz;exact⟨zv,by rw[gC,hq],by have:=hr.1;simp at this;omega⟩
       .cases hz
      split at h
      .rename_i id l;split at h
       .rename_i e' sz len c hl;split at h
        .rename_i he gD;obtain rfl:=ZaH he;have gD:=ZaH gD;simp only[Option.some.injEq,Prod.mk.injEq]at h;obtain⟨rfl,rfl,rfl⟩:=h;subst gD;rw[<-hi1]at *
         rw[<-br]at *
         cases bL with
         |osl hm h00=>
          have hB:=hs.heap id _ hl;rw[hm]at hB;obtain⟨rfl,_⟩:=ZkC hB;obtain⟨xs,bf,hc,cC⟩:=hB;have o1:Ext i.size l k c cx n c':=ho _ (by simp);have o2:n*i.bytes<=140737488355328:=ho _ (by simp);have o3:n<=maxLen:=ho _ (by simp);obtain⟨v',w',h2,h3,h4,h5⟩:=ZuE (ty:=ty) hs hg hu hi hzv eu (by omega) d hq (some id) _ l c xs bf hc cC (.inr ⟨id,_,rfl,hl,by rw[hm]⟩) cR fW o1 o2 o3;exact⟨v',w',_,h2,h3,h4,h5⟩
        .cases h
       .cases h
      .simp only[Option.some.injEq,Prod.mk.injEq]at h;obtain⟨rfl,rfl,rfl⟩:=h;rw[<-hi1]at *
       rw[<-br]at *
       cases bL;have o1:Ext i.size 0 k (fun _ _=>.junk) cx n c':=ho _ (by simp);have o2:n*i.bytes<=140737488355328:=ho _ (by simp);have o3:n<=maxLen:=ho _ (by simp);obtain⟨v',w',h2,h3,h4,h5⟩:=ZuE (ty:=ty) hs hg hu hi hzv eu (by omega) d hq none _ 0 _ [] (World.ownsRow_nil _ _ _ _) (fun i' j h=>absurd h (by omega)) (by simp) (.inl ⟨rfl,rfl⟩) cR fW o1 o2 o3;exact⟨v',w',_,h2,Sim.reheap h3 (fun id b hb=>by rw[Zfb]at hb;simpa only[ZtH,Zbk]using hb),h4,h5⟩
      .cases h
     .cases h
    .cases h
   .cases h
  .cases h
 .cases h
end Go.Proofs.YtnigiacmmedkhaaGreat
