import Derived.Test.YtmcnjofonpkfmaaGreatHAmI
import Derived.Laws.Append
import Derived.Lib.LazyBuf
import Derived.Laws.Pointers
open Array renaming getD_eq_getD_getElem?->T',toList_modify->U2,eq_empty_of_size_eq_zero->U7,getElem?_toList->Tv,toArray_toList->Vg
open Bool renaming false->Tm,true->Tl
open Go.Builtin renaming zeroCells->UU,append_->Tu,delete_->U6,clear_->U9,firstCells->Uk,lenOf->Ux,min_->VB,min2->VC,max_->VD,max2->VE
open Go.Instr renaming typeAssert->UX,findNow->UY,sameNow->U3,makeMap->U4,findAsking->U5,mapUpdate->U8,mapEntry->U',lookup->Vd,keyThatStays->Vi,entryStore->Vm,findKey->Vp,alloc->Vs
open List renaming getElem?_eq_some_iff->Uc,ext_getElem?->UW,getElem_of_mem->UZ,mem_cons_self->U0,getElem?_append_right->TM,getElem?_append_left->Ud,mem_of_getElem?->Tk,mem_cons_of_mem->U1,mem_map->Uf,getElem?_map->TN,length_eraseIdx_of_lt->U_,map_cons->UG,getElem?_eq_getElem->Va,getElem?_cons_zero->Vb,getElem?_cons_succ->Vc,map_nil->Ve,eraseIdx_sublist->Vf,mem_of_mem_take->Un,nodup_append->Vk,append_assoc->Vl,take_append->TG,all_eq_true->Tt,map_append->Vn,length_map->Vo,map_set->Vr,length->Vt,length->S7
open Nat renaming mul_le_mul_right->Tf,beq->Tg,zero_add->TX,lt_of_lt_of_le->TC,le_refl->Tq,ne_of_beq_eq_false->Tn,blt->T6,add_mul->TJ
open Option renaming some->S8,none->S_,map_eq_some_iff->TD,map_some->TT
open Option.some renaming injEq->S9
open Prod.mk renaming injEq->Tc
open Go.Result renaming andThen_ok->Tj
open Go.Sem renaming run_bind->Ta,run_pure->Tp,run->Vy
namespace Go.Proofs.YtmcnjofonpkfmaaGreat
open Go.RowKit
set_option linter.unusedSimpArgs false
set_option linter.unusedVariables false
section
theorem FL{i j n K:Nat}(hi:i<n)(hj:j<K):i*K+j<n*K:=by
 have:(i+1)*K<=n*K:=Tf _ hi
 grind
variable{N t ty:Nat}{S S0:Nat->Prop}{m:Mp}{st pH:St}{a:Act}{w:World}{w0:t_}{x v:V}{px:Value}{o_:S5 Prop}{P:Program}{T:qP}{an:S6 sF}
theorem qB.zy(hs:qB N w0.F S m st a w)(hg:p9 w0.F.no S0 S w0.w w){id e sz R:Nat}{c:Nat->Nat->C}(hl:oP st.heap id=S8 (.rows e sz R c))
  {g cp:Nat} (hm:m id=.slice (S8 ⟨g,0,S_⟩) R cp) (lo k:Nat) (hk:lo+k<=R) (vs:S5 Value) (hv:S7 vs=k*sz) (h1:∀v∈vs,v.oneCell'=Tl) (cx:Nat->Nat->C) (l6:∀i j,i<k->j<sz->∃y,vs[i*sz+j]?=S8 y/\oI S w ru (cx i j) y)
  (c':Nat->Nat->C) (cQ:∀i j,i<R->j<sz->(i<lo\/lo+k<=i)->c' i j=c i j) (eu:∀i j,i<k->j<sz->c' (lo+i) j=cx i j) :
  ∃cs:Array Value,(∀P,(storeCells ⟨g,lo*sz,S_⟩ vs).run P w=.ok () (w.setRow g cs))/\qB N w0.F S m { st with heap:=uK st.heap id (.rows e sz R c') } a (w.setRow g cs)/\p9 w0.F.no S0 S w0.w (w.setRow g cs):=by
 have hB:=hs.heap id _ hl;rw[hm]at hB;obtain⟨xs,⟨hlen,cX⟩,hc,vS⟩:=hB;rcases cX with⟨cX,_⟩|⟨g',cap,cur,dA,bM,dU,dS,zB,fA,dB⟩
 .cases cX
 simp only[Value.slice.injEq,S9,Addr.mk.injEq,aFw]at dA;obtain⟨rfl,_,rfl⟩:=dA;have j5:R*sz<=cp*sz:=Tf _ dS;have hkR:(lo+k)*sz<=R*sz:=Tf _ hk;rw[TJ]at hkR;have j6:=(hs.own id _ hl g (by rw[hm];rfl)).1;refine⟨(cur.toList.take (lo*sz)++vs++cur.toList.drop (lo*sz+S7 vs)).toArray,λP=>by
   grind[run_storeCells_at],hs.write (.rows e sz R c') hl (by simp) (λq hq el=>setRow_other w g q _ (λe=>el (by rw[hm,e];rfl))) ?_,
  hg.step ⟨rfl,rfl,rfl,by simp,λq hq=>setRow_other w g q _ (λe=>(hs.own id _ hl g (by rw[hm];rfl)).2.1 (e ▸ hq)),by simp⟩ (λ_ h=>h) (λ_ h=>.inl h)⟩
 rw[hm];have cK:tj S w (w.setRow g (cur.toList.take (lo*sz)++vs++cur.toList.drop (lo*sz+S7 vs)).toArray):=λq hq=>setRow_other w g q _ (λe=>j6 (e ▸ hq));have iV:∀q,(xs.take (lo*sz)++vs++xs.drop (lo*sz+S7 vs))[q]?=if lo*sz<=q/\q<lo*sz+vs.length then vs[q-lo*sz]? else xs[q]?:=λq=>JN xs (lo*sz) vs (by omega) q;refine⟨xs.take (lo*sz)++vs++xs.drop (lo*sz+S7 vs),⟨?_,.inr ⟨g,_,_,rfl,bM,setRow_heap w g _ _ e _ dU,dS,zB,?_,?_⟩⟩,λi j hi hj=>?_,λy hy=>?_⟩
 .grind
 .grind
 .simp only[<-dB];rw[TG,TG,List.take_take,List.drop_take]
  grind[List.take_of_length_le]
 .rw[iV];by_cases uQ:lo<=i/\i<lo+k
  .obtain⟨y,h3,h4⟩:=l6 (i-lo) j (by omega) hj;have e1:(i-lo)*sz=i*sz-lo*sz:=Nat.sub_mul _ _ _;have e2:lo*sz<=i*sz:=Tf _ uQ.1;have e3:=FL (show i-lo<k by omega) hj;rw[aFa ⟨by omega,by rw[hv];omega⟩];refine⟨y,by grind,?_⟩;have:=eu (i-lo) j (by omega) hj;rw[show lo+(i-lo)=i by omega]at this;rw[this];exact h4.rO cK λ_ h=>h
  .obtain⟨y,h3,h4⟩:=hc i j hi hj;have co:¬(lo*sz<=i*sz+j/\i*sz+j<lo*sz+S7 vs):=by
    rintro ⟨q1,q2⟩;rw[hv]at q2;by_cases qI:i<lo
    .have:=FL qI hj;omega
    .have:(lo+k)*sz<=i*sz:=Tf _ (by omega)
     grind
   rw[aE_ co];exact⟨y,h3,by rw[cQ i j hi hj (by omega)];exact h4.rO cK λ_ h=>h⟩
 grind
def QJ(N:Nat)(st:St)(d:Nat)(x:V)(n':Nat)(c':Nat->Nat->C):S6 (V×S5 Prop×St):=match x with
 | .one (.rL id sz lo len n)=>match oP st.heap id with
  |some (.rows e vQ R c)=>match so N d st,Tg sz vQ with
   |true,Tl=>S8 (.one (.p8 d n'),[lo=0,n'=len,∀i j,i<len->j<sz->c' i j=c i j],{ st with heap:=(d,.rows e sz n' c') :: ug st.heap id })
   |_,_=>S_
  |_=>S_
 |_=>S_
theorem ZKp{F:tK}(hs:qB N F S m st a w){d:Nat}{n':Nat}{c':Nat->Nat->C}(hx:o6 S w m x px)
  (h:QJ N st d x n' c'=S8 (v,o_,pH)) (ho:∀q∈o_,q):∃m',qB N F S m' pH a w/\o6 S w m' v px:=by
 unfold QJ at h;split at h;rotate_left
 .cases h
 rename_i id sz lo len n;split at h;rotate_left
 .cases h
 rename_i e vQ R c hl;split at h;rotate_left
 .cases h
 rename_i hq hb;obtain rfl:=ta hb;obtain⟨rfl,rfl,rfl⟩:=h;have o1:lo=0:=ho _ (by simp);have o2:n'=len:=ho _ (by simp);have o3:∀i j,i<len->j<sz->c' i j=c i j:=ho _ (by simp);subst o1 o2;cases hx with
 |rL hm hc hle hn ha h0 h1=>
  rename_i cc lH aa j9;have e1:aa=j9:=(h1 rfl).symm;have e2:cc=lH:=by omega
  subst e1 e2;have hB:=hs.heap id _ hl;have bm:=hs.own id _ hl;rw[hm]at hB bm;obtain⟨xs,⟨hlen,cX⟩,yO,vS⟩:=hB;refine⟨_,hs.renew d hq (.slice aa n' cc) (.rows e sz n' c') (S8 id) (Tq _) (λ_ _ _=>rfl) (λk hk=>?_) ?_,oI.p8 (zr _ _ _) ?_ (by omega)⟩
  .have ur:sU (.slice aa n cc)=S8 k:=by cases aa<;>exact hk
   grind
  .rcases cX with⟨cX,hR⟩|⟨g,cap,cur,dA,bM,dU,dS,zB,fA,dB⟩
   .cases cX;have:n'=0:=by omega
    subst this;exact⟨[],World.ownsRow_nil _ _ _ _,λi j hi=>aFe hi (by omega),by simp⟩
   .cases dA;have hRl:n'*sz<=n*sz:=Tf _ (by omega);refine⟨xs.take (n'*sz),⟨by grind,.inr ⟨g,cc,cur,rfl,bM,dU,by omega,zB,fA,?_⟩⟩,λi j hi hj=>?_,λy hy=>vS y (Un hy)⟩
    .grind
    .obtain⟨y,h3,h4⟩:=yO i j (by omega) hj;exact⟨y,by rw[List.getElem?_take,aFa (FL hi hj)];exact h3,by grind⟩
  grind
def ZGJ(T:qP)(st:St)(t:Nat)(x:V)(an:S6 sF):S6 (V×S5 Prop×St):=match sv T t,x,an with
 |some ti,.one (.rL id sz lo len n),S8 (.c n' c')=>match ti.k with
  | .slice e=>match sv T e with
   |some te=>match Fk te,oP st.heap id with
    |some z,S8 (.rows e' vQ R c)=>match Tg sz te.size,Tg vQ sz,Tg z.length sz with
     |true,Tl,Tl=>S8 (.one .oF,[n'=R,∀i j,i<R->j<sz->(i<lo\/lo+len<=i)->c' i j=c i j,∀i j,i<len->j<sz->zJ (z.getD j .oF) (c' (lo+i) j)],{ st with heap:=uK st.heap id (.rows e' sz n' c') })
     |_,_,_=>S_
    |_,_=>S_
   |none=>S_
  |_=>S_
 |_,_,_=>S_
theorem ZOu(hT:rZ P T)(hs:qB N w0.F S m st a w)(hg:p9 w0.F.no S0 S w0.w w)
        (di:o6 S w m x px) (h:ZGJ T st t x an=S8 (v,o_,pH)) (ho:∀q∈o_,q) :
  ∃y w',(U9 #[t] ty #[px]).run P w=.ok y w'/\qB N w0.F S m pH a w'/\p9 w0.F.no S0 S w0.w w'/\o6 S w' m v y:=by
 unfold ZGJ at h;split at h;rotate_left
 .cases h
 rename_i ti id sz lo len n n' c' bz;obtain⟨dd,hu,hf⟩:=hT.under bz;split at h;rotate_left
 .cases h
 rename_i e hk;rw[hk]at hf;cases dd<;>simp only[TK.fits]at hf;subst hf;split at h;rotate_left
 .cases h
 rename_i te bU;split at h;rotate_left
 .cases h
 rename_i z e' vQ R c hz hl;split at h;rotate_left
 .cases h
 rename_i bL bF dg;have bL:=ta bL;have bF:=ta bF;have dg:=ta dg;subst bF;simp only[S9,Tc]at h;obtain⟨rfl,rfl,rfl⟩:=h;have o1:n'=R:=ho _ (by simp);have o2:∀i j,i<R->j<vQ->(i<lo\/lo+len<=i)->c' i j=c i j:=ho _ (by simp);have o3:∀i j,i<len->j<vQ->zJ (z.getD j .oF) (c' (lo+i) j):=ho _ (by simp);subst o1;obtain⟨zv,BI,cJ⟩:=RR (S:=S) (w:=w) (m:=ru) hT bU hz;have cu:zv.cells.size=vQ:=by have:=cJ.1;simp at this;omega
 cases di with
 |rL hm hc hle hn ha h0 h1=>
  rename_i cc lH aa j9;subst hc;have hB:=hs.heap id _ hl;rw[hm]at hB;obtain⟨ma,_⟩:=Lu hB;subst ma;by_cases hlen:len=0
  .subst hlen;refine⟨.tuple #[],w,?_,?_,hg,oI.oF⟩
   .cases j9<;>simp[U9,Ta,run_underlying hu]
   .obtain⟨xs,bm,yO,vS⟩:=hB;refine hs.write (.rows e' vQ n c') hl (Tq _) (λ_ _ _=>rfl) ?_;rw[hm];exact⟨xs,bm,λi j hi hj=>by grind,vS⟩
  .obtain⟨b,rfl⟩:=ha.resolve_left (by omega);have e0:=h0 (by omega);rw[TT,Aj,TX]at e0;subst e0;have iy:(UU zv.cells len).toList.length=len*vQ:=by simp[UU,cu]
   have hzg:∀i j,i<len->j<vQ->(UU zv.cells len).toList[i*vQ+j]?=S8 (zv.cells.getD j undef):=by
    intro i j hi hj;have qI:=FL hi hj;have w8:i*vQ+j<len*zv.cells.size:=by rw[cu];exact qI
    simp only[UU,Tv,Array.getElem?_map,Array.getElem?_range,w8,aFg,TT];congr 1;rw[cu,Nat.mul_comm,Nat.mul_add_mod,Nat.mod_eq_of_lt hj];have:j<zv.cells.size:=by omega
    simp[Array.getElem!_eq_getD,T',this]
   obtain⟨cs,cD,h3,h4⟩:=hs.zy hg hl hm lo len hle (UU zv.cells len).toList iy (λy hy=>by
    have gU:y∈UU zv.cells len:=Array.mem_toList_iff.1 hy;simp only[UU,Array.mem_map,Array.mem_range]at gU;obtain⟨q,hq,rfl⟩:=gU;have dw:q % zv.cells.size<zv.cells.size:=Nat.mod_lt _ (by
     grind)
    refine cJ.2.2 _ ?_
    grind) (λi j=>c' (lo+i) j) (λi j hi hj=>⟨_,hzg i j hi hj,by
     have xp:j<zv.cells.size:=by omega
     have hcj:z[j]?=S8 (z.getD j .oF):=by grind
     obtain⟨y,q1,q2⟩:=cJ.2.1 j _ hcj;have:zv.cells.getD j undef=y:=by
      rw[Tv]at q1;simp[T',q1]
     rw[this];exact ZIA q2 (o3 i j hi hj)⟩) c' o2 (λ_ _ _ _=>rfl)
   refine⟨.tuple #[],w.setRow b cs,?_,h3,h4,oI.oF⟩;have iW:=cD P;obtain⟨aD8,rfl⟩ : ∃l0,len=l0+1:=⟨len-1,by omega⟩;simp[U9,Ta,run_underlying hu,BI,iW]
def ZCT(T:qP)(st:St)(t:Nat)(s x:V)(an:S6 sF):S6 (V×S5 Prop×St):=match sv T t,s,x,an with
 |some ti,.one (.rL id sz lo i n),.one (.rL id2 yC j k n2),S8 (.r (.one (.sl _ n' c')) _)=>match ti.k with
  | .slice e=>match sv T e,oP st.heap id with
   |some te,S8 (.rows e' vQ R c)=>match Tg id2 id,Tg sz te.size,Tg yC sz,Tg vQ sz with
    |true,Tl,Tl,Tl=>S8 (.one (.rL id sz lo (i+k) n),[n'=R,lo=0,i+k<=R,∀p q,p<R->q<sz->(p<i\/i+k<=p)->c' p q=c p q,∀p q,p<k->q<sz->c' (i+p) q=c (j+p) q],{ st with heap:=uK st.heap id (.rows e' sz n' c') })
    |_,_,_,_=>S_
   |_,_=>S_
  |_=>S_
 |_,_,_,_=>S_
theorem ZOy(hT:rZ P T)(hs:qB N w0.F S m st a w)(hg:p9 w0.F.no S0 S w0.w w)
   {s:V} {ps:Value}    (b9:o6 S w m s ps) (di:o6 S w m x px) (h:ZCT T st t s x an=S8 (v,o_,pH)) (ho:∀q∈o_,q) :
  ∃y w',(Tu #[t,t] ty #[ps,px]).run P w=.ok y w'/\qB N w0.F S m pH a w'/\p9 w0.F.no S0 S w0.w w'/\o6 S w' m v y:=by
 unfold ZCT at h;split at h;rotate_left
 .cases h
 rename_i ti id sz lo i n id2 yC j k n2 sz3 n' c' fz bz;obtain⟨dd,hu,hf⟩:=hT.under bz;split at h;rotate_left
 .cases h
 rename_i e hk;rw[hk]at hf;cases dd<;>simp only[TK.fits]at hf;subst hf;split at h;rotate_left
 .cases h
 rename_i te e' vQ R c bU hl;split at h;rotate_left
 .cases h
 rename_i cn bL bF dg;have cn:=ta cn;have bL:=ta bL;have bF:=ta bF;have dg:=ta dg;subst cn dg;subst bF;simp only[S9,Tc]at h;obtain⟨rfl,rfl,rfl⟩:=h;have o1:n'=R:=ho _ (by simp);have o2:lo=0:=ho _ (by simp);have o3:i+k<=R:=ho _ (by simp);have o4:∀p q,p<R->q<yC->(p<i\/i+k<=p)->c' p q=c p q:=ho _ (by simp);have o5:∀p q,p<k->q<yC->c' (i+p) q=c (j+p) q:=ho _ (by simp);subst o1 o2;obtain⟨i0,hi,yE,bE,j8⟩:=hT.info bU;have bf:i0.size=yC:=by rw[yE,bL]
 cases b9 with
 |rL hm hc hle hn ha h0 h1=>
  rename_i cc lH aa j9;have e1:aa=j9:=(h1 rfl).symm;have e2:cc=lH:=by omega
  subst e1 e2;cases di with
  |rL GP zF aEe hn2 Rh h02 zm=>
   rename_i dc dc' da da';rw[hm]at GP;obtain⟨rfl,rfl,rfl⟩ : aa=da/\n=n2/\cc=dc:=by simpa using GP
   subst zF;have hB:=hs.heap id2 _ hl;rw[hm]at hB;obtain⟨ma,_⟩:=Lu hB;subst ma;have gh:i+k<=cc:=by omega
   by_cases Ae:k=0
   .subst Ae;refine⟨.slice aa (i+0) cc,w,?_,?_,hg,oI.rL hm (by omega) (by omega) hn ha h0 h1⟩
    .have mc:(Uk yC 0 (.slice da' 0 (cc-j))).run P w=.ok #[] w:=by
      cases da' with
      |none=>rfl
      |some q=>exact run_firstCells_some w yC 0 q 0 (cc-j) [] (by simp) (λj v h=>by simp at h)
     simp[Tu,Ta,run_underlying hu,sizeOf,typeInfo,hi,Ux,mc,bf,show i<=cc by omega];cases aa<;>simp[storeCells]
    .obtain⟨xs,bm,yO,vS⟩:=hB;refine hs.write (.rows e' yC n c') hl (Tq _) (λ_ _ _=>rfl) ?_;rw[hm];exact⟨xs,bm,λp q hp hq=>by grind,vS⟩
   .obtain⟨b,rfl⟩:=ha.resolve_left (by omega);have e0:=h02 (by omega);rw[TT,Aj,TX]at e0;subst e0;obtain⟨_,_,_,_,_,gj⟩:=Zwq hB;obtain⟨xs,⟨hlen,cX⟩,hc,vS⟩:=hB;rcases cX with⟨cX,_⟩|⟨g,cap,cur,dA,bM,dU,dS,zB,fA,dB⟩
    .cases cX
    simp only[Value.slice.injEq,S9,Addr.mk.injEq,aFw]at dA;obtain⟨rfl,_,rfl⟩:=dA;have hjk:(j+k)*yC<=n*yC:=Tf _ (by omega);rw[TJ]at hjk;have lI:((xs.drop (j*yC)).take (k*yC)).length=k*yC:=by simp[hlen];omega
    have gS:∀q,q<n*yC->∀u,xs[q]?=S8 u->w.cell? ⟨b,q,S_⟩=S8 u:=λq hq u hu=>by
     rw[O0 dU]
     grind
    obtain⟨cs,cD,h3,h4⟩:=hs.zy hg hl hm i k o3 ((xs.drop (j*yC)).take (k*yC)) lI (λy hy=>vS y (List.mem_of_mem_drop (Un hy))) (λp q=>c (j+p) q) (λp q hp hq=>by
     obtain⟨y,q1,q2⟩:=hc (j+p) q (by omega) hq;have:=FL hp hq
     grind) c' o4 o5
    refine⟨.slice (S8 ⟨b,0,S_⟩) (i+k) cc,w.setRow b cs,?_,h3,h4,oI.rL hm (by omega) (by omega) hn ha h0 h1⟩;have mc:(Uk yC k (.slice (S8 ⟨b,j*yC,S_⟩) k (cc-j))).run P w=.ok ((xs.drop (j*yC)).take (k*yC)).toArray w:=by
     exact run_firstCells_some w yC k ⟨b,j*yC,S_⟩ k (cc-j) _ lI (λq u hu=>by
      rw[Aj]
      grind)
    have iW:=cD P;simp[Tu,Ta,run_underlying hu,sizeOf,typeInfo,hi,Ux,mc,gh,Aj,bf,iW]
end
section
def xc (P : Program) (f : FuncId) : Prop := ∃ fn, P.funcs[f]? = S8 fn /\ (fn.name == "runtime.NumGoroutine") = Tm /\ fn.body.isNone = Tm
def D4(S:Nat->Prop)(w:World)(args:S5 V)(vs:S5 Value):Prop:=S7 vs=S7 args/\∀(j:Nat)(v:V),args[j]?=S8 v->∃x,vs[j]?=S8 x/\o6 S w ru v x
def yh(P:Program)(f:FuncId)(args:S5 V)(res:V):Prop:=xc P f/\∀(S:Nat->Prop)(w:World)(vs:S5 Value),(∀b,S b->b<w.heap.size)->D4 S w args vs->Calls P f vs.toArray w λe w'=>∃x S',e=.returned x/\p9 (λk=>k<w.heap.size) S S' w w'/\(∀b,S' b->b<w'.heap.size)/\o6 S' w' ru res x
def yv(st:St)(c:C):S6 C:=match c with
 | .p8 id n=>match oP st.heap id with
  |some (.rows _ sz len cc)=>S8 (.sl sz len cc)
  |_=>S_
 | .ptr id off=>match oP st.heap id with
  |some (.box l)=>match l.all C.pure with
   |true=>S8 (.rp Tm (S7 l-off) λj=>l.getD (off+j) .oF)
   |false=>S_
  |_=>S_
 |c=>match c.pure with
  |true=>S8 c
  |false=>S_
def tI{α β:Type}(f:α->S6 β):S5 α->S6 (S5 β)
 | []=>S8 []
 |c :: l=>match f c,tI f l with
  |some c',S8 l'=>S8 (c' :: l')
  |_,_=>S_
theorem Lk{α β:Type}{f:α->S6 β}:∀{l:S5 α}{l':S5 β},tI f l=S8 l'->S7 l'=S7 l/\∀(j:Nat) c',l'[j]?=S8 c'->∃c,l[j]?=S8 c/\f c=S8 c'
 | [],l',h=>by cases h;simp_all
 |c :: l,l',h=>by
  simp only[tI]at h
  split at h
  .rename_i c1 l1 h1 h2
   cases h
   obtain⟨h3,h4⟩:=Lk h2
   grind
  .cases h
theorem ZPR{α β:Type}{f:α->S6 β}:∀{l:S5 α}{l':S5 β},tI f l=S8 l'->∀c∈l,∃c',f c=S8 c'
 |x :: l,l',h,c,hc=>by
  simp[tI]at h
  split at h
  .rename_i c1 l1 h1 h2
   have:=ZPR h2
   grind
  .cases h
variable{w w':World}{S S':Nat->Prop}{m m':Mp}{x:Value}{st:St}{a:Act}{P:Program}{xs:S5 Value}{o:Oper}{N:Nat}{K:Act->World->Prop}{Q:Exit->Act->World->Prop}{β:Type}{F:tK}{f:Operand}{args:Array Operand}{bA:Array TypeId}
theorem ZPS{α:Type}{f:α->S6 β}{l:S5 α}{l':S5 β}(h:tI f l=S8 l')(c':β)(hc:c'∈l'):∃c,f c=S8 c':=by
 obtain⟨j,hj,rfl⟩:=UZ hc;obtain⟨c,_,h2⟩:=(Lk h).2 j _ (Va hj)
 grind
theorem ZCp{α β:Type}{f g:α->S6 β}:∀{l:S5 α}{l':S5 β},(∀c∈l,∀c',f c=S8 c'->g c=S8 c')->tI f l=S8 l'->tI g l=S8 l'
 | [],l',_,h=>h
 |c :: l,l',hm,h=>by
  simp only[tI]at h ⊢
  split at h
  .rename_i c1 l1 h1 h2
   cases h
   rw[hm c (by simp) c1 h1,ZCp (λc hc=>hm c (by simp[hc])) h2]
  .cases h
theorem OJ{f:C->S6 β}{n:Nat}{g:Nat->C}{l:S5 β}(h:tI f (xX n g)=S8 l)(d:β){i:Nat}(hi:i<n):f (g i)=S8 (l.getD i d):=by
 obtain⟨e1,e2⟩:=Lk h
 grind[xX]
def Af(S:Nat->Prop)(w:World)(m:Mp)(args:S5 V)(vs:S5 Value):Prop:=S7 vs=S7 args/\∀(j:Nat)(v:V),args[j]?=S8 v->∃x,vs[j]?=S8 x/\o6 S w m v x
theorem qk.Ba{f:C->S6 C}(hf:∀c c' x,oI S w m c x->f c=S8 c'->oI S' w' m' c' x){l l':S5 C}(h:qk S w m l xs)(hr:tI f l=S8 l'):qk S' w' m' l' xs:=by
 obtain⟨h1,h2⟩:=Lk hr;refine⟨by rw[h1];exact h.1,λj c' hc=>?_,h.2.2⟩;obtain⟨c,h3,h4⟩:=h2 j c' hc;obtain⟨x,h5,h6⟩:=h.2.1 j c h3
 grind
theorem Af.Ba{f:V->S6 V}(hf:∀c c' x,o6 S w m c x->f c=S8 c'->o6 S' w' m' c' x){l l':S5 V}(h:Af S w m l xs)(hr:tI f l=S8 l'):Af S' w' m' l' xs:=by
 obtain⟨h1,h2⟩:=Lk hr;refine⟨by rw[h1];exact h.1,λj c' hc=>?_⟩;obtain⟨c,h3,h4⟩:=h2 j c' hc;obtain⟨x,h5,h6⟩:=h.2 j c h3
 grind
def D0(st:St):S5 C->S6 (S5 C):=tI (yv st)
def zh(st:St)(v:V):S6 V:=match v.pure with
 |true=>S8 v
 |false=>match v with
  | .one c=>match yv st c with
   |some c'=>S8 (.one c')
   |none=>S_
  | .agg l=>match D0 st l with
   |some l'=>S8 (.agg l')
   |none=>S_
  | .qw _=>S_
def yw(st:St):S5 V->S6 (S5 V):=tI (zh st)
theorem ZBx(hS:∀b,S b->S' b)(hO:∀id b,oP st.heap id=S8 b->se S w m (m id) b/\∀k,sU (m id)=S8 k->S' k){c c':C}(hc:oI S w m c x)(h:yv st c=S8 c'):oI S' w ru c' x:=by
 unfold yv at h;split at h
 .rename_i id n;split at h
  .rename_i e sz len cc hl;cases h;cases hc with
   |p8 hm EK=>
    obtain⟨hB,hb⟩:=hO id _ hl;rw[hm]at hB;obtain⟨rfl,h2⟩:=oI.wL (m':=ru) hB ⟨_,_,rfl⟩ hS λk hk=>hb k (by grind);exact h2
  .cases h
 .rename_i id off;split at h
  .rename_i l hl;split at h
   .rename_i hp;cases h;cases hc with
    |ptr hm=>
     obtain⟨hB,hb⟩:=hO id _ hl;rw[hm]at hB;exact oI.CD hB hp hS (hb _ (by rw[hm];rfl))
   .cases h
  .cases h
 .split at h
  .rename_i hp;cases h;exact(hc.anyM _ hp).rO (λ_ _=>rfl) hS
  .cases h
theorem ZQN(hS:∀b,S b->S' b)(hO:∀id b,oP st.heap id=S8 b->se S w m (m id) b/\∀k,sU (m id)=S8 k->S' k){v v':V}(hv:o6 S w m v x)(h:zh st v=S8 v'):o6 S' w ru v' x:=by
 unfold zh at h;split at h
 .rename_i hp;cases h;exact(hv.anyM _ hp).rO (λ_ _=>rfl) hS
 .split at h
  .split at h
   .rename_i c' hc;cases h;exact ZBx hS hO hv hc
   .cases h
  .split at h
   .rename_i l' hl;cases h;obtain⟨xs,rfl,q⟩:=hv;exact⟨xs,rfl,q.Ba (λ_ _ _=>ZBx hS hO) hl⟩
   .cases h
  .cases h
theorem ZQO(hs:qB N F S m st a w){vs g6:S5 V}(hv:Af S w m vs xs)(h:yw st vs=S8 g6):Af (λb=>b<w.heap.size) w ru g6 xs:=
 hv.Ba (λ_ _ _=>ZQN hs.u5 λid b hb=>⟨hs.heap id b hb,λk hk=>(hs.own id b hb k hk).2.2⟩) h
def C.flat:C->Bool | .lit _=>Tl|_=>Tm
def V.flat:V->Bool | .one c=>c.flat | .agg l=>l.all C.flat | .qw l=>l.all λp=>p.2.all C.flat
theorem oI.flat{c:C}(h:oI S w m c x)(hf:c.flat=Tl):oI S' w' m' c x:=by
 cases h<;>first|exact .lit|simp[C.flat]at hf
theorem qk.flat{l:S5 C}(h:qk S w m l xs)(hf:l.all C.flat=Tl):qk S' w' m' l xs:=
 ⟨h.1,λj c hc=>by obtain⟨x,h1,h2⟩:=h.2.1 j c hc;exact⟨x,h1,h2.flat (Tt.1 hf c (Tk hc))⟩,h.2.2⟩
theorem o6.flat{v:V}(h:o6 S w m v x)(hf:v.flat=Tl):o6 S' w' m' v x:=by
 cases v with
 |one c=>exact oI.flat h hf
 |agg l=>obtain⟨xs,h1,h2⟩:=h;exact⟨xs,h1,h2.flat hf⟩
 |qw l=>
  obtain⟨xs,h1,h2,h3⟩:=h;refine⟨xs,h1,h2,λj p hj=>?_⟩;have hq:=Tt.1 hf p (Tk hj);obtain⟨y,h4,h5⟩:=h3 j p hj;refine⟨y,h4,?_⟩;obtain⟨b,cs⟩:=p
  match b,cs,h5,hq with
  |true,cs,h5,hq=>obtain⟨ys,h6,h7⟩:=h5;exact⟨ys,h6,h7.flat hq⟩
  |false,[c],h5,hq=>exact oI.flat h5 (by simpa using hq)
  |false,[],_,_=>trivial
  |false,_ :: _ :: _,_,_=>trivial
theorem o6.tR{v:V}(h:o6 S w ru v x):o6 S w m v x:=by
 cases v with
 |one c=>exact oI.tR h
 |agg l=>obtain⟨xs,h1,h2,h3,h4⟩:=h;exact⟨xs,h1,h2,λj c hj=>by obtain⟨y,h5,h6⟩:=h3 j c hj;exact⟨y,h5,h6.tR⟩,h4⟩
 |qw l=>
  obtain⟨xs,h1,h2,h3⟩:=h;refine⟨xs,h1,h2,λj p hj=>?_⟩;obtain⟨y,h4,h5⟩:=h3 j p hj;refine⟨y,h4,?_⟩;obtain⟨b,cs⟩:=p
  match b,cs,h5 with
  |true,cs,h5=>obtain⟨ys,h6,h7,h8,h9⟩:=h5;exact⟨ys,h6,h7,λj c hj=>by obtain⟨y,h5,h6⟩:=h8 j c hj;exact⟨y,h5,h6.tR⟩,h9⟩
  |false,[c],h5=>exact oI.tR h5
  |false,[],_=>trivial
  |false,_ :: _ :: _,_=>trivial
theorem CS(h:(execOp a.eval o).run P w=.ok (.value x) w')(hk:K (a.put o.dst x) w'):o.wp P a w K Q:=by
 unfold Oper.wp;rw[h];exact hk
theorem ZzB(h:(execOp a.eval o).run P w=.ok .skip w')(hk:K (a.put o.dst undef) w'):o.wp P a w K Q:=by
 unfold Oper.wp;rw[h];exact hk
theorem Zvz{f:FuncId}(h:xc P f)(args:Array Value)(w:World):(callFunc f args).run P w=.ok (.enter f args) w:=by
 obtain ⟨fn,h1,h2,h3⟩:=h;have i3 : fn.name ≠ "runtime.NumGoroutine" := by simpa using h2
 have i4:fn.body≠S_:=by
  grind
 simp[callFunc,h1,i3,i4]
def ER(st:St)(f:Operand):S6 (FuncId×S5 C×S5 C):=match pT st f with
 | .one (.lit (.func (.func g) a b))=>match a.size,b.size with
  | 0,0=>S8 (g,[],[])
  |_,_=>S_
 | .one (.qs (.func g) na nb a b)=>S8 (g,xX na a,xX nb b)
 |_=>S_
def C.GO:C->V | .uR n c=>.agg (xX n c)|c=>.one c
theorem oI.GO{c:C}(h:oI S w m c x):o6 S w m c.GO x:=by
 cases c with
 |uR n f=>
  cases h with
  |uR xs h1 h=>
   refine⟨xs,rfl,by simp[xX],λj c hc=>?_,h1⟩;obtain⟨h3,rfl⟩:=OR hc;simp_all
 |_=>exact h
theorem C.Bg(c:C)(id:Nat):c.GO.pI id=c.pI id:=by
 cases c with
 |uR n f=>grind[C.GO,V.pI,C.pI,xX]
 |_=>rfl
def vU(st:St)(args:S5 Operand)(a b:S5 C):S5 V:=a.map C.GO++args.map (pT st)++b.map C.GO
def ZGX:S5 V->Bool
 | []=>Tl
 |v :: l=>match v.pure with
  |true=>ZGX l
  |false=>Tm
def GW(P:Program)(st:St)(f:Operand)(args:S5 Operand)(r:V):S6 (S5 Prop):=match ER st f with
 |some (g,a,b)=>match ZGX (vU st args a b)with
  |true=>S8 [yh P g (vU st args a b) r]
  |false=>match yw st (vU st args a b),r.flat with
   |some vs,Tl=>S8 [yh P g vs r]
   |_,_=>S_
 |none=>S_
theorem ZDm:∀{l:S5 V},ZGX l=Tl->∀v∈l,v.pure=Tl
 | [],_,v,h=>by cases h
 |u :: l,h,v,hv=>by
  simp only[ZGX]at h
  split at h
  .rename_i hu
   rcases List.mem_cons.1 hv with rfl|hv
   .exact hu
   .exact ZDm h v hv
  .cases h
theorem ZEX(hs:qB N F S m st a w)
      (ho:o.op=.call { callee:=.value f,args:=args,argTypes:=bA }) {g:FuncId} {ca cb:S5 C} (hc:ER st f=S8 (g,ca,cb)) :
  ∃vs:Array Value,Af S w m (vU st args.toList ca cb) vs.toList/\(xc P g->(execOp a.eval o).run P w=.ok (.enter g vs) w):=by
 -- the call's values
 have fE:∃xs ys:Array Value,(resolve a.eval { callee:=.value f,args:=args,argTypes:=bA } o.type).run P w=.ok { target:=.fn (.func g) ys,args:=xs++args.map a.eval } w /\
   ((xs++args.map a.eval++ys).toList.length=(vU st args.toList ca cb).length)/\∀(j:Nat)(v:V),(vU st args.toList ca cb)[j]?=S8 v->∃x,(xs++args.map a.eval++ys).toList[j]?=S8 x/\o6 S w m v x:=by
  have hf:=hs.pT f;unfold ER at hc;have tJ:∀(j:Nat)(v:V),(args.toList.map (pT st))[j]?=S8 v->∃x,(args.map a.eval).toList[j]?=S8 x/\o6 S w m v x:=by
   intro j v hj;simp at hj;obtain⟨y,h1,rfl⟩:=hj;exact⟨a.eval y,by simp_all,hs.pT y⟩
  split at hc
  .rename_i g' xa xb hv;split at hc
   .rename_i h1 h2;cases hc;obtain rfl:xa = #[]:=U7 h1;obtain rfl:xb = #[]:=U7 h2;rw[hv]at hf;have j4:a.eval f=.func (.func g) #[] #[]:=by
     generalize a.eval f=q at hf;cases hf;rfl
    refine⟨#[],#[],by simp[resolve,j4,Deferred.ofValue],by simp[vU],?_⟩;simpa[vU]using tJ
   .cases hc
  .rename_i g' na nb fa fb hv;cases hc;rw[hv]at hf;obtain⟨xs,ys,j4,e1,e2,h1,h2⟩ : ∃xs ys:Array Value,a.eval f=.func (.func g) xs ys/\xs.size=na/\ys.size=nb/\(∀i,i<xs.size->oI S w m (fa i) (xs.getD i undef))/\∀i,i<ys.size->oI S w m (fb i) (ys.getD i undef):=by
    generalize hq:a.eval f=q at hf;cases hf with
    |qs xs ys ha hb=>grind
   subst e1;subst e2;refine⟨xs,ys,by simp[resolve,j4,Deferred.ofValue],by simp[vU,xX],?_⟩;intro j v hj;unfold vU at hj;by_cases D9:j<xs.size
   .rw[Vl,Ud (by simp[xX];exact D9)]at hj;simp only[TN,TD]at hj;obtain⟨c,h3,rfl⟩:=hj;obtain⟨h4,rfl⟩:=OR h3;refine⟨xs.getD j undef,?_,(h1 j D9).GO⟩;simp[T',Ud,D9,Array.getElem?_append,show j<xs.size+args.size by omega]
   .by_cases xp:j<xs.size+args.size
    .rw[Vl,TM (by simp[xX];omega),Ud (by simp[xX];omega)]at hj;obtain⟨x,h3,h4⟩:=tJ _ v hj;refine⟨x,?_,h4⟩;simp only[Vo,SK]at h3
     grind
    .rw[TM (by simp[xX];omega)]at hj;simp only[TN,TD,List.length_append,Vo,SK,Array.length_toList]at hj;obtain⟨c,h3,rfl⟩:=hj;obtain⟨h4,rfl⟩:=OR h3;refine⟨ys.getD (j-(xs.size+args.size)) undef,?_,(h2 _ h4).GO⟩;simp only[Array.toList_append];rw[TM (by simp;omega)];simp_all
  .cases hc
 obtain⟨xs,ys,ew,hlen,pQ⟩:=fE;have cF:xc P g->(execOp a.eval o).run P w=.ok (.enter g (xs++args.map a.eval++ys)) w:=by
  intro mi;unfold execOp;simp only[ho,Ta,ew,Tj,invoke,Zvz mi]
 exact⟨_,⟨hlen,pQ⟩,cF⟩
theorem ZWf{S0:Nat->Prop}{w0:t_}(hs:qB N w0.F S m st a w)(hg:p9 w0.F.no S0 S w0.w w)
      (ho:o.op=.call { callee:=.value f,args:=args,argTypes:=bA }) {r:V} {o_:S5 Prop} (h:GW P st f args.toList r=S8 o_) (dj:∀q∈o_,q)  
  (hk:∀x w' S',qB N w0.F S' m st a w'->p9 w0.F.no S0 S' w0.w w'->o6 S' w' m r x->K (a.put o.dst x) w'):o.wp P a w K Q:=by
 unfold GW at h;split at h
 .rename_i g ca cb hc;obtain⟨xs,pQ,cF⟩:=ZEX (P:=P) hs ho hc;have bD:∀{vs:S5 V}{S1:Nat->Prop},yh P g vs r->D4 S1 w vs xs.toList->(∀b,S1 b->b<w.heap.size) ->
    (∀x w' S',p9 (λk=>k<w.heap.size) S1 S' w w'->(∀b,S' b->b<w'.heap.size)->o6 S' w' ru r x->K (a.put o.dst x) w')->o.wp P a w K Q:=by
   intro vs S1 dl rr hS1 c4;unfold Oper.wp;rw[cF dl.1];have:=dl.2 S1 w _ hS1 rr;rw[Vg]at this;refine Calls.mono this ?_
   grind
  split at h
  .rename_i hp;cases h;have dl:yh P g (vU st args.toList ca cb) r:=dj _ (by simp);refine bD dl ⟨pQ.1,λj v hj=>?_⟩ hs.u5 λx w' S' h1 h2 h3=>?_
   .obtain⟨x,h3,h4⟩:=pQ.2 j v hj;exact⟨x,h3,h4.anyM ru (ZDm hp v (Tk hj))⟩
   .have bV:=hs.grow (S':=S') h1.below.size h1.below.block h1.sub λb hb=>(h1.sup b hb).imp id λh=>⟨Nat.le_of_not_lt h,h2 b hb⟩;refine hk x w' S' bV (hg.step (h1.below.mono hs.pJ) h1.sub λb hb=>(h1.sup b hb).imp id λh hF=>h (hs.pJ _ hF)) h3.tR
  .split at h
   .rename_i vs hb fX;cases h;have dl:yh P g vs r:=dj _ (by simp);refine bD dl (ZQO hs pQ hb) (λb h=>h) λx w' S' h1 h2 h3=>?_;have bV:=hs.grow (S':=S) (w':=w') h1.below.size h1.below.block (λ_ h=>h) λb hb=>.inl hb;exact hk x w' S bV (hg.step (h1.below.mono hs.pJ) (λ_ h=>h) λb hb=>.inl hb) (h3.flat fX)
   .cases h
 .cases h
end
section
def ZPX:S5 C->S6 (S5 Value)
 | []=>S8 []
 | .lit x :: l=>match ZPX l with
  |some xs=>S8 (x :: xs)
  |none=>S_
 |_=>S_
def V.val:V->S6 Value
 | .one (.lit x)=>S8 x
 | .agg l=>match ZPX l with
  |some xs=>S8 (.agg xs.toArray)
  |none=>S_
 |_=>S_
theorem ZEr{S:Nat->Prop}{w:World}{m:Mp}:∀{l:S5 C}{ys xs:S5 Value},qk S w m l ys->ZPX l=S8 xs->ys=xs
 | [],ys,xs,h,hl=>by
  cases hl
  exact List.eq_nil_of_length_eq_zero h.1
 |c :: l,ys,xs,h,hl=>by
  cases c<;>simp only[ZPX]at hl<;>try (cases hl;done)
  rename_i x
  split at hl
  .rename_i jJ gS
   cases hl
   obtain⟨e1,e2,e3⟩:=h
   cases ys with
   |nil=>simp at e1
   |cons y ys=>
    have ht:=ZEr (ys:=ys) ⟨by simpa using e1,λj c hj=>by have:=e2 (j+1) c (by simpa using hj);simpa using this,λy hy=>e3 y (by simp[hy])⟩ gS
    obtain⟨z,h3,h4⟩:=e2 0 _ rfl
    cases h3
    cases h4
    rw[ht]
  .cases hl
variable{k z:Value}{P:Program}{kt:TypeId}{w:World}{es:S5 MapEntry}{S:Nat->Prop}{e:MapEntry}{i c j aH:Nat}{α:Type}
theorem V.vD{m:Mp}{v:V}{x y:Value}(h:o6 S w m v x)(hv:v.val=S8 y):x=y:=by
 unfold V.val at hv;split at hv
 .cases hv;cases h;rfl
 .split at hv
  .rename_i l xs gS;cases hv;obtain⟨ys,rfl,h1⟩:=h;rw[<-ZEr h1 gS]
  .cases hv
 .cases hv
structure xU (P:Program) (kt:TypeId) (k:Value) (ks:List Value):Prop where
 check:∀(e:Bool)(w:World),(Instr.checkKey e 10000 kt k).run P w=.ok () w
 I3:∃d,P.underlying kt=S8 d/\∀k'∈ks,U3 d k k'=S_\/∃b,U3 d k k'=S8 b/\(b=Tl↔k=k')
 eql:∀k'∈ks,∀w,∃b:Bool,(Op.equal kt k k').run P w=.ok b w/\(b=Tl↔k=k')
 same:Instr.sameBits 10000 k k=Tl
def QM(k:Value)(es:S5 MapEntry)(i:Nat)(r:S6 (Nat×Value)):Prop:=(r=S_/\∀e∈es,e.key≠k)\/∃j e,es[j]?=S8 e/\e.key=k/\r=S8 (i+j,e.val)
theorem QM.cons{r:S6 (Nat×Value)}(he:e.key≠k)(h:QM k es (i+1) r):QM k (e :: es) i r:=by
 rcases h with⟨h1,h2⟩|⟨j,e',h1,h2,h3⟩
 .exact .inl ⟨h1,λx hx=>by grind⟩
 .exact .inr ⟨j+1,e',by simpa using h1,h2,by rw[h3];congr 2;omega⟩
theorem Zvy{P:Program}{kt:TypeId}{k:Value}(w:World):∀(es:S5 MapEntry)(i:Nat),(∀e∈es,∃b:Bool,(Op.equal kt k e.key).run P w=.ok b w/\(b=Tl↔k=e.key))->∃r,(U5 kt k es i).run P w=.ok r w/\QM k es i r
 | [],i,h=>⟨S_,by simp[U5],.inl ⟨rfl,by simp⟩⟩
 |e :: es,i,h=>by
  obtain⟨b,h1,h2⟩:=h e U0
  simp only[U5,Ta,h1,Tj]
  cases b with
  |true=>exact⟨S8 (i,e.val),by simp,.inr ⟨0,e,rfl,(h2.1 rfl).symm,rfl⟩⟩
  |false=>
   obtain⟨r,h3,h4⟩:=Zvy (P:=P) (kt:=kt) (k:=k) w es (i+1) λe he=>h e (U1 _ he)
   exact⟨r,by simpa using h3,h4.cons λhk=>by simp_all⟩
theorem ZQt{d:TypeDesc}{k:Value}:∀(es:S5 MapEntry)(i:Nat),(∀e∈es,U3 d k e.key=S_\/∃b,U3 d k e.key=S8 b/\(b=Tl↔k=e.key))->UY d k es i=S_\/∃r,UY d k es i=S8 r/\QM k es i r
 | [],i,h=>.inr ⟨S_,rfl,.inl ⟨rfl,by simp⟩⟩
 |e :: es,i,h=>by
  rcases h e U0 with h1|⟨b,h1,h2⟩
  .left;simp[UY,h1]
  .cases b with
   |true=>exact .inr ⟨S8 (i,e.val),by simp[UY,h1],.inr ⟨0,e,rfl,(h2.1 rfl).symm,rfl⟩⟩
   |false=>
    rcases ZQt (d:=d) (k:=k) es (i+1) λe he=>h e (U1 _ he)with h3|⟨r,h3,h4⟩
    .left;simp[UY,h1,h3]
    .exact .inr ⟨r,by simp[UY,h1,h3],h4.cons λhk=>by simp_all⟩
theorem xU.find(h:xU P kt k (es.map (·.key)))(w:World):∃r,(Vp kt k es).run P w=.ok r w/\QM k es 0 r:=by
 obtain⟨d,hd,hs⟩:=h.I3;have he:∀e∈es,e.key∈es.map (·.key):=λe he=>Uf.2 ⟨e,he,rfl⟩;unfold Vp;simp[ run_underlying hd];rcases ZQt (d:=d) (k:=k) es 0 λe h=>hs _ (he e h)with h1|⟨r,h1,h2⟩
 .rw[h1];exact Zvy w _ 0 λe hm=>h.eql _ (he e hm) w
 simp_all
theorem tg.uC{l:S5 (Value×V)}(h:tg S w l es c):es.map (·.key)=l.map (·.1):=by
 apply List.ext_getElem
 .simp[h.len]
 .intro i h1 h2;have i1:i<S7 es:=by simpa using h1
  have i2:i<S7 l:=by simpa using h2
  simp;exact(h.at_ i l[i] es[i] (by simp) (by simp)).1
def Ez(l:S5 (Value×V))(k z:Value)(v:V):Prop:=(∃p∈l,p.1=k/\∀S w m x,o6 S w m p.2 x->o6 S w m v x)\/((∀p∈l,p.1≠k)/\∀S w m,o6 S w m v z)
def N0(l:S5 (Value×V))(k:Value)(v:V)(l':S5 (Value×V)):Prop:=(∃j,(l[j]?).map (·.1)=S8 k/\l'=l.set j (k,v))\/((∀p∈l,p.1≠k)/\l'=l++[(k,v)])
def N1(l:S5 (Value×V))(k:Value)(l':S5 (Value×V)):Prop:=(∃j,(l[j]?).map (·.1)=S8 k/\l'=l.eraseIdx j)\/((∀p∈l,p.1≠k)/\l'=l)
theorem Bt{l:S5 α}(h:j<S7 l):l[j]?=S8 l[j]:=by simp
theorem Ol{l:S5 α}(h:l.Nodup){a:α}(hi:l[i]?=S8 a)(hj:l[j]?=S8 a):i=j:=by
 grind[List.getElem?_inj]
def MO(T:qP)(t:TypeId):S6 (TypeId×TypeId):=match sv T t with
 |some ti=>match ti.k with
  | .map k v=>S8 (k,v)
  |_=>S_
 |none=>S_
theorem RW{T:qP}(hT:rZ P T){t k v:TypeId}(h:MO T t=S8 (k,v)):P.underlying t=S8 (.map k v):=by
 unfold MO at h;split at h;rotate_left
 .cases h
 rename_i ti bz;obtain⟨d,hu,hf⟩:=hT.under bz;split at h;rotate_left
 .cases h
 rename_i k' v' hk;rw[hk]at hf;cases d<;>simp only[TK.fits]at hf;simp_all
def Bu(st:St)(v:V):S6 (Nat×TypeId×S5 (Value×V)):=match v with
 | .one (.mp id)=>match oP st.heap id with
  |some (.map kt l)=>S8 (id,kt,l)
  |_=>S_
 |_=>S_
theorem K_{st:St}{v:V}{id kt:Nat}{l:S5 (Value×V)}(h:Bu st v=S8 (id,kt,l)):v=.one (.mp id)/\oP st.heap id=S8 (.map kt l):=by
 unfold Bu at h
 grind
def Zzb(N:Nat)(T:qP)(st:St)(d t:Nat)(r:S6 V):S6 (V×S5 Prop×St):=match MO T t,so N d st with
 |some (k,_),Tl=>match r with
  |none=>S8 (.one (.mp d),[],st.new d (.map k []))
  |some v=>match z7 v with
   |some _=>S8 (.one (.mp d),[],st.new d (.map k []))
   |none=>S_
 |_,_=>S_
def ZHL(T:qP)(t:TypeId):S6 Value:=match sv T t with
 |some ti=>ti.zero
 |none=>S_
def CP(P:Program)(T:qP)(st:St)(t:Nat)(x k:V)(ok:Bool)(an:S6 sF):S6 (V×S5 Prop):=match ok,MO T t,Bu st x,k.val,an with
 |false,S8 (kt,vt),S8 (_,_,l),S8 kv,S8 (.r v _)=>match ZHL T vt with
  |some z=>S8 (v,[xU P kt kv (l.map (·.1)),Ez l kv z v])
  |none=>S_
 |_,_,_,_,_=>S_
def ZGD(P:Program)(T:qP)(st:St)(t:Nat)(x k v:V)(an:S6 sF):S6 (S5 Prop×St):=match MO T t,Bu st x,k.val,v.pure,an with
 |some (kt,_),S8 (id,wS,l),S8 kv,Tl,S8 (.m l')=>S8 ([xU P kt kv (l.map (·.1)),N0 l kv v l'],{ st with heap:=uK st.heap id (.map wS l') })
 |_,_,_,_,_=>S_
def ZUK(kt:Nat):Nat:=match T6 kt 1000000 with
 |true=>kt+1000000
 |false=>kt
def ZBt(P:Program)(T:qP)(st:St)(t:Nat)(x k:V)(an:S6 sF):S6 (S5 Prop×St):=match MO T t,Bu st x,k.val,an with
 |some (kt,_),S8 (id,wS,l),S8 kv,S8 (.m l')=>S8 ([xU P kt kv (l.map (·.1)),N1 l kv l'],{ st with heap:=uK st.heap id (.map (ZUK wS) l') })
 |_,_,_,_=>S_
def Aa(l:S5 (Value×V))(k z:Value)(j:Int)(l':S5 (Value×V)):Prop:=(∃i:Nat,(l[i]?).map (·.1)=S8 k/\j=(i:Int)/\l'=l)\/((∀p∈l,p.1≠k)/\j=((S7 l:Nat):Int)/\∃v,(∀S w m,o6 S w m v z)/\(∀S w m x,o6 S w m v x->x=z)/\l'=l++[(k,v)])
def MSt(l:S5 (Value×V))(j:Int)(v:V)(l':S5 (Value×V)):Prop:=∃i:Nat,j=(i:Int)/\∃p,l[i]?=S8 p/\l'=l.set i (p.1,v)
def Gu(P:Program)(T:qP)(st:St)(t:Nat)(x k:V)(an:S6 sF):S6 (V×S5 Prop×St):=match MO T t,Bu st x,k.val,an with
 |some (kt,vt),S8 (id,wS,l),S8 kv,S8 (.m ((.int _ j,_) :: l'))=>match ZHL T vt,T6 wS 1000000 with
  |some z,Tl=>S8 (.qw [(Tm,[.oF]),(Tm,[.lit (.int .i64 j)])],[xU P kt kv (kv :: l.map (·.1)),Aa l kv z j l'],{ st with heap:=uK st.heap id (.map wS l') })
  |_,_=>S_
 |_,_,_,_=>S_
def LI(st:St)(x s v:V)(an:S6 sF):S6 (S5 Prop×St):=match Bu st x,s,v.pure,an with
 |some (id,wS,l),.one (.lit (.int _ j)),Tl,S8 (.m l')=>match T6 wS 1000000 with
  |true=>S8 ([MSt l j v l'],{ st with heap:=uK st.heap id (.map wS l') })
  |false=>S_
 |_,_,_,_=>S_
theorem xU.sub{ks ks':S5 Value}(h:xU P kt k ks)(hs:∀x∈ks',x∈ks):xU P kt k ks':=
 ⟨h.check,by obtain⟨d,h1,h2⟩:=h.I3;simp_all,λx hx=>h.eql x (hs x hx),h.same⟩
theorem Ez.ent{l l':S5 (Value×V)}{v:V}{j:Int}(h:Ez l k z v)(he:Aa l k z j l'):Ez l' k z v:=by
 rcases he with⟨i,_,_,rfl⟩|⟨h1,_,v0,_,h3,rfl⟩
 .exact h
 .rcases h with⟨p,h4,h5,_⟩|⟨_,h4⟩
  .grind
  .exact .inl ⟨(k,v0),by simp,rfl,λS w m x hx=>by grind⟩
theorem Aa.keys{l l':S5 (Value×V)}{j:Int}(he:Aa l k z j l'):∀x∈l'.map (·.1),x∈k :: l.map (·.1):=by
 rcases he with⟨i,_,_,rfl⟩|⟨h1,_,v0,_,h3,rfl⟩
 all_goals grind
theorem ZWW(w:World)(o:Obj):(w.alloc o).heap[w.heap.size]?=S8 o:=by
 show (w.heap.push o)[w.heap.size]?=S8 o;simp
theorem ZER{es:Array MapEntry}(h:Kv kt es.toList aH)(he:e.born=aH):Kv kt (es.push e).toList (aH+1):=λhk=>by
 obtain⟨h1,h2⟩:=h hk
 grind
theorem Zwb{es:Array MapEntry}(h:Kv kt es.toList aH)(i:Nat)(f:MapEntry->MapEntry)(hf:∀e,(f e).born=e.born):Kv kt (es.modify i f).toList aH:=λhk=>by
 obtain⟨h1,h2⟩:=h hk
 grind
theorem ZKI(kt:TypeId)(es:S5 MapEntry)(aH:Nat):Kv (ZUK kt) es aH:=λhk=>by
 unfold ZUK at hk
 split at hk
 .simp_all;omega
 simp_all
def Gc(w:World)(b:Nat)(o:Obj):World:={ w with heap:=w.heap.setIfInBounds b o }
theorem Lv(w:World)(b:Nat)(es:Array MapEntry)(c:Nat)(o:Obj)(h:w.heap[b]?=S8 (.map es c)):(Go.setObj b o).run P w=.ok () (Gc w b o):=by
 simp[Go.setObj,Vy,h,Gc]
theorem Hf{b:Nat}{es:Array MapEntry}(h:w.heap[b]?=S8 (.map es c)):(Go.getObj b).run P w=.ok (.map es c) w:=by simp[Go.getObj,Vy,h]
section
variable {P:Program} {T:qP} {N:Nat} {S0:Nat->Prop} {w0:t_} {st:St} {a:Act} {w:World} {S:Nat->Prop} {m:Mp}
variable{t:Nat}{v x:V}{o_:S5 Prop}{pH:St}{px pk pv:Value}{an:S6 sF}{l l':S5 (Value×V)}
theorem qB.mapBlock(hs:qB N w0.F S m st a w){id kt:Nat}(hl:oP st.heap id=S8 (.map kt l)):∃b es aH,m id=.map (S8 b)/\w.heap[b]?=S8 (.map es aH)/\tg S w l es.toList aH/\Kv kt es.toList aH:=hs.heap id _ hl
theorem qB.tU(hs:qB N w0.F S m st a w)(hg:p9 w0.F.no S0 S w0.w w){id kt:Nat}(hl:oP st.heap id=S8 (.map kt l)){b aH cq:Nat}{es i5:Array MapEntry}(hm:m id=.map (S8 b))(hb:w.heap[b]?=S8 (.map es aH))
  {F7:Nat} (h:∀w',tj S w w'->tg S w' l' i5.toList cq) (hd:Kv F7 i5.toList cq):qB N w0.F S m { st with heap:=uK st.heap id (.map F7 l') } a (Gc w b (.map i5 cq))/\p9 w0.F.no S0 S w0.w (Gc w b (.map i5 cq)):=by
 have qI:b<w.heap.size:=(hs.own id _ hl b (by rw[hm];rfl)).2.2;have hS:¬S b:=(hs.own id _ hl b (by rw[hm];rfl)).1;have bu:¬w0.F.no b:=(hs.own id _ hl b (by rw[hm];rfl)).2.1;have i6:∀k,k≠b->(Gc w b (.map i5 cq)).heap[k]?=w.heap[k]?:=λk hk=>by simp[Gc];grind
 have cK:tj S w (Gc w b (.map i5 cq)):=λk hk=>i6 k λe=>hS (e ▸ hk);refine⟨hs.write (.map F7 l') hl (by simp[Gc]) (λk hk qN=>i6 k λe=>qN (by rw[hm,e];rfl)) ?_,hg.step ⟨rfl,rfl,rfl,by simp[Gc],λk hk=>i6 k λe=>bu (e ▸ hk),Tq _⟩ (λ_ h=>h) λ_ h=>.inl h⟩;rw[hm];exact⟨b,i5,cq,rfl,by simp[Gc,qI],h _ cK,hd⟩
theorem ZGE(hT:rZ P T)(hs:qB N w0.F S m st a w)(hg:p9 w0.F.no S0 S w0.w w){d:Nat}{r:S6 V}{pr:S6 Value}(hr:match r,pr with|none,S_=>True|some v,S8 x=>o6 S w m v x|_,_=>False)
  (h:Zzb N T st d t r=S8 (v,o_,pH)):∃y w' m',(U4 t pr).run P w=.ok y w'/\qB N w0.F S m' pH a w'/\p9 w0.F.no S0 S w0.w w'/\o6 S w' m' v y:=by
 unfold Zzb at h;split at h;rotate_left
 .cases h
 rename_i k vt fY hq;have hu:=RW hT fY;have aF:v=.one (.mp d)->pH=st.new d (.map k [])->(U4 t pr).run P w=.ok (.map (S8 w.heap.size)) (w.alloc (.map #[] 0))->∃y w' m',(U4 t pr).run P w=.ok y w'/\qB N w0.F S m' pH a w'/\p9 w0.F.no S0 S w0.w w'/\o6 S w' m' v y:=by
  rintro rfl rfl uL;refine⟨_,_,zz m d (.map (S8 w.heap.size)),uL,hs.yB d hq (.map #[] 0) (.map (S8 w.heap.size)) (.map k []) rfl ⟨w.heap.size,#[],0,rfl,ZWW w _,⟨rfl,λj p e h=>by simp at h,by simp,by simp⟩,λ_=>⟨rfl,λj e h=>by simp at h⟩⟩,hg.alloc hs.pJ _,?_⟩;exact oI.mp (zr _ _ _)
 cases r with
 |none=>
  cases pr with
  |some x=>exact hr.elim
  |none=>
   cases h;exact aF rfl rfl (by rfl)
 |some v0=>
  cases pr with
  |none=>exact hr.elim
  |some x=>
   simp only at h;split at h
   .rename_i p hp;cases h;obtain rfl:=Lj hr hp;exact aF rfl rfl (by simp[U4,Ta,run_underlying hu,asInt,asIntOf])
   .cases h
theorem ZKv(hT:rZ P T)(hs:qB N w0.F S m st a w){k:V}{ok:Bool}(hx:o6 S w m x px)(hk:o6 S w m k pk)(h:CP P T st t x k ok an=S8 (v,o_))(ho:∀q∈o_,q) :
  ∃y,(Vd t px pk ok).run P w=.ok y w/\o6 S w m v y:=by
 unfold CP at h;split at h;rotate_left
 .cases h
 rename_i kt vt id wS l kv v' fz fY fF gV;split at h;rotate_left
 .cases h
 rename_i z hz;cases h;have hu:=RW hT fY;obtain⟨rfl,hl⟩:=K_ fF;obtain⟨b,es,aH,hm,hb,hE,hD⟩:=hs.mapBlock hl;obtain rfl:=V.vD hk gV;have hK:xU P kt pk (l.map (·.1)):=ho _ (by simp);have hM:Ez l pk z v:=ho _ (by simp);have di:px=.map (S8 b):=by
  cases hx with
  |mp h'=>simp_all
 subst di;have gk:=hK;rw[<-hE.uC]at gk;obtain⟨r,h1,h2⟩:=gk.find w;have gi:(zeroValue vt).run P w=.ok z w:=by
  unfold ZHL at hz;split at hz
  .rename_i ti bz;obtain⟨i,q1,q2,q3,q4⟩:=hT.info bz;simp[zeroValue,typeInfo,q1,q4,hz]
  .cases hz
 rcases h2 with⟨rfl,h3⟩|⟨j,e,h3,h4,rfl⟩
 .refine⟨z,?_,?_⟩
  .simp only[Vd,Ta,run_underlying hu,Tj,Hf hb,Tp,hK.check,h1,gi];simp
  .rcases hM with⟨p,hp,dD,c5⟩|⟨_,hM⟩
   .exfalso;obtain⟨j,hj,e⟩:=UZ hp;have xp:j<S7 es.toList:=by rw[hE.len];exact hj
    have:=(hE.at_ j p es.toList[j] (by rw[Bt hj,e]) (Bt xp)).1;simp_all
   .exact hM S w m
 .refine⟨e.val,?_,?_⟩
  .simp only[Vd,Ta,run_underlying hu,Tj,Hf hb,Tp,hK.check,h1];simp
  .have hj:j<S7 l:=by
    have:=(Uc.1 h3).1;rw[hE.len]at this;exact this
   obtain⟨q1,q2,q3⟩:=hE.at_ j l[j] e (Bt hj) h3;rcases hM with⟨p,hp,dD,hpv⟩|⟨hM,_⟩
   .obtain⟨j2,xp,e2⟩:=UZ hp;have:j=j2:=Ol hE.keys (a:=pk) (by simp_all) (by simp_all);subst this;rw[e2]at q3;exact hpv _ _ _ _ q3.tR
   simp_all
theorem tg.put{aH:Nat}{x:Value}(h:tg S w l es aH)(hx:o6 S w ru v x)(hM:N0 l k v l') :
  (∃j e,es[j]?=S8 e/\e.key=k/\tg S w l' (es.set j { e with key:=k,val:=x }) aH)\/((∀e∈es,e.key≠k)/\tg S w l' (es++[{ key:=k,val:=x,born:=aH }]) (aH+1)):=by
 rcases hM with⟨j,h1,rfl⟩|⟨h1,rfl⟩
 .left;have hj:j<S7 l:=by
   grind
  have xp:j<S7 es:=by rw[h.len];exact hj
  rw[Bt hj]at h1;simp at h1;obtain⟨q1,q2,q3⟩:=h.at_ j l[j] es[j] (Bt hj) (Bt xp);refine⟨j,es[j],Bt xp,q1.trans h1,⟨by simp[h.len],λi p e hp he=>?_,?_,?_⟩⟩
  .rw[List.getElem?_set]at hp he;by_cases hij:j=i
   .grind
   .rw[aE_ hij]at hp he;exact h.at_ i p e hp he
  .have:(l.set j (k,v)).map (·.1)=l.map (·.1):=by
    rw[Vr];apply UW
    grind
   rw[this];exact h.keys
  .have:(es.set j { es[j]with key:=k,val:=x }).map (·.born)=es.map (·.born):=by
    rw[Vr];apply UW
    grind
   rw[this];exact h.born
 .right;have hk:=h.uC;have qN:∀e∈es,e.key≠k:=λe he sR=>by
   have:e.key∈es.map (·.key):=Uf.2 ⟨e,he,rfl⟩
   grind
  refine⟨qN,⟨by simp[h.len],λi p e hp he=>?_,?_,?_⟩⟩
  .rw[List.getElem?_append]at hp he;have hl:=h.len;split at hp
   .rename_i hi;rw[aFa (by omega)]at he;obtain⟨q1,q2,q3⟩:=h.at_ i p e hp he
    grind
   grind
  .rw[Vn,Vk];refine⟨h.keys,by simp,λa ha b hb=>?_⟩
   grind
  .rw[Vn,Vk];refine⟨h.born,by simp,λa ha b hb=>?_⟩;simp only[UG,Ve,List.mem_singleton]at hb;subst hb;rw[Uf]at ha;obtain⟨e,he,rfl⟩:=ha;obtain⟨i,hi,rfl⟩:=UZ he;have bE:i<S7 l:=by rw[<-h.len];exact hi
   have:=(h.at_ i l[i] es[i] (Bt bE) (Bt hi)).2.1;omega
theorem tg.del{aH:Nat}(h:tg S w l es aH)(hM:N1 l k l') :
  (∃j e,es[j]?=S8 e/\e.key=k/\tg S w l' (es.eraseIdx j) aH)\/((∀e∈es,e.key≠k)/\tg S w l' es aH):=by
 have hk:=h.uC;rcases hM with⟨j,h1,rfl⟩|⟨h1,rfl⟩
 .left;have hj:j<S7 l:=by
   grind
  have xp:j<S7 es:=by rw[h.len];exact hj
  rw[Bt hj]at h1;simp at h1;obtain⟨q1,q2,q3⟩:=h.at_ j l[j] es[j] (Bt hj) (Bt xp);refine⟨j,es[j],Bt xp,q1.trans h1,⟨by rw[U_ hj,U_ xp,h.len],λi p e hp he=>?_,?_,?_⟩⟩
  .rw[List.getElem?_eraseIdx]at hp he;split at hp
   .rename_i hi;rw[aFa hi]at he;exact h.at_ i p e hp he
   .rename_i hi;rw[aE_ hi]at he;exact h.at_ _ p e hp he
  .exact((Vf l j).map _).nodup h.keys
  .exact((Vf _ j).map _).nodup h.born
 .right;refine⟨λe he sR=>?_,h⟩;have:e.key∈es.map (·.key):=Uf.2 ⟨e,he,rfl⟩
  grind
theorem ZOd(hT:rZ P T)(hs:qB N w0.F S m st a w)(hg:p9 w0.F.no S0 S w0.w w){k:V}(hx:o6 S w m x px)(hk:o6 S w m k pk)(hv:o6 S w m v pv)
  (h:ZGD P T st t x k v an=S8 (o_,pH)) (ho:∀q∈o_,q):∃w',(U8 t px pk pv).run P w=.ok () w'/\qB N w0.F S m pH a w'/\p9 w0.F.no S0 S w0.w w':=by
 unfold ZGD at h;split at h;rotate_left
 .cases h
 rename_i kt vt id wS l kv l' fY fF gV bI;cases h;have hu:=RW hT fY;obtain⟨rfl,hl⟩:=K_ fF;obtain⟨b,es,aH,hm,hb,hE,hD⟩:=hs.mapBlock hl;obtain rfl:=V.vD hk gV;have hK:xU P kt pk (l.map (·.1)):=ho _ (by simp);have hM:N0 l pk v l':=ho _ (by simp);have di:px=.map (S8 b):=by
  cases hx with
  |mp h'=>simp_all
 subst di;have gk:=hK;rw[<-hE.uC]at gk;obtain⟨r,h1,h2⟩:=gk.find w;have gT:o6 S w ru v pv:=hv.anyM ru bI;have ez:∀w',tj S w w'->tg S w' l es.toList aH:=λw' hw=>hE.rO hw λ_ h=>h;rcases h2 with⟨rfl,h3⟩|⟨j,e,h3,h4,rfl⟩
 .have key:∀w',tj S w w'->tg S w' l' (es.push { key:=pk,val:=pv,born:=aH }).toList (aH+1):=λw' hw=>by
   rcases(ez w' hw).put (gT.rO hw λ_ h=>h) hM with⟨j,e,q1,q2,_⟩|⟨_,q⟩
   all_goals grind
  obtain⟨s1,s2⟩:=hs.tU (F7:=wS) hg hl hm hb key (ZER hD rfl);refine⟨_,?_,s1,s2⟩;simp only[U8,Ta,run_underlying hu,Tj,Hf hb,hK.check,h1];exact Lv w b es aH _ hb
 .have xp:j<S7 es.toList:=(Uc.1 h3).1;have key:∀w',tj S w w'->tg S w' l' (es.modify (0+j) λe=>{ e with key:=pk,val:=pv }).toList aH:=λw' hw=>by
   rcases(ez w' hw).put (gT.rO hw λ_ h=>h) hM with⟨j',e',q1,q2,q3⟩|⟨q,_⟩
   .have lJ:j'=j:=by
     have k1:(es.toList.map (·.key))[j']?=S8 pk:=by simp_all
     have k2:(es.toList.map (·.key))[j]?=S8 pk:=by simp_all
     exact Ol (by rw[hE.uC];exact hE.keys) k1 k2
    subst lJ;have e3:(es.modify (0+j') λe=>{ e with key:=pk,val:=pv }).toList=es.toList.set j' { e' with key:=pk,val:=pv }:=by
     rw[U2,TX];apply UW
     grind
    simp_all
   grind
  obtain⟨s1,s2⟩:=hs.tU (F7:=wS) hg hl hm hb key (Zwb hD _ _ λ_=>rfl);refine⟨_,?_,s1,s2⟩;have i7:((es[0+j]?.map (·.key)).getD pk)=pk:=by
   simp_all
  simp only[U8,Ta,run_underlying hu,Tj,Hf hb,hK.check,h1,i7,Vi,hK.same,aFg,Tp];exact Lv w b es aH _ hb
theorem ZYi(c y:Value)(d:C)(h:oI S w m d y):o6 S w m (.qw [(Tm,[.oF]),(Tm,[d])]) (.tuple #[c,y]):=
 ⟨#[c,y],rfl,rfl,λj p hj=>match j,hj with
  | 0,hj=>by cases hj;exact⟨c,rfl,oI.oF⟩
  | 1,hj=>by cases hj;grind
  |j+2,hj=>by simp at hj⟩
theorem ZQY(hT:rZ P T){vt:Nat}(hz:ZHL T vt=S8 z):(zeroValue vt).run P w=.ok z w:=by
 unfold ZHL at hz;split at hz
 .rename_i ti bz;obtain⟨i,q1,q2,q3,q4⟩:=hT.info bz;simp[zeroValue,typeInfo,q1,q4,hz]
 .cases hz
theorem ZDI(hT:rZ P T)(hs:qB N w0.F S m st a w)(hg:p9 w0.F.no S0 S w0.w w){k:V}(hx:o6 S w m x px)(hk:o6 S w m k pk)
  (h:Gu P T st t x k an=S8 (v,o_,pH)) (ho:∀q∈o_,q):∃y w',(U' t px pk).run P w=.ok y w'/\qB N w0.F S m pH a w'/\p9 w0.F.no S0 S w0.w w'/\o6 S w' m v y:=by
 unfold Gu at h;split at h;rotate_left
 .cases h
 rename_i kt vt id wS l kv ik j z0 l' fY fF gV;split at h;rotate_left
 .cases h
 rename_i z hz g7;cases h;have hu:=RW hT fY;obtain⟨rfl,hl⟩:=K_ fF;obtain⟨b,es,aH,hm,hb,hE,hD⟩:=hs.mapBlock hl;obtain rfl:=V.vD hk gV;have hK:xU P kt pk (l.map (·.1)):=xU.sub (ks:=pk :: l.map (·.1)) (ho _ (by simp)) λ_ h=>U1 _ h;have hM:Aa l pk z j l':=ho _ (by simp);have di:px=.map (S8 b):=by
  cases hx with
  |mp h'=>simp_all
 subst di;have gk:=hK;rw[<-hE.uC]at gk;obtain⟨r,h1,h2⟩:=gk.find w;obtain⟨hc,mj⟩:=hD g7;have ez:∀w',tj S w w'->tg S w' l es.toList aH:=λw' hw=>hE.rO hw λ_ h=>h;have c4:∀(y:Value)(n:Nat) w',y.oneCell'=Tl\/True->(j=(n:Int))->o6 S w' m (.qw [(Tm,[.oF]),(Tm,[.lit (.int .i64 j)])]) (.tuple #[y,goInt n]):=λy n w' _ hj=>by
  subst hj;exact ZYi _ _ _ oI.lit
 rcases h2 with⟨rfl,h3⟩|⟨i,e,h3,h4,rfl⟩
 .rcases hM with⟨i,q1,q2,q3⟩|⟨q1,q2,v0,q3,_,q4⟩
  .exfalso;have:pk∈es.toList.map (·.key):=by rw[hE.uC];grind
   grind
  .have key:∀w',tj S w w'->tg S w' l' (es.push { key:=pk,val:=z,born:=aH }).toList (aH+1):=λw' hw=>by
    rcases(ez w' hw).put (q3 S w' ru) (.inr ⟨q1,q4⟩)with⟨j',e,p1,p2,_⟩|⟨_,p⟩
    all_goals grind
   obtain⟨s1,s2⟩:=hs.tU (F7:=wS) hg hl hm hb key (ZER hD rfl);refine⟨_,_,?_,s1,s2,c4 z aH _ (.inr trivial) (by rw[q2,hc,hE.len])⟩;simp only[U',Ta,run_underlying hu,Tj,Hf hb,hK.check,h1,ZQY hT hz,Lv w b es aH _ hb];rfl
 .have bE:i<S7 es.toList:=(Uc.1 h3).1;have j8:i<S7 l:=by rw[<-hE.len];exact bE
  obtain⟨p1,p2,p3⟩:=hE.at_ i l[i] e (Bt j8) h3;rcases hM with⟨i',q1,q2,q3⟩|⟨q1,_⟩
  .have hii:i'=i:=Ol hE.keys (a:=pk) (by simp_all) (by simp_all);subst hii;subst q3;have i7:((es[0+i']?.map (·.key)).getD pk)=pk:=by
    grind
   have kb:((es[0+i']?.map (λx=>(x.born:Int))).getD 0)=(i':Int):=by
    grind
   have e3:(es.modify (0+i') λe=>{ e with key:=pk }).toList=es.toList:=by
    rw[U2,TX];apply UW;intro n;rw[List.getElem?_modify];by_cases uQ:i'=n
    .subst uQ;rw[h3];simp[<-h4]
    .simp[uQ]
   have key:∀w',tj S w w'->tg S w' l' (es.modify (0+i') λe=>{ e with key:=pk }).toList aH:=λw' hw=>by simp_all
   obtain⟨s1,s2⟩:=hs.tU (F7:=wS) hg hl hm hb key (Zwb hD _ _ λ_=>rfl);refine⟨_,_,?_,s1,s2,c4 e.val i' _ (.inr trivial) q2⟩;simp only[U',Ta,run_underlying hu,Tj,Hf hb,hK.check,h1,i7,Vi,hK.same,aFg,Tp,kb,Lv w b es aH _ hb]
  simp_all
theorem ZKk:∀(es:S5 MapEntry)(i:Nat)(e:MapEntry),es[i]?=S8 e->(∀(j:Nat)(e:MapEntry),es[j]?=S8 e->e.born=j)->es.findIdx? (λe=>(e.born:Int)==(i:Int))=S8 i:=by
 simp_all[Uc,List.findIdx?_eq_some_iff_getElem];omega
theorem ZAS(hs:qB N w0.F S m st a w)(hg:p9 w0.F.no S0 S w0.w w){s:V}{ps:Value}(hx:o6 S w m x px)(hsv:o6 S w m s ps)(hv:o6 S w m v pv)
  (h:LI st x s v an=S8 (o_,pH)) (ho:∀q∈o_,q):∃w',(Vm t px ps pv).run P w=.ok () w'/\qB N w0.F S m pH a w'/\p9 w0.F.no S0 S w0.w w':=by
 unfold LI at h;split at h;rotate_left
 .cases h
 rename_i id wS l ik j l' fF bI;split at h;rotate_left
 .cases h
 rename_i g7;cases h;obtain⟨rfl,hl⟩:=K_ fF;obtain⟨b,es,aH,hm,hb,hE,hD⟩:=hs.mapBlock hl;obtain⟨i,rfl,p,hp,rfl⟩ : MSt l j v l':=ho _ (by simp);have di:px=.map (S8 b):=by
  cases hx with
  |mp h'=>simp_all
 subst di;have b9:ps=.int ik i:=by cases hsv;rfl
 subst b9;obtain⟨hc,mj⟩:=hD g7;have hi:i<S7 l:=(Uc.1 hp).1;have bE:i<S7 es.toList:=by rw[hE.len];exact hi
 obtain⟨q1,q2,q3⟩:=hE.at_ i p es.toList[i] hp (Bt bE);have gT:o6 S w ru v pv:=hv.anyM ru bI;have cK:∀w',tj S w w'->tg S w' (l.set i (p.1,v)) (es.modify i λe=>{ e with val:=pv }).toList aH:=λw' hw=>by
  rcases(hE.rO hw λ_ h=>h).put (gT.rO hw λ_ h=>h) (k:=p.1) (l':=l.set i (p.1,v)) (.inl ⟨i,by rw[hp];rfl,rfl⟩)with⟨j',e',r1,r2,r3⟩|⟨r,_⟩
  .have lJ:j'=i:=by
    have k1:(es.toList.map (·.key))[j']?=S8 p.1:=by simp_all
    have k2:(es.toList.map (·.key))[i]?=S8 p.1:=by grind
    exact Ol (by rw[hE.uC];exact hE.keys) k1 k2
   subst lJ;have e3:(es.modify j' λe=>{ e with val:=pv }).toList=es.toList.set j' { e' with key:=p.1,val:=pv }:=by
    rw[U2];apply UW
    grind
   rw[e3];exact r3
  simp_all
 obtain⟨s1,s2⟩:=hs.tU (F7:=wS) hg hl hm hb cK (Zwb hD _ _ λ_=>rfl);refine⟨_,?_,s1,s2⟩;have hf:es.findIdx? (λe=>(e.born:Int)==(i:Int))=S8 i:=by
  have e0:es=es.toList.toArray:=(Vg).symm;rw[e0,List.findIdx?_toArray];exact ZKk _ _ _ (Bt bE) mj
 simp only[Vm,asInt,asIntOf,Ta,Tj,Hf hb,Tp,hf];exact Lv w b es aH _ hb
theorem ZKt(hT:rZ P T)(hs:qB N w0.F S m st a w)(hg:p9 w0.F.no S0 S w0.w w){ty:Nat}{k:V}(hx:o6 S w m x px)(hk:o6 S w m k pk)
  (h:ZBt P T st t x k an=S8 (o_,pH)) (ho:∀q∈o_,q) (t2:TypeId):∃w',(U6 #[t,t2] ty #[px,pk]).run P w=.ok (.tuple #[]) w'/\qB N w0.F S m pH a w'/\p9 w0.F.no S0 S w0.w w':=by
 unfold ZBt at h;split at h;rotate_left
 .cases h
 rename_i kt vt id wS l kv l' fY fF gV;cases h;have hu:=RW hT fY;obtain⟨rfl,hl⟩:=K_ fF;obtain⟨b,es,aH,hm,hb,hE,hD⟩:=hs.mapBlock hl;obtain rfl:=V.vD hk gV;have hK:xU P kt pk (l.map (·.1)):=ho _ (by simp);have hM:N1 l pk l':=ho _ (by simp);have di:px=.map (S8 b):=by
  cases hx with
  |mp h'=>simp_all
 subst di;have gk:=hK;rw[<-hE.uC]at gk;obtain⟨r,h1,h2⟩:=gk.find w;have ez:∀w',tj S w w'->tg S w' l es.toList aH:=λw' hw=>hE.rO hw λ_ h=>h;rcases h2 with⟨rfl,h3⟩|⟨j,e,h3,h4,rfl⟩
 .have key:∀w',tj S w w'->tg S w' l' es.toList aH:=λw' hw=>by
   rcases(ez w' hw).del hM with⟨j,e,q1,q2,_⟩|⟨_,q⟩
   all_goals grind
  obtain⟨s1,s2⟩:=hs.tU (F7:=ZUK wS) hg hl hm hb key (ZKI _ _ _);refine⟨_,?_,s1,s2⟩;simp[U6,Ta,run_underlying hu,Hf hb,hK.check,h1,Lv w b es aH _ hb]
 .have xp:j<S7 es.toList:=(Uc.1 h3).1;have key:∀w',tj S w w'->tg S w' l' (es.eraseIdxIfInBounds (0+j)).toList aH:=λw' hw=>by
   rcases(ez w' hw).del hM with⟨j',e',q1,q2,q3⟩|⟨q,_⟩
   .have lJ:j'=j:=by
     have k1:(es.toList.map (·.key))[j']?=S8 pk:=by simp_all
     have k2:(es.toList.map (·.key))[j]?=S8 pk:=by simp_all
     exact Ol (by rw[hE.uC];exact hE.keys) k1 k2
    simp_all
   grind
  obtain⟨s1,s2⟩:=hs.tU (F7:=ZUK wS) hg hl hm hb key (ZKI _ _ _);refine⟨_,?_,s1,s2⟩;simp only[TX]at s1 ⊢;simp[U6,Ta,run_underlying hu,Hf hb,hK.check,h1,Lv w b es aH _ hb]
end
end
section
def Jg:V->S6 V | .one (.ptr id off)=>S8 (.one (.ptr id off)) | .one (.rp Tm n c)=>S8 (.one (.rp Tm n c)) | .one (.yN n c)=>S8 (.one (.yN n c)) | .one (.rK id sz i off)=>S8 (.one (.rK id sz i off)) | .one (.th t c)=>S8 (.one (.th t c)) | .one (.ve t n c)=>S8 (.one (.ve t n c)) | .one (.qs (.func f) na nb a b)=>S8 (.one (.qs (.func f) na nb a b)) | .one (.lit (.func (.func f) a b))=>S8 (.one (.lit (.func (.func f) a b)))|_=>S_
def BO(P:Program)(t:TypeId)(name:String)(g:FuncId):Prop:=∀(x:Value)(w:World),(method (P.types.size+Made.depth) t x name).run P w=.ok (g,x) w
def ML(P:Program)(t:TypeId)(name:String):Prop:=∀(x:Value)(w:World),(nilAhead (P.types.size+Made.depth) t x name).run P w=.ok (S8 Tm) w
def ZWb(P:Program):V->S6 (S5 Prop)
 | .one (.qs (.method name) na nb a b)=>match na with
  | 0=>S_
  |_+1=>match a 0 with
   | .th t _=>S8 [ML P t name]
   | .ve t _ _=>S8 [ML P t name]
   |_=>S_
 |_=>S_
variable{w:World}{S S0:Nat->Prop}{m:Mp}{v x u l c s:V}{P:Program}{T:qP}{o_:S5 Prop}{a:Act}{N t n d ty:Nat}{st pH:St}{px ps:Value}{cc:Nat->Nat->C}{w0:t_}{o:Oper}{F:tK}{b:Bool}{op:BinOp}{xo yo:Operand}{an:S6 sF}
theorem ZSl{x:Operand}(ho:o.op=.nilCheck x)(hx:o6 S w m u (a.eval x))(h:ZWb P u=S8 o_)(hq:∀q∈o_,q) :
  (execOp a.eval o).run P w=.ok (.value (a.eval x)) w:=by
 unfold ZWb at h;split at h;rotate_left
 .cases h
 rename_i name na nb fa fb;obtain⟨xs,ys,he,e1,h1⟩ : ∃xs ys:Array Value,a.eval x=.func (.method name) xs ys/\xs.size=na/\∀i,i<xs.size->oI S w m (fa i) (xs.getD i undef):=by
  generalize hv:a.eval x=v at hx;cases hx with
  |qs xs ys ha hb=>simp_all
 split at h
 .cases h
 have h0:=h1 0 (by omega);have key:∀t y,xs.getD 0 undef=.iface t y->ML P t name->(execOp a.eval o).run P w=.ok (.value (a.eval x)) w:=by
  intro t y hy hn;unfold execOp;have:=hn y w;simp_all
 split at h
 .rename_i t c hc;rw[hc]at h0;cases h;generalize hy:xs.getD 0 undef=y at h0;cases h0 with
  |th hz=>simp_all
 .rename_i t k c hc;rw[hc]at h0;cases h;generalize hy:xs.getD 0 undef=y at h0;cases h0 with
  |ve zs BI hz=>simp_all
 .cases h
def NH(op:UnOp)(x:V):S6 V:=match op,x with
 | .not,.one (.lit (.bool b))=>S8 (.one (.lit (.bool (!b))))
 | .neg,.one (.lit (.int k n))=>S8 (.one (.lit (.int k (k.wrap (0-n)))))
 | .xor,.one (.lit (.int k n))=>S8 (.one (.lit (.int k (k.wrap (BitVec.ofInt k.bits (if k.signed then -1 else k.max) ^^^ BitVec.ofInt k.bits n).toNat))))
 |_,_=>S_
def ZWe(T:qP)(s d:TypeId)(x:V):S6 V:=match sv T s,sv T d with
 |some ts,S8 td=>match td.k,x with
  | .int k,.one (.lit (.int _ n))=>S8 (.one (.lit (.int k (k.wrap n))))
  | .str,.one (.lit (.string t))=>S8 (.one (.lit (.string t)))
  |_,_=>S_
 |_,_=>S_
def I_(mx:Bool):S5 V->S6 V | [.one (.lit (.int k x)),.one (.lit (.int _ y))]=>S8 (.one (.lit (.int k (match mx with|true=>if y>x then y else x|false=>if y<x then y else x))))|_=>S_
def wE(st:St):S6 Operand->S6 V|none=>S_|some x=>S8 (pT st x)
theorem ZFM(hs:qB N F S m st a w)(x:S6 Operand):FR S w m (wE st x) (x.map a.eval):=by
 cases x with
 |none=>trivial
 |some x=>exact hs.pT x
def ZUj:V->S6 Bool | .one (.rp b _ _)=>S8 b | .one (.ptr _ _)=>S8 Tm | .one (.rK _ _ _ _)=>S8 Tm | .one (.lit (.pointer S_))=>S8 Tl|_=>S_
theorem ZRv{x:Value}(h:o6 S w m v x)(hv:ZUj v=S8 b):∃p,x=.pointer p/\p.isNone=b:=by
 unfold ZUj at hv;split at hv
 .cases hv;cases h<;>exact⟨_,rfl,rfl⟩
 .cases hv;cases h;simp
 .cases hv;cases h;simp
 .cases hv;cases h;exact⟨_,rfl,rfl⟩
 .cases hv
def NO(T:qP)(op:BinOp)(t:TypeId)(x:V):S6 (V×S5 Prop):=match ZUj x with
 |some b=>match sv T t with
  |some ti=>match ti.k,op with
   | .ptr _,.eql=>S8 (.one (.lit (.bool b)),[])
   | .ptr _,.neq=>S8 (.one (.lit (.bool (!b))),[])
   |_,_=>S_
  |none=>S_
 |none=>S_
theorem ZVY(hT:rZ P T){t:TypeId}(hx:o6 S w m x px)
  (h:NO T op t x=S8 (v,o_)):∃r,(do eqGuard op t xo yo px (.pointer S_);binOp op t px (.pointer S_):Sem Value).run P w=.ok r w/\o6 S w m v r:=by
 unfold NO at h;split at h;rotate_left
 .cases h
 rename_i b hb;obtain⟨p,rfl,rfl⟩:=ZRv hx hb;split at h;rotate_left
 .cases h
 rename_i ti bz;obtain⟨d,hu,hf⟩:=hT.under bz;have kc:∀e,ti.k=.ptr e->P.underlying t=S8 (.pointer (P.pointee t)):=λe hk=>by
  rw[hk]at hf;cases d<;>simp only[TK.fits]at hf;simp[Program.pointee,hu]
 split at h
 .rename_i e hk;obtain⟨rfl,rfl⟩:=h;refine⟨_,?_,oI.lit⟩;have hg:(eqGuard .eql t xo yo (.pointer p) (.pointer S_)).run P w=.ok () w:=by simp[eqGuard]
  grind[Ta,Tj,run_eql_pointer_nil]
 .rename_i e hk;obtain⟨rfl,rfl⟩:=h;refine⟨_,?_,oI.lit⟩;have hg:(eqGuard .neq t xo yo (.pointer p) (.pointer S_)).run P w=.ok () w:=by simp[eqGuard]
  grind[Ta,Tj,run_neq_pointer_nil]
 .cases h
def ZGC(T:qP)(op:BinOp)(t:TypeId)(x y:V):S6 (V×S5 Prop):=match y with
 | .one (.lit (.pointer S_))=>NO T op t x
 | .one (.lit (.slice S_ 0 0))=>match op,x with
  | .eql,.one (.sl _ len _)=>match sv T t with
   |some ti=>match ti.k with
    | .slice _=>S8 (.one (.lit (.bool Tm)),[0<len])
    |_=>S_
   |none=>S_
  |_,_=>S_
 | .one (.lit .nilIface)=>match sv T t with
  |some ti=>match ti.k,op,x with
   | .iface,.eql,.one (.th _ _)=>S8 (.one (.lit (.bool Tm)),[])
   | .iface,.eql,.one (.ve _ _ _)=>S8 (.one (.lit (.bool Tm)),[])
   |_,_,_=>S_
  |none=>S_
 |_=>S_
def ZZd:TK->Bool | .iface | .other=>Tm|_=>Tl
def ZFg(ti:TI):S6 V:=match ti.zero with
 |some z=>match V.vW z with
  | .agg l=>S8 (.qw [(Tl,l),(Tm,[.lit (.bool Tm)])])
  | .one c=>S8 (.qw [(Tm,[c]),(Tm,[.lit (.bool Tm)])])
  |_=>S_
 |none=>S_
def ZGK(T:qP)(x:V)(t:TypeId)(ok:Bool):S6 V:=match ok with
 |false=>S_
 |true=>match sv T t with
  |none=>S_
  |some ti=>match ZZd ti.k with
   |false=>S_
   |true=>match x with
    | .one (.th t' c)=>match Tg t' t with
     |true=>S8 (.qw [(Tm,[c]),(Tm,[.lit (.bool Tl)])])
     |false=>ZFg ti
    | .one (.ve t' n c)=>match Tg t' t with
     |true=>S8 (.qw [(Tl,(List.range n).map c),(Tm,[.lit (.bool Tl)])])
     |false=>ZFg ti
    |_=>S_
theorem ZAY{p:Bool×S5 C}{x:Value} (h:match p with
   | (Tl,cs)=>∃ys,x=.agg ys/\qk S w m cs ys.toList
   | (Tm,[c])=>oI S w m c x
   |_=>True):o6 S w m (.qw [p,(Tm,[.lit (.bool b)])]) (.tuple #[x,.bool b]):=by
 refine⟨_,rfl,rfl,λj q hq=>?_⟩
 match j,hq with
 | 0,hq=>simp_all;omega
 | 1,hq=>cases hq;exact⟨.bool b,rfl,oI.lit⟩
theorem ZBB(hT:rZ P T){t:TypeId}{ti:TI}(bz:sv T t=S8 ti)(h:ZFg ti=S8 v)(S:Nat->Prop)(w:World)(m:Mp) :
  ∃z,(zeroValue t).run P w=.ok z w/\o6 S w m v (.tuple #[z,.bool Tm]):=by
 obtain⟨i,h1,h2,h3,h4⟩:=hT.info bz;unfold ZFg at h;split at h;rotate_left
 .cases h
 rename_i z hz;refine⟨z,by simp[zeroValue,typeInfo,h1,h4,hz],?_⟩;have hr:=V.vH (S:=S) (w:=w) (m:=m) z;split at h
 .rename_i l hl;cases h;rw[hl]at hr;exact ZAY (p:=_) hr
 .rename_i c hc;cases h;rw[hc]at hr;exact ZAY (p:=_) hr
 .cases h
theorem ZKA(hT:rZ P T){xt t:TypeId}{ok:Bool}(hx:o6 S w m x px)(h:ZGK T x t ok=S8 v) :
  ∃y,(UX px xt t ok).run P w=.ok y w/\o6 S w m v y:=by
 unfold ZGK at h;split at h
 .cases h
 split at h
 .cases h
 rename_i ti bz;split at h
 .cases h
 rename_i hn;obtain⟨d,hu,hf⟩:=hT.under bz;have hd:∀ms,d≠.interface ms:=by
  rintro ms rfl;generalize hk:ti.k=k at hn hf;cases k<;>first | (cases hn;done) | (cases hf;done)
 have cQ:∀y,(UX (.iface t y) xt t Tl).run P w=.ok (.tuple #[y,.bool Tl]) w:=by
  intro y;cases d<;>first|exact aFe rfl (hd _)|simp[UX,Ta,run_underlying hu]
 have ml:∀t' y z,t'≠t->(zeroValue t).run P w=.ok z w->(UX (.iface t' y) xt t Tl).run P w=.ok (.tuple #[z,.bool Tm]) w:=by
  intro t' y z qN hz;cases d<;>first|exact aFe rfl (hd _)|simp[UX,Ta,run_underlying hu,qN,hz]
 split at h
 .rename_i t' c;cases hx with
  |th hy=>
   split at h
   .rename_i hb;cases ta hb;cases h;simp_all[ZAY]
   .rename_i hb;obtain⟨z,h1,h2⟩:=ZBB hT bz h S w m
    grind[Tn]
 .cases hx with
  |ve ys h1 hy=>
   split at h
   .rename_i hb;cases ta hb;cases h;refine⟨_,cQ _,ZAY (p:=(Tl,_)) ⟨ys,rfl,by simp,λj c' hj=>?_,h1⟩⟩;simp only[TN,TD]at hj;obtain⟨i,hi,rfl⟩:=hj;obtain⟨qI,e⟩:=Uc.1 hi;simp only[List.getElem_range]at e;simp_all
   .rename_i hb;obtain⟨z,h1,h2⟩:=ZBB hT bz h S w m;exact⟨_,ml _ _ _ (Tn hb) h1,h2⟩
 .cases h
theorem ZoK{ti:TypeId}{ms:Array (String×TypeId)}(tp:TypeId)(v:Value)(hi:P.underlying ti=S8 (.interface ms)) :
  (binOp .eql ti (.iface tp v) .nilIface).run P w=.ok (.bool Tm) w:=by
 have h:∀d:Nat,(Op.equalIn (d+1) ti (.iface tp v) .nilIface).run P w=.ok Tm w:=λd=>by simp[Op.equalIn,run_underlying hi]
 simp only[binOp];simp[Op.equal,Op.maxDepth,h 9999]
theorem ZCL(hT:rZ P T){t:TypeId}{y:V}{py:Value}(hx:o6 S w m x px)(hy:o6 S w m y py)
  (h:ZGC T op t x y=S8 (v,o_)) (ho:∀q∈o_,q):∃r,(do eqGuard op t xo yo px py;binOp op t px py:Sem Value).run P w=.ok r w/\o6 S w m v r:=by
 unfold ZGC at h;split at h
 .cases hy;exact ZVY hT hx h
 rotate_left
 .split at h;rotate_left
  .cases h
  rename_i ti bz;obtain⟨d,hu,hf⟩:=hT.under bz;cases hy;have key:ti.k=.iface->∃ms,P.underlying t=S8 (.interface ms):=λhk=>by
   rw[hk]at hf;cases d<;>simp only[TK.fits]at hf
   grind
  split at h
  .rename_i hk;obtain⟨ms,mn⟩:=key hk;cases h;cases hx;refine⟨.bool _,?_,oI.lit⟩;have hg:∀u y,(eqGuard .eql t xo yo (.iface u y) .nilIface).run P w=.ok () w:=λu y=>by simp[eqGuard]
   rw[Ta,hg,Tj];exact ZoK _ _ mn
  .rename_i hk;obtain⟨ms,mn⟩:=key hk;cases h;cases hx;refine⟨.bool Tm,?_,oI.lit⟩;have hg:∀u y,(eqGuard .eql t xo yo (.iface u y) .nilIface).run P w=.ok () w:=λu y=>by simp[eqGuard]
   rw[Ta,hg,Tj];exact ZoK _ _ mn
  .cases h
 .cases h
 split at h;rotate_left
 .cases h
 rename_i sz len cell;split at h;rotate_left
 .cases h
 rename_i ti bz;obtain⟨d,hu,hf⟩:=hT.under bz;split at h;rotate_left
 .cases h
 rename_i e hk;rw[hk]at hf;cases d<;>simp only[TK.fits]at hf;obtain⟨rfl,rfl⟩:=h;have h0:0<len:=ho _ (by simp);cases hy;cases hx with
 |sl b off qe rN ha hc h1 hr=>
  rename_i a cap;obtain⟨rfl,_⟩:=ha h0;refine⟨.bool Tm,?_,oI.lit⟩;have hg:(eqGuard .eql t xo yo (.slice (S8 ⟨b,off,S_⟩) len cap) (.slice S_ 0 0)).run P w=.ok () w:=by simp[eqGuard]
  rw[Ta,hg,Tj];exact Go.run_eql_slice_nil w _ _ (S8 ⟨b,off,S_⟩) len cap hu
def ZCM(N:Nat)(T:qP)(st:St)(t:Nat)(l c:V)(n:Nat)(cc:Nat->Nat->C):S6 (V×S5 Prop×St):=match BQ N T ⟨[],[]⟩ 0 t l c (S8 (.c n cc))with
 |some (_,o_,⟨_,[(_,.rows _ sz _ _)]⟩)=>S8 (.one (.sl sz n cc),o_,st)
 |_=>S_
theorem ZKu(h:BQ N T ⟨[],[]⟩ d t l c (S8 (.c n cc))=S8 (v,o_,pH)) :
  v=.one (.p8 d n)/\∃e sz,pH=⟨[],[(d,.rows e sz n cc)]⟩:=by
 generalize ha:S8 (sF.c n cc)=an at h;unfold BQ at h
 repeat' split at h
 all_goals first | (cases h;done)|skip
 cases ha;cases h;exact⟨rfl,_,_,rfl⟩
theorem ZOf(hT:rZ P T)(hs:qB N w0.F S m st a w)(hg:p9 w0.F.no S0 S w0.w w)
    {pl pc:Value}     (hl:o6 S w m l pl) (hc:o6 S w m c pc) (h:ZCM N T st t l c n cc=S8 (v,o_,pH)) (ho:∀q∈o_,q) :
  ∃y w' S' m',(Instr.makeSlice t pl pc).run P w=.ok y w'/\qB N w0.F S' m' pH a w'/\p9 w0.F.no S0 S' w0.w w'/\o6 S' w' m' v y:=by
 unfold ZCM at h;split at h;rotate_left
 .cases h
 rename_i v0 ce e0 k0 t0 sz n0 c0 hm;cases h;obtain⟨rfl,e1,sz1,cD⟩:=ZKu hm;obtain⟨-,cD⟩:=St.mk.inj cD;simp at cD;have hm1:=cD.2.2.1;have hj:∀t,(⟨[],[]⟩ : St).get t=.one .oF:=λt=>rfl;have bN:qB N (⟨λk=>k<w.heap.size,m⟩ : tK) S m ⟨[],[]⟩ a w:=⟨hs.size,λt=>by rw[hj];exact oI.oF,λt _=>hj t,λid b hb=>by simp[oP]at hb,λid b hb=>by simp[oP]at hb,λi j b b' qN h1=>by simp[oP]at h1,hs.u5,hs.defers,λk hk=>hk,λ_ _=>rfl,rfl,λk hk=>hs.pJ k (hs.len.2 k hk)⟩;rw[cD.1,cD.2.1,cD.2.2.2.1,cD.2.2.2.2]at hm;obtain⟨y,w',m1,h1,h2,h3,h4⟩:=ZEM (w0:=⟨w,⟨λk=>k<w.heap.size,m⟩⟩) (S0:=S) hT bN (p9.refl _ _ _) hl hc hm ho;have Jq:oP [(0,B.rows e1 sz n cc)] 0=S8 (.rows e1 sz n cc):=by rfl
 have hB:=h2.heap 0 _ Jq;have hO:=h2.own 0 _ Jq;obtain⟨b,cap,ey,em⟩ : ∃b cap,y=.slice b n cap/\m1 0=.slice b n cap:=by
  cases h4 with
  |p8 hm h0 hle=>simp_all
 refine⟨y,w',λk=>S k\/sU (m1 0)=S8 k,m,h1,?_,?_,?_⟩
 .refine hs.grow h3.below.size (λk hk=>h3.below.block k hk) (λb hb=>.inl hb) λb hb=>hb.imp id λhb=>?_;simp_all
 .refine hg.step (h3.below.mono λk hk=>hs.pJ k hk) (λb hb=>.inl hb) λb hb=>hb.imp id λhb hF=>?_;exact(hO b hb).2.1 (hs.pJ b hF)
 .have:=(oI.wL (m':=m) hB ⟨b,cap,em⟩ (λb hb=>(.inl hb:S b\/sU (m1 0)=S8 b)) λk hk=>.inr hk).2;have e3:m1 0=y:=em.trans ey.symm;rw[e3]at this ⊢;exact this
def ZKC(N:Nat)(T:qP)(st:St)(t:Nat)(s x:V)(an:S6 sF):S6 (V×S5 Prop×St):=match s,an with
 | .one (.p8 id l),S8 (.r (.one (.sl _ n cc)) _)=>match oP st.heap id with
  |some b=>match Eg N T ⟨[],[(id,b)]⟩ (id+1) t (.one (.p8 id l)) x (S8 (.c n cc))with
   |some (_,o_,⟨_,(_,.rows _ sz _ _) :: _⟩)=>S8 (.one (.sl sz n cc),o_,⟨st.env,ug st.heap id⟩)
   |_=>S_
  |none=>S_
 |_,_=>S_
theorem ZDL{id l:Nat}{b:B}(h:Eg N T ⟨[],[(id,b)]⟩ d t (.one (.p8 id l)) x (S8 (.c n cc))=S8 (v,o_,pH)) :
  v=.one (.p8 d n)/\∃e sz r,pH=⟨[],(d,.rows e sz n cc) :: r⟩:=by
 unfold Eg at h
 repeat' split at h
 all_goals grind
theorem ZSq(hT:rZ P T)(hs:qB N w0.F S m st a w)(hg:p9 w0.F.no S0 S w0.w w)
        (b9:o6 S w m s ps) (di:o6 S w m x px) (h:ZKC N T st t s x an=S8 (v,o_,pH)) (ho:∀q∈o_,q) :
  ∃y w' S' m',(Tu #[t,t] ty #[ps,px]).run P w=.ok y w'/\qB N w0.F S' m' pH a w'/\p9 w0.F.no S0 S' w0.w w'/\o6 S' w' m' v y:=by
 unfold ZKC at h;split at h;rotate_left
 .cases h
 rename_i id l sz0 n cc fz0;split at h;rotate_left
 .cases h
 rename_i b hb;split at h;rotate_left
 .cases h
 rename_i v0 ce e0 k0 t0 sz n0 c0 r0 hm;cases h;obtain⟨rfl,e1,sz1,r1,cD⟩:=ZDL hm;obtain⟨he0,cD⟩:=St.mk.inj cD;rw[List.cons.injEq,Tc,B.rows.injEq]at cD;obtain⟨⟨rfl,rfl,rfl,rfl,rfl⟩,rfl⟩:=cD;subst he0;have hj:∀t,(⟨[],[(id,b)]⟩ : St).get t=.one .oF:=λt=>rfl;have ke:∀i b',oP [(id,b)] i=S8 b'->i=id/\b'=b:=λi b' h=>by
  rw[tD]at h;split at h
  .simp_all
  .simp[oP]at h
 have bN:qB N (⟨λk=>k<w.heap.size/\sU (m id)≠S8 k,m⟩ : tK) S m ⟨[],[(id,b)]⟩ a w:=by
  refine⟨hs.size,λt=>by rw[hj];exact oI.oF,λt _=>hj t,λi b' h=>?_,λi b' h k hk=>?_,λi j b' b'' qN h1 h2=>?_,hs.u5,hs.defers,λk hk=>hk.1,λ_ _=>rfl,rfl,λk hk=>⟨hs.pJ k (hs.len.2 k hk),λe=>(hs.own _ _ hb k e).2.1 (hs.len.2 k hk)⟩⟩
  .obtain⟨rfl,rfl⟩:=ke i b' h;exact hs.heap _ _ hb
  .obtain⟨rfl,rfl⟩:=ke i b' h;obtain⟨q1,q2,q3⟩:=hs.own _ _ hb k hk;simp_all
  grind
 obtain⟨y,w',m1,h1,h2,h3,h4⟩:=ZAH (ty:=ty) (w0:=⟨w,⟨λk=>k<w.heap.size/\sU (m id)≠S8 k,m⟩⟩) (S0:=S) hT bN (p9.refl _ _ _) b9 di hm ho;have Jq:oP ((id+1,B.rows t0 sz n0 c0) :: r0) (id+1)=S8 (.rows t0 sz n0 c0):=by rw[tD,aFa rfl]
 have hB:=h2.heap _ _ Jq;have hO:=h2.own _ _ Jq;obtain⟨b1,cap,ey,em⟩ : ∃b cap,y=.slice b n0 cap/\m1 (id+1)=.slice b n0 cap:=by
  cases h4 with
  |p8 hm h0 hle=>simp_all
 have gp:∀k,k<w.heap.size->sU (m id)≠S8 k->w'.heap[k]?=w.heap[k]?:=λk hk hn=>h3.below.block k ⟨hk,hn⟩;have mo:∀k,S k->sU (m id)≠S8 k:=λk hk e=>(hs.own _ _ hb k e).1 hk;have cK:tj S w w':=λk hk=>gp k (hs.u5 k hk) (mo k hk);have eq:tj m.L w w':=λk hk=>gp k (hs.pJ k (hs.len.2 k hk)) λe=>(hs.own _ _ hb k e).2.1 (hs.len.2 k hk);have ug:∀i b',oP (ug st.heap id) i=S8 b'->i≠id/\oP st.heap i=S8 b':=λi b' h=>by
  rw[Ha]at h
  grind
 refine⟨y,w',λk=>S k\/sU (m1 (id+1))=S8 k,m,h1,?_,?_,?_⟩
 .refine⟨hs.size,λt=>(hs.env t).rm cK (λ_ h=>.inl h) eq,hs.CG,λi b' h=>?_,λi b' h k hk=>?_,λi j b' b'' qN g1 g2=>?_,λk hk=>?_,hs.defers,λk hk=>TC (hs.pJ k hk) h3.below.size,hs.xg,hs.len⟩
  .obtain⟨q1,q2⟩:=ug i b' h;refine(hs.heap _ _ q2).rm cK (λ_ h=>.inl h) eq λk hk=>gp k (hs.own _ _ q2 k hk).2.2 λe=>?_;exact hs.inj _ _ _ _ q1 q2 hb k hk e
  .obtain⟨q1,q2⟩:=ug i b' h;obtain⟨q3,q4,q5⟩:=hs.own _ _ q2 k hk;refine⟨λq=>?_,q4,TC q5 h3.below.size⟩;rcases q with q|q
   .exact q3 q
   .exact(hO k q).2.1 ⟨q5,λe=>hs.inj _ _ _ _ q1 q2 hb k hk e⟩
  .obtain⟨q1,q2⟩:=ug i b' g1;obtain⟨q3,q4⟩:=ug j b'' g2;exact hs.inj _ _ _ _ qN q2 q4
  .rcases hk with hk|hk
   .exact TC (hs.u5 k hk) h3.below.size
   .exact(hO k hk).2.2
 .refine hg.step (h3.below.mono λk hk=>⟨hs.pJ k hk,λe=>(hs.own _ _ hb k e).2.1 hk⟩) (λb hb=>.inl hb) λk hk=>hk.imp (λh=>h) λhk hF=>?_;exact(hO k hk).2.1 ⟨hs.pJ k hF,λe=>(hs.own _ _ hb k e).2.1 hF⟩
 .have:=(oI.wL (m':=m) hB ⟨b1,cap,em⟩ (λb hb=>(.inl hb:S b\/sU (m1 (id+1))=S8 b)) λk hk=>.inr hk).2;have e3:m1 (id+1)=y:=em.trans ey.symm;rw[e3]at this ⊢;exact this
def ZKB(N:Nat)(T:qP)(st:St)(t:Nat)(s x:V)(an:S6 sF):S6 (V×S5 Prop×St):=match s with
 | .one (.p8 _ _)=>ZKC N T st t s x an
 |_=>ZCT T st t s x an
theorem ZSp(hT:rZ P T)(hs:qB N w0.F S m st a w)(hg:p9 w0.F.no S0 S w0.w w)
        (b9:o6 S w m s ps) (di:o6 S w m x px) (h:ZKB N T st t s x an=S8 (v,o_,pH)) (ho:∀q∈o_,q) :
  ∃y w' S' m',(Tu #[t,t] ty #[ps,px]).run P w=.ok y w'/\qB N w0.F S' m' pH a w'/\p9 w0.F.no S0 S' w0.w w'/\o6 S' w' m' v y:=by
 unfold ZKB at h;split at h
 .exact ZSq hT hs hg b9 di h ho
 .obtain⟨y,w',h1,h2,h3,h4⟩:=ZOy (ty:=ty) hT hs hg b9 di h ho
  grind
def qf(P:Program)(N:Nat)(T:qP)(o:Oper)(st:St)(an:S6 sF):S6 (V×S5 Prop×St):=
 let d:=o.dst.getD 0
 match o.op with
 | .move x=>match an with
  |some (.c n c)=>QJ N st d (pT st x) n c
  |_=>S8 (pT st x,[],st)
 | .assign x=>match an with
  |some (.c n c)=>QJ N st d (pT st x) n c
  |_=>S8 (pT st x,[],st)
 | .pick c x y=>match pT st c with
  | .one (.lit (.bool Tl))=>S8 (pT st x,[],st)
  | .one (.lit (.bool Tm))=>S8 (pT st y,[],st)
  |_=>S_
 | .alloc e=>match sv T e with
  |some te=>match Fk te with
   |some l=>Aq N st d l
   |none=>S_
  |none=>S_
 | .box _ x=>match (pT st x).cells with
  |some l=>Aq N st d l
  |none=>S_
 | .build t ps=>match ZCS T st t (ps.toList.map λp=>(p.1,pT st p.2))with
  |some v=>S8 (v,[],st)
  |none=>S_
 | .buildSlice t n ps=>BX N T st d t n (ps.toList.map λp=>(p.1,pT st p.2)) an
 | .load t p=>match BT T st t (pT st p) an with
  |some (v,o_)=>S8 (v,o_,st)
  |none=>S_
 | .store t p x=>match G1 T st t (pT st p) (pT st x) an with
  |some (o_,pH)=>S8 (.one .oF,o_,pH)
  |none=>S_
 | .nilCheck x=>match Jg (pT st x)with
  |some v=>S8 (v,[],st)
  |none=>match ZWb P (pT st x)with
   |some o_=>S8 (pT st x,o_,st)
   |none=>S_
 | .makeInterface t x=>match pT st x with
  | .one c=>S8 (.one (.th t c),[P.concrete t=Tl],st)
  | .agg l=>S8 (.one (.ve t l.length λi=>l.getD i .oF),[P.concrete t=Tl],st)
  | .qw _=>S_
 | .binOp op t x y _=>match pT st x,pT st y with
  | .one (.lit p),.one (.lit q)=>match NN T op t p q with
   |some (r,o_)=>S8 (.one (.lit r),o_,st)
   |none=>match ZGC T op t (.one (.lit p)) (.one (.lit q))with
    |some (r,o_)=>S8 (r,o_,st)
    |none=>match an with
     |some (.r (.one (.lit r)) _)=>S8 (.one (.lit r),[∀w,(do eqGuard op t x y p q;binOp op t p q:Sem Value).run P w=.ok r w],st)
     |_=>S_
  |vx,vy=>match ZGC T op t vx vy with
   |some (r,o_)=>S8 (r,o_,st)
   |none=>match vx.val,vy.val,an with
    |some p,S8 q,S8 (.r (.one (.lit r)) _)=>S8 (.one (.lit r),[∀w,(do eqGuard op t x y p q;binOp op t p q:Sem Value).run P w=.ok r w],st)
    |_,_,_=>S_
 | .unOp op _ x=>match NH op (pT st x)with
  |some v=>S8 (v,[],st)
  |none=>S_
 | .convert s d x=>match ZWe T s d (pT st x)with
  |some v=>S8 (v,[],st)
  |none=>S_
 | .makeSlice t l c=>match an with
  |some (.r (.one (.sl _ n cc)) _)=>ZCM N T st t (pT st l) (pT st c) n cc
  |some (.r _ _)=>S_
  |_=>BQ N T st d t (pT st l) (pT st c) an
 | .slice t x lo hi mx=>match ZOb T t (pT st x) (wE st lo) (wE st hi) (wE st mx)with
  |some (v,o_)=>S8 (v,o_,st)
  |none=>S_
 | .fieldAddr t x f=>match ZxQ T t f (pT st x)with
  |some v=>S8 (v,[],st)
  |none=>S_
 | .field t x f=>match ZOt T t f (pT st x)with
  |some v=>S8 (v,[],st)
  |none=>S_
 | .indexAddr t x i=>match ZxO T t (pT st x) (pT st i)with
  |some (v,o_)=>S8 (v,o_,st)
  |none=>S_
 | .index t x i=>match ZOl T t (pT st x) (pT st i)with
  |some (v,o_)=>S8 (v,o_,st)
  |none=>S_
 | .extract x i=>match ZCR (pT st x) i with
  |some v=>S8 (v,[],st)
  |none=>S_
 | .typeAssert x _ t ok=>match ZGK T (pT st x) t ok with
  |some v=>S8 (v,[],st)
  |none=>S_
 | .makeMap t r=>Zzb N T st d t (wE st r)
 | .lookup t x k ok=>match CP P T st t (pT st x) (pT st k) ok an with
  |some (v,o_)=>S8 (v,o_,st)
  |none=>S_
 | .mapUpdate t x k v=>match ZGD P T st t (pT st x) (pT st k) (pT st v) an with
  |some (o_,pH)=>S8 (.one .oF,o_,pH)
  |none=>S_
 | .mapEntry t x k=>Gu P T st t (pT st x) (pT st k) an
 | .entryStore _ x s v=>match LI st (pT st x) (pT st s) (pT st v) an with
  |some (o_,pH)=>S8 (.one .oF,o_,pH)
  |none=>S_
 | .makeFunc fn first cap=>match yx (first.toList.map (pT st)),yx (cap.toList.map (pT st))with
  |some xs,S8 ys=>S8 (.one (.qs fn first.size cap.size (λi=>xs.getD i .oF) λi=>ys.getD i .oF),[],st)
  |_,_=>S_
 | .call { callee:=.builtin .len,args,argTypes }=>match args.toList,argTypes.toList with
  | [x],[t]=>match ZWd T st t (pT st x)with
   |some v=>S8 (v,[],st)
   |none=>S_
  |_,_=>S_
 | .call { callee:=.builtin .append,args,argTypes }=>match args.toList,argTypes.toList with
  | [s,x],[t,t']=>match Tg t t' with
   |true=>match an with
    |some (.r _ _)=>ZKB N T st t (pT st s) (pT st x) an
    |_=>Eg N T st d t (pT st s) (pT st x) an
   |false=>S_
  |_,_=>S_
 | .call { callee:=.builtin .delete,args,argTypes }=>match args.toList,argTypes.toList with
  | [x,k],[t,_]=>match ZBt P T st t (pT st x) (pT st k) an with
   |some (o_,pH)=>S8 (.qw [],o_,pH)
   |none=>S_
  |_,_=>S_
 | .call { callee:=.builtin .clear,args,argTypes }=>match args.toList,argTypes.toList with
  | [x],[t]=>ZGJ T st t (pT st x) an
  |_,_=>S_
 | .call { callee:=.builtin .min,args,.. }=>match I_ Tm (args.toList.map (pT st))with
  |some v=>S8 (v,[],st)
  |none=>S_
 | .call { callee:=.builtin .max,args,.. }=>match I_ Tl (args.toList.map (pT st))with
  |some v=>S8 (v,[],st)
  |none=>S_
 | .call { callee:=.value f,args,.. }=>match an with
  |some (.r r _)=>match GW P st f args.toList r with
   |some o_=>S8 (r,o_,st)
   |none=>S_
  |_=>S_
 |_=>S_
where
 yx:S5 V->S6 (S5 C)
  | []=>S8 []
  | .one c :: l=>match yx l with
   |some r=>S8 (c :: r)
   |none=>S_
  | .agg l :: r=>match yx r with
   |some r=>S8 (.uR l.length (λi=>l.getD i .oF) :: r)
   |none=>S_
  |_=>S_
theorem ZCr{S:Nat->Prop}{w:World}{m:Mp}:∀{vs:S5 V}{xs:S5 C}{ys:S5 Value},(∀(j:Nat)(v:V),vs[j]?=S8 v->∃x,ys[j]?=S8 x/\o6 S w m v x)->qf.yx vs=S8 xs->S7 xs=S7 vs/\∀j,j<S7 vs->oI S w m (xs.getD j .oF) (ys.getD j undef)
 | [],xs,ys,h,hl=>by cases hl;simp_all
 |v :: vs,xs,ys,h,hl=>by
  have aF:∀c:C,(∀y,o6 S w m v y->oI S w m c y)->∀r,qf.yx vs=S8 r->xs=c :: r->S7 xs=(v :: vs).length/\∀j,j<(v :: vs).length->oI S w m (xs.getD j .oF) (ys.getD j undef):=by
   intro c hcv r hr hl;subst hl;cases ys with
   |nil=>obtain⟨x,h1,_⟩:=h 0 _ rfl;simp at h1
   |cons y ys=>
    obtain⟨h1,h2⟩:=ZCr (ys:=ys) (λj v hj=>by have:=h (j+1) v (by simpa using hj);simpa using this) hr;refine⟨by simp_all,λj hj=>?_⟩;cases j with
    |zero=>
     obtain⟨x,h3,h4⟩:=h 0 _ rfl;simp_all
    |succ j=>simp_all
  cases v<;>simp only[qf.yx]at hl<;>try (cases hl;done)
  .rename_i c;split at hl
   .rename_i r hr;cases hl;exact aF c (λy hy=>hy) r hr rfl
   .cases hl
  .rename_i l;split at hl
   .rename_i r hr;cases hl;refine aF _ (λy hy=>?_) r hr rfl;obtain⟨zs,rfl,h1,h2,h3⟩:=hy;have bf:zs.size=S7 l:=by simpa using h1
    rw[<-bf];refine .uR _ h3 λi hi=>?_;obtain⟨x,h4,h5⟩:=h2 i _ (Va (h:=by omega));have e1:l.getD i .oF=l[i]'(by omega):=by grind
    simp_all
   .cases hl
theorem ZFW(hs:qB N F S m st a w)(args:S5 Operand):∀(j:Nat)(v:V),(args.map (pT st))[j]?=S8 v->∃x,(args.map a.eval)[j]?=S8 x/\o6 S w m v x:=by
 intro j v hj;simp at hj;obtain⟨y,h1,rfl⟩:=hj;exact⟨a.eval y,by simp_all,hs.pT y⟩
theorem ZWa{x:Operand}(ho:o.op=.nilCheck x)(hx:o6 S w m u (a.eval x))(h:Jg u=S8 v) :
  ∃y,(execOp a.eval o).run P w=.ok (.value y) w/\o6 S w m v y:=by
 refine⟨a.eval x,?_,?_⟩
 .unfold execOp;simp only[ho];generalize a.eval x=q at hx;unfold Jg at h;split at h<;>(try (cases h;done))<;>cases hx<;>simp
 .unfold Jg at h
  grind
theorem amQ{op:UnOp}{x:Value}(hx:o6 S w m u x)(h:NH op u=S8 v):∃y,(Op.unary op x).run P w=.ok y w/\o6 S w m v y:=by
 unfold NH at h;split at h<;>(try (cases h;done))<;>cases h<;>cases hx
 .exact⟨_,by simp[Op.unary],oI.lit⟩
 .exact⟨_,by rfl,oI.lit⟩
 .exact⟨_,by rfl,oI.lit⟩
theorem ZSo(hT:rZ P T){s d:TypeId}{x:Value}(hx:o6 S w m u x)(h:ZWe T s d u=S8 v):∃y,(convert s d x).run P w=.ok y w/\o6 S w m v y:=by
 unfold ZWe at h;split at h
 .rename_i ts td hts htd;obtain⟨ds,hus,_⟩:=hT.under hts;obtain⟨dd,hud,kf⟩:=hT.under htd;split at h
  .rename_i k k' n hk;cases h;cases hx;rw[hk]at kf;cases dd<;>simp only[TK.fits]at kf;subst kf;refine⟨_,?_,oI.lit⟩;cases ds<;>simp[convert,Ta,run_underlying hus,run_underlying hud,Conv.intToInt]
  .rename_i t hk;cases h;cases hx;rw[hk]at kf;cases dd<;>simp only[TK.fits]at kf;refine⟨_,?_,oI.lit⟩;cases ds<;>simp[convert,Ta,run_underlying hus,run_underlying hud]
  .cases h
 .cases h
end
section
variable{P:Program}{w:World}{o:Oper}{x:Value}{e:TypeId}
theorem xj{ρ:Operand->Value}{s:Sem Value}{w':World}(h:execOp ρ o=(do pure (.value (<-s))))(hs:s.run P w=.ok x w'):(execOp ρ o).run P w=.ok (.value x) w':=by
 simp_all
theorem ZTH{z:Value}(hz:(zeroValue e).run P w=.ok z w)(wM:Value):(Vs e Tl wM).run P w=.ok (.pointer (S8 ⟨w.heap.size,0,S_⟩)) (w.alloc (.cells z.cells e)):=by
 simp[Vs,Ta,hz,newVar,Sd]
theorem aml:(Instr.box e x).run P w=.ok (.pointer (S8 ⟨w.heap.size,0,S_⟩)) (w.alloc (.cells x.cells e)):=by
 rfl
set_option maxHeartbeats 1600000 in
theorem ZVZ{T:qP}(hT:rZ P T){N:Nat}{S0:Nat->Prop}{w0:t_}{st:St}{a:Act}{S:Nat->Prop}{m:Mp}(hs:qB N w0.F S m st a w)(hg:p9 w0.F.no S0 S w0.w w)
   {an:S6 sF} {v:V} {o_:S5 Prop} {pH:St} (h:qf P N T o st an=S8 (v,o_,pH)) (ho:∀q∈o_,q) {K:Act->World->Prop} {Q:Exit->Act->World->Prop}
  (hk:∀x w' S' m',qB N w0.F S' m' pH a w'->p9 w0.F.no S0 S' w0.w w'->o6 S' w' m' v x->K (a.put o.dst x) w'):o.wp P a w K Q:=by
 obtain⟨dst,op,type,ff,after,guard⟩:=o;unfold qf at h;simp only at h;have hu:(∃x,(execOp a.eval ⟨dst,op,type,ff,after,guard⟩).run P w=.ok (.value x) w/\o6 S w m v x)->pH=st->Oper.wp P ⟨dst,op,type,ff,after,guard⟩ a w K Q:=by
  rintro ⟨x,h1,h2⟩ rfl;exact CS h1 (hk x w S m hs hg h2)
 cases op<;>(try simp only at h)<;>(try (cases h;done))
 case move x=>
  split at h
  .obtain⟨m',h1,h2⟩:=ZKp hs (hs.pT x) h ho;exact CS (x:=a.eval x) rfl (hk _ _ _ _ h1 hg h2)
  .cases h;exact hu ⟨_,rfl,hs.pT x⟩ rfl
 case assign x=>
  split at h
  .obtain⟨m',h1,h2⟩:=ZKp hs (hs.pT x) h ho;exact CS (x:=a.eval x) rfl (hk _ _ _ _ h1 hg h2)
  .cases h;exact hu ⟨_,rfl,hs.pT x⟩ rfl
 case pick c x y=>
  have hc:=hs.pT c;split at h
  .rename_i hq;rw[hq]at hc;cases h;have D_:a.eval c=.bool Tl:=by generalize a.eval c=q at hc;cases hc;rfl
   exact hu ⟨a.eval x,by simp[execOp,asBool,D_],hs.pT x⟩ rfl
  .rename_i hq;rw[hq]at hc;cases h;have D_:a.eval c=.bool Tm:=by generalize a.eval c=q at hc;cases hc;rfl
   exact hu ⟨a.eval y,by simp[execOp,asBool,D_],hs.pT y⟩ rfl
  .cases h
 case alloc e=>
  split at h
  .rename_i te bU;split at h
   .rename_i l hl;obtain⟨z,h1,h2⟩:=RR (S:=S) (w:=w) (m:=m) hT bU hl;obtain⟨m',h3,h4⟩:=hs.FZ (dst.getD 0) e h2 h;exact CS (xj rfl (ZTH h1 _)) (hk _ _ _ _ h3 (hg.alloc hs.pJ _) h4)
   .cases h
  .cases h
 case box e x=>
  split at h
  .rename_i l hl;have h2:=V.uO (hs.pT x) hl;obtain⟨m',h3,h4⟩:=hs.FZ (dst.getD 0) e h2 h;exact CS (xj rfl aml) (hk _ _ _ _ h3 (hg.alloc hs.pJ _) h4)
  .cases h
 case build t ps=>
  split at h
  .rename_i v' hv;cases h;obtain⟨x,h1,h2⟩:=ZOx hT hs hv;exact hu ⟨x,xj rfl h1,h2⟩ rfl
  .cases h
 case buildSlice t n ps=>
  obtain⟨y,w',S',m',h1,h2,h3,h4⟩:=ZDJ hT hs hg h ho;exact CS (xj rfl h1) (hk _ _ _ _ h2 h3 h4)
 case load t p=>
  split at h
  .rename_i v' tw hv;cases h;obtain⟨x,h1,h2⟩:=ZOh hT hs (hs.pT p) hv ho;exact hu ⟨x,xj rfl h1,h2⟩ rfl
  .cases h
 case store t p x=>
  split at h
  .rename_i tw st2 hv;cases h;obtain⟨w',h1,h2,h3⟩:=ZNY hT hs hg (hs.pT p) (hs.pT x) hv ho;refine ZzB (w':=w') ?_ (hk _ _ _ _ h2 h3 oI.oF);simp[execOp,Ta,h1]
  .cases h
 case nilCheck x=>
  split at h
  .rename_i v' hv;cases h;obtain⟨y,h1,h2⟩:=ZWa (P:=P) (o:=⟨dst,.nilCheck x,type,ff,after,guard⟩) rfl (hs.pT x) hv;simp_all
  .split at h
   .rename_i tw hv;cases h;exact hu ⟨_,ZSl (P:=P) (o:=⟨dst,.nilCheck x,type,ff,after,guard⟩) rfl (hs.pT x) hv ho,hs.pT x⟩ rfl
   .cases h
 case makeInterface t x=>
  have hx:=hs.pT x;split at h
  .rename_i c hc;cases h;rw[hc]at hx;exact hu ⟨_,xj rfl (run_makeInterface w t _ (ho _ (by simp))),oI.th hx⟩ rfl
  .rename_i l hl;cases h;rw[hl]at hx;obtain⟨xs,e1,e2,e3,e4⟩:=hx;refine hu ⟨_,xj rfl (run_makeInterface w t _ (ho _ (by simp))),?_⟩ rfl;rw[e1];have bf:S7 l=xs.size:=by simpa using e2.symm
   rw[bf];refine oI.ve xs e4 λi hi=>?_;obtain⟨y,f1,f2⟩:=e3 i (l.getD i .oF) (by simp_all);simp_all
  .cases h
 case binOp op t x y yt=>
  have hx:=hs.pT x;have hy:=hs.pT y;split at h
  .rename_i p q hp hq;rw[hp]at hx;rw[hq]at hy;have ex:a.eval x=p:=by generalize a.eval x=z at hx;cases hx;rfl
   have ey:a.eval y=q:=by generalize a.eval y=z at hy;cases hy;rfl
   split at h
   .rename_i r tw hr;cases h;refine hu ⟨r,xj rfl ?_,oI.lit⟩ rfl;rw[ex,ey];exact ZWg hT hr ho x y w
   .split at h
    .rename_i r tw hr;cases h;obtain⟨z,h1,h2⟩:=ZCL (xo:=x) (yo:=y) hT hx hy hr ho;exact hu ⟨z,xj rfl h1,h2⟩ rfl
    .split at h
     .rename_i r _;cases h;refine hu ⟨r,xj rfl ?_,oI.lit⟩ rfl;rw[ex,ey];exact ho _ U0 w
     .cases h
  .split at h
   .rename_i r tw hr;cases h;obtain⟨z,h1,h2⟩:=ZCL (xo:=x) (yo:=y) hT hx hy hr ho;exact hu ⟨z,xj rfl h1,h2⟩ rfl
   .split at h
    .rename_i p q r _ hp hq;cases h;refine hu ⟨r,xj rfl ?_,oI.lit⟩ rfl;rw[V.vD hx hp,V.vD hy hq];exact ho _ U0 w
    .cases h
 case unOp op t x=>
  split at h
  .rename_i v' hv;cases h;obtain⟨y,h1,h2⟩:=amQ (P:=P) (hs.pT x) hv;exact hu ⟨y,xj rfl h1,h2⟩ rfl
  .cases h
 case convert s d x=>
  split at h
  .rename_i v' hv;cases h;obtain⟨y,h1,h2⟩:=ZSo hT (hs.pT x) hv;exact hu ⟨y,xj rfl h1,h2⟩ rfl
  .cases h
 case makeSlice t l c=>
  split at h
  .obtain⟨y,w',S',m',h1,h2,h3,h4⟩:=ZOf hT hs hg (hs.pT l) (hs.pT c) h ho;exact CS (xj rfl h1) (hk _ _ _ _ h2 h3 h4)
  .cases h
  .obtain⟨y,w',m',h1,h2,h3,h4⟩:=ZEM hT hs hg (hs.pT l) (hs.pT c) h ho;exact CS (xj rfl h1) (hk _ _ _ _ h2 h3 h4)
 case slice t x lo hi mx=>
  split at h
  .rename_i v' tw hv;cases h;obtain⟨y,h1,h2⟩:=ZOa hT (hs.pT x) (ZFM hs lo) (ZFM hs hi) (ZFM hs mx) hv ho;exact hu ⟨y,xj rfl h1,h2⟩ rfl
  .cases h
 case fieldAddr t x f=>
  split at h
  .rename_i v' hv;cases h;obtain⟨y,h1,h2⟩:=ZCQ hT (hs.pT x) hv;exact hu ⟨y,xj rfl h1,h2⟩ rfl
  .cases h
 case field t x f=>
  split at h
  .rename_i v' hv;cases h;obtain⟨y,h1,h2⟩:=ZOs hT (hs.pT x) hv;exact hu ⟨y,xj rfl h1,h2⟩ rfl
  .cases h
 case indexAddr t x i=>
  split at h
  .rename_i v' tw hv;cases h;obtain⟨y,h1,h2⟩:=ZCO hT (hs.pT x) (hs.pT i) hv ho;exact hu ⟨y,xj rfl h1,h2⟩ rfl
  .cases h
 case index t x i=>
  split at h
  .rename_i v' tw hv;cases h;obtain⟨y,h1,h2⟩:=ZOk hT (hs.pT x) (hs.pT i) hv ho;exact hu ⟨y,xj rfl h1,h2⟩ rfl
  .cases h
 case extract x i=>
  split at h
  .rename_i v' hv;cases h;obtain⟨y,h1,h2⟩:=ZGI (P:=P) (hs.pT x) hv;exact hu ⟨y,xj rfl h1,h2⟩ rfl
  .cases h
 case makeMap t r=>
  obtain⟨y,w',m',h1,h2,h3,h4⟩:=ZGE (pr:=r.map a.eval) hT hs hg (by cases r with|none=>trivial|some r=>exact hs.pT r) h;have ho0:o_=[]\/True:=.inr trivial;exact CS (xj rfl h1) (hk _ _ _ _ h2 h3 h4)
 case lookup t x k ok=>
  split at h
  .rename_i v' tw hv;cases h;obtain⟨y,h1,h2⟩:=ZKv hT hs (hs.pT x) (hs.pT k) hv ho;exact hu ⟨y,xj rfl h1,h2⟩ rfl
  .cases h
 case mapUpdate t x k v0=>
  split at h
  .rename_i tw st2 hv;cases h;obtain⟨w',h1,h2,h3⟩:=ZOd hT hs hg (hs.pT x) (hs.pT k) (hs.pT v0) hv ho;refine ZzB (w':=w') ?_ (hk _ _ _ _ h2 h3 oI.oF);simp[execOp,Ta,h1]
  .cases h
 case mapEntry t x k=>
  obtain⟨y,w',h1,h2,h3,h4⟩:=ZDI hT hs hg (hs.pT x) (hs.pT k) h ho;exact CS (xj rfl h1) (hk _ _ _ _ h2 h3 h4)
 case entryStore t x s v0=>
  split at h
  .rename_i tw st2 hv;cases h;obtain⟨w',h1,h2,h3⟩:=ZAS (P:=P) (t:=t) hs hg (hs.pT x) (hs.pT s) (hs.pT v0) hv ho;refine ZzB (w':=w') ?_ (hk _ _ _ _ h2 h3 oI.oF);simp[execOp,Ta,h1]
  .cases h
 case typeAssert x xt t ok=>
  split at h
  .rename_i v' hv;cases h;obtain⟨y,h1,h2⟩:=ZKA (P:=P) (xt:=xt) hT (hs.pT x) hv;exact hu ⟨y,xj rfl h1,h2⟩ rfl
  .cases h
 case makeFunc fn first cap=>
  split at h
  .rename_i xs ys gS l9;cases h;obtain⟨e1,h1⟩:=ZCr (ZFW hs first.toList) gS
   obtain⟨e2,h2⟩:=ZCr (ZFW hs cap.toList) l9;refine hu ⟨.func fn (first.map a.eval) (cap.map a.eval),by rfl,?_⟩ rfl
   have:=oI.qs (S:=S) (w:=w) (m:=m) (fn:=fn) (a:=λi=>xs.getD i .oF) (b:=λi=>ys.getD i .oF) (first.map a.eval) (cap.map a.eval) (λi hi=>by
    simp_all) (λi hi=>by
    simp_all)
   simp only[Array.size_map]at this;exact this
  .cases h
 case call c=>
  obtain⟨callee,args,bA⟩:=c;cases callee with
  |invoke r n=>cases h
  |value f=>
   simp only at h;split at h
   .rename_i r _;split at h
    .rename_i tw hv;cases h;exact ZWf hs hg rfl hv ho λx w' S' h1 h2 h3=>hk x w' S' m h1 h2 h3
    .cases h
   .cases h
  |builtin b=>
   cases b<;>(try simp only at h)<;>(try (cases h;done))
   case len=>
    split at h
    .rename_i x t hx ht;split at h
     .rename_i v' hv;cases h;obtain⟨y,h1,h2⟩:=ZWc (P:=P) (ty:=type) hT (hs.pT x) hv;refine hu ⟨y,?_,h2⟩ rfl;have e1:args = #[x]:=by grind
      have e2:bA = #[t]:=by grind
      subst e1;subst e2;simp[execOp,resolve,invoke,builtin,Ta,h1]
     .cases h
    .cases h
   case append=>
    split at h
    .rename_i s x t t' hx ht;split at h
     .rename_i hb;obtain rfl:=ta hb;have e1:args = #[s,x]:=by grind
      have e2:bA = #[t,t]:=by grind
      subst e1;subst e2;split at h
      .obtain⟨y,w',S',m',h1,h2,h3,h4⟩:=ZSp (ty:=type) hT hs hg (hs.pT s) (hs.pT x) h ho;refine CS (x:=y) (w':=w') ?_ (hk _ _ _ _ h2 h3 h4);simp[execOp,resolve,invoke,builtin,Ta,h1]
      .obtain⟨y,w',m',h1,h2,h3,h4⟩:=ZAH (ty:=type) hT hs hg (hs.pT s) (hs.pT x) h ho;refine CS (x:=y) (w':=w') ?_ (hk _ _ _ _ h2 h3 h4);simp[execOp,resolve,invoke,builtin,Ta,h1]
     .cases h
    .cases h
   case clear=>
    split at h
    .rename_i x t hx ht;have e1:args = #[x]:=by grind
     have e2:bA = #[t]:=by grind
     subst e1;subst e2;obtain⟨y,w',h1,h2,h3,h4⟩:=ZOu (ty:=type) hT hs hg (hs.pT x) h ho;refine CS (x:=y) (w':=w') ?_ (hk _ _ _ _ h2 h3 h4);simp[execOp,resolve,invoke,builtin,Ta,h1]
    .cases h
   case delete=>
    split at h
    .rename_i x k t t2 hx ht;split at h
     .rename_i tw st2 hv;cases h;have e1:args = #[x,k]:=by grind
      have e2:bA = #[t,t2]:=by grind
      subst e1;subst e2;obtain⟨w',h1,h2,h3⟩:=ZKt (ty:=type) hT hs hg (hs.pT x) (hs.pT k) hv ho t2;refine CS (x:=.tuple #[]) (w':=w') ?_ (hk _ _ _ _ h2 h3 ⟨#[],rfl,rfl,λj p hj=>by simp at hj⟩);simp[execOp,resolve,invoke,builtin,Ta,h1]
     .cases h
    .cases h
   case min=>
    split at h
    .rename_i v' hv;cases h;have hm:=ZFW hs args.toList;unfold I_ at hv;split at hv
     .rename_i k x k' y hq;cases hv;obtain⟨p,dD,c5⟩:=hm 0 _ (by rw[hq];rfl);obtain⟨q,er,dw⟩:=hm 1 _ (by rw[hq];rfl);have hlen:S7 args.toList=2:=by have:=aFj Vt hq;simpa using this
      match CZ:args.toList,hlen with
      | [u,u'],_=>
       rw[CZ]at dD er;simp only[UG,Ve,Vb,Vc,S9]at dD er;subst dD;subst er;have e1:args = #[u,u']:=by grind
       subst e1;refine hu ⟨.int k (if y<x then y else x),?_,oI.lit⟩ rfl;generalize iP:a.eval u=c1 at c5;generalize zF:a.eval u'=c2 at dw;cases c5;cases dw;simp[execOp,resolve,invoke,builtin,Ta,VB,VC,iP,zF]
     .cases hv
    .cases h
   case max=>
    split at h
    .rename_i v' hv;cases h;have hm:=ZFW hs args.toList;unfold I_ at hv;split at hv
     .rename_i k x k' y hq;cases hv;obtain⟨p,dD,c5⟩:=hm 0 _ (by rw[hq];rfl);obtain⟨q,er,dw⟩:=hm 1 _ (by rw[hq];rfl);have hlen:S7 args.toList=2:=by have:=aFj Vt hq;simpa using this
      match CZ:args.toList,hlen with
      | [u,u'],_=>
       rw[CZ]at dD er;simp only[UG,Ve,Vb,Vc,S9]at dD er;subst dD;subst er;have e1:args = #[u,u']:=by grind
       subst e1;refine hu ⟨.int k (if y>x then y else x),?_,oI.lit⟩ rfl;generalize iP:a.eval u=c1 at c5;generalize zF:a.eval u'=c2 at dw;cases c5;cases dw;simp[execOp,resolve,invoke,builtin,Ta,VD,VE,iP,zF]
     .cases hv
    .cases h
end
end Go.Proofs.YtmcnjofonpkfmaaGreat
