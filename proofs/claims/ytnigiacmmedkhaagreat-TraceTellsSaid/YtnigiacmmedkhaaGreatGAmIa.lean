import Derived.Test.YtnigiacmmedkhaaGreatGAmI
import Derived.Laws.Append
namespace Go.Proofs.YtnigiacmmedkhaaGreat
open Go.RowKit
set_option linter.unusedSimpArgs false
set_option linter.unusedVariables false
theorem idxz{i j n K:Nat}(hi:i<n)(hj:j<K):i*K+j<n*K:=by
 have:(i+1)*K<=n*K:=Nat.mul_le_mul_right _ hi;rw[Nat.add_mul]at this;omega
theorem Sim.writeRows{N:Nat}{S0:Nat->Prop}{w0:ZeC}{S:Nat->Prop}{m:Mp}{st:St}{a:Act}{w:World}(hs:Sim N w0.F S m st a w)(hg:Goes w0.F.no S0 S w0.w w){id e sz R:Nat}{c:Nat->Nat->C}(hl:hget st.heap id=some (.rows e sz R c))
  {g cp:Nat} (hm:m id=.slice (some ⟨g,0,none⟩) R cp) (lo k:Nat) (hk:lo+k<=R) (vs:List Value) (hv:vs.length=k*sz) (h1:∀v∈vs,v.oneCell'=true) (cx:Nat->Nat->C) (jJ:∀i j,i<k->j<sz->∃y,vs[i*sz+j]?=some y/\RepC S w ZcK (cx i j) y)
  (c':Nat->Nat->C) (db:∀i j,i<R->j<sz->(i<lo\/lo+k<=i)->c' i j=c i j) (cT:∀i j,i<k->j<sz->c' (lo+i) j=cx i j) :
  ∃cs:Array Value,(∀P,(storeCells ⟨g,lo*sz,none⟩ vs).run P w=.ok () (w.setRow g cs))/\Sim N w0.F S m { st with heap:=hset st.heap id (.rows e sz R c') } a (w.setRow g cs)/\Goes w0.F.no S0 S w0.w (w.setRow g cs):=by
 have hB:=hs.heap id _ hl;rw[hm]at hB;obtain⟨xs,⟨hlen,cA⟩,hc,cC⟩:=hB;rcases cA with⟨cA,_⟩|⟨g',cap,cur,cD,bO,dr,ej,c9,eF,dH⟩
 .cases cA
 simp only[Value.slice.injEq,Option.some.injEq,Addr.mk.injEq,and_true]at cD;obtain⟨rfl,_,rfl⟩:=cD;have ip:R*sz<=cp*sz:=Nat.mul_le_mul_right _ ej;have hkR:(lo+k)*sz<=R*sz:=Nat.mul_le_mul_right _ hk;rw[Nat.add_mul]at hkR;have iq:=(hs.own id _ hl g (by rw[hm];rfl)).1;refine⟨(cur.toList.take (lo*sz)++vs++cur.toList.drop (lo*sz+vs.length)).toArray,fun P=>by
   have:=run_storeCells_at P g (lo*sz) e vs 0 cur w dr (by rw[hv];omega) h1;simpa using this,hs.write (.rows e sz R c') hl (by simp[World.setRow]) (fun q hq dJ=>setRow_other w g q _ (fun e=>dJ (by rw[hm,e];rfl))) ?_,
  hg.step ⟨rfl,rfl,rfl,by simp[World.setRow],fun q hq=>setRow_other w g q _ (fun e=>(hs.own id _ hl g (by rw[hm];rfl)).2.1 (e ▸ hq)),by simp[World.setRow]⟩ (fun _ h=>h) (fun _ h=>.inl h)⟩
 rw[hm];have cQ:Zgs S w (w.setRow g (cur.toList.take (lo*sz)++vs++cur.toList.drop (lo*sz+vs.length)).toArray):=fun q hq=>setRow_other w g q _ (fun e=>iq (e ▸ hq));have jk:∀q,(xs.take (lo*sz)++vs++xs.drop (lo*sz+vs.length))[q]?=if lo*sz<=q/\q<lo*sz+vs.length then vs[q-lo*sz]? else xs[q]?:=fun q=>ZpQ xs (lo*sz) vs (by rw[hlen,hv];omega) q;refine⟨xs.take (lo*sz)++vs++xs.drop (lo*sz+vs.length),⟨?_,.inr ⟨g,cp,_,rfl,bO,setRow_heap w g cur _ e (0,0) dr,ej,c9,?_,?_⟩⟩,fun i j hi hj=>?_,fun y hy=>?_⟩
 .simp only[List.length_append,List.length_take,List.length_drop];omega
 .simp only[List.size_toArray,List.length_append,List.length_take,List.length_drop,Array.length_toList];omega
 .simp only[<-dH];rw[List.take_append,List.take_append,List.take_take,List.drop_take];simp only[List.length_take,Array.length_toList,List.length_append];rw[Nat.min_eq_right (by omega),List.take_of_length_le (l:=vs) (by omega)];rw[Nat.min_eq_left (by omega:lo*sz<=cur.size),List.take_take,Nat.min_eq_left (by omega:lo*sz<=R*sz)]
 .rw[jk];by_cases hin:lo<=i/\i<lo+k
  .obtain⟨y,h3,h4⟩:=jJ (i-lo) j (by omega) hj;have e1:(i-lo)*sz=i*sz-lo*sz:=Nat.sub_mul _ _ _;have e2:lo*sz<=i*sz:=Nat.mul_le_mul_right _ hin.1;have e3:=idxz (show i-lo<k by omega) hj;rw[if_pos ⟨by omega,by rw[hv];omega⟩];refine⟨y,by rw[<-h3];congr 1;omega,?_⟩;have:=cT (i-lo) j (by omega) hj;rw[show lo+(i-lo)=i by omega]at this;rw[this];exact h4.keep cQ fun _ h=>h
  .obtain⟨y,h3,h4⟩:=hc i j hi hj;have bI:¬(lo*sz<=i*sz+j/\i*sz+j<lo*sz+vs.length):=by
    rintro ⟨q1,q2⟩;rw[hv]at q2;by_cases hlt:i<lo
    .have:=idxz hlt hj;omega
    .have:(lo+k)*sz<=i*sz:=Nat.mul_le_mul_right _ (by omega);rw[Nat.add_mul]at this;omega
   rw[if_neg bI];exact⟨y,h3,by rw[db i j hi hj (by omega)];exact h4.keep cQ fun _ h=>h⟩
 .rcases List.mem_append.1 hy with hy|hy
  .rcases List.mem_append.1 hy with hy|hy
   .exact cC y (List.mem_of_mem_take hy)
   .exact h1 y hy
  .exact cC y (List.mem_of_mem_drop hy)
def ZHC(N:Nat)(st:St)(d:Nat)(x:V)(n':Nat)(c':Nat->Nat->C):Option (V×List Prop×St):=match x with
 | .one (.osub id sz lo len n)=>match hget st.heap id with
  |some (.rows e sz' R c)=>match ZdC N d st,Nat.beq sz sz' with
   |true,true=>some (.one (.osl d n'),[lo=0,n'=len,∀i j,i<len->j<sz->c' i j=c i j],{ st with heap:=(d,.rows e sz n' c') :: hdel st.heap id })
   |_,_=>none
  |_=>none
 |_=>none
theorem ZBC{N:Nat}{F:Keep}{S:Nat->Prop}{m:Mp}{st:St}{a:Act}{w:World}(hs:Sim N F S m st a w){d:Nat}{x v:V}{px:Value}{n':Nat}{c':Nat->Nat->C}{obl:List Prop}{st':St}(hx:RepV S w m x px)
  (h:ZHC N st d x n' c'=some (v,obl,st')) (ho:∀q∈obl,q):∃m',Sim N F S m' st' a w/\RepV S w m' v px:=by
 unfold ZHC at h;split at h;rotate_left
 .cases h
 rename_i id sz lo len n;split at h;rotate_left
 .cases h
 rename_i e sz' R c hl;split at h;rotate_left
 .cases h
 rename_i hq hb;obtain rfl:=ZaH hb;simp only[Option.some.injEq,Prod.mk.injEq]at h;obtain⟨rfl,rfl,rfl⟩:=h;have o1:lo=0:=ho _ (by simp);have o2:n'=len:=ho _ (by simp);have o3:∀i j,i<len->j<sz->c' i j=c i j:=ho _ (by simp);subst o1 o2;cases hx with
 |osub hm hc hle hn ha h0 h1=>
  rename_i cc jl aa iu;have e1:aa=iu:=(h1 rfl).symm;have e2:cc=jl:=by omega
  subst e1 e2;have hB:=hs.heap id _ hl;have bf:=hs.own id _ hl;rw[hm]at hB bf;obtain⟨xs,⟨hlen,cA⟩,cd,cC⟩:=hB;refine⟨_,hs.renew d hq (.slice aa n' cc) (.rows e sz n' c') (some id) (Nat.le_refl _) (fun _ _ _=>rfl) (fun k hk=>?_) ?_,RepC.osl (ZfL _ _ _) ?_ (by omega)⟩
  .have hk':blk (.slice aa n cc)=some k:=by cases aa<;>exact hk
   obtain⟨q1,q2,q3⟩:=bf k hk';exact⟨q2,q3,.inl ⟨id,_,rfl,hl,by rw[hm];exact hk'⟩⟩
  .rcases cA with⟨cA,hR⟩|⟨g,cap,cur,cD,bO,dr,ej,c9,eF,dH⟩
   .cases cA;have:n'=0:=by omega
    subst this;exact⟨[],World.ownsRow_nil _ _ _ _,fun i j hi=>absurd hi (by omega),by simp⟩
   .cases cD;have hRl:n'*sz<=n*sz:=Nat.mul_le_mul_right _ (by omega);refine⟨xs.take (n'*sz),⟨by rw[List.length_take,hlen];omega,.inr ⟨g,cc,cur,rfl,bO,dr,by omega,c9,eF,?_⟩⟩,fun i j hi hj=>?_,fun y hy=>cC y (List.mem_of_mem_take hy)⟩
    .rw[<-dH,List.take_take,Nat.min_eq_left hRl]
    .obtain⟨y,h3,h4⟩:=cd i j (by omega) hj;exact⟨y,by rw[List.getElem?_take,if_pos (idxz hi hj)];exact h3,by rw[o3 i j hi hj];exact h4⟩
  .rcases ha with h|h
   .exact .inl (by omega)
   .exact .inr h
def ZxK(T:Tab)(st:St)(t:Nat)(x:V)(an:Option Ans):Option (V×List Prop×St):=match ZeV T t,x,an with
 |some ti,.one (.osub id sz lo len n),some (.c n' c')=>match ti.k with
  | .slice e=>match ZeV T e with
   |some te=>match Ztf te,hget st.heap id with
    |some z,some (.rows e' sz' R c)=>match Nat.beq sz te.size,Nat.beq sz' sz,Nat.beq z.length sz with
     |true,true,true=>some (.one .junk,[n'=R,∀i j,i<R->j<sz->(i<lo\/lo+len<=i)->c' i j=c i j,∀i j,i<len->j<sz->ZuP (z.getD j .junk) (c' (lo+i) j)],{ st with heap:=hset st.heap id (.rows e' sz n' c') })
     |_,_,_=>none
    |_,_=>none
   |none=>none
  |_=>none
 |_,_,_=>none
theorem ZEt{P:Program}{T:Tab}(hT:Zes P T){N:Nat}{S0:Nat->Prop}{w0:ZeC}{st:St}{a:Act}{w:World}{S:Nat->Prop}{m:Mp}(hs:Sim N w0.F S m st a w)(hg:Goes w0.F.no S0 S w0.w w)
  {t ty:Nat} {x v:V} {px:Value} {an:Option Ans} {obl:List Prop} {st':St} (cR:RepV S w m x px) (h:ZxK T st t x an=some (v,obl,st')) (ho:∀q∈obl,q) :
  ∃y w',(Builtin.clear_ #[t] ty #[px]).run P w=.ok y w'/\Sim N w0.F S m st' a w'/\Goes w0.F.no S0 S w0.w w'/\RepV S w' m v y:=by
 unfold ZxK at h;split at h;rotate_left
 .cases h
 rename_i ti id sz lo len n n' c' a7;obtain⟨dd,hu,hf⟩:=hT.under a7;split at h;rotate_left
 .cases h
 rename_i e hk;rw[hk]at hf;cases dd<;>simp only[TK.fits]at hf;subst hf;split at h;rotate_left
 .cases h
 rename_i te bF;split at h;rotate_left
 .cases h
 rename_i z e' sz' R c hz hl;split at h;rotate_left
 .cases h
 rename_i bo bk hb3;have bo:=ZaH bo;have bk:=ZaH bk;have hb3:=ZaH hb3;subst bk;simp only[Option.some.injEq,Prod.mk.injEq]at h;obtain⟨rfl,rfl,rfl⟩:=h;have o1:n'=R:=ho _ (by simp);have o2:∀i j,i<R->j<sz'->(i<lo\/lo+len<=i)->c' i j=c i j:=ho _ (by simp);have o3:∀i j,i<len->j<sz'->ZuP (z.getD j .junk) (c' (lo+i) j):=ho _ (by simp);subst o1;obtain⟨zv,hz1,c8⟩:=Zpd (S:=S) (w:=w) (m:=ZcK) hT bF hz;have eu:zv.cells.size=sz':=by have:=c8.1;simp at this;omega
 cases cR with
 |osub hm hc hle hn ha h0 h1=>
  rename_i cc jl aa iu;subst hc;have hB:=hs.heap id _ hl;rw[hm]at hB;obtain⟨jP,_⟩:=ZkC hB;subst jP;by_cases hlen:len=0
  .subst hlen;refine⟨.tuple #[],w,?_,?_,hg,RepC.junk⟩
   .cases iu<;>simp[Builtin.clear_,Sem.run_bind,run_underlying hu]
   .obtain⟨xs,bf,cd,cC⟩:=hB;refine hs.write (.rows e' sz' n c') hl (Nat.le_refl _) (fun _ _ _=>rfl) ?_;rw[hm];exact⟨xs,bf,fun i j hi hj=>by rw[o2 i j hi hj (by omega)];exact cd i j hi hj,cC⟩
  .obtain⟨b,rfl⟩:=ha.resolve_left (by omega);have e0:=h0 (by omega);rw[Option.map_some,ZhR,Nat.zero_add]at e0;subst e0;have gk:(Builtin.zeroCells zv.cells len).toList.length=len*sz':=by simp[Builtin.zeroCells,eu]
   have hzg:∀i j,i<len->j<sz'->(Builtin.zeroCells zv.cells len).toList[i*sz'+j]?=some (zv.cells.getD j undef):=by
    intro i j hi hj;have hlt:=idxz hi hj;have hlt2:i*sz'+j<len*zv.cells.size:=by rw[eu];exact hlt
    simp only[Builtin.zeroCells,Array.getElem?_toList,Array.getElem?_map,Array.getElem?_range,hlt2,if_true,Option.map_some];congr 1;rw[eu,Nat.mul_comm,Nat.mul_add_mod,Nat.mod_eq_of_lt hj];have:j<zv.cells.size:=by omega
    simp[Array.getElem!_eq_getD,Array.getD_eq_getD_getElem?,this]
   obtain⟨cs,bD,h3,h4⟩:=hs.writeRows hg hl hm lo len hle (Builtin.zeroCells zv.cells len).toList gk (fun y hy=>by
    have fJ:y∈Builtin.zeroCells zv.cells len:=Array.mem_toList_iff.1 hy;simp only[Builtin.zeroCells,Array.mem_map,Array.mem_range]at fJ;obtain⟨q,hq,rfl⟩:=fJ;have cy:q % zv.cells.size<zv.cells.size:=Nat.mod_lt _ (by
     rcases Nat.eq_zero_or_pos zv.cells.size with h|h
     .rw[h]at hq;omega
     .exact h)
    refine c8.2.2 _ ?_;rw[getElem!_pos zv.cells _ cy];simp) (fun i j=>c' (lo+i) j) (fun i j hi hj=>⟨_,hzg i j hi hj,by
     have hj2:j<zv.cells.size:=by omega
     have hcj:z[j]?=some (z.getD j .junk):=by simp[List.getD_eq_getElem?_getD,show j<z.length by omega]
     obtain⟨y,q1,q2⟩:=c8.2.1 j _ hcj;have:zv.cells.getD j undef=y:=by
      rw[Array.getElem?_toList]at q1;simp[Array.getD_eq_getD_getElem?,q1]
     rw[this];exact ZtB q2 (o3 i j hi hj)⟩) c' o2 (fun _ _ _ _=>rfl)
   refine⟨.tuple #[],w.setRow b cs,?_,h3,h4,RepC.junk⟩;have gF:=bD P;obtain⟨len0,rfl⟩ : ∃l0,len=l0+1:=⟨len-1,by omega⟩;simp[Builtin.clear_,Sem.run_bind,run_underlying hu,hz1,gF]
def Zuo(T:Tab)(st:St)(t:Nat)(s x:V)(an:Option Ans):Option (V×List Prop×St):=match ZeV T t,s,x,an with
 |some ti,.one (.osub id sz lo i n),.one (.osub id2 sz2 j k n2),some (.r (.one (.sl _ n' c')) _)=>match ti.k with
  | .slice e=>match ZeV T e,hget st.heap id with
   |some te,some (.rows e' sz' R c)=>match Nat.beq id2 id,Nat.beq sz te.size,Nat.beq sz2 sz,Nat.beq sz' sz with
    |true,true,true,true=>some (.one (.osub id sz lo (i+k) n),[n'=R,lo=0,i+k<=R,∀p q,p<R->q<sz->(p<i\/i+k<=p)->c' p q=c p q,∀p q,p<k->q<sz->c' (i+p) q=c (j+p) q],{ st with heap:=hset st.heap id (.rows e' sz n' c') })
    |_,_,_,_=>none
   |_,_=>none
  |_=>none
 |_,_,_,_=>none
theorem ZEx{P:Program}{T:Tab}(hT:Zes P T){N:Nat}{S0:Nat->Prop}{w0:ZeC}{st:St}{a:Act}{w:World}{S:Nat->Prop}{m:Mp}(hs:Sim N w0.F S m st a w)(hg:Goes w0.F.no S0 S w0.w w)
  {t ty:Nat} {s x v:V} {ps px:Value} {an:Option Ans} {obl:List Prop} {st':St} (bL:RepV S w m s ps) (cR:RepV S w m x px) (h:Zuo T st t s x an=some (v,obl,st')) (ho:∀q∈obl,q) :
  ∃y w',(Builtin.append_ #[t,t] ty #[ps,px]).run P w=.ok y w'/\Sim N w0.F S m st' a w'/\Goes w0.F.no S0 S w0.w w'/\RepV S w' m v y:=by
 unfold Zuo at h;split at h;rotate_left
 .cases h
 rename_i ti id sz lo i n id2 sz2 j k n2 sz3 n' c' fz a7;obtain⟨dd,hu,hf⟩:=hT.under a7;split at h;rotate_left
 .cases h
 rename_i e hk;rw[hk]at hf;cases dd<;>simp only[TK.fits]at hf;subst hf;split at h;rotate_left
 .cases h
 rename_i te e' sz' R c bF hl;split at h;rotate_left
 .cases h
 rename_i hb0 bo bk hb3;have hb0:=ZaH hb0;have bo:=ZaH bo;have bk:=ZaH bk;have hb3:=ZaH hb3;subst hb0 hb3;subst bk;simp only[Option.some.injEq,Prod.mk.injEq]at h;obtain⟨rfl,rfl,rfl⟩:=h;have o1:n'=R:=ho _ (by simp);have o2:lo=0:=ho _ (by simp);have o3:i+k<=R:=ho _ (by simp);have o4:∀p q,p<R->q<sz2->(p<i\/i+k<=p)->c' p q=c p q:=ho _ (by simp);have o5:∀p q,p<k->q<sz2->c' (i+p) q=c (j+p) q:=ho _ (by simp);subst o1 o2;obtain⟨i0,hi,hi1,br,gC⟩:=hT.info bF;have aU:i0.size=sz2:=by rw[hi1,bo]
 cases bL with
 |osub hm hc hle hn ha h0 h1=>
  rename_i cc jl aa iu;have e1:aa=iu:=(h1 rfl).symm;have e2:cc=jl:=by omega
  subst e1 e2;cases cR with
  |osub hm2 hc2 hle2 hn2 ha2 h02 h12=>
   rename_i dc dc' da da';rw[hm]at hm2;obtain⟨rfl,rfl,rfl⟩ : aa=da/\n=n2/\cc=dc:=by simpa using hm2
   subst hc2;have hB:=hs.heap id2 _ hl;rw[hm]at hB;obtain⟨jP,_⟩:=ZkC hB;subst jP;have gA:i+k<=cc:=by omega
   by_cases hk0:k=0
   .subst hk0;refine⟨.slice aa (i+0) cc,w,?_,?_,hg,RepC.osub hm (by omega) (by omega) hn ha h0 h1⟩
    .have jQ:(Builtin.firstCells sz2 0 (.slice da' 0 (cc-j))).run P w=.ok #[] w:=by
      cases da' with
      |none=>rfl
      |some q=>exact run_firstCells_some w sz2 0 q 0 (cc-j) [] (by simp) (fun j v h=>by simp at h)
     simp[Builtin.append_,Sem.run_bind,run_underlying hu,sizeOf,typeInfo,hi,Builtin.lenOf,jQ,aU,show i<=cc by omega];cases aa<;>simp[storeCells]
    .obtain⟨xs,bf,cd,cC⟩:=hB;refine hs.write (.rows e' sz2 n c') hl (Nat.le_refl _) (fun _ _ _=>rfl) ?_;rw[hm];exact⟨xs,bf,fun p q hp hq=>by rw[o4 p q hp hq (by omega)];exact cd p q hp hq,cC⟩
   .obtain⟨b,rfl⟩:=ha.resolve_left (by omega);have e0:=h02 (by omega);rw[Option.map_some,ZhR,Nat.zero_add]at e0;subst e0;obtain⟨_,_,_,_,_,fd⟩:=ZpU hB;obtain⟨xs,⟨hlen,cA⟩,hc,cC⟩:=hB;rcases cA with⟨cA,_⟩|⟨g,cap,cur,cD,bO,dr,ej,c9,eF,dH⟩
    .cases cA
    simp only[Value.slice.injEq,Option.some.injEq,Addr.mk.injEq,and_true]at cD;obtain⟨rfl,_,rfl⟩:=cD;have hjk:(j+k)*sz2<=n*sz2:=Nat.mul_le_mul_right _ (by omega);rw[Nat.add_mul]at hjk;have jm:((xs.drop (j*sz2)).take (k*sz2)).length=k*sz2:=by simp[hlen];omega
    have eV:∀q,q<n*sz2->∀u,xs[q]?=some u->w.cell? ⟨b,q,none⟩=some u:=fun q hq u hu=>by
     rw[Zkh dr];rw[<-dH,List.getElem?_take,if_pos hq]at hu;simpa using hu
    obtain⟨cs,bD,h3,h4⟩:=hs.writeRows hg hl hm i k o3 ((xs.drop (j*sz2)).take (k*sz2)) jm (fun y hy=>cC y (List.mem_of_mem_drop (List.mem_of_mem_take hy))) (fun p q=>c (j+p) q) (fun p q hp hq=>by
     obtain⟨y,q1,q2⟩:=hc (j+p) q (by omega) hq;have:=idxz hp hq;refine⟨y,?_,q2⟩;rw[List.getElem?_take,if_pos this,List.getElem?_drop,<-q1];congr 1;rw[Nat.add_mul];omega) c' o4 o5
    refine⟨.slice (some ⟨b,0,none⟩) (i+k) cc,w.setRow b cs,?_,h3,h4,RepC.osub hm (by omega) (by omega) hn ha h0 h1⟩;have jQ:(Builtin.firstCells sz2 k (.slice (some ⟨b,j*sz2,none⟩) k (cc-j))).run P w=.ok ((xs.drop (j*sz2)).take (k*sz2)).toArray w:=by
     exact run_firstCells_some w sz2 k ⟨b,j*sz2,none⟩ k (cc-j) _ jm (fun q u hu=>by
      rw[ZhR];rw[List.getElem?_take]at hu;split at hu
      .rw[List.getElem?_drop]at hu;exact eV _ (by omega) u hu
      .cases hu)
    have gF:=bD P;simp[Builtin.append_,Sem.run_bind,run_underlying hu,sizeOf,typeInfo,hi,Builtin.lenOf,jQ,gA,ZhR,aU,gF]
end Go.Proofs.YtnigiacmmedkhaaGreat
