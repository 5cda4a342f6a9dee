import Derived.Test.YtnigiacmmedkhaaGreatGAmE
namespace Go.Proofs.YtnigiacmmedkhaaGreat
open Go.RowKit
set_option linter.unusedSimpArgs false
set_option linter.unusedVariables false
def ZjB{α:Type}(l:List α)(o:Nat)(cs:List α):List α:=l.take o++cs++l.drop (o+cs.length)
theorem RepL.append{S:Nat->Prop}{w:World}{m:Mp}{l k:List C}{xs ys:List Value}(h:RepL S w m l xs)(h':RepL S w m k ys):RepL S w m (l++k) (xs++ys):=by
 refine⟨by simp[h.1,h'.1],fun j c hj=>?_,fun x hx=>?_⟩
 .by_cases hl:j<l.length
  .rw[List.getElem?_append_left hl]at hj;rw[List.getElem?_append_left (by rw[h.1];exact hl)];exact h.2.1 j c hj
  .rw[List.getElem?_append_right (by omega)]at hj;rw[List.getElem?_append_right (by rw[h.1];omega),h.1];exact h'.2.1 _ c hj
 .rcases List.mem_append.1 hx with hx|hx
  .exact h.2.2 x hx
  .exact h'.2.2 x hx
theorem RepL.take{S:Nat->Prop}{w:World}{m:Mp}{l:List C}{xs:List Value}(h:RepL S w m l xs)(n:Nat):RepL S w m (l.take n) (xs.take n):=by
 refine⟨by simp[h.1],fun j c hj=>?_,fun x hx=>h.2.2 x (List.mem_of_mem_take hx)⟩;rw[List.getElem?_take]at hj ⊢;split at hj
 .rename_i hn;rw[if_pos hn];exact h.2.1 j c hj
 .cases hj
theorem RepL.drop{S:Nat->Prop}{w:World}{m:Mp}{l:List C}{xs:List Value}(h:RepL S w m l xs)(n:Nat):RepL S w m (l.drop n) (xs.drop n):=by
 refine⟨by simp[h.1],fun j c hj=>?_,fun x hx=>h.2.2 x (List.mem_of_mem_drop hx)⟩;rw[List.getElem?_drop]at hj ⊢;exact h.2.1 _ c hj
theorem RepL.spliced{S:Nat->Prop}{w:World}{m:Mp}{l cs:List C}{xs ys:List Value}{o:Nat}(h:RepL S w m l xs)(h':RepL S w m cs ys):RepL S w m (ZjB l o cs) (ZjB xs o ys):=by
 unfold ZjB;rw[h'.1];exact((h.take o).append h').append (h.drop _)
theorem Zvn:∀(vs:List Value)(k off:Nat)(a8:Array Value),off+k+vs.length<=a8.size ->
  ((vs.zipIdx k).foldl (fun cs p=>cs.setIfInBounds (off+p.2) p.1) a8).toList=ZjB a8.toList (off+k) vs
 | [],k,off,a8,h=>by simp[ZjB]
 |v :: vs,k,off,a8,h=>by
  simp only[List.length_cons]at h
  simp only[List.zipIdx_cons,List.foldl_cons]
  rw[Zvn vs (k+1) off _ (by simp;omega)]
  simp only[ZjB,Array.toList_setIfInBounds,List.length_cons]
  have hlt:off+k<a8.toList.length:=by simp;omega
  have e1:(a8.toList.set (off+k) v).take (off+(k+1))=a8.toList.take (off+k)++[v]:=by
   rw[List.set_eq_take_append_cons_drop,if_pos hlt,List.take_append];have e2:(a8.toList.take (off+k)).length=off+k:=by simp;omega
   rw[e2,List.take_of_length_le (by rw[e2];omega)];have e3:off+(k+1)-(off+k)=1:=by omega
   rw[e3];rfl
  have e4:(a8.toList.set (off+k) v).drop (off+(k+1)+vs.length)=a8.toList.drop (off+k+(vs.length+1)):=by
   rw[List.drop_set_of_lt (by omega)];congr 1;omega
  rw[e1,e4];simp
def ZHy(dy:Nat->Option (Nat×Nat)):List C->List (Nat×V)->Option (List C)
 |cells,[]=>some cells
 |cells,(i,v) :: rest=>match dy i with
  |none=>none
  |some (o,n)=>match v.cells with
   |none=>none
   |some cs=>match Nat.beq cs.length n,Nat.ble (o+n) cells.length with
    |true,true=>ZHy dy (ZjB cells o cs) rest
    |_,_=>none
theorem ZsZ{N:Nat}{F:Keep}{S:Nat->Prop}{m:Mp}{st:St}{a:Act}{w:World}(hs:Sim N F S m st a w){dy place':Nat->Option (Nat×Nat)}(hp:∀i p,dy i=some p->place' i=some p) :
  ∀(ps:List (Nat×Operand))(cells r:List C)(xs:Array Value),RepL S w m cells xs.toList->ZHy dy cells (ps.map fun p=>(p.1,evo st p.2))=some r ->
   ∃ys,Instr.fill place' xs (ps.map fun p=>(p.1,a.eval p.2))=some ys/\RepL S w m r ys.toList
 | [],cells,r,xs,hx,h=>by cases h;exact⟨xs,rfl,hx⟩
 | (i,x) :: ps,cells,r,xs,hx,h=>by
  simp only[List.map_cons,ZHy]at h
  split at h
  .cases h
  rename_i o n fH
  split at h
  .cases h
  rename_i cs io
  split at h
  .rename_i bo bk
   obtain rfl:=ZaH bo
   have hle:=Nat.le_of_ble_eq_true bk
   have hv:=V.cells_rep (hs.evo x) io
   have aU:(a.eval x).cells.size=cs.length:=by simpa using hv.1
   have hsx:xs.size=cells.length:=by simpa using hx.1
   have hset:=Zvn (a.eval x).cells.toList 0 o xs (by simp;omega)
   obtain⟨ys,h1,h2⟩:=ZsZ hs hp ps _ r (((a.eval x).cells.toList.zipIdx 0).foldl (fun cs p=>cs.setIfInBounds (o+p.2) p.1) xs) (by rw[hset,Nat.add_zero];exact hx.spliced hv) h
   refine⟨ys,?_,h2⟩
   simp only[List.map_cons,Instr.fill,hp i _ fH]
   rw[if_neg (by simp[aU];omega),<-h1]
   congr 1
   rw[<-Array.foldl_toList]
   simp[Array.toList_zipIdx]
  .cases h
def Ztf(ti:TI):Option (List C):=match ti.zero with
 |some z=>(V.ofVal z).cells
 |none=>none
theorem Zpd{P:Program}{T:Tab}(hT:Zes P T){t:Nat}{ti:TI}(h:ZeV T t=some ti){l:List C}(hz:Ztf ti=some l){S:Nat->Prop}{w:World}{m:Mp} :
  ∃z,(zeroValue t).run P w=.ok z w/\RepL S w m l z.cells.toList:=by
 unfold Ztf at hz;obtain⟨i,h1,h2,h3,h4⟩:=hT.info h;split at hz
 .rename_i z hq;refine⟨z,?_,V.cells_rep (V.ofVal_rep z) hz⟩;simp[zeroValue,typeInfo,h1,h4,hq]
 .cases hz
def ZNM(T:Tab)(fs:List (Nat×TypeId))(i:Nat):Option (Nat×Nat):=match fs[i]? with
 |some (o,ty)=>match ZeV T ty with
  |some ti=>some (o,ti.size)
  |none=>none
 |none=>none
def ZNo(T:Tab):List (Nat×TypeId)->Bool
 | []=>true
 | (_,ty) :: r=>match ZeV T ty with
  |some _=>ZNo T r
  |none=>false
theorem ZCo{T:Tab}:∀{fs:List (Nat×TypeId)},ZNo T fs=true->∀p∈fs,∃ti,ZeV T p.2=some ti
 | [],_,p,h=>by cases h
 | (o,ty) :: r,h,p,hp=>by
  simp only[ZNo]at h
  split at h
  .rename_i ti a7
   rcases List.mem_cons.1 hp with rfl|hp
   .exact⟨ti,a7⟩
   .exact ZCo h p hp
  .cases h
def Zun(T:Tab)(st:St)(t:Nat)(ps:List (Nat×V)):Option V:=match ZeV T t with
 |some ti=>match Ztf ti with
  |some z=>match ti.k with
   | .struct fs=>match ZNo T fs with
    |true=>match ZHy (ZNM T fs) z ps with
     |some l=>some (.agg l)
     |none=>none
    |false=>none
   | .array n e=>match ZeV T e with
    |some te=>match ZHy (fun i=>some (i*te.size,te.size)) z ps with
     |some l=>some (.agg l)
     |none=>none
    |none=>none
   |_=>none
  |none=>none
 |none=>none
theorem ZFo{α β:Type}(P:Program)(w:World)(f:α->Sem β)(g:α->β):∀(l:List α)(acc:Array β),(∀x∈l,(f x).run P w=.ok (g x) w)->(l.foldlM (fun bs a=>bs.push <$> f a) acc).run P w=.ok (acc++(l.map g).toArray) w
 | [],acc,h=>by simp
 |x :: l,acc,h=>by
  have h1:=h x (by simp)
  simp only[List.foldlM_cons,Sem.run_bind]
  rw[show ((acc.push <$> f x:Sem (Array β)).run P w)=.ok (acc.push (g x)) w by rw[map_eq_pure_bind,Sem.run_bind,h1];rfl]
  simp only[Result.andThen_ok]
  rw[ZFo P w f g l _ fun y hy=>h y (by simp[hy])]
  simp
theorem ZuN{α β:Type}(P:Program)(w:World)(f:α->Sem β)(g:α->β)(xs:Array α)(h:∀x∈xs.toList,(f x).run P w=.ok (g x) w):(xs.mapM f).run P w=.ok (xs.map g) w:=by
 rw[Array.mapM_eq_foldlM,<-Array.foldlM_toList,ZFo P w f g xs.toList _ h];congr 1;apply Array.ext';simp
theorem ZEw{P:Program}{T:Tab}(hT:Zes P T){N:Nat}{F:Keep}{S:Nat->Prop}{m:Mp}{st:St}{a:Act}{w:World}(hs:Sim N F S m st a w){t:Nat}{ps:Array (Nat×Operand)}{v:V}
  (h:Zun T st t (ps.toList.map fun p=>(p.1,evo st p.2))=some v):∃x,(Instr.build t (ps.map fun(i,x)=>(i,a.eval x))).run P w=.ok x w/\RepV S w m v x:=by
 unfold Zun at h;split at h
 .rename_i ti a7;obtain⟨d,hu,hf⟩:=hT.under a7;split at h
  .rename_i z hz;obtain⟨zv,hz1,c8⟩:=Zpd (S:=S) (w:=w) (m:=m) hT a7 hz;have bL:(ps.map fun(i,x)=>(i,a.eval x)).toList=ps.toList.map fun p=>(p.1,a.eval p.2):=by simp
   split at h
   .rename_i fs hk;rw[hk]at hf;cases d<;>simp only[TK.fits]at hf;rename_i fields;split at h
    .rename_i bq;split at h
     .rename_i l hl;cases h;have jG:=ZuN P w (fun f:Field=>do pure (f.offset,<-sizeOf f.type)) (fun f=>(f.offset,((ZeV T f.type).map (·.size)).getD 0)) fields (fun f fT=>by
       obtain⟨tf,jh⟩:=ZCo bq (f.offset,f.type) (by rw[<-hf];exact List.mem_map.2 ⟨f,fT,rfl⟩);simp[Sem.run_bind,hT.size jh w,jh])
      obtain⟨ys,h1,h2⟩:=ZsZ hs (place':=fun i=>(fields.map fun f=>(f.offset,((ZeV T f.type).map (·.size)).getD 0))[i]?) (fun i p hp=>by
       unfold ZNM at hp;split at hp
       .rename_i o ty ig;obtain⟨gg,h4,h5,h6⟩:=Zso hf ig;split at hp
        .rename_i tf jh;cases hp;simp[h4,h5,h6,jh]
        .cases hp
       .cases hp) ps.toList z l zv.cells c8 hl
      refine⟨.agg ys,?_,ys,rfl,h2⟩;simp only[Instr.build,Sem.run_bind,hz1,Result.andThen_ok,run_underlying hu,jG,bL,h1,Sem.run_pure]
     .cases h
    .cases h
   .rename_i n e hk;rw[hk]at hf;cases d<;>simp only[TK.fits]at hf;obtain⟨rfl,rfl⟩:=hf;split at h
    .rename_i te bF;split at h
     .rename_i l hl;cases h;obtain⟨ys,h1,h2⟩:=ZsZ hs (place':=fun i=>some (i*te.size,te.size)) (fun i p hp=>hp) ps.toList z l zv.cells c8 hl;refine⟨.agg ys,?_,ys,rfl,h2⟩;simp only[Instr.build,Sem.run_bind,hz1,Result.andThen_ok,run_underlying hu,hT.size bF w,bL,h1,Sem.run_pure]
     .cases h
    .cases h
   .cases h
  .cases h
 .cases h
end Go.Proofs.YtnigiacmmedkhaaGreat
