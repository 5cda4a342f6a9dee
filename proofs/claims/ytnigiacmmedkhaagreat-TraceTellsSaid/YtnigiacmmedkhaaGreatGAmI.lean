import Derived.Test.YtnigiacmmedkhaaGreatGAmH
namespace Go.Proofs.YtnigiacmmedkhaaGreat
open Go.RowKit
set_option linter.unusedSimpArgs false
set_option linter.unusedVariables false
def ZuP(a b:C):Prop:=b=a\/(a=.lit (.slice none 0 0)/\∃sz f,b=.sl sz 0 f)
theorem ZtB{S:Nat->Prop}{w:World}{m:Mp}{a b:C}{x:Value}(h:RepC S w m a x)(ho:ZuP a b):RepC S w m b x:=by
 rcases ho with rfl|⟨rfl,sz,f,rfl⟩
 .exact h
 .cases h;exact .sl 0 0 (fun _ _=>undef) (Nat.le_refl _) (fun h=>absurd h (by omega)) (fun i j h=>absurd h (by omega)) (fun i j h=>absurd h (by omega)) (fun i j h=>absurd h (by omega))
def Zme(N:Nat)(T:Tab)(st:St)(d t:Nat)(l c:V)(an:Option Ans):Option (V×List Prop×St):=match ZeV T t with
 |some ti=>match ti.k with
  | .slice e=>match ZeV T e with
   |some te=>match Ztf te,intV l,intV c,an with
    |some z,some (_,x),some (_,y),some (.c n c')=>match Nat.beq z.length te.size,Nat.ble 1 te.size,ZdC N d st with
     |true,true,true=>some (.one (.osl d n),[x=n,n<=y,y<=140737488355328,y*te.bytes<=140737488355328,∀i j,i<n->j<te.size->ZuP (z.getD j .junk) (c' i j)],st.new d (.rows e te.size n c'))
     |_,_,_=>none
    |_,_,_,_=>none
   |none=>none
  |_=>none
 |none=>none
theorem Zsh{α:Type}(f:Nat->α):(Array.range 0).map f = #[]:=by apply Array.ext<;>simp
theorem Zfn{y:Int}(h0:0<=y)(h:y<=140737488355328):IntKind.i64.wrap y=y:=by
 simp only[IntKind.wrap,IntKind.bits,IntKind.signed];have:y % 2 ^ 64=y:=Int.emod_eq_of_lt h0 (by omega);simp[this];omega
theorem ZIb(z:Array Value)(sz:Nat)(hz:z.size=sz)(k i j:Nat)(hi:i<k)(hj:j<sz):((Array.range (k*sz)).map (z[·% z.size]!))[i*sz+j]?=z[j]?:=by
 have hlt:i*sz+j<k*sz:=by
  have:(i+1)*sz<=k*sz:=Nat.mul_le_mul_right _ (by omega);rw[Nat.add_mul]at this;omega
 have e2:(i*sz+j) % sz=j:=by rw[Nat.mul_comm,Nat.mul_add_mod,Nat.mod_eq_of_lt hj]
 have hlt2:j<z.size:=by omega
 simp only[Array.getElem?_map,Array.getElem?_range,hlt,if_true,hz,e2,Option.map_some];rw[getElem!_pos z j hlt2,Array.getElem?_eq_getElem hlt2]
theorem Zwe{P:Program}{T:Tab}(hT:Zes P T){N:Nat}{S0:Nat->Prop}{w0:ZeC}{st:St}{a:Act}{w:World}{S:Nat->Prop}{m:Mp}(hs:Sim N w0.F S m st a w)(hg:Goes w0.F.no S0 S w0.w w)
  {d t:Nat} {l c v:V} {pl pc:Value} {an:Option Ans} {obl:List Prop} {st':St} (hl:RepV S w m l pl) (hc:RepV S w m c pc) (h:Zme N T st d t l c an=some (v,obl,st')) (ho:∀q∈obl,q) :
  ∃y w' m',(Instr.makeSlice t pl pc).run P w=.ok y w'/\Sim N w0.F S m' st' a w'/\Goes w0.F.no S0 S w0.w w'/\RepV S w' m' v y:=by
 unfold Zme at h;split at h
 .rename_i ti a7;obtain⟨dd,hu,hf⟩:=hT.under a7;split at h
  .rename_i e hk;rw[hk]at hf;cases dd<;>simp only[TK.fits]at hf;subst hf;split at h
   .rename_i te bF;split at h
    .rename_i z k1 x k2 y n c' hz hx hy;split at h
     .rename_i bo bk hq;have gk:=ZaH bo;have aU:=Nat.le_of_ble_eq_true bk;obtain rfl:=ZoD hl hx;obtain rfl:=ZoD hc hy;simp only[Option.some.injEq,Prod.mk.injEq]at h;obtain⟨rfl,rfl,rfl⟩:=h;have o1:x=n:=ho _ (by simp);have o2:(n:Int)<=y:=ho _ (by simp);have o3:y<=140737488355328:=ho _ (by simp);have o4:y*te.bytes<=140737488355328:=ho _ (by simp);have o5:∀i j,i<n->j<te.size->ZuP (z.getD j .junk) (c' i j):=ho _ (by simp);subst o1;obtain⟨zv,hz1,c8⟩:=Zpd (S:=S) (w:=w) (m:=ZcK) hT bF hz;have eu:zv.cells.size=te.size:=by have:=c8.1;simp at this;omega
      obtain⟨i,hi,hi1,br,gC⟩:=hT.info bF;have gl:IntKind.i64.wrap (n:Int)=n:=Zfn (by omega) (by omega);have fI:IntKind.i64.wrap y=y:=Zfn (by omega) o3;obtain⟨k,rfl⟩:=Int.eq_ofNat_of_zero_le (show 0<=y by omega);have jL:n<=k:=by omega
      have hrun:(Instr.makeSlice t (.int k1 n) (.int k2 k)).run P w=.ok (.slice (some ⟨w.heap.size,0,none⟩) n k) (w.alloc (.cells (if k*te.size=0 then #[]else(Array.range (k*te.size)).map (zv.cells[·% zv.cells.size]!)) e)):=by
       have h48:¬((te.bytes:Int)*(k:Int)>2 ^ 48):=by
        rw[Int.mul_comm];have:(2:Int) ^ 48=281474976710656:=by decide
        omega
       have hroom:¬(k*i.bytes>roomBytes):=by
        have:((k*te.bytes:Nat):Int)<=140737488355328:=by simpa using o4
        simp only[roomBytes];rw[br];omega
       by_cases hk0:k*te.size=0
       .have h0:k=0:=by
         rcases Nat.mul_eq_zero.1 hk0 with h|h
         .exact h
         .omega
        subst h0;have hn0:n=0:=by omega
        subst hn0;have jj:IntKind.i64.wrap 0=0:=Zfn (by omega) (by omega);simp[Instr.makeSlice,Sem.run_bind,run_underlying hu,asInt,asIntOf,jj,typeInfo,hi,askRoom,hT.size bF,ZlN,roomBytes,Zsh]
       .simp[Instr.makeSlice,Sem.run_bind,run_underlying hu,asInt,asIntOf,gl,fI,typeInfo,hi,askRoom,hT.size bF,ZlN,hk0,hz1,hroom];have h48':(i.bytes:Int)*(k:Int)<=281474976710656:=by
         rw[br];have:(2:Int) ^ 48=281474976710656:=by decide
         omega
        intro hc;exfalso;omega
      have hne:k*te.size=0->k=0:=fun hk0=>by
       rcases Nat.mul_eq_zero.1 hk0 with h|h
       .exact h
       .omega
      obtain⟨h1,h2⟩:=hs.newRows d hq e te.size n k c' (if k*te.size=0 then #[]else(Array.range (k*te.size)).map (zv.cells[·% zv.cells.size]!)) jL (by simp only[maxLen];omega) (by
       by_cases hk0:k*te.size=0
       .rw[if_pos hk0,hk0];rfl
       .rw[if_neg hk0];simp) (fun x hx=>by
       by_cases hk0:k*te.size=0
       .rw[if_pos hk0]at hx;simp at hx
       .rw[if_neg hk0]at hx;simp only[Array.toList_map,List.mem_map]at hx;obtain⟨q,_,rfl⟩:=hx;have hlt:q % zv.cells.size<zv.cells.size:=Nat.mod_lt _ (by omega);rw[getElem!_pos zv.cells _ hlt];exact c8.2.2 _ (by simp)) (fun i j hi hj=>by
       have hk0:¬k*te.size=0:=fun hk0=>by have:=hne hk0;omega
       rw[if_neg hk0,ZIb _ _ eu k i j (by omega) hj];have hc:z[j]?=some (z.getD j .junk):=by simp[List.getD_eq_getElem?_getD,show j<z.length by omega]
       obtain⟨x,h3,h4⟩:=c8.2.1 j _ hc;exact⟨x,by simpa using h3,ZtB h4 (o5 i j hi hj)⟩)
      exact⟨_,_,_,hrun,h1,hg.alloc hs.base_le _,h2⟩
     .cases h
    .cases h
   .cases h
  .cases h
 .cases h
def Zfs(N:Nat)(T:Tab)(st:St)(d t n:Nat)(ps:List (Nat×V))(an:Option Ans):Option (V×List Prop×St):=match ZeV T t with
 |some ti=>match ti.k with
  | .slice e=>match ZeV T e with
   |some te=>match Ztf te with
    |some z=>match Nat.ble 1 te.size,Nat.ble (n*te.size) 16777216,Nat.beq z.length te.size,ZHy (fun i=>some (i*te.size,te.size)) ((List.range (n*te.size)).map fun q=>z.getD (q % te.size) .junk) ps with
     |true,true,true,some l=>match l.all C.pure,Nat.beq l.length (n*te.size)with
      |true,true=>match an with
       |some (.c n' c')=>match ZdC N d st with
        |false=>none
        |true=>some (.one (.osl d n'),[n'=n,∀i j,i<n->j<te.size->c' i j=l.getD (i*te.size+j) .junk],st.new d (.rows e te.size n' c'))
       |_=>some (.one (.sl te.size n fun i j=>l.getD (i*te.size+j) .junk),[],st)
      |_,_=>none
     |_,_,_,_=>none
    |none=>none
   |none=>none
  |_=>none
 |none=>none
theorem ZuX{P:Program}{T:Tab}(hT:Zes P T){N:Nat}{S0:Nat->Prop}{w0:ZeC}{st:St}{a:Act}{w:World}{S:Nat->Prop}{m:Mp}(hs:Sim N w0.F S m st a w)(hg:Goes w0.F.no S0 S w0.w w)
  {d t n:Nat} {ps:Array (Nat×Operand)} {v:V} {an:Option Ans} {obl:List Prop} {st':St} (h:Zfs N T st d t n (ps.toList.map fun p=>(p.1,evo st p.2)) an=some (v,obl,st')) (ho:∀q∈obl,q) :
  ∃y w' S' m',(Instr.buildSlice t n (ps.map fun(i,x)=>(i,a.eval x))).run P w=.ok y w'/\Sim N w0.F S' m' st' a w'/\Goes w0.F.no S0 S' w0.w w'/\RepV S' w' m' v y:=by
 unfold Zfs at h;split at h
 .rename_i ti a7;obtain⟨dd,hu,hf⟩:=hT.under a7;split at h
  .rename_i e hk;rw[hk]at hf;cases dd<;>simp only[TK.fits]at hf;subst hf;split at h
   .rename_i te bF;split at h
    .rename_i z hz;split at h
     .rename_i l bo bk gk hl;have aU:=Nat.le_of_ble_eq_true bo;have jM:=Nat.le_of_ble_eq_true bk;have gk:=ZaH gk;obtain⟨zv,hz1,c8⟩:=Zpd (S:=S) (w:=w) (m:=m) hT bF hz;have eu:zv.cells.size=te.size:=by have:=c8.1;simp at this;omega
      have bL:(ps.map fun(i,x)=>(i,a.eval x)).toList=ps.toList.map fun p=>(p.1,a.eval p.2):=by simp
      have fc:RepL S w m ((List.range (n*te.size)).map fun q=>z.getD (q % te.size) .junk) ((Array.range (n*te.size)).map (zv.cells[·% zv.cells.size]!)).toList:=by
       refine⟨by simp,fun j c hj=>?_,fun x hx=>?_⟩
       .simp only[List.getElem?_map,Option.map_eq_some_iff]at hj;obtain⟨q,hq,rfl⟩:=hj;obtain⟨dN,cy⟩:=List.getElem?_eq_some_iff.1 hq;simp at dN cy;subst cy;have hmod:j % te.size<te.size:=Nat.mod_lt _ (by omega);have hc:z[j % te.size]?=some (z.getD (j % te.size) .junk):=by simp[List.getD_eq_getElem?_getD,show j % te.size<z.length by omega]
        obtain⟨x,h3,h4⟩:=c8.2.1 _ _ hc;refine⟨x,?_,h4⟩;rw[Array.getElem?_toList,Array.getElem?_map,Array.getElem?_range,if_pos dN,Option.map_some,eu,<-h3,getElem!_pos zv.cells _ (by omega)];simp[show j % te.size<zv.cells.size by omega]
       .simp only[Array.toList_map,List.mem_map]at hx;obtain⟨q,_,rfl⟩:=hx;have hlt:q % zv.cells.size<zv.cells.size:=Nat.mod_lt _ (by omega);rw[getElem!_pos zv.cells _ hlt];exact c8.2.2 _ (by simp)
      obtain⟨ys,h1,h2⟩:=ZsZ hs (place':=fun i=>some (i*te.size,te.size)) (fun i p hp=>hp) ps.toList _ l _ fc hl;have hrun:(Instr.buildSlice t n (ps.map fun(i,x)=>(i,a.eval x))).run P w=.ok (.slice (some ⟨w.heap.size,0,none⟩) n n) (w.alloc (.cells ys e)):=by
       have gE:¬(n*te.size>2 ^ 24):=by omega
       simp only[Instr.buildSlice,Sem.run_bind,run_underlying hu,Result.andThen_ok,hT.size bF,bL];rw[if_neg gE];by_cases h0:n*te.size=0
       .rw[if_pos h0];rw[h0,Zsh]at h1;simp only[Sem.run_pure,Result.andThen_ok,h0,Zsh,h1,Sem.run_bind,ZlN]
       .rw[if_neg h0];simp[Sem.run_bind,hz1,h1,ZlN]
      split at h
      .rename_i hp jN;have jN:=ZaH jN;split at h
       .rename_i n' c';split at h
        .cases h
        rename_i hq;simp only[Option.some.injEq,Prod.mk.injEq]at h;obtain⟨rfl,rfl,rfl⟩:=h;have o1:n'=n:=ho _ (by simp);have o2:∀i j,i<n->j<te.size->c' i j=l.getD (i*te.size+j) .junk:=ho _ (by simp);subst o1;have jO:ys.size=n'*te.size:=by have:=h2.1;simp at this;omega
        have hnm:n'<=16777216:=Nat.le_trans (Nat.le_mul_of_pos_right n' aU) jM;obtain⟨h3,h4⟩:=hs.newRows d hq e te.size n' n' c' ys (Nat.le_refl _) (by simp only[maxLen];omega) jO h2.2.2 (fun i j hi hj=>by
         have hlt:i*te.size+j<n'*te.size:=by
          have:(i+1)*te.size<=n'*te.size:=Nat.mul_le_mul_right _ (by omega);rw[Nat.add_mul]at this;omega
         have hc:l[i*te.size+j]?=some (l.getD (i*te.size+j) .junk):=by simp[List.getD_eq_getElem?_getD,show i*te.size+j<l.length by omega]
         obtain⟨x,h5,h6⟩:=h2.2.1 _ _ hc;refine⟨x,by simpa using h5,?_⟩;rw[o2 i j hi hj];exact h6.anyM ZcK (List.all_eq_true.1 hp _ (List.mem_of_getElem? hc)))
        exact⟨_,_,_,_,hrun,h3,hg.alloc hs.base_le _,h4⟩
       .simp only[Option.some.injEq,Prod.mk.injEq]at h;obtain⟨rfl,rfl,rfl⟩:=h;obtain⟨h3,h4⟩:=hs.pureRows e te.size n h2 hp jN;exact⟨_,_,_,_,hrun,h3,hg.step (Bel.alloc hs.base_le _) (fun _ h=>.inl h) (fun b hb=>hb.imp id fun e hF=>by have:=hs.base_le _ hF;omega),h4⟩
      .cases h
     .cases h
    .cases h
   .cases h
  .cases h
 .cases h
end Go.Proofs.YtnigiacmmedkhaaGreat
