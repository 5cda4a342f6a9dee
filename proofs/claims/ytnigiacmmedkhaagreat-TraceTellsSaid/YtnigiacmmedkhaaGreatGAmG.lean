import Derived.Test.YtnigiacmmedkhaaGreatGAmF
import Derived.Laws.CopyRow
import Derived.Laws.AppendOwn
namespace Go.Proofs.YtnigiacmmedkhaaGreat
open Go.RowKit
set_option linter.unusedSimpArgs false
set_option linter.unusedVariables false
structure Bel (F:Nat->Prop) (w w':World):Prop where
 os:w'.os=w.os
 tape:w'.tape=w.tape
 output:w'.output=w.output
 size:w.heap.size<=w'.heap.size
 block:∀k,F k->w'.heap[k]?=w.heap[k]?
 drawn:w.drawn<=w'.drawn
theorem Bel.refl(F:Nat->Prop)(w:World):Bel F w w:=⟨rfl,rfl,rfl,Nat.le_refl _,fun _ _=>rfl,Nat.le_refl _⟩
theorem Bel.trans{F:Nat->Prop}{a b c:World}(h:Bel F a b)(k:Bel F b c):Bel F a c:=
 ⟨k.os.trans h.os,k.tape.trans h.tape,k.output.trans h.output,Nat.le_trans h.size k.size,fun i hi=>(k.block i hi).trans (h.block i hi),Nat.le_trans h.drawn k.drawn⟩
theorem Bel.mono{F F':Nat->Prop}{w w':World}(h:Bel F w w')(hF:∀k,F' k->F k):Bel F' w w':=⟨h.os,h.tape,h.output,h.size,fun k hk=>h.block k (hF k hk),h.drawn⟩
theorem Bel.alloc{F:Nat->Prop}{w:World}(hF:∀k,F k->k<w.heap.size)(o:Obj):Bel F w (w.alloc o):=
 ⟨rfl,rfl,rfl,by simp,fun k hk=>Below.heap_alloc w o k (hF k hk),Nat.le_refl _⟩
theorem Bel.grown{F:Nat->Prop}{w w':World}{r:Option Nat}(h:w.grownBy w' r)(hd:w.drawn<=w'.drawn)(hF:∀k,F k->k<w.heap.size)(hr:∀k,F k->some k≠r):Bel F w w':=
 ⟨h.os,h.tape,h.output,h.size,fun k hk=>h.block k (hF k hk) (hr k hk),hd⟩
structure Goes (F:Nat->Prop) (S S':Nat->Prop) (w w':World):Prop where
 below:Bel F w w'
 sub:∀b,S b->S' b
 sup:∀b,S' b->S b\/¬F b
theorem Goes.refl(F S:Nat->Prop)(w:World):Goes F S S w w:=⟨Bel.refl _ _,fun _ h=>h,fun _ h=>.inl h⟩
theorem Goes.step{F:Nat->Prop}{S S1 S2:Nat->Prop}{w w1 w2:World}(h:Goes F S S1 w w1)(hb:Bel F w1 w2)(hs:∀b,S1 b->S2 b)(cn:∀b,S2 b->S1 b\/¬F b):Goes F S S2 w w2:=
 ⟨h.below.trans hb,fun b x=>hs b (h.sub b x),fun b x=>(cn b x).elim (fun y=>h.sup b y) .inr⟩
def ZcI(N:Nat)(S0:Nat->Prop)(w0:ZeC)(st:St)(a:Act)(w:World):Prop:=∃S m,Sim N w0.F S m st a w/\Goes w0.F.no S0 S w0.w w
def St.new(st:St)(d:Nat)(b:B):St:={ st with heap:=hins st.heap d b }
theorem Sim.reheap{N:Nat}{F:Keep}{S:Nat->Prop}{m:Mp}{e:List (Nat×V)}{h h':List (Nat×B)}{a:Act}{w:World}(hs:Sim N F S m ⟨e,h⟩ a w)(hh:∀id b,hget h' id=some b->hget h id=some b):Sim N F S m ⟨e,h'⟩ a w:=
 ⟨hs.size,hs.env,hs.far,fun id b hb=>hs.heap id b (hh id b hb),fun id b hb=>hs.own id b (hh id b hb),fun i j b b' hne h1 h2=>hs.inj i j b b' hne (hh _ _ h1) (hh _ _ h2),hs.dom,hs.defers,hs.base_le,hs.pin,hs.len⟩
theorem Sim.newBlock{N:Nat}{F:Keep}{S:Nat->Prop}{m:Mp}{st:St}{a:Act}{w:World}(h:Sim N F S m st a w)(d:Nat)(hq:ZdC N d st=true)(o:Obj)(x:Value)(b:B)(hx:blk x=some w.heap.size)(hB:RepB S (w.alloc o) (upd m d x) x b) :
  Sim N F S (upd m d x) (st.new d b) a (w.alloc o):=
 Sim.reheap (h:=(d,b) :: st.heap) (h.renew d hq x b none (by simp) (fun k hk _=>Below.heap_alloc w o k hk) (fun k hk=>by
  rw[hx]at hk
  cases hk
  exact⟨fun hF=>absurd (h.base_le _ hF) (Nat.lt_irrefl _),by simp,.inr (Nat.le_refl _)⟩) hB) fun id b' aN=>by rw[Zfb]at aN;rw[Zbk];exact aN
theorem ZlN(P:Program)(w:World)(e:TypeId)(cs:Array Value):(newRow e cs).run P w=.ok ⟨w.heap.size,0,none⟩ (w.alloc (.cells cs e)):=rfl
theorem Goes.alloc{F:Nat->Prop}{S S1:Nat->Prop}{w w1:World}(h:Goes F S S1 w w1)(hb:∀k,F k->k<w1.heap.size)(o:Obj):Goes F S S1 w (w1.alloc o):=
 h.step (Bel.alloc hb o) (fun _ x=>x) (fun _ x=>.inl x)
def ZpG(N:Nat)(st:St)(d:Nat)(l:List C):Option (V×List Prop×St):=match ZdC N d st,l.any (C.says d)with
 |true,false=>some (.one (.ptr d 0),[],st.new d (.box l))
 |_,_=>none
theorem Sim.newBox{N:Nat}{F:Keep}{S:Nat->Prop}{m:Mp}{st:St}{a:Act}{w:World}(h:Sim N F S m st a w)(d:Nat)(t:TypeId){l:List C}{xs:Array Value}(hl:RepL S w m l xs.toList){v:V}{obl:List Prop}{st':St}(he:ZpG N st d l=some (v,obl,st')) :
  ∃m',Sim N F S m' st' a (w.alloc (.cells xs t))/\RepV S (w.alloc (.cells xs t)) m' v (.pointer (some ⟨w.heap.size,0,none⟩)):=by
 unfold ZpG at he;split at he
 .rename_i hq hs;cases he;refine⟨upd m d (.pointer (some ⟨w.heap.size,0,none⟩)),h.newBlock d hq _ _ _ rfl ⟨w.heap.size,xs,t,rfl,heap_alloc_new _ _,?_⟩,RepC.ptr (ZfL _ _ _)⟩;exact(hl.keepL (w':=w.alloc (.cells xs t)) (fun b hb=>Below.heap_alloc _ _ _ (h.dom b hb)) (fun _ x=>x) fun b hb=>Below.heap_alloc _ _ _ (h.base_le b (h.len.2 b hb))).other _ d (Zlf m d _) rfl hs
 .cases he
theorem Sim.newRows{N:Nat}{F:Keep}{S:Nat->Prop}{m:Mp}{st:St}{a:Act}{w:World}(h:Sim N F S m st a w)(d:Nat)(hq:ZdC N d st=true)(e:TypeId)(sz len cap:Nat)(c:Nat->Nat->C)(a8:Array Value)(hle:len<=cap)(hcap:cap<=maxLen)
  (aU:a8.size=cap*sz) (h1:∀x∈a8.toList,x.oneCell'=true) (hc:∀i j,i<len->j<sz->∃x,a8[i*sz+j]?=some x/\RepC S w ZcK (c i j) x) :
  Sim N F S (upd m d (.slice (some ⟨w.heap.size,0,none⟩) len cap)) (st.new d (.rows e sz len c)) a (w.alloc (.cells a8 e)) /\
   RepV S (w.alloc (.cells a8 e)) (upd m d (.slice (some ⟨w.heap.size,0,none⟩) len cap)) (.one (.osl d len)) (.slice (some ⟨w.heap.size,0,none⟩) len cap):=by
 have cw:len*sz<=cap*sz:=Nat.mul_le_mul_right _ hle;refine⟨h.newBlock d hq _ _ _ rfl ⟨a8.toList.take (len*sz),⟨by simp;omega,.inr ⟨w.heap.size,cap,a8,rfl,Nat.zero_le _,heap_alloc_new _ _,hle,hcap,aU,rfl⟩⟩,fun i j hi hj=>?_,fun x hx=>h1 x (List.mem_of_mem_take hx)⟩,RepC.osl (ZfL _ _ _) (.inr ⟨_,rfl⟩) hle⟩;obtain⟨x,h2,h3⟩:=hc i j hi hj;have hlt:i*sz+j<len*sz:=by
  have:(i+1)*sz<=len*sz:=Nat.mul_le_mul_right _ (by omega);rw[Nat.add_mul]at this;omega
 refine⟨x,?_,h3.keep (fun b hb=>Below.heap_alloc _ _ _ (h.dom b hb)) fun _ x=>x⟩;rw[List.getElem?_take,if_pos hlt,Array.getElem?_toList];exact h2
theorem Sim.pureRows{N:Nat}{F:Keep}{S:Nat->Prop}{m:Mp}{st:St}{a:Act}{w:World}(h:Sim N F S m st a w)(e:TypeId)(sz n:Nat){l:List C}{xs:Array Value}(hl:RepL S w m l xs.toList)(hp:l.all C.pure=true)(hn:l.length=n*sz) :
  Sim N F (fun b=>S b\/b=w.heap.size) m st a (w.alloc (.cells xs e)) /\
   RepV (fun b=>S b\/b=w.heap.size) (w.alloc (.cells xs e)) m (.one (.sl sz n fun i j=>l.getD (i*sz+j) .junk)) (.slice (some ⟨w.heap.size,0,none⟩) n n):=by
 refine⟨h.grow (by simp) (fun k hk=>Below.heap_alloc _ _ _ hk) (fun _ x=>.inl x) (fun b hb=>hb.imp id fun e=>⟨by omega,by simp;omega⟩),?_⟩;have hsx:xs.size=l.length:=by simpa using hl.1
 have key:∀i j,i<n->j<sz->i*sz+j<l.length:=by
  intro i j hi hj;have:(i+1)*sz<=n*sz:=Nat.mul_le_mul_right _ (by omega);rw[Nat.add_mul]at this;omega
 have hx:∀i j,i<n->j<sz->xs[i*sz+j]?=some (xs.getD (i*sz+j) undef):=by
  intro i j hi hj;have:=key i j hi hj;simp[Array.getD_eq_getD_getElem?,show i*sz+j<xs.size by omega]
 refine RepC.sl w.heap.size 0 (fun i j=>xs.getD (i*sz+j) undef) (Nat.le_refl _) (fun _=>⟨rfl,.inr rfl⟩) (fun i j hi hj=>?_) (fun i j hi hj=>?_) (fun i j hi hj=>?_)
 .rw[World.cell?_alloc_at _ _ _ _ rfl,Nat.zero_add];exact hx i j hi hj
 .have:=hx i j hi hj;rw[<-Array.getElem?_toList]at this;exact hl.2.2 _ (List.mem_of_getElem? this)
 .have hc:l[i*sz+j]?=some (l.getD (i*sz+j) .junk):=by simp[List.getD_eq_getElem?_getD,key i j hi hj]
  obtain⟨x,h4,h5⟩:=hl.2.1 _ _ hc;have h6:=hx i j hi hj;rw[<-Array.getElem?_toList,h4]at h6;have h7:=Option.some.inj h6;rw[<-h7];exact(h5.anyM ZcK (List.all_eq_true.1 hp _ (List.mem_of_getElem? hc))).keep (fun b hb=>Below.heap_alloc _ _ _ (h.dom b hb)) fun _ x=>.inl x
theorem ZpQ{α:Type}(l:List α)(o:Nat)(cs:List α)(h:o+cs.length<=l.length)(q:Nat):(ZjB l o cs)[q]?=if o<=q/\q<o+cs.length then cs[q-o]? else l[q]?:=by
 unfold ZjB;have e1:(l.take o).length=o:=by simp;omega
 by_cases h1:q<o
 .rw[if_neg (by omega),List.append_assoc,List.getElem?_append_left (by omega),List.getElem?_take,if_pos h1]
 .by_cases h2:q<o+cs.length
  .rw[if_pos ⟨by omega,h2⟩,List.append_assoc,List.getElem?_append_right (by omega),e1,List.getElem?_append_left (by omega)]
  .rw[if_neg (by omega),List.getElem?_append_right (by simp;omega),List.getElem?_drop];congr 1;simp;omega
def ExtU(sz len:Nat)(c:Nat->Nat->C)(i off:Nat)(cs:List C)(c':Nat->Nat->C):Prop:=∀i' j,i'<len->j<sz->c' i' j=if i'=i/\off<=j/\j<off+cs.length then cs.getD (j-off) .junk else c i' j
def ZnE(T:Tab)(st:St)(t:Nat)(p v:V)(an:Option Ans):Option (List Prop×St):=match ZeV T t,v.cells with
 |some ti,some cs=>match Nat.beq cs.length ti.size with
  |true=>match p with
   | .one (.ptr id off)=>match hget st.heap id with
    |some (.box l)=>match Nat.ble (off+cs.length) l.length with
     |true=>some ([],{ st with heap:=hset st.heap id (.box (ZjB l off cs)) })
     |false=>none
    |_=>none
   | .one (.eptr id sz i off)=>match hget st.heap id,an with
    |some (.rows e sz' len c),some (.c n' c')=>match Nat.beq sz sz',Nat.ble (off+cs.length) sz,cs.all C.pure with
     |true,true,true=>some ([n'=len,i<len,ExtU sz len c i off cs c'],{ st with heap:=hset st.heap id (.rows e sz n' c') })
     |_,_,_=>none
    |some (.rows e sz' len c),some .own=>match cs,Nat.beq sz 1,Nat.beq sz' 1,Nat.beq off 0 with
     | [x],true,true,true=>some ([i<len],{ st with heap:=hset st.heap id (.hole e len (fun i=>c i 0) i x) })
     |_,_,_,_=>none
    |_,_=>none
   |_=>none
  |false=>none
 |_,_=>none
theorem ZDZ{P:Program}{T:Tab}(hT:Zes P T){N:Nat}{S0:Nat->Prop}{w0:ZeC}{st:St}{a:Act}{w:World}{S:Nat->Prop}{m:Mp}(hs:Sim N w0.F S m st a w)(hg:Goes w0.F.no S0 S w0.w w)
  {t:Nat} {p v:V} {px x:Value} {an:Option Ans} {obl:List Prop} {st':St} (hp:RepV S w m p px) (hv:RepV S w m v x) (h:ZnE T st t p v an=some (obl,st')) (ho:∀q∈obl,q) :
  ∃w',(Instr.storeAt t px x).run P w=.ok () w'/\Sim N w0.F S m st' a w'/\Goes w0.F.no S0 S w0.w w':=by
 unfold ZnE at h;split at h
 .rename_i ti cs a7 io;have eZ:=V.cells_rep hv io;have aU:=hT.size a7 w;have eV:x.cells.size=cs.length:=by simpa using eZ.1
  split at h
  .rename_i hb;have hn:=ZaH hb;have hne:¬(x.cells.size≠ti.size):=by omega
   split at h
   .rename_i id off;split at h
    .rename_i l hl;split at h
     .rename_i bk;have hle:=Nat.le_of_ble_eq_true bk;simp only[Option.some.injEq,Prod.mk.injEq]at h;obtain⟨rfl,rfl⟩:=h;cases hp with
      |ptr hm=>
       rename_i b;have hB:=hs.heap id _ hl;have hB0:=hB;rw[hm]at hB;obtain⟨b',a8,ty,h1,h2,h3⟩:=hB;simp only[Value.pointer.injEq,Option.some.injEq,Addr.mk.injEq,and_true]at h1;subst h1;have eW:a8.size=l.length:=by simpa using h3.1
       have bD:=run_storeCells_at P b off ty x.cells.toList 0 a8 w h2 (by simp;omega) eZ.2.2;have bO:=(hs.own id _ hl b (by rw[hm];rfl)).2.1;have hrun:(Instr.storeAt t (.pointer (some ⟨b,off,none⟩)) x).run P w=.ok () (w.setRow b (List.take (off+0) a8.toList++x.cells.toList++List.drop (off+0+x.cells.toList.length) a8.toList).toArray):=by
        simp only[Instr.storeAt,Instr.sureAddr,storeVar,Sem.run_bind,Sem.run_pure,Result.andThen_ok,aU];rw[if_neg hne];exact bD
       refine⟨_,hrun,hs.write (.box (ZjB l off cs)) hl (by simp[World.setRow]) (fun k hk dJ=>?_) ?_,?_⟩
       .exact setRow_other w b k _ (fun e=>dJ (by rw[hm,e];rfl))
       .rw[hm];refine⟨b,_,ty,rfl,setRow_heap w b a8 _ ty (0,0) h2,?_⟩;have:=(h3.spliced (o:=off) eZ).keepL (w':=w.setRow b (List.take (off+0) a8.toList++x.cells.toList++List.drop (off+0+x.cells.toList.length) a8.toList).toArray) (S':=S) (fun k hk=>setRow_other w b k _ (fun e=>(hs.own id _ hl b (by rw[hm];rfl)).1 (e ▸ hk))) (fun _ h=>h) (fun k hk=>setRow_other w b k _ (fun e=>(hs.own id _ hl b (by rw[hm];rfl)).2.1 (hs.len.2 _ (e ▸ hk))));simpa[ZjB]using this
       .refine hg.step ⟨rfl,rfl,rfl,by simp[World.setRow],fun k hk=>setRow_other w b k _ (fun e=>(hs.own id _ hl b (by rw[hm];rfl)).2.1 (e ▸ hk)),by simp[World.setRow]⟩ (fun _ h=>h) (fun _ h=>.inl h)
     .cases h
    .cases h
   .rename_i id sz i off;split at h
    .rename_i e sz' len c n' c' hl;split at h
     .rename_i bo bk dz;obtain rfl:=ZaH bo;have hle:=Nat.le_of_ble_eq_true bk;simp only[Option.some.injEq,Prod.mk.injEq]at h;obtain⟨rfl,rfl⟩:=h;have ej:n'=len:=ho _ (by simp);subst ej;have hi:i<n':=ho _ (by simp);have eE:ExtU sz n' c i off cs c':=ho _ (by simp);cases hp with
      |eptr hm=>
       rename_i b n cp;have hB:=hs.heap id _ hl;rw[hm]at hB;obtain⟨xs,⟨hlen,cA⟩,hc,cC⟩:=hB;rcases cA with⟨cA,_⟩|⟨g,cap,cur,cD,bO,dr,ej,c9,eF,dH⟩
       .cases cA
       simp only[Value.slice.injEq,Option.some.injEq,Addr.mk.injEq,and_true]at cD;obtain⟨rfl,rfl,rfl⟩:=cD;have dK:(i+1)*sz<=n*sz:=Nat.mul_le_mul_right _ (by omega);have ip:n*sz<=cp*sz:=Nat.mul_le_mul_right _ ej;rw[Nat.add_mul,Nat.one_mul]at dK;have bD:=run_storeCells_at P b (i*sz+off) e x.cells.toList 0 cur w dr (by simp;omega) eZ.2.2;have iq:=(hs.own id _ hl b (by rw[hm];rfl)).1;have hrun:(Instr.storeAt t (.pointer (some ⟨b,i*sz+off,none⟩)) x).run P w=.ok () (w.setRow b (List.take (i*sz+off+0) cur.toList++x.cells.toList++List.drop (i*sz+off+0+x.cells.toList.length) cur.toList).toArray):=by
        simp only[Instr.storeAt,Instr.sureAddr,storeVar,Sem.run_bind,Sem.run_pure,Result.andThen_ok,aU];rw[if_neg hne];exact bD
       refine⟨_,hrun,hs.write (.rows e sz n c') hl (by simp[World.setRow]) (fun k hk dJ=>?_) ?_,?_⟩
       .exact setRow_other w b k _ (fun e=>dJ (by rw[hm,e];rfl))
       .rw[hm];simp only[Nat.add_zero];have hxl:x.cells.toList.length=cs.length:=eZ.1;refine⟨ZjB xs (i*sz+off) x.cells.toList,⟨?_,.inr ⟨b,cp,_,rfl,bO,setRow_heap w b cur _ e (0,0) dr,ej,c9,?_,?_⟩⟩,fun i' j co hj=>?_,fun y hy=>?_⟩
        .simp only[ZjB,List.length_append,List.length_take,List.length_drop];omega
        .simp only[List.size_toArray,List.length_append,List.length_take,List.length_drop,Array.length_toList];omega
        .simp only[ZjB,<-dH];rw[List.take_append,List.take_append,List.take_take,List.drop_take];simp only[List.length_take,Array.length_toList,List.length_append];rw[Nat.min_eq_right (by omega),List.take_of_length_le (l:=x.cells.toList) (by omega)];rw[Nat.min_eq_left (by omega:i*sz+off<=cur.size),List.take_take,Nat.min_eq_left (by omega:i*sz+off<=n*sz)]
        .have eq:=eE i' j co hj;have ir:(i'+1)*sz<=n*sz:=Nat.mul_le_mul_right _ (by omega);rw[Nat.add_mul,Nat.one_mul]at ir;have cQ:Zgs S w (w.setRow b (List.take (i*sz+off) cur.toList++x.cells.toList++List.drop (i*sz+off+x.cells.toList.length) cur.toList).toArray):=fun k hk=>setRow_other w b k _ (fun e=>iq (e ▸ hk));rw[ZpQ _ _ _ (by omega)];by_cases hin:i'=i/\off<=j/\j<off+cs.length
         .rw[if_pos hin]at eq;obtain⟨rfl,hj1,hj2⟩:=hin;rw[if_pos ⟨by omega,by omega⟩,eq,show i'*sz+j-(i'*sz+off)=j-off by omega];have cd:cs[j-off]?=some (cs.getD (j-off) .junk):=by simp[List.getD_eq_getElem?_getD,show j-off<cs.length by omega]
          obtain⟨y,h4,h5⟩:=eZ.2.1 _ _ cd;exact⟨y,h4,(h5.anyM ZcK (List.all_eq_true.1 dz _ (List.mem_of_getElem? cd))).keep cQ fun _ h=>h⟩
         .rw[if_neg hin]at eq;have bI:¬(i*sz+off<=i'*sz+j/\i'*sz+j<i*sz+off+x.cells.toList.length):=by
           rcases Nat.lt_trichotomy i' i with hlt|rfl|hlt
           .have:(i'+1)*sz<=i*sz:=Nat.mul_le_mul_right _ hlt;rw[Nat.add_mul,Nat.one_mul]at this;omega
           .omega
           .have:(i+1)*sz<=i'*sz:=Nat.mul_le_mul_right _ hlt;rw[Nat.add_mul,Nat.one_mul]at this;omega
          rw[if_neg bI,eq];obtain⟨y,h4,h5⟩:=hc i' j co hj;exact⟨y,h4,h5.keep cQ fun _ h=>h⟩
        .simp only[ZjB,List.mem_append]at hy;rcases hy with (hy|hy)|hy
         .exact cC y (List.mem_of_mem_take hy)
         .exact eZ.2.2 y hy
         .exact cC y (List.mem_of_mem_drop hy)
       .refine hg.step ⟨rfl,rfl,rfl,by simp[World.setRow],fun k hk=>setRow_other w b k _ (fun e=>(hs.own id _ hl b (by rw[hm];rfl)).2.1 (e ▸ hk)),by simp[World.setRow]⟩ (fun _ h=>h) (fun _ h=>.inl h)
     .cases h
    .rename_i e sz' len c hl;split at h
     .rename_i cx bo bk hb3;obtain rfl:=ZaH bo;obtain rfl:=ZaH bk;obtain rfl:=ZaH hb3;simp only[Option.some.injEq,Prod.mk.injEq]at h;obtain⟨rfl,rfl⟩:=h;have hi:i<len:=ho _ (by simp);cases hp with
      |eptr hm=>
       rename_i b n cp;have hB:=hs.heap id _ hl;rw[hm]at hB;obtain⟨xs,⟨hlen,cA⟩,hc,cC⟩:=hB;rcases cA with⟨cA,_⟩|⟨g,cap,cur,cD,bO,dr,ej,c9,eF,dH⟩
       .cases cA
       simp only[Value.slice.injEq,Option.some.injEq,Addr.mk.injEq,and_true]at cD;obtain⟨rfl,rfl,rfl⟩:=cD;have gz:x.cells.toList.length=1:=eZ.1;have eh:x.cells.size=1:=gz;have bD:=run_storeCells_at P b (i * 1+0) e x.cells.toList 0 cur w dr (by rw[gz];simp;omega) eZ.2.2;have iq:=(hs.own id _ hl b (by rw[hm];rfl)).1;have hrun:(Instr.storeAt t (.pointer (some ⟨b,i * 1+0,none⟩)) x).run P w=.ok () (w.setRow b (List.take (i * 1+0+0) cur.toList++x.cells.toList++List.drop (i * 1+0+0+x.cells.toList.length) cur.toList).toArray):=by
        simp only[Instr.storeAt,Instr.sureAddr,storeVar,Sem.run_bind,Sem.run_pure,Result.andThen_ok,aU];rw[if_neg hne];exact bD
       have cQ:Zgs S w (w.setRow b (List.take (i * 1+0+0) cur.toList++x.cells.toList++List.drop (i * 1+0+0+x.cells.toList.length) cur.toList).toArray):=fun k hk=>setRow_other w b k _ (fun e=>iq (e ▸ hk));have dL:Zgs m.L w (w.setRow b (List.take (i * 1+0+0) cur.toList++x.cells.toList++List.drop (i * 1+0+0+x.cells.toList.length) cur.toList).toArray):=fun k hk=>setRow_other w b k _ (fun e=>(hs.own id _ hl b (by rw[hm];rfl)).2.1 (hs.len.2 _ (e ▸ hk)));refine⟨_,hrun,hs.write (.hole e n (fun i=>c i 0) i cx) hl (by simp[World.setRow]) (fun k hk dJ=>?_) ?_,?_⟩
       .exact setRow_other w b k _ (fun e=>dJ (by rw[hm,e];rfl))
       .rw[hm];refine⟨ZjB xs i x.cells.toList,⟨?_,.inr ⟨b,cp,_,rfl,bO,setRow_heap w b cur _ e (0,0) dr,ej,c9,?_,?_⟩⟩,fun i' co=>?_,fun y hy=>?_⟩
        .simp only[ZjB,List.length_append,List.length_take,List.length_drop];omega
        .simp only[List.size_toArray,List.length_append,List.length_take,List.length_drop,Array.length_toList,eh];omega
        .simp only[ZjB,<-dH,Nat.mul_one,Nat.add_zero];rw[List.take_append,List.take_append,List.take_take,List.drop_take];simp only[List.length_take,Array.length_toList,List.length_append];rw[Nat.min_eq_right (by omega),List.take_of_length_le (l:=x.cells.toList) (by omega)];rw[Nat.min_eq_left (by omega:i<=cur.size),List.take_take,Nat.min_eq_left (by omega:i<=n)]
        .rw[ZpQ _ _ _ (by omega)];by_cases hin:i'=i
         .subst hin;rw[if_pos ⟨by omega,by omega⟩,Nat.sub_self];obtain⟨y,h4,h5⟩:=eZ.2.1 0 cx rfl;exact⟨y,h4,fun e=>absurd rfl e,fun _=>h5.keepL cQ (fun _ h=>h) dL⟩
         .rw[if_neg (by omega)];obtain⟨y,h4,h5⟩:=hc i' 0 co (by omega);rw[Nat.mul_one,Nat.add_zero]at h4;exact⟨y,h4,fun _=>h5.keep cQ fun _ h=>h,fun e=>absurd e hin⟩
        .simp only[ZjB,List.mem_append]at hy;rcases hy with (hy|hy)|hy
         .exact cC y (List.mem_of_mem_take hy)
         .exact eZ.2.2 y hy
         .exact cC y (List.mem_of_mem_drop hy)
       .refine hg.step ⟨rfl,rfl,rfl,by simp[World.setRow],fun k hk=>setRow_other w b k _ (fun e=>(hs.own id _ hl b (by rw[hm];rfl)).2.1 (e ▸ hk)),by simp[World.setRow]⟩ (fun _ h=>h) (fun _ h=>.inl h)
     .cases h
    .cases h
   .cases h
  .cases h
 .cases h
end Go.Proofs.YtnigiacmmedkhaaGreat
