import Derived.Test.YtnigiacmmedkhaaGreatGAmC
namespace Go.Proofs.YtnigiacmmedkhaaGreat
open Go.RowKit
set_option linter.unusedSimpArgs false
set_option linter.unusedVariables false
theorem Zes.size{P:Program}{T:Tab}(hT:Zes P T){t:TypeId}{ti:TI}(h:ZeV T t=some ti)(w:World):(sizeOf t).run P w=.ok ti.size w:=by
 have h1:=(hT t ti h).1;cases hq:P.info? t with
 |none=>simp[hq]at h1
 |some i=>
  simp only[hq,Option.map_some,Option.some.injEq,Prod.mk.injEq]at h1;simp[sizeOf,typeInfo,hq,h1.1]
theorem Zes.info{P:Program}{T:Tab}(hT:Zes P T){t:TypeId}{ti:TI}(h:ZeV T t=some ti):∃i,P.info? t=some i/\i.size=ti.size/\i.bytes=ti.bytes/\i.zero=ti.zero:=by
 have h1:=(hT t ti h).1;have h2:=(hT t ti h).2.1;cases hq:P.info? t with
 |none=>simp[hq]at h1
 |some i=>
  simp only[hq,Option.map_some,Option.some.injEq,Prod.mk.injEq]at h1;simp only[hq,Option.bind_some]at h2;exact⟨i,rfl,h1.1,h1.2,h2⟩
theorem Zes.isAgg{P:Program}{T:Tab}(hT:Zes P T){t:TypeId}{ti:TI}(h:ZeV T t=some ti)(ho:ti.k≠.other)(w:World):(isAgg t).run P w=.ok ti.isAgg w:=by
 obtain⟨d,hu,hf⟩:=hT.under h;unfold Go.isAgg;rw[Sem.run_bind,run_underlying hu w];unfold TI.isAgg;cases hk:ti.k<;>rw[hk]at hf ho<;>cases d<;>simp_all [TK.fits]
def TK.known:TK->Bool | .other=>false|_=>true
theorem TK.known_ne{k:TK}(h:k.known=true):k≠.other:=by rintro rfl;cases h
def Lies(S:Nat->Prop)(w:World)(m:Mp)(b o:Nat)(l:List C):Prop:=∀(j:Nat)(c:C),l[j]?=some c->∃x,w.cell? ⟨b,o+j,none⟩=some x/\x.oneCell'=true/\RepC S w m c x
theorem Lies.list{S:Nat->Prop}{w:World}{m:Mp}{b:Nat}:∀{l:List C}{o:Nat},Lies S w m b o l->∃xs:List Value,RepL S w m l xs/\w.rangeAt b o xs
 | [],o,_=>⟨[],⟨rfl,fun j c h=>by simp at h,fun x h=>by simp at h⟩,fun j v h=>by simp at h⟩
 |c :: l,o,h=>by
  obtain⟨x,h1,h2,h3⟩:=h 0 c rfl
  have ht:Lies S w m b (o+1) l:=fun j c hj=>by
   obtain⟨y,h4,h5⟩:=h (j+1) c (by simpa using hj)
   exact⟨y,by rw[<-h4];congr 2;omega,h5⟩
  obtain⟨xs,⟨h4,h5,h6⟩,h7⟩:=ht.list
  refine⟨x :: xs,⟨by simp[h4],fun j c' hj=>?_,fun y hy=>?_⟩,fun j v hv=>?_⟩
  .cases j with
   |zero=>simp only[List.getElem?_cons_zero,Option.some.injEq]at hj;subst hj;exact⟨x,rfl,h3⟩
   |succ j=>simpa using h5 j c' (by simpa using hj)
  .rcases List.mem_cons.1 hy with rfl|hy
   .exact h2
   .exact h6 y hy
  .cases j with
   |zero=>simp only[List.getElem?_cons_zero,Option.some.injEq]at hv;subst hv;exact h1
   |succ j=>
    have:=h7 j v (by simpa using hv)
    rw[<-this];congr 2;omega
theorem Zrr{P:Program}{T:Tab}(hT:Zes P T){t:TypeId}{ti:TI}(ht:ZeV T t=some ti)(hk:ti.k.known=true){S:Nat->Prop}{w:World}{m:Mp}{b o:Nat}{l:List C}{v:V}
  (hl:Lies S w m b o l) (hn:l.length=ti.size) (hv:mkV ti.isAgg l=some v):∃x,(Instr.loadAt t (.pointer (some ⟨b,o,none⟩))).run P w=.ok x w/\RepV S w m v x:=by
 have cz:=hT.isAgg ht (TK.known_ne hk) w;obtain⟨xs,hx,hr⟩:=hl.list;cases ha:ti.isAgg with
 |true=>
  rw[ha]at hv cz;simp only[mkV,Option.some.injEq]at hv;subst hv;obtain⟨i,hi,hs,_,_⟩:=hT.info ht;obtain⟨d,hu,hf⟩:=hT.under ht;refine⟨.agg xs.toArray,run_loadAt_mid w b o t xs d hr hu ?_ (by simp[hi,hs,<-hn,hx.1]),xs.toArray,rfl,by simpa using hx⟩;unfold TI.isAgg at ha;cases hk2:ti.k<;>rw[hk2]at hf ha<;>cases d<;>simp_all [TK.fits,TypeDesc.isRow]
 |false=>
  rw[ha]at hv cz
  match l,hv with
  | [c],hv=>
   simp only[mkV,Option.some.injEq]at hv;subst hv;obtain⟨x,h1,h2,h3⟩:=hl 0 c rfl;refine⟨x,?_,h3⟩;simp only[Nat.add_zero]at h1;simp[Instr.loadAt,Instr.sureAddr,loadVar,Sem.run_bind,cz,run_load,load,Sem.run,h1]
def Zqy(T:Tab)(st:St)(t:TypeId)(p:V):Option (V×List Prop):=match ZeV T t with
 |none=>none
 |some ti=>match ti.k.known with
  |false=>none
  |true=>match p with
   | .one (.ptr id off)=>match hget st.heap id with
    |some (.box l)=>match cut l off ti.size with
     |some l'=>match mkV ti.isAgg l' with
      |some v=>some (v,[])
      |none=>none
     |none=>none
    |_=>none
   | .one (.rp false n cell)=>match Nat.ble ti.size n with
    |true=>match mkV ti.isAgg (Zer ti.size cell)with
     |some v=>some (v,[])
     |none=>none
    |false=>none
   | .one (.lrp n cell)=>match Nat.ble ti.size n with
    |true=>match mkV ti.isAgg (Zer ti.size cell)with
     |some v=>some (v,[])
     |none=>none
    |false=>none
   | .one (.eptr id sz i off)=>match hget st.heap id with
    |some (.rows e sz' len c)=>match Nat.beq sz sz',Nat.ble (off+ti.size) sz with
     |true,true=>match mkV ti.isAgg (Zer ti.size fun j=>c i (off+j))with
      |some v=>some (v,[i<len])
      |none=>none
     |_,_=>none
    |_=>none
   |_=>none
theorem ZGj{l l':List C}{o n:Nat}(h:cut l o n=some l'):o+n<=l.length/\l'=(l.drop o).take n:=by
 unfold cut at h;split at h
 .rename_i hb;exact⟨Nat.le_of_ble_eq_true hb,(Option.some.inj h).symm⟩
 .cases h
theorem Zhv{n:Nat}{f:Nat->C}{j:Nat}{c:C}(h:(Zer n f)[j]?=some c):j<n/\c=f j:=by
 unfold Zer at h;simp only[List.getElem?_map,Option.map_eq_some_iff]at h;obtain⟨k,h1,rfl⟩:=h;obtain⟨h2,h3⟩:=List.getElem?_eq_some_iff.1 h1;simp at h2 h3;subst h3;exact⟨h2,rfl⟩
theorem Zhu(n:Nat)(f:Nat->C):(Zer n f).length=n:=by simp[Zer]
theorem ZNi{S:Nat->Prop}{w:World}{m:Mp}{b:Nat}{l:List C}(h:RepB S w m (.pointer (some ⟨b,0,none⟩)) (.box l)):Lies S w m b 0 l:=by
 obtain⟨b',a8,t,h1,h2,h3⟩:=h;simp only[Value.pointer.injEq,Option.some.injEq,Addr.mk.injEq,and_true]at h1;subst h1;intro j c hc;obtain⟨x,h4,h5⟩:=h3.2.1 j c hc;refine⟨x,?_,h3.2.2 x (List.mem_of_getElem? h4),h5⟩;rw[Zkh h2,Nat.zero_add,<-Array.getElem?_toList];exact h4
theorem Lies.part{S:Nat->Prop}{w:World}{m:Mp}{b o:Nat}{l:List C}(h:Lies S w m b o l)(p n:Nat):Lies S w m b (o+p) ((l.drop p).take n):=by
 intro j c hj;rw[List.getElem?_take]at hj;split at hj
 .rw[List.getElem?_drop]at hj;obtain⟨x,h1,h2⟩:=h _ c hj;exact⟨x,by rw[<-h1];congr 2;omega,h2⟩
 .cases hj
theorem Zwf{P:Program}{T:Tab}(hT:Zes P T){N:Nat}{F:Keep}{S:Nat->Prop}{m:Mp}{st:St}{a:Act}{w:World}(hs:Sim N F S m st a w){t:TypeId}{p v:V}{px:Value}{obl:List Prop}
  (hp:RepV S w m p px) (h:Zqy T st t p=some (v,obl)) (ho:∀q∈obl,q):∃x,(Instr.loadAt t px).run P w=.ok x w/\RepV S w m v x:=by
 unfold Zqy at h;split at h
 .cases h
 rename_i ti a7;split at h
 .cases h
 rename_i hk;split at h
 .rename_i id off;split at h
  .rename_i l hl;split at h
   .rename_i l' ic;split at h
    .rename_i v' hv;simp only[Option.some.injEq,Prod.mk.injEq]at h;obtain⟨rfl,rfl⟩:=h;obtain⟨hle,rfl⟩:=ZGj ic;cases hp with
     |ptr hm=>
      rename_i b;have hB:=hs.heap id _ hl;rw[hm]at hB;have h2:=(ZNi hB).part off ti.size;rw[Nat.zero_add]at h2;exact Zrr hT a7 hk h2 (by simp;omega) hv
    .cases h
   .cases h
  .cases h
 .rename_i n cell;split at h
  .rename_i hn;split at h
   .rename_i v' hv;simp only[Option.some.injEq,Prod.mk.injEq]at h;obtain⟨rfl,rfl⟩:=h;cases hp with
    |rp b off vals ha hc h1 hr=>
     refine Zrr hT a7 hk (fun j c hj=>?_) (Zhu _ _) hv;obtain⟨hj1,rfl⟩:=Zhv hj;have:j<n:=Nat.lt_of_lt_of_le hj1 (Nat.le_of_ble_eq_true hn);exact⟨_,hc j this,h1 j this,(hr j this).keepM⟩
   .cases h
  .cases h
 .rename_i n cell;split at h
  .rename_i hn;split at h
   .rename_i v' hv;simp only[Option.some.injEq,Prod.mk.injEq]at h;obtain⟨rfl,rfl⟩:=h;cases hp with
    |lrp b off vals ha hc h1 hr=>
     refine Zrr hT a7 hk (fun j c hj=>?_) (Zhu _ _) hv;obtain⟨hj1,rfl⟩:=Zhv hj;have:j<n:=Nat.lt_of_lt_of_le hj1 (Nat.le_of_ble_eq_true hn);exact⟨_,hc j this,h1 j this,(hr j this).keepM⟩
   .cases h
  .cases h
 .rename_i id sz i off;split at h
  .rename_i e sz' len c hl;split at h
   .rename_i hz hb;split at h
    .rename_i v' hv;simp only[Option.some.injEq,Prod.mk.injEq]at h;obtain⟨rfl,rfl⟩:=h;obtain rfl:=ZaH hz;have hi:i<len:=ho _ (by simp);cases hp with
     |eptr hm=>
      rename_i b n cp;have hB:=hs.heap id _ hl;rw[hm]at hB;obtain⟨rfl,_,_,_,_,hc⟩:=ZpU hB;refine Zrr hT a7 hk (fun j c' hj=>?_) (Zhu _ _) hv;obtain⟨hj1,rfl⟩:=Zhv hj;have hj2:off+j<sz:=by have:=Nat.le_of_ble_eq_true hb;omega
      obtain⟨x,h1,h2,h3⟩:=hc i (off+j) hi hj2;exact⟨x,by rw[<-h1];congr 2;omega,h2,h3.keepM⟩
    .cases h
   .cases h
  .cases h
 .cases h
def Zug(T:Tab)(st:St)(t:TypeId)(p:V)(hit:Bool):Option (V×List Prop):=match ZeV T t,p with
 |some ti,.one (.eptr id sz i off)=>match ti.k.known,ti.isAgg,Nat.beq ti.size 1,Nat.beq sz 1,Nat.beq off 0,hget st.heap id with
  |true,false,true,true,true,some (.hole e len c k x)=>match hit with
   |true=>some (.one x,[i=k,i<len])
   |false=>some (.one (c i),[i≠k,i<len])
  |_,_,_,_,_,_=>none
 |_,_=>none
def Zky(T:Tab)(st:St)(t:TypeId)(p:V)(an:Option Ans):Option (V×List Prop):=match an with
 |some (.b hit)=>Zug T st t p hit
 |_=>Zqy T st t p
theorem ZHv{S:Nat->Prop}{w:World}{e:TypeId}{len:Nat}{c:Nat->C}{k:Nat}{x:C}{m:Mp}{n cap b:Nat}(h:RepB S w m (.slice (some ⟨b,0,none⟩) n cap) (.hole e len c k x)) :
  ∀i,i<len->∃y,w.cell? ⟨b,i,none⟩=some y/\y.oneCell'=true/\(i≠k->RepC S w ZcK (c i) y)/\(i=k->RepC S w m x y):=by
 obtain⟨xs,⟨hl,h1⟩,h2,h3⟩:=h;rcases h1 with⟨h1,_⟩|⟨g,fS,cur,h1,hb,hg,hn,hm,hs,ht⟩
 .cases h1
 .simp only[Value.slice.injEq,Option.some.injEq,Addr.mk.injEq,and_true]at h1;obtain⟨rfl,rfl,rfl⟩:=h1;intro i hi;obtain⟨y,h4,h5⟩:=h2 i hi;refine⟨y,?_,h3 y (List.mem_of_getElem? h4),h5⟩;rw[Zkh hg];rw[<-ht,List.getElem?_take,if_pos (by omega)]at h4;rw[<-Array.getElem?_toList];exact h4
theorem ZEi{P:Program}{T:Tab}(hT:Zes P T){N:Nat}{F:Keep}{S:Nat->Prop}{m:Mp}{st:St}{a:Act}{w:World}(hs:Sim N F S m st a w){t:TypeId}{p v:V}{px:Value}{an:Option Ans}{obl:List Prop}
  (hp:RepV S w m p px) (h:Zky T st t p an=some (v,obl)) (ho:∀q∈obl,q):∃x,(Instr.loadAt t px).run P w=.ok x w/\RepV S w m v x:=by
 unfold Zky at h;split at h;rotate_left
 .exact Zwf hT hs hp h ho
 rename_i hit;unfold Zug at h;split at h;rotate_left
 .cases h
 rename_i ti id sz i off a7;split at h;rotate_left
 .cases h
 rename_i e len c k x hk ha h1 aU ie hl;obtain rfl:=ZaH aU;obtain rfl:=ZaH ie;have h1:=ZaH h1;cases hp with
 |eptr hm=>
  rename_i b n cp;have hB:=hs.heap id _ hl;rw[hm]at hB;have hc:=ZHv hB;have go:∀c':C,i<len->(∀y,(i≠k->RepC S w ZcK (c i) y)->(i=k->RepC S w m x y)->RepC S w m c' y)->∃y,(Instr.loadAt t (.pointer (some ⟨b,i * 1+0,none⟩))).run P w=.ok y w/\RepV S w m (.one c') y:=fun c' hi hr=>by
   obtain⟨y,q1,q2,q3,q4⟩:=hc i hi;refine Zrr hT a7 hk (l:=[c']) (fun j c2 hj=>?_) (by simp[h1]) (by rw[ha];rfl);cases j with
   |zero=>
    cases hj;exact⟨y,by rw[<-q1];congr 2;omega,q2,hr y q3 q4⟩
   |succ j=>simp at hj
  cases hit with
  |true=>
   simp only[Option.some.injEq,Prod.mk.injEq]at h;obtain⟨rfl,rfl⟩:=h;exact go x (ho _ (by simp)) fun y _ q=>q (ho _ (by simp))
  |false=>
   simp only[Option.some.injEq,Prod.mk.injEq]at h;obtain⟨rfl,rfl⟩:=h;exact go (c i) (ho _ (by simp)) fun y q _=>(q (ho _ (by simp))).keepM
theorem ZBL{T:Tab}{st st2:St}(hh:st2.heap=st.heap)(t:TypeId)(p:V)(an:Option Ans):Zky T st2 t p an=Zky T st t p an:=by
 unfold Zky Zug Zqy;rw[hh]
end Go.Proofs.YtnigiacmmedkhaaGreat
