import Derived.Test.YtnigiacmmedkhaaGreatGAmK
namespace Go.Proofs.YtnigiacmmedkhaaGreat
open Go.RowKit
set_option linter.unusedSimpArgs false
set_option linter.unusedVariables false
theorem Zif{P:Program}{o:Oper}{ρ:Operand->Value}{s:Sem Value}{w w':World}{x:Value}(h:execOp ρ o=(do pure (.value (<-s))))(hs:s.run P w=.ok x w'):(execOp ρ o).run P w=.ok (.value x) w':=by
 rw[h];simp[Sem.run_bind,hs]
theorem ZII{P:Program}{e:TypeId}{z:Value}{w:World}(hz:(zeroValue e).run P w=.ok z w)(old:Value):(Instr.alloc e true old).run P w=.ok (.pointer (some ⟨w.heap.size,0,none⟩)) (w.alloc (.cells z.cells e)):=by
 simp[Instr.alloc,Sem.run_bind,hz,newVar,ZlN]
theorem ZOA{P:Program}{e:TypeId}{x:Value}{w:World}:(Instr.box e x).run P w=.ok (.pointer (some ⟨w.heap.size,0,none⟩)) (w.alloc (.cells x.cells e)):=by
 simp[Instr.box,newVar,ZlN]
set_option maxHeartbeats 1600000 in
theorem ZKr{P:Program}{T:Tab}(hT:Zes P T){N:Nat}{S0:Nat->Prop}{w0:ZeC}{st:St}{a:Act}{w:World}{S:Nat->Prop}{m:Mp}(hs:Sim N w0.F S m st a w)(hg:Goes w0.F.no S0 S w0.w w)
  {o:Oper} {an:Option Ans} {v:V} {obl:List Prop} {st':St} (h:evOp P N T o st an=some (v,obl,st')) (ho:∀q∈obl,q) {K:Act->World->Prop} {Q:Exit->Act->World->Prop}
  (hk:∀x w' S' m',Sim N w0.F S' m' st' a w'->Goes w0.F.no S0 S' w0.w w'->RepV S' w' m' v x->K (a.put o.dst x) w'):o.wp P a w K Q:=by
 obtain⟨dst,op,type,dS,after,guard⟩:=o;unfold evOp at h;simp only at h;have hu:(∃x,(execOp a.eval ⟨dst,op,type,dS,after,guard⟩).run P w=.ok (.value x) w/\RepV S w m v x)->st'=st->Oper.wp P ⟨dst,op,type,dS,after,guard⟩ a w K Q:=by
  rintro ⟨x,h1,h2⟩ rfl;exact ZeD h1 (hk x w S m hs hg h2)
 cases op<;>(try simp only at h)<;>(try (cases h;done))
 case move x=>
  split at h
  .obtain⟨m',h1,h2⟩:=ZBC hs (hs.evo x) h ho;exact ZeD (x:=a.eval x) rfl (hk _ _ _ _ h1 hg h2)
  .cases h;exact hu ⟨_,rfl,hs.evo x⟩ rfl
 case assign x=>
  split at h
  .obtain⟨m',h1,h2⟩:=ZBC hs (hs.evo x) h ho;exact ZeD (x:=a.eval x) rfl (hk _ _ _ _ h1 hg h2)
  .cases h;exact hu ⟨_,rfl,hs.evo x⟩ rfl
 case pick c x y=>
  have hc:=hs.evo c;split at h
  .rename_i hq;rw[hq]at hc;cases h;have hc':a.eval c=.bool true:=by generalize a.eval c=q at hc;cases hc;rfl
   exact hu ⟨a.eval x,by simp[execOp,asBool,hc'],hs.evo x⟩ rfl
  .rename_i hq;rw[hq]at hc;cases h;have hc':a.eval c=.bool false:=by generalize a.eval c=q at hc;cases hc;rfl
   exact hu ⟨a.eval y,by simp[execOp,asBool,hc'],hs.evo y⟩ rfl
  .cases h
 case alloc e=>
  split at h
  .rename_i te bF;split at h
   .rename_i l hl;obtain⟨z,h1,h2⟩:=Zpd (S:=S) (w:=w) (m:=m) hT bF hl;obtain⟨m',h3,h4⟩:=hs.newBox (dst.getD 0) e h2 h;exact ZeD (Zif rfl (ZII h1 _)) (hk _ _ _ _ h3 (hg.alloc hs.base_le _) h4)
   .cases h
  .cases h
 case box e x=>
  split at h
  .rename_i l hl;have h2:=V.cells_rep (hs.evo x) hl;obtain⟨m',h3,h4⟩:=hs.newBox (dst.getD 0) e h2 h;exact ZeD (Zif rfl ZOA) (hk _ _ _ _ h3 (hg.alloc hs.base_le _) h4)
  .cases h
 case build t ps=>
  split at h
  .rename_i v' hv;cases h;obtain⟨x,h1,h2⟩:=ZEw hT hs hv;exact hu ⟨x,Zif rfl h1,h2⟩ rfl
  .cases h
 case buildSlice t n ps=>
  obtain⟨y,w',S',m',h1,h2,h3,h4⟩:=ZuX hT hs hg h ho;exact ZeD (Zif rfl h1) (hk _ _ _ _ h2 h3 h4)
 case load t p=>
  split at h
  .rename_i v' obl' hv;cases h;obtain⟨x,h1,h2⟩:=ZEi hT hs (hs.evo p) hv ho;exact hu ⟨x,Zif rfl h1,h2⟩ rfl
  .cases h
 case store t p x=>
  split at h
  .rename_i obl' st2 hv;cases h;obtain⟨w',h1,h2,h3⟩:=ZDZ hT hs hg (hs.evo p) (hs.evo x) hv ho;refine ZrY (w':=w') ?_ (hk _ _ _ _ h2 h3 RepC.junk);simp[execOp,Sem.run_bind,h1]
  .cases h
 case nilCheck x=>
  split at h
  .rename_i v' hv;cases h;obtain⟨y,h1,h2⟩:=ZKs (P:=P) (o:=⟨dst,.nilCheck x,type,dS,after,guard⟩) rfl (hs.evo x) hv;exact hu ⟨y,h1,h2⟩ rfl
  .split at h
   .rename_i obl' hv;cases h;exact hu ⟨_,ZHE (P:=P) (o:=⟨dst,.nilCheck x,type,dS,after,guard⟩) rfl (hs.evo x) hv ho,hs.evo x⟩ rfl
   .cases h
 case makeInterface t x=>
  have hx:=hs.evo x;split at h
  .rename_i c hc;cases h;rw[hc]at hx;exact hu ⟨_,Zif rfl (run_makeInterface w t _ (ho _ (by simp))),RepC.ifc hx⟩ rfl
  .rename_i l hl;cases h;rw[hl]at hx;obtain⟨xs,e1,e2,e3,e4⟩:=hx;refine hu ⟨_,Zif rfl (run_makeInterface w t _ (ho _ (by simp))),?_⟩ rfl;rw[e1];have aU:l.length=xs.size:=by simpa using e2.symm
   rw[aU];refine RepC.ifa xs e4 fun i hi=>?_;obtain⟨y,f1,f2⟩:=e3 i (l.getD i .junk) (by simp[List.getD_eq_getElem?_getD,show i<l.length by omega]);have:xs.getD i undef=y:=by
    rw[Array.getElem?_toList]at f1;simp[Array.getD_eq_getD_getElem?,f1]
   rw[this];exact f2
  .cases h
 case binOp op t x y yt=>
  have hx:=hs.evo x;have hy:=hs.evo y;split at h
  .rename_i p q hp hq;rw[hp]at hx;rw[hq]at hy;have ex:a.eval x=p:=by generalize a.eval x=z at hx;cases hx;rfl
   have ey:a.eval y=q:=by generalize a.eval y=z at hy;cases hy;rfl
   split at h
   .rename_i r obl' hr;cases h;refine hu ⟨r,Zif rfl ?_,RepC.lit⟩ rfl;rw[ex,ey];exact ZKy hT hr ho x y w
   .split at h
    .rename_i r obl' hr;cases h;obtain⟨z,h1,h2⟩:=Zue (xo:=x) (yo:=y) hT hx hy hr ho;exact hu ⟨z,Zif rfl h1,h2⟩ rfl
    .split at h
     .rename_i r _;cases h;refine hu ⟨r,Zif rfl ?_,RepC.lit⟩ rfl;rw[ex,ey];exact ho _ List.mem_cons_self w
     .cases h
  .split at h
   .rename_i r obl' hr;cases h;obtain⟨z,h1,h2⟩:=Zue (xo:=x) (yo:=y) hT hx hy hr ho;exact hu ⟨z,Zif rfl h1,h2⟩ rfl
   .split at h
    .rename_i p q r _ hp hq;cases h;refine hu ⟨r,Zif rfl ?_,RepC.lit⟩ rfl;rw[V.val_rep hx hp,V.val_rep hy hq];exact ho _ List.mem_cons_self w
    .cases h
 case unOp op t x=>
  split at h
  .rename_i v' hv;cases h;obtain⟨y,h1,h2⟩:=ZMY (P:=P) (hs.evo x) hv;exact hu ⟨y,Zif rfl h1,h2⟩ rfl
  .cases h
 case convert s d x=>
  split at h
  .rename_i v' hv;cases h;obtain⟨y,h1,h2⟩:=ZHH hT (hs.evo x) hv;exact hu ⟨y,Zif rfl h1,h2⟩ rfl
  .cases h
 case makeSlice t l c=>
  split at h
  .obtain⟨y,w',S',m',h1,h2,h3,h4⟩:=ZEg hT hs hg (hs.evo l) (hs.evo c) h ho;exact ZeD (Zif rfl h1) (hk _ _ _ _ h2 h3 h4)
  .cases h
  .obtain⟨y,w',m',h1,h2,h3,h4⟩:=Zwe hT hs hg (hs.evo l) (hs.evo c) h ho;exact ZeD (Zif rfl h1) (hk _ _ _ _ h2 h3 h4)
 case slice t x lo hi mx=>
  split at h
  .rename_i v' obl' hv;cases h;obtain⟨y,h1,h2⟩:=ZEb hT (hs.evo x) (ZwU hs lo) (ZwU hs hi) (ZwU hs mx) hv ho;exact hu ⟨y,Zif rfl h1,h2⟩ rfl
  .cases h
 case fieldAddr t x f=>
  split at h
  .rename_i v' hv;cases h;obtain⟨y,h1,h2⟩:=Zul hT (hs.evo x) hv;exact hu ⟨y,Zif rfl h1,h2⟩ rfl
  .cases h
 case field t x f=>
  split at h
  .rename_i v' hv;cases h;obtain⟨y,h1,h2⟩:=ZEr hT (hs.evo x) hv;exact hu ⟨y,Zif rfl h1,h2⟩ rfl
  .cases h
 case indexAddr t x i=>
  split at h
  .rename_i v' obl' hv;cases h;obtain⟨y,h1,h2⟩:=Zui hT (hs.evo x) (hs.evo i) hv ho;exact hu ⟨y,Zif rfl h1,h2⟩ rfl
  .cases h
 case index t x i=>
  split at h
  .rename_i v' obl' hv;cases h;obtain⟨y,h1,h2⟩:=ZEk hT (hs.evo x) (hs.evo i) hv ho;exact hu ⟨y,Zif rfl h1,h2⟩ rfl
  .cases h
 case extract x i=>
  split at h
  .rename_i v' hv;cases h;obtain⟨y,h1,h2⟩:=ZxJ (P:=P) (hs.evo x) hv;exact hu ⟨y,Zif rfl h1,h2⟩ rfl
  .cases h
 case makeMap t r=>
  obtain⟨y,w',m',h1,h2,h3,h4⟩:=ZxF (pr:=r.map a.eval) hT hs hg (by cases r with|none=>trivial|some r=>exact hs.evo r) h;have ho0:obl=[]\/True:=.inr trivial;exact ZeD (Zif rfl h1) (hk _ _ _ _ h2 h3 h4)
 case lookup t x k ok=>
  split at h
  .rename_i v' obl' hv;cases h;obtain⟨y,h1,h2⟩:=ZBJ hT hs (hs.evo x) (hs.evo k) hv ho;exact hu ⟨y,Zif rfl h1,h2⟩ rfl
  .cases h
 case mapUpdate t x k v0=>
  split at h
  .rename_i obl' st2 hv;cases h;obtain⟨w',h1,h2,h3⟩:=ZEe hT hs hg (hs.evo x) (hs.evo k) (hs.evo v0) hv ho;refine ZrY (w':=w') ?_ (hk _ _ _ _ h2 h3 RepC.junk);simp[execOp,Sem.run_bind,h1]
  .cases h
 case mapEntry t x k=>
  obtain⟨y,w',h1,h2,h3,h4⟩:=ZuW hT hs hg (hs.evo x) (hs.evo k) h ho;exact ZeD (Zif rfl h1) (hk _ _ _ _ h2 h3 h4)
 case entryStore t x s v0=>
  split at h
  .rename_i obl' st2 hv;cases h;obtain⟨w',h1,h2,h3⟩:=ZsE (P:=P) (t:=t) hs hg (hs.evo x) (hs.evo s) (hs.evo v0) hv ho;refine ZrY (w':=w') ?_ (hk _ _ _ _ h2 h3 RepC.junk);simp[execOp,Sem.run_bind,h1]
  .cases h
 case typeAssert x xt t ok=>
  split at h
  .rename_i v' hv;cases h;obtain⟨y,h1,h2⟩:=ZBO (P:=P) (xt:=xt) hT (hs.evo x) hv;exact hu ⟨y,Zif rfl h1,h2⟩ rfl
  .cases h
 case makeFunc fn first cap=>
  split at h
  .rename_i xs ys eV jO;cases h;obtain⟨e1,h1⟩:=ZtS (Zxe hs first.toList) eV
   obtain⟨e2,h2⟩:=ZtS (Zxe hs cap.toList) jO;refine hu ⟨.func fn (first.map a.eval) (cap.map a.eval),by simp[execOp,Instr.makeFunc],?_⟩ rfl
   have:=RepC.clo (S:=S) (w:=w) (m:=m) (fn:=fn) (a:=fun i=>xs.getD i .junk) (b:=fun i=>ys.getD i .junk) (first.map a.eval) (cap.map a.eval) (fun i hi=>by
    have:=h1 i (by simpa using hi);simpa[Array.getD_eq_getD_getElem?,List.getD_eq_getElem?_getD]using this) (fun i hi=>by
    have:=h2 i (by simpa using hi);simpa[Array.getD_eq_getD_getElem?,List.getD_eq_getElem?_getD]using this)
   simp only[Array.size_map]at this;exact this
  .cases h
 case call c=>
  obtain⟨callee,args,a9⟩:=c;cases callee with
  |invoke r n=>cases h
  |value f=>
   simp only at h;split at h
   .rename_i r _;split at h
    .rename_i obl' hv;cases h;exact ZKx hs hg rfl hv ho fun x w' S' h1 h2 h3=>hk x w' S' m h1 h2 h3
    .cases h
   .cases h
  |builtin b=>
   cases b<;>(try simp only at h)<;>(try (cases h;done))
   case len=>
    split at h
    .rename_i x t hx ht;split at h
     .rename_i v' hv;cases h;obtain⟨y,h1,h2⟩:=ZKu (P:=P) (ty:=type) hT (hs.evo x) hv;refine hu ⟨y,?_,h2⟩ rfl;have e1:args = #[x]:=by apply Array.ext';simpa using hx
      have e2:a9 = #[t]:=by apply Array.ext';simpa using ht
      subst e1;subst e2;simp[execOp,resolve,invoke,builtin,Sem.run_bind,h1]
     .cases h
    .cases h
   case append=>
    split at h
    .rename_i s x t t' hx ht;split at h
     .rename_i hb;obtain rfl:=ZaH hb;have e1:args = #[s,x]:=by apply Array.ext';simpa using hx
      have e2:a9 = #[t,t]:=by apply Array.ext';simpa using ht
      subst e1;subst e2;split at h
      .obtain⟨y,w',S',m',h1,h2,h3,h4⟩:=ZHI (ty:=type) hT hs hg (hs.evo s) (hs.evo x) h ho;refine ZeD (x:=y) (w':=w') ?_ (hk _ _ _ _ h2 h3 h4);simp[execOp,resolve,invoke,builtin,Sem.run_bind,h1]
      .obtain⟨y,w',m',h1,h2,h3,h4⟩:=Zsx (ty:=type) hT hs hg (hs.evo s) (hs.evo x) h ho;refine ZeD (x:=y) (w':=w') ?_ (hk _ _ _ _ h2 h3 h4);simp[execOp,resolve,invoke,builtin,Sem.run_bind,h1]
     .cases h
    .cases h
   case clear=>
    split at h
    .rename_i x t hx ht;have e1:args = #[x]:=by apply Array.ext';simpa using hx
     have e2:a9 = #[t]:=by apply Array.ext';simpa using ht
     subst e1;subst e2;obtain⟨y,w',h1,h2,h3,h4⟩:=ZEt (ty:=type) hT hs hg (hs.evo x) h ho;refine ZeD (x:=y) (w':=w') ?_ (hk _ _ _ _ h2 h3 h4);simp[execOp,resolve,invoke,builtin,Sem.run_bind,h1]
    .cases h
   case delete=>
    split at h
    .rename_i x k t t2 hx ht;split at h
     .rename_i obl' st2 hv;cases h;have e1:args = #[x,k]:=by apply Array.ext';simpa using hx
      have e2:a9 = #[t,t2]:=by apply Array.ext';simpa using ht
      subst e1;subst e2;obtain⟨w',h1,h2,h3⟩:=ZBH (ty:=type) hT hs hg (hs.evo x) (hs.evo k) hv ho t2;refine ZeD (x:=.tuple #[]) (w':=w') ?_ (hk _ _ _ _ h2 h3 ⟨#[],rfl,rfl,fun j p hj=>by simp at hj⟩);simp[execOp,resolve,invoke,builtin,Sem.run_bind,h1]
     .cases h
    .cases h
   case min=>
    split at h
    .rename_i v' hv;cases h;have hm:=Zxe hs args.toList;unfold evMM at hv;split at hv
     .rename_i k x k' y hq;cases hv;obtain⟨p,aT,a4⟩:=hm 0 _ (by rw[hq];rfl);obtain⟨q,dN,cy⟩:=hm 1 _ (by rw[hq];rfl);have hlen:args.toList.length=2:=by have:=congrArg List.length hq;simpa using this
      match hargs:args.toList,hlen with
      | [u,u'],_=>
       rw[hargs]at aT dN;simp only[List.map_cons,List.map_nil,List.getElem?_cons_zero,List.getElem?_cons_succ,Option.some.injEq]at aT dN;subst aT;subst dN;have e1:args = #[u,u']:=by apply Array.ext';simpa using hargs
       subst e1;refine hu ⟨.int k (if y<x then y else x),?_,RepC.lit⟩ rfl;generalize gy:a.eval u=c1 at a4;generalize hc2:a.eval u'=c2 at cy;cases a4;cases cy;simp[execOp,resolve,invoke,builtin,Sem.run_bind,Builtin.min_,Builtin.min2,gy,hc2]
     .cases hv
    .cases h
   case max=>
    split at h
    .rename_i v' hv;cases h;have hm:=Zxe hs args.toList;unfold evMM at hv;split at hv
     .rename_i k x k' y hq;cases hv;obtain⟨p,aT,a4⟩:=hm 0 _ (by rw[hq];rfl);obtain⟨q,dN,cy⟩:=hm 1 _ (by rw[hq];rfl);have hlen:args.toList.length=2:=by have:=congrArg List.length hq;simpa using this
      match hargs:args.toList,hlen with
      | [u,u'],_=>
       rw[hargs]at aT dN;simp only[List.map_cons,List.map_nil,List.getElem?_cons_zero,List.getElem?_cons_succ,Option.some.injEq]at aT dN;subst aT;subst dN;have e1:args = #[u,u']:=by apply Array.ext';simpa using hargs
       subst e1;refine hu ⟨.int k (if y>x then y else x),?_,RepC.lit⟩ rfl;generalize gy:a.eval u=c1 at a4;generalize hc2:a.eval u'=c2 at cy;cases a4;cases cy;simp[execOp,resolve,invoke,builtin,Sem.run_bind,Builtin.max_,Builtin.max2,gy,hc2]
     .cases hv
    .cases h
end Go.Proofs.YtnigiacmmedkhaaGreat
