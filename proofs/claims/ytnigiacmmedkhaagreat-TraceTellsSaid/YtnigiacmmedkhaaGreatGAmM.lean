import Derived.Test.YtnigiacmmedkhaaGreatGAmV
namespace Go.Proofs.YtnigiacmmedkhaaGreat
open Go.RowKit
set_option linter.unusedSimpArgs false
set_option linter.unusedVariables false
def Zcw{α:Type}:List (Nat×α)->Nat->Option α
 | [],_=>none
 | (k,v) :: r,t=>match Nat.beq k t with
  |true=>some v
  |false=>Zcw r t
structure RA where
 an:List (Nat×Ans)
 bl:List (Nat×Bool)
 fz:List (Nat×List Nat)
 ct:List (List Nat)
 dn:List (Nat×List (Nat×C))
 rl:List (Nat×Nat×(Nat->Nat->C))
 hc:List (Nat×HA)
def rz:RA:=⟨[],[],[],[],[],[],[]⟩
def rA(an:List (Nat×Ans)):RA:=⟨an,[],[],[],[],[],[]⟩
def rB(bl:List (Nat×Bool)):RA:=⟨[],bl,[],[],[],[],[]⟩
def rH(an:List (Nat×Ans))(hc:List (Nat×HA)):RA:=⟨an,[],[],[],[],[],hc⟩
def aI(x:Int):Ans:=.r (.one (.lit (.int .i64 x))) []
def aB(x:Bool):Ans:=.r (.one (.lit (.bool x))) []
def aG(l:List C):Ans:=.r (.agg l) []
def Zsn:List Nat->St->Option St
 | [],st=>some st
 |id :: r,st=>match hget st.heap id with
  |some b=>Zsn r (st.freeze id b)
  |none=>none
def ZgH(ops:Array Oper)(st:St)(o:Oper):Option Bool:=match o.guard with
 |none=>some true
 |some (j,want)=>match (ops[j]?).bind (·.dst)with
  |some t=>match st.get t with
   | .one (.lit (.bool b))=>some (b==want)
   | .one (.lit (.tuple _))=>some false
   |_=>none
  |none=>none
def putO(N:Nat)(st:St)(dst:Option Nat)(v:V):Option St:=match dst with
 |none=>some st
 |some d=>match Nat.blt d N with
  |true=>some (st.put d v)
  |false=>none
def ZxO(b:Option Bool)(v:V)(obl:List Prop):Option (V×List Prop):=match b,v with
 |none,v=>some (v,obl)
 |some b,.one (.lit (.bool e))=>some (.one (.lit (.bool b)),(e=b) :: obl)
 |_,_=>none
def dnC(c e:C):Option C:=match c,e with
 | .lit (.slice none 0 0),.sl sz 0 f=>some (.sl sz 0 f)
 | .lit (.pointer none),.rp true n f=>some (.rp true n f)
 |_,_=>none
theorem ZKF{S:Nat->Prop}{w:World}{m:Mp}{c e c':C}{x:Value}(h:RepC S w m c x)(hd:dnC c e=some c'):RepC S w m c' x/\(x.oneCell'=true->x.oneCell'=true):=by
 unfold dnC at hd;split at hd
 .cases hd;cases h;exact⟨.sl 0 0 (fun _ _=>undef) (Nat.le_refl _) (fun h=>absurd h (by omega)) (fun i j h=>absurd h (by omega)) (fun i j h=>absurd h (by omega)) (fun i j h=>absurd h (by omega)),fun h=>h⟩
 .cases hd;cases h;exact⟨.rpn,fun h=>h⟩
 .cases hd
def dnL:List (Nat×C)->List C->Option (List C)
 | [],l=>some l
 | (k,e) :: r,l=>match l[k]? with
  |some c=>match dnC c e with
   |some c'=>dnL r (l.set k c')
   |none=>none
  |none=>none
theorem ZEB{S:Nat->Prop}{w:World}{m:Mp}:∀{ps:List (Nat×C)}{l l':List C}{xs:List Value},RepL S w m l xs->dnL ps l=some l'->RepL S w m l' xs
 | [],l,l',xs,h,hd=>by cases hd;exact h
 | (k,e) :: r,l,l',xs,h,hd=>by
  simp only[dnL]at hd
  split at hd
  .rename_i c hc
   split at hd
   .rename_i c' hc'
    refine ZEB ?_ hd
    refine⟨by simp[h.1],fun j c2 hj=>?_,h.2.2⟩
    rw[List.getElem?_set]at hj
    split at hj
    .rename_i e
     subst e
     split at hj
     .cases hj
      obtain⟨x,h1,h2⟩:=h.2.1 k c hc
      exact⟨x,h1,(ZKF h2 hc').1⟩
     .cases hj
    .exact h.2.1 j c2 hj
   .cases hd
  .cases hd
def dnV(ps:List (Nat×C))(v:V):Option V:=match ps with
 | []=>some v
 |p :: r=>match v with
  | .one c=>match p.1,r with
   | 0,[]=>match dnC c p.2 with
    |some c'=>some (.one c')
    |none=>none
   |_,_=>none
  | .agg l=>match dnL (p :: r) l with
   |some l'=>some (.agg l')
   |none=>none
  | .tup _=>none
theorem ZEA{S:Nat->Prop}{w:World}{m:Mp}{ps:List (Nat×C)}{v v':V}{x:Value}(h:RepV S w m v x)(hd:dnV ps v=some v'):RepV S w m v' x:=by
 cases ps with
 |nil=>cases hd;exact h
 |cons p r=>
  simp only[dnV]at hd;split at hd
  .split at hd
   .split at hd
    .rename_i hq;cases hd;exact(ZKF h hq).1
    .cases hd
   .cases hd
  .split at hd
   .rename_i l' hl;cases hd;obtain⟨xs,rfl,h1⟩:=h;exact⟨xs,rfl,ZEB h1 hl⟩
   .cases hd
  .cases hd
def rlV(r:Option (Nat×(Nat->Nat->C)))(v:V)(obl:List Prop):Option (V×List Prop):=match r with
 |none=>some (v,obl)
 |some (n,c')=>match v with
  | .one (.sl sz len c)=>some (.one (.sl sz n c'),(n=len/\∀i j,i<len->j<sz->c' i j=c i j) :: obl)
  | .one (.lsl sz len c)=>some (.one (.lsl sz n c'),(n=len/\∀i j,i<len->j<sz->c' i j=c i j) :: obl)
  |_=>none
theorem ZIM{S:Nat->Prop}{w:World}{m:Mp}{r:Option (Nat×(Nat->Nat->C))}{v v':V}{obl obl':List Prop}{x:Value}(h:RepV S w m v x)(hr:rlV r v obl=some (v',obl'))(ho:∀q∈obl',q):RepV S w m v' x:=by
 unfold rlV at hr;split at hr
 .cases hr;exact h
 .split at hr
  .rename_i sz len c;cases hr;obtain⟨rfl,h2⟩:=ho _ List.mem_cons_self;cases h with
   |sl b off vals hcap ha hc h1 hr=>
    exact RepC.sl b off vals hcap ha hc h1 fun i j hi hj=>by rw[h2 i j hi hj];exact hr i j hi hj
  .rename_i sz len c;cases hr;obtain⟨rfl,h2⟩:=ho _ List.mem_cons_self;cases h with
   |lsl b off vals hcap ha hc h1 hr=>
    exact RepC.lsl b off vals hcap ha hc h1 fun i j hi hj=>by rw[h2 i j hi hj];exact hr i j hi hj
  .cases hr
theorem ZOD{r:Option (Nat×(Nat->Nat->C))}{v v':V}{obl obl':List Prop}(hr:rlV r v obl=some (v',obl')):∀q∈obl,q∈obl':=by
 unfold rlV at hr;split at hr
 .cases hr;exact fun q hq=>hq
 .split at hr
  .cases hr;exact fun q hq=>List.mem_cons_of_mem _ hq
  .cases hr;exact fun q hq=>List.mem_cons_of_mem _ hq
  .cases hr
def kdn:List (Nat×List (Nat×C))->Nat->List (Nat×C)
 | [],_=>[]
 | (k,v) :: r,t=>match Nat.beq k t with
  |true=>v
  |false=>kdn r t
def Zmk(P:Program)(N:Nat)(T:Tab)(ops:Array Oper)(ra:RA)(i:Nat)(o:Oper)(st:St):Option (V×List Prop×St):=match ZgH ops st o with
 |none=>none
 |some false=>some (.one (.lit undef),[],st)
 |some true=>match evOp P N T o st (Zcw ra.an i)with
  |none=>none
  |some (v,obl,st')=>match ZxO (Zcw ra.bl i) v obl with
   |none=>none
   |some (v',obl')=>match dnV (kdn ra.dn i) v' with
    |some v''=>match rlV (Zcw ra.rl i) v'' obl' with
     |some (v3,obl3)=>some (v3,obl3,st')
     |none=>none
    |none=>none
def ZFG(P:Program)(N:Nat)(T:Tab)(ops:Array Oper)(ra:RA)(i:Nat)(o:Oper)(st:St):Option (St×List Prop):=match Zmk P N T ops ra i o st with
 |none=>none
 |some (v,obl,st')=>match putO N st' o.dst v with
  |none=>none
  |some st''=>some (st'',obl)
def ZzR(P:Program)(N:Nat)(ops:Array Oper)(ha:HA)(an:Option Ans)(o:Oper)(st:St):Option (St×List Prop):=match ZgH ops st o with
 |some true=>match o.op with
  | .call { callee:=c,args:=args,argTypes:=_ }=>match ZrD P N st c args.toList ha an with
   |some (v,obl,st')=>match putO N st' o.dst v with
    |some st''=>some (st'',obl)
    |none=>none
   |none=>none
  |_=>none
 |some false=>match putO N st o.dst (.one (.lit undef))with
  |some st''=>some (st'',[])
  |none=>none
 |none=>none
def Zse(P:Program)(N:Nat)(T:Tab)(ops:Array Oper)(ra:RA)(i:Nat)(o:Oper)(st:St):Option (St×List Prop):=match Zcw ra.hc i with
 |none=>ZFG P N T ops ra i o st
 |some ha=>ZzR P N ops ha (Zcw ra.an i) o st
def opFz(ra:RA)(i:Nat)(st:St):Option St:=match Zcw ra.fz i with
 |none=>some st
 |some l=>Zsn l st
def Zvo(P:Program)(N:Nat)(T:Tab)(ops:Array Oper)(ra:RA):Nat->List Oper->St->Option (St×List Prop)
 |_,[],st=>some (st,[])
 |i,o :: r,st=>match opFz ra i st with
  |none=>none
  |some st0=>match Zse P N T ops ra i o st0 with
   |none=>none
   |some (st1,o1)=>match Zvo P N T ops ra (i+1) r st1 with
    |none=>none
    |some (st2,o2)=>some (st2,o1++o2)
theorem ZcI.frozen{N:Nat}{S0:Nat->Prop}{w0:ZeC}{a:Act}{w:World}:∀{l:List Nat}{st st':St},ZcI N S0 w0 st a w->Zsn l st=some st'->ZcI N S0 w0 st' a w
 | [],st,st',h,he=>by cases he;exact h
 |id :: r,st,st',h,he=>by
  simp only[Zsn]at he
  split at he
  .rename_i b hb
   obtain⟨S,m,hs,hg⟩:=h
   refine ZcI.frozen ⟨_,m,hs.freeze hb,hg.step (Bel.refl _ _) (fun _ h=>.inl h) fun k hk=>?_⟩ he
   rcases hk with hk|hk
   .exact .inl hk
   .exact .inr (hs.own id b hb k hk).2.1
  .cases he
theorem ZkU{N:Nat}{F:Keep}{S:Nat->Prop}{m:Mp}{st:St}{a:Act}{w:World}(hs:Sim N F S m st a w){ops:Array Oper}{o:Oper}{r:Bool}(h:ZgH ops st o=some r):Region.wanted o (yielded ops a.tmps)=r:=by
 unfold ZgH at h;unfold Region.wanted;split at h
 .cases h;rename_i hg;rw[hg]
 .rename_i j want hg;rw[hg];simp only;split at h
  .rename_i t ht;have he:=hs.env t;split at h
   .rename_i b hb;rw[hb]at he;cases h;have hq:a.tmps.getD t undef=.bool b:=by generalize a.tmps.getD t undef=q at he;cases he;rfl
    have cy:a.tmps[t]?=some (.bool b):=by
     rw[Array.getD_eq_getD_getElem?]at hq;cases hx:a.tmps[t]? with
     |none=>rw[hx]at hq;cases hq
     |some x=>rw[hx]at hq;simp at hq;rw[hq]
    simp[yielded,ht,cy]
   .rename_i vs hb;rw[hb]at he;cases h;have hq:a.tmps.getD t undef=.tuple vs:=by generalize a.tmps.getD t undef=q at he;cases he;rfl
    have:yielded ops a.tmps j=none:=by
     unfold yielded;rw[ht];simp only[Option.bind_some];cases hx:a.tmps[t]? with
     |none=>rfl
     |some x=>
      rw[Array.getD_eq_getD_getElem?,hx]at hq;simp at hq;rw[hq]
    simp[this]
   .cases h
  .cases h
theorem ZcI.putted{N:Nat}{S0:Nat->Prop}{w0:ZeC}{st st':St}{a:Act}{w:World}{S:Nat->Prop}{m:Mp}(hs:Sim N w0.F S m st a w)(hg:Goes w0.F.no S0 S w0.w w){dst:Option Nat}{v:V}{x:Value}(hv:RepV S w m v x)(h:putO N st dst v=some st') :
  ZcI N S0 w0 st' (a.put dst x) w:=by
 unfold putO at h;split at h
 .cases h;exact⟨S,m,hs,hg⟩
 .split at h
  .rename_i d _ hb;cases h;have hd:d<N:=Nat.le_of_ble_eq_true hb;exact⟨S,m,hs.put hv hd,hg⟩
  .cases h
theorem ZJv{P:Program}{T:Tab}(hT:Zes P T){N:Nat}{S0:Nat->Prop}{w0:ZeC}{st st':St}{a:Act}{w:World}(hsh:ZcI N S0 w0 st a w){ops:Array Oper}{ra:RA}{i:Nat}{o:Oper}{obl:List Prop}
  (h:ZFG P N T ops ra i o st=some (st',obl)) (ho:∀q∈obl,q) {K:Act->World->Prop} {Q:Exit->Act->World->Prop} (hk:∀a' w',ZcI N S0 w0 st' a' w'->K a' w') :
  if Region.wanted o (yielded ops a.tmps)then o.wp P a w K Q else K (a.put o.dst undef) w:=by
 obtain⟨S,m,hs,hg⟩:=hsh;unfold ZFG at h;split at h
 .cases h
 rename_i v iC st1 hr;split at h
 .cases h
 rename_i st2 hp;cases h;unfold Zmk at hr;split at hr
 .cases hr
 .rename_i ck;cases hr;rw[ZkU hs ck];exact hk _ _ (ZcI.putted (v:=.one (.lit undef)) hs hg RepC.lit hp)
 .rename_i ck;rw[ZkU hs ck];split at hr
  .cases hr
  rename_i v0 cF st0 bh;split at hr
  .cases hr
  rename_i v' obl' hd;split at hr;rotate_left
  .cases hr
  rename_i v'' fh;split at hr;rotate_left
  .cases hr
  rename_i v3 obl3 eK;cases hr;have cG:=ZOD eK;unfold ZxO at hd;split at hd
  .cases hd;exact ZKr hT hs hg bh (fun q hq=>ho q (cG q hq)) fun x w' S' m' h1 h2 h3=>hk _ _ (ZcI.putted h1 h2 (ZIM (ZEA h3 fh) eK ho) hp)
  .rename_i b e _;cases hd;refine ZKr hT hs hg bh (fun q hq=>ho q (cG q (List.mem_cons_of_mem _ hq))) fun x w' S' m' h1 h2 h3=>hk _ _ (ZcI.putted h1 h2 (ZIM (ZEA (v:=.one (.lit (.bool b))) ?_ fh) eK ho) hp);have:e=b:=ho _ (cG _ List.mem_cons_self);rw[<-this];exact h3
  .cases hd
theorem ZJy{P:Program}{T:Tab}(hT:Zes P T){N:Nat}{S0:Nat->Prop}{w0:ZeC}{st st':St}{a:Act}{w:World}(hsh:ZcI N S0 w0 st a w){ops:Array Oper}{ha:HA}{an:Option Ans}{o:Oper}{obl:List Prop}
  (h:ZzR P N ops ha an o st=some (st',obl)) (ho:∀q∈obl,q) {K:Act->World->Prop} {Q:Exit->Act->World->Prop} (hk:∀a' w',ZcI N S0 w0 st' a' w'->K a' w') :
  if Region.wanted o (yielded ops a.tmps)then o.wp P a w K Q else K (a.put o.dst undef) w:=by
 obtain⟨S,m,hs,hg⟩:=hsh;unfold ZzR at h;split at h
 .rename_i ck;rw[ZkU hs ck];split at h
  .rename_i c args a9 ce;split at h
   .rename_i v iC st1 he;split at h
    .rename_i st2 hp;cases h;exact ZEm hs hg ce he ho fun x w' S' m' h1 h2 h3=>hk _ _ (ZcI.putted h1 h2 h3 hp)
    .cases h
   .cases h
  .cases h
 .rename_i ck;rw[ZkU hs ck];split at h
  .rename_i st2 hp;cases h;exact hk _ _ (ZcI.putted (v:=.one (.lit undef)) hs hg RepC.lit hp)
  .cases h
 .cases h
theorem Zvz{P:Program}{T:Tab}(hT:Zes P T){N:Nat}{S0:Nat->Prop}{w0:ZeC}{st st':St}{a:Act}{w:World}(hsh:ZcI N S0 w0 st a w){ops:Array Oper}{ra:RA}{i:Nat}{o:Oper}{obl:List Prop}
  (h:Zse P N T ops ra i o st=some (st',obl)) (ho:∀q∈obl,q) {K:Act->World->Prop} {Q:Exit->Act->World->Prop} (hk:∀a' w',ZcI N S0 w0 st' a' w'->K a' w') :
  if Region.wanted o (yielded ops a.tmps)then o.wp P a w K Q else K (a.put o.dst undef) w:=by
 unfold Zse at h;split at h
 .exact ZJv hT hsh h ho hk
 .exact ZJy hT hsh h ho hk
theorem Zzr{P:Program}{T:Tab}(hT:Zes P T){N:Nat}{S0:Nat->Prop}{w0:ZeC}{ops:Array Oper}{ra:RA}{Q:Exit->Act->World->Prop}:∀{l:List Oper}{i:Nat}{st st':St}{a:Act}{w:World}{obl:List Prop},ZcI N S0 w0 st a w ->
  Zvo P N T ops ra i l st=some (st',obl)->(∀q∈obl,q)->(∀a' w',ZcI N S0 w0 st' a' w'->Q .normal a' w')->wpList P ops Q l a w
 | [],i,st,st',a,w,obl,hsh,h,ho,hk=>by cases h;exact hk _ _ hsh
 |o :: r,i,st,st',a,w,obl,hsh,h,ho,hk=>by
  simp only[Zvo]at h
  split at h
  .cases h
  rename_i st0 h0
  split at h
  .cases h
  rename_i st1 o1 h1
  split at h
  .cases h
  rename_i st2 o2 h2
  cases h
  have jW:ZcI N S0 w0 st0 a w:=by
   unfold opFz at h0;split at h0
   .cases h0;exact hsh
   .exact ZcI.frozen hsh h0
  refine wpList_step fun K hK=>Zvz hT jW h1 (fun q hq=>ho q (List.mem_append.2 (.inl hq))) fun a' w' cn=>hK _ _ ?_;exact Zzr hT cn h2 (fun q hq=>ho q (List.mem_append.2 (.inr hq))) hk
theorem ZIW{P:Program}{T:Tab}(hT:Zes P T){N:Nat}{S0:Nat->Prop}{w0:ZeC}{ops:Array Oper}{id:Nat}{ra:RA}{Q:Exit->Act->World->Prop}{st st':St}{a:Act}{w:World}{obl:List Prop}(hsh:ZcI N S0 w0 st a w)
  (h:Zvo P N T ops ra 0 ops.toList st=some (st',obl)) (ho:∀q∈obl,q) (hk:∀a' w',ZcI N S0 w0 st' a' w'->Q .normal a' w'):(Code.region id ops false).wp P Q a w:=
 wp_region_list (Zzr hT hsh h ho hk)
end Go.Proofs.YtnigiacmmedkhaaGreat
