import Derived.Test.YtnigiacmmedkhaaGreatGAmS
namespace Go.Proofs.YtnigiacmmedkhaaGreat
open Go.RowKit
set_option linter.unusedSimpArgs false
set_option linter.unusedVariables false
def Zyf(P:Program)(T:Tab):Prop:=Zes P T/\P.follows .mixedOrders=true
def ZKG:List Nat->List Nat->List Nat
 | [],acc=>acc
 |k :: l,acc=>match memN k acc with
  |true=>ZKG l acc
  |false=>ZKG l (k :: acc)
def ZNW:List Oper->List (List Nat)->List (List Nat) | [],acc=>acc|o :: r,acc=>ZNW r (acc++[ZKG (ZrL o++(ZrL o).flatMap fun k=>acc.getD k []) []])
def ctOf(ops:Array Oper)(ra:RA):List (List Nat):=match ra.ct with
 | []=>ZNW ops.toList []
 |c=>c
def ZQh(o:Oper):Bool:=o.after.toList.any fun e=>match e.ground with
 | .gcOnly _=>true
 |_=>false
def ZKS(kn:List (Nat×Option Nat))(st:St):Operand->Option Nat
 | .tmp t=>match Zcw kn t with
  |some (some b)=>match Nat.beq b 99997 with
   |true=>none
   |false=>some b
  |some none=>none
  |none=>match st.get t with
   | .one (.ptr b _)=>some b
   | .one (.rp _ _ _)=>some 99998
   |_=>none
 |_=>none
def ZQi(kn:List (Nat×Option Nat))(st:St):Operand->Option Nat
 | .tmp t=>match Zcw kn t with
  |some (some b)=>match Nat.beq b 99997 with
   |true=>some 99998
   |false=>none
  |some none=>none
  |none=>match st.get t with
   | .one (.sl _ _ _)=>some 99998
   |_=>none
 |_=>none
def ZCa(st:St):List Oper->List (Nat×Option Nat)->List (List Nat)
 | [],_=>[]
 |o :: r,kn=>match o.op with
  | .load _ x=>(match ZKS kn st x with
   |some b=>[b]
   |none=>[]) :: ZCa st r ((o.dst.getD 0,some 99997) :: kn)
  | .store _ x _=>(match ZKS kn st x with
   |some b=>[b]
   |none=>[]) :: ZCa st r ((o.dst.getD 0,none) :: kn)
  | .move x | .assign x=>[] :: ZCa st r ((o.dst.getD 0,match ZKS kn st x with
   |some b=>some b
   |none=>match ZQi kn st x with
    |some _=>some 99997
    |none=>none) :: kn)
  | .alloc _ | .box _ _=>[] :: ZCa st r ((o.dst.getD 0,some (o.dst.getD 0)) :: kn)
  | .indexAddr _ x _=>[] :: ZCa st r ((o.dst.getD 0,match ZKS kn st x with
   |some b=>some b
   |none=>ZQi kn st x) :: kn)
  | .fieldAddr _ x _ | .nilCheck x=>[] :: ZCa st r ((o.dst.getD 0,ZKS kn st x) :: kn)
  |_=>[] :: ZCa st r ((o.dst.getD 0,none) :: kn)
def appOp(o:Oper):Bool:=match o.op with
 | .call { callee:=.builtin .append,.. }=>true
 |_=>false
def ctB(ops:Array Oper)(ra:RA)(st:St):List (List Nat):=match ops.toList.any ZQh||ops.toList.any appOp,ra.hc with
 |false,[]=>ctOf ops ra
 |_,_=>ctOf ops ra++ZCa st ops.toList []
def preFz(ra:RA)(st:St):Option (RA×St):=match ra.fz with
 | []=>some (ra,st)
 | [(0,ids)]=>match Zsn ids st with
  |some st'=>some ({ ra with fz:=[] },st')
  |none=>none
 |_=>none
theorem ZcI.preFz{N:Nat}{S0:Nat->Prop}{w0:ZeC}{st st':St}{a:Act}{w:World}{ra dV:RA}(h:ZcI N S0 w0 st a w)(he:Go.Proofs.YtnigiacmmedkhaaGreat.preFz ra st=some (dV,st')):ZcI N S0 w0 st' a w:=by
 unfold Go.Proofs.YtnigiacmmedkhaaGreat.preFz at he;split at he
 .cases he;exact h
 .split at he
  .rename_i hq;cases he;exact h.frozen hq
  .cases he
 .cases he
def ZLE(P:Program)(N:Nat)(T:Tab)(ZaL:List It)(st:St)(ras:List RA)(bs:List Bool):Option (List It×St×List RA×List Bool×List Prop):=match ZaL with
 | .code .skip :: k=>some (k,st,ras,bs,[])
 | .code (.seq x y) :: k=>some (.code x :: .code y :: k,st,ras,bs,[])
 | .code (.block id x) :: k=>some (.code x :: .endB id :: k,st,ras,bs,[])
 | .code (.loop x) :: k=>some (.code x :: .endL x :: k,st,ras,bs,[])
 | .code (.exit id) :: k=>match ZHz id k with
  |some k'=>some (k',st,ras,bs,[])
  |none=>none
 | .code (.cond c x y) :: k=>match evo st c,bs with
  | .one (.lit (.bool e)),b :: bs'=>some (.code (match b with|true=>x|false=>y) :: k,st,ras,bs',[e=b])
  |_,_=>none
 | .code (.region _ ops false) :: k=>match ras with
  |ra :: ras'=>match Zvo P N T ops ra 0 ops.toList st with
   |some (st',obl)=>some (k,st',ras',bs,obl)
   |none=>none
  | []=>none
 | .code (.region _ ops true) :: k=>match ras with
  |ra :: ras'=>match preFz ra st with
   |some (ra1,st0)=>match ZEz P N T ops ra1 (ctB ops ra1 st0) st0 with
    |some (st',obl)=>some (k,st',ras',bs,obl)
    |none=>none
   |none=>none
  | []=>none
 | .endB _ :: k=>some (k,st,ras,bs,[])
 | .endL x :: k=>some (.code (.loop x) :: k,st,ras,bs,[])
 |_=>none
def runK(P:Program)(N:Nat)(T:Tab):Nat->List It->St->List RA->List Bool->Option (List It×St×List Prop)
 | 0,ZaL,st,_,_=>some (ZaL,st,[])
 |n+1,ZaL,st,ras,bs=>match ZLE P N T ZaL st ras bs with
  |none=>none
  |some (it1,st1,ras1,bs1,o1)=>match runK P N T n it1 st1 ras1 bs1 with
   |none=>none
   |some (it2,st2,o2)=>some (it2,st2,o1++o2)
section
variable {P:Program} {N:Nat} {T:Tab} {S0:Nat->Prop} {w0:ZeC} {Q:Exit->Act->World->Prop}
theorem Zvl(hT:Zyf P T)(hE:Ends Q){ZaL bT:List It}{st st':St}{ras ras':List RA}{bs bs':List Bool}{obl:List Prop}(h:ZLE P N T ZaL st ras bs=some (bT,st',ras',bs',obl))(ho:∀q∈obl,q)(hk:Good P N S0 w0 Q bT st'):Good P N S0 w0 Q ZaL st:=by
 unfold ZLE at h;split at h
 .cases h;exact ZJX hk
 .cases h;exact ZMW hk
 .cases h;exact ZHx hk
 .cases h;exact ZJY hE hk
 .split at h
  .rename_i hx;cases h;exact ZJZ hx hk
  .cases h
 .split at h
  .rename_i e b bs1 hv;cases h;refine ZKc hv (ho _ List.mem_cons_self) ?_;cases b<;>exact hk
  .cases h
 .split at h
  .split at h
   .rename_i hr;cases h;exact ZDS hT.1 hr ho hk
   .cases h
  .cases h
 .split at h
  .split at h
   .rename_i hp;split at h
    .rename_i hr;cases h;exact fun a w hs=>ZPr hT.1 hT.2 (hs.preFz hp) hr ho fun a' w' cn=>hk a' w' cn
    .cases h
   .cases h
  .cases h
 .cases h;exact ZKb hk
 .cases h;exact ZKa hk
 .cases h
theorem Zra(hT:Zyf P T)(hE:Ends Q):∀{n:Nat}{ZaL bT:List It}{st st':St}{ras:List RA}{bs:List Bool}{obl:List Prop},runK P N T n ZaL st ras bs=some (bT,st',obl)->(∀q∈obl,q)->Good P N S0 w0 Q bT st'->Good P N S0 w0 Q ZaL st
 | 0,ZaL,bT,st,st',ras,bs,obl,h,ho,hk=>by cases h;exact hk
 |n+1,ZaL,bT,st,st',ras,bs,obl,h,ho,hk=>by
  simp only[runK]at h
  split at h
  .cases h
  rename_i it1 st1 ras1 bs1 o1 h1
  split at h
  .cases h
  rename_i it2 st2 o2 h2
  cases h
  exact Zvl hT hE h1 (fun q hq=>ho q (List.mem_append.2 (.inl hq))) (Zra hT hE h2 (fun q hq=>ho q (List.mem_append.2 (.inr hq))) hk)
theorem ZBr{ZaL:List It}{na:NA}{st st':St}{obl:List Prop}(h:norm N na st=some (st',obl))(ho:∀q∈obl,q)(hk:Good P N S0 w0 Q ZaL st'):Good P N S0 w0 Q ZaL st:=fun a w hs=>hk a w (hs.norm h ho)
end
def Zqr:List Prop->Prop | []=>True|p :: l=>p/\Zqr l
theorem ZjN:∀{l:List Prop},Zqr l->∀q∈l,q
 | [],_,q,h=>by cases h
 |p :: l,h,q,hq=>by
  rcases List.mem_cons.1 hq with rfl|hq
  .exact h.1
  .exact ZjN h.2 q hq
inductive Obl:List Prop->Prop
 |n:Obl []
 |c {p:Prop} {l:List Prop} (h:p) (t:Obl l):Obl (p :: l)
theorem oi{α:Type}{a b:α}(h:some a=some b):a=b:=Option.some.inj h
theorem Obl.app:∀{l m:List Prop},Obl l->Obl m->Obl (l++m)
 |_,_,.n,k=>k
 |_,_,.c h t,k=>.c h (t.app k)
theorem Obl.all:∀{l:List Prop},Obl l->Zqr l
 |_,.n=>trivial
 |_,.c h t=>⟨h,t.all⟩
def toK(P:Program)(N:Nat)(T:Tab)(n:Nat)(ZaL:List It)(st:St)(ras:List RA)(bs:List Bool)(na:NA):Option (List It×St×List Prop):=match runK P N T n ZaL st ras bs with
 |some (it,st1,obl)=>match norm N na st1 with
  |some (st2,o2)=>some (it,st2,obl++o2)
  |none=>none
 |none=>none
theorem ZLy{P:Program}{N:Nat}{T:Tab}{S0:Nat->Prop}{w0:ZeC}{Q:Exit->Act->World->Prop}(hT:Zyf P T)(hE:Ends Q)(n:Nat)(ZaL bT:List It)(st st':St)(ras:List RA)(bs:List Bool)(na:NA)(obl:List Prop)
  (h:toK P N T n ZaL st ras bs na=some (bT,st',obl)) (ho:Zqr obl) (hk:Good P N S0 w0 Q bT st'):Good P N S0 w0 Q ZaL st:=by
 unfold toK at h;split at h
 .rename_i it st1 o h1;split at h
  .rename_i st2 o2 h2;cases h;exact Zra hT hE h1 (fun q hq=>ZjN ho q (List.mem_append.2 (.inl hq))) (ZBr h2 (fun q hq=>ZjN ho q (List.mem_append.2 (.inr hq))) hk)
  .cases h
 .cases h
def ZOj(P:Program)(N:Nat)(T:Tab)(n:Nat)(ZaL:List It)(st:St)(ras:List RA)(bs:List Bool)(fz:List Nat)(dh dn:List (Nat×List (Nat×C)))(rs:List ResultVar):Option (V×List Prop):=match runK P N T n ZaL st ras bs with
 |some (.code .ret :: _,st1,obl)=>match tidy N fz dh dn st1 with
  |some st2=>match ZBF T st2 rs with
   |some v=>some (v,obl)
   |none=>none
  |none=>none
 |some ([],st1,obl)=>match tidy N fz dh dn st1 with
  |some st2=>match ZBF T st2 rs with
   |some v=>some (v,obl)
   |none=>none
  |none=>none
 |_=>none
theorem ZGH{P:Program}{N:Nat}{T:Tab}{S0:Nat->Prop}{w0:ZeC}{fn:Func}{res:V}(hT:Zyf P T)(n:Nat)(ZaL:List It)(st:St)(ras:List RA)(bs:List Bool)(fz:List Nat)(dh dn:List (Nat×List (Nat×C)))(obl:List Prop)
  (h:ZOj P N T n ZaL st ras bs fz dh dn fn.results.toList=some (res,obl)) (hp:res.pure=true) (ho:Zqr obl):Good P N S0 w0 (bodyPost P fn (Post S0 w0 res)) ZaL st:=by
 unfold ZOj at h;split at h
 .rename_i h1;split at h
  .rename_i st2 h2;split at h
   .rename_i v h3;cases h;exact Zra hT Post.ends h1 (ZjN ho) fun a w hs=>wp_ret (ZpJ (ZwS hT.1 (hs.tidied h2) h3 hp) _)
   .cases h
  .cases h
 .rename_i h1;split at h
  .rename_i st2 h2;split at h
   .rename_i v h3;cases h;exact Zra hT Post.ends h1 (ZjN ho) fun a w hs=>ZwS hT.1 (hs.tidied h2) h3 hp
   .cases h
  .cases h
 .cases h
theorem ZPN{P:Program}{N:Nat}{T:Tab}{S0:Nat->Prop}{w0:ZeC}{Q:Exit->Act->World->Prop}(hT:Zyf P T)(hE:Ends Q)(n:Nat){ZaL bT:List It}{st st':St}(ras:List RA)(bs:List Bool)(na:NA){obl:List Prop}(ho:Obl obl)
  (h:toK P N T n ZaL st ras bs na=some (bT,st',obl)) (hk:Good P N S0 w0 Q bT st'):Good P N S0 w0 Q ZaL st:=ZLy hT hE n ZaL bT st st' ras bs na obl h ho.all hk
theorem ZqB{P:Program}{N:Nat}{T:Tab}{S0:Nat->Prop}{w0:ZeC}{fn:Func}{res:V}(hT:Zyf P T)(n:Nat){ZaL:List It}{st:St}(ras:List RA)(bs:List Bool)(fz:List Nat)(dh dn:List (Nat×List (Nat×C))){obl:List Prop}(ho:Obl obl)
  (h:ZOj P N T n ZaL st ras bs fz dh dn fn.results.toList=some (res,obl)) (hp:res.pure=true):Good P N S0 w0 (bodyPost P fn (Post S0 w0 res)) ZaL st:=ZGH hT n ZaL st ras bs fz dh dn obl h hp ho.all
def nav:List Nat->Code->List It->Option (List It) | [],c,k=>some (.code c :: k)|0 :: l,.seq x y,k=>nav l x (.code y :: k)|_ :: l,.seq _ y,k=>nav l y k|_ :: l,.block id x,k=>nav l x (.endB id :: k)|0 :: l,.cond _ x _,k=>nav l x k|_ :: l,.cond _ _ y,k=>nav l y k|_ :: l,.loop x,k=>nav l x (.endL x :: k)|_,_,_=>none
def ZuB(fn:Func):Code:=fn.body.getD .skip
def at_(l:List Nat)(c:Code):List It:=(nav l c []).getD []
end Go.Proofs.YtnigiacmmedkhaaGreat
