import Derived.Test.YtmnloegcpaahcaaGreatDAmS
namespace Go.Proofs.YtmnloegcpaahcaaGreat
open Go.RowKit
set_option linter.unusedSimpArgs false
set_option linter.unusedVariables false
def ZxI(P:Program)(T:Tab):Prop:=ZeG P T/\P.follows .mixedOrders=true
def ZIf:List Nat->List Nat->List Nat
 | [],acc=>acc
 |k :: l,acc=>match memN k acc with
  |true=>ZIf l acc
  |false=>ZIf l (k :: acc)
def ZKo:List Oper->List (List Nat)->List (List Nat) | [],acc=>acc|o :: r,acc=>ZKo r (acc++[ZIf (ZtN o++(ZtN o).flatMap fun k=>acc.getD k []) []])
def ctOf(ops:Array Oper)(ra:RA):List (List Nat):=match ra.ct with
 | []=>ZKo ops.toList []
 |c=>c
def ZLR(o:Oper):Bool:=o.after.toList.any fun e=>match e.ground with
 | .gcOnly _=>true
 |_=>false
def ZIt(kn:List (Nat×Option Nat))(st:St):Operand->Option Nat
 | .tmp t=>match ZcX kn t with
  |some (some b)=>match Nat.beq b 99997 with
   |true=>none
   |false=>some b
  |some none=>none
  |none=>match st.get t with
   | .one (.ptr b _)=>some b
   | .one (.rp _ _ _)=>some 99998
   |_=>none
 |_=>none
def ZLT(kn:List (Nat×Option Nat))(st:St):Operand->Option Nat
 | .tmp t=>match ZcX kn t with
  |some (some b)=>match Nat.beq b 99997 with
   |true=>some 99998
   |false=>none
  |some none=>none
  |none=>match st.get t with
   | .one (.sl _ _ _)=>some 99998
   |_=>none
 |_=>none
def ZBx(st:St):List Oper->List (Nat×Option Nat)->List (List Nat)
 | [],_=>[]
 |o :: r,kn=>match o.op with
  | .load _ x=>(match ZIt kn st x with
   |some b=>[b]
   |none=>[]) :: ZBx st r ((o.dst.getD 0,some 99997) :: kn)
  | .store _ x _=>(match ZIt kn st x with
   |some b=>[b]
   |none=>[]) :: ZBx st r ((o.dst.getD 0,none) :: kn)
  | .move x | .assign x=>[] :: ZBx st r ((o.dst.getD 0,match ZIt kn st x with
   |some b=>some b
   |none=>match ZLT kn st x with
    |some _=>some 99997
    |none=>none) :: kn)
  | .alloc _ | .box _ _=>[] :: ZBx st r ((o.dst.getD 0,some (o.dst.getD 0)) :: kn)
  | .indexAddr _ x _=>[] :: ZBx st r ((o.dst.getD 0,match ZIt kn st x with
   |some b=>some b
   |none=>ZLT kn st x) :: kn)
  | .fieldAddr _ x _=>[] :: ZBx st r ((o.dst.getD 0,ZIt kn st x) :: kn)
  |_=>[] :: ZBx st r ((o.dst.getD 0,none) :: kn)
def appOp(o:Oper):Bool:=match o.op with
 | .call { callee:=.builtin .append,.. }=>true
 |_=>false
def ctB(ops:Array Oper)(ra:RA)(st:St):List (List Nat):=match ops.toList.any ZLR||ops.toList.any appOp,ra.hc with
 |false,[]=>ctOf ops ra
 |_,_=>ctOf ops ra++ZBx st ops.toList []
def preFz(ra:RA)(st:St):Option (RA×St):=match ra.fz with
 | []=>some (ra,st)
 | [(0,ids)]=>match Zuv ids st with
  |some st'=>some ({ ra with fz:=[] },st')
  |none=>none
 |_=>none
theorem ZcW.preFz{N:Nat}{S0:Nat->Prop}{w0:ZaU}{st st':St}{a:Act}{w:World}{ra dP:RA}(h:ZcW N S0 w0 st a w)(he:Go.Proofs.YtmnloegcpaahcaaGreat.preFz ra st=some (dP,st')):ZcW N S0 w0 st' a w:=by
 unfold Go.Proofs.YtmnloegcpaahcaaGreat.preFz at he;split at he
 .cases he;exact h
 .split at he
  .rename_i hq;cases he;exact h.frozen hq
  .cases he
 .cases he
def ZKx(P:Program)(N:Nat)(T:Tab)(ZbB:List It)(st:St)(ras:List RA)(bs:List Bool):Option (List It×St×List RA×List Bool×List Prop):=match ZbB with
 | .code .skip :: k=>some (k,st,ras,bs,[])
 | .code (.seq x y) :: k=>some (.code x :: .code y :: k,st,ras,bs,[])
 | .code (.block id x) :: k=>some (.code x :: .endB id :: k,st,ras,bs,[])
 | .code (.loop x) :: k=>some (.code x :: .endL x :: k,st,ras,bs,[])
 | .code (.exit id) :: k=>match ZFs id k with
  |some k'=>some (k',st,ras,bs,[])
  |none=>none
 | .code (.cond c x y) :: k=>match evo st c,bs with
  | .one (.lit (.bool e)),b :: bs'=>some (.code (match b with|true=>x|false=>y) :: k,st,ras,bs',[e=b])
  |_,_=>none
 | .code (.region _ ops false) :: k=>match ras with
  |ra :: ras'=>match ZxM P N T ops ra 0 ops.toList st with
   |some (st',obl)=>some (k,st',ras',bs,obl)
   |none=>none
  | []=>none
 | .code (.region _ ops true) :: k=>match ras with
  |ra :: ras'=>match preFz ra st with
   |some (ra1,st0)=>match ZCT P N T ops ra1 (ctB ops ra1 st0) st0 with
    |some (st',obl)=>some (k,st',ras',bs,obl)
    |none=>none
   |none=>none
  | []=>none
 | .endB _ :: k=>some (k,st,ras,bs,[])
 | .endL x :: k=>some (.code (.loop x) :: k,st,ras,bs,[])
 |_=>none
def runK(P:Program)(N:Nat)(T:Tab):Nat->List It->St->List RA->List Bool->Option (List It×St×List Prop)
 | 0,ZbB,st,_,_=>some (ZbB,st,[])
 |n+1,ZbB,st,ras,bs=>match ZKx P N T ZbB st ras bs with
  |none=>none
  |some (it1,st1,ras1,bs1,o1)=>match runK P N T n it1 st1 ras1 bs1 with
   |none=>none
   |some (it2,st2,o2)=>some (it2,st2,o1++o2)
section
variable {P:Program} {N:Nat} {T:Tab} {S0:Nat->Prop} {w0:ZaU} {Q:Exit->Act->World->Prop}
theorem ZEL(hT:ZxI P T)(hE:Ends Q){ZbB d8:List It}{st st':St}{ras ras':List RA}{bs bs':List Bool}{obl:List Prop}(h:ZKx P N T ZbB st ras bs=some (d8,st',ras',bs',obl))(ho:∀q∈obl,q)(hk:Good P N S0 w0 Q d8 st'):Good P N S0 w0 Q ZbB st:=by
 unfold ZKx at h;split at h
 .cases h;exact ZHt hk
 .cases h;exact ZJE hk
 .cases h;exact ZFq hk
 .cases h;exact ZHv hE hk
 .split at h
  .rename_i hx;cases h;exact ZHw hx hk
  .cases h
 .split at h
  .rename_i e b bs1 hv;cases h;refine ZHz hv (ho _ List.mem_cons_self) ?_;cases b<;>exact hk
  .cases h
 .split at h
  .split at h
   .rename_i hr;cases h;exact ZCs hT.1 hr ho hk
   .cases h
  .cases h
 .split at h
  .split at h
   .rename_i hp;split at h
    .rename_i hr;cases h;exact fun a w hs=>ZLj hT.1 hT.2 (hs.preFz hp) hr ho fun a' w' cK=>hk a' w' cK
    .cases h
   .cases h
  .cases h
 .cases h;exact ZHy hk
 .cases h;exact ZHx hk
 .cases h
theorem Zmd(hT:ZxI P T)(hE:Ends Q):∀{n:Nat}{ZbB d8:List It}{st st':St}{ras:List RA}{bs:List Bool}{obl:List Prop},runK P N T n ZbB st ras bs=some (d8,st',obl)->(∀q∈obl,q)->Good P N S0 w0 Q d8 st'->Good P N S0 w0 Q ZbB st
 | 0,ZbB,d8,st,st',ras,bs,obl,h,ho,hk=>by cases h;exact hk
 |n+1,ZbB,d8,st,st',ras,bs,obl,h,ho,hk=>by
  simp only[runK]at h
  split at h
  .cases h
  rename_i it1 st1 ras1 bs1 o1 h1
  split at h
  .cases h
  rename_i it2 st2 o2 h2
  cases h
  exact ZEL hT hE h1 (fun q hq=>ho q (List.mem_append.2 (.inl hq))) (Zmd hT hE h2 (fun q hq=>ho q (List.mem_append.2 (.inr hq))) hk)
theorem ZHu{ZbB:List It}{na:NA}{st st':St}{obl:List Prop}(h:norm N na st=some (st',obl))(ho:∀q∈obl,q)(hk:Good P N S0 w0 Q ZbB st'):Good P N S0 w0 Q ZbB st:=fun a w hs=>hk a w (hs.norm h ho)
end
def ZFR:List Prop->Prop | []=>True|p :: l=>p/\ZFR l
theorem Ziq:∀{l:List Prop},ZFR l->∀q∈l,q
 | [],_,q,h=>by cases h
 |p :: l,h,q,hq=>by
  rcases List.mem_cons.1 hq with rfl|hq
  .exact h.1
  .exact Ziq h.2 q hq
inductive Obl:List Prop->Prop
 |n:Obl []
 |c {p:Prop} {l:List Prop} (h:p) (t:Obl l):Obl (p :: l)
theorem oi{α:Type}{a b:α}(h:some a=some b):a=b:=Option.some.inj h
theorem Obl.app:∀{l m:List Prop},Obl l->Obl m->Obl (l++m)
 |_,_,.n,k=>k
 |_,_,.c h t,k=>.c h (t.app k)
theorem Obl.all:∀{l:List Prop},Obl l->ZFR l
 |_,.n=>trivial
 |_,.c h t=>⟨h,t.all⟩
def toK(P:Program)(N:Nat)(T:Tab)(n:Nat)(ZbB:List It)(st:St)(ras:List RA)(bs:List Bool)(na:NA):Option (List It×St×List Prop):=match runK P N T n ZbB st ras bs with
 |some (it,st1,obl)=>match norm N na st1 with
  |some (st2,o2)=>some (it,st2,obl++o2)
  |none=>none
 |none=>none
theorem ZIO{P:Program}{N:Nat}{T:Tab}{S0:Nat->Prop}{w0:ZaU}{Q:Exit->Act->World->Prop}(hT:ZxI P T)(hE:Ends Q)(n:Nat)(ZbB d8:List It)(st st':St)(ras:List RA)(bs:List Bool)(na:NA)(obl:List Prop)
  (h:toK P N T n ZbB st ras bs na=some (d8,st',obl)) (ho:ZFR obl) (hk:Good P N S0 w0 Q d8 st'):Good P N S0 w0 Q ZbB st:=by
 unfold toK at h;split at h
 .rename_i it st1 o h1;split at h
  .rename_i st2 o2 h2;cases h;exact Zmd hT hE h1 (fun q hq=>Ziq ho q (List.mem_append.2 (.inl hq))) (ZHu h2 (fun q hq=>Ziq ho q (List.mem_append.2 (.inr hq))) hk)
  .cases h
 .cases h
def ZKv(P:Program)(N:Nat)(T:Tab)(n:Nat)(ZbB:List It)(st:St)(ras:List RA)(bs:List Bool)(fz:List Nat)(dh dn:List (Nat×List (Nat×C)))(rs:List ResultVar):Option (V×List Prop):=match runK P N T n ZbB st ras bs with
 |some (.code .ret :: _,st1,obl)=>match tidy N fz dh dn st1 with
  |some st2=>match Zxz T st2 rs with
   |some v=>some (v,obl)
   |none=>none
  |none=>none
 |some ([],st1,obl)=>match tidy N fz dh dn st1 with
  |some st2=>match Zxz T st2 rs with
   |some v=>some (v,obl)
   |none=>none
  |none=>none
 |_=>none
theorem ZEF{P:Program}{N:Nat}{T:Tab}{S0:Nat->Prop}{w0:ZaU}{fn:Func}{res:V}(hT:ZxI P T)(n:Nat)(ZbB:List It)(st:St)(ras:List RA)(bs:List Bool)(fz:List Nat)(dh dn:List (Nat×List (Nat×C)))(obl:List Prop)
  (h:ZKv P N T n ZbB st ras bs fz dh dn fn.results.toList=some (res,obl)) (hp:res.pure=true) (ho:ZFR obl):Good P N S0 w0 (bodyPost P fn (Post S0 w0 res)) ZbB st:=by
 unfold ZKv at h;split at h
 .rename_i h1;split at h
  .rename_i st2 h2;split at h
   .rename_i v h3;cases h;exact Zmd hT Post.ends h1 (Ziq ho) fun a w hs=>wp_ret (Zpp (ZGP hT.1 (hs.tidied h2) h3 hp) _)
   .cases h
  .cases h
 .rename_i h1;split at h
  .rename_i st2 h2;split at h
   .rename_i v h3;cases h;exact Zmd hT Post.ends h1 (Ziq ho) fun a w hs=>ZGP hT.1 (hs.tidied h2) h3 hp
   .cases h
  .cases h
 .cases h
def ZGf(P:Program)(N:Nat)(T:Tab)(n:Nat)(ZbB:List It)(st:St)(ras:List RA)(bs:List Bool)(na:NA)(rs:List ResultVar):Option (V×List (Nat×B)×List Prop):=match runK P N T n ZbB st ras bs with
 |some (.code .ret :: _,st1,obl)=>match norm N na st1 with
  |some (st2,o2)=>match Zxz T st2 rs with
   |some v=>some (v,st2.heap,obl++o2)
   |none=>none
  |none=>none
 |some ([],st1,obl)=>match norm N na st1 with
  |some (st2,o2)=>match Zxz T st2 rs with
   |some v=>some (v,st2.heap,obl++o2)
   |none=>none
  |none=>none
 |_=>none
theorem Zkt{P:Program}{N:Nat}{T:Tab}{S0:Nat->Prop}{w0:ZaU}{fn:Func}{res:V}{h1:List (Nat×B)}(hT:ZxI P T)(n:Nat)(ZbB:List It)(st:St)(ras:List RA)(bs:List Bool)(na:NA)(obl:List Prop)
  (h:ZGf P N T n ZbB st ras bs na fn.results.toList=some (res,h1,obl)) (ho:ZFR obl):Good P N S0 w0 (bodyPost P fn (ZaO S0 w0 h1 res)) ZbB st:=by
 unfold ZGf at h;split at h
 .rename_i e1;split at h
  .rename_i st2 o2 h2;split at h
   .rename_i v h3;cases h;exact Zmd hT ZaO.ends e1 (fun q hq=>Ziq ho q (List.mem_append.2 (.inl hq))) fun a w hs=>wp_ret (Zpp (Zvr hT.1 (hs.norm h2 fun q hq=>Ziq ho q (List.mem_append.2 (.inr hq))) h3 fun _ _ e=>e) _)
   .cases h
  .cases h
 .rename_i e1;split at h
  .rename_i st2 o2 h2;split at h
   .rename_i v h3;cases h;exact Zmd hT ZaO.ends e1 (fun q hq=>Ziq ho q (List.mem_append.2 (.inl hq))) fun a w hs=>Zvr hT.1 (hs.norm h2 fun q hq=>Ziq ho q (List.mem_append.2 (.inr hq))) h3 fun _ _ e=>e
   .cases h
  .cases h
 .cases h
theorem Zaz{P:Program}{N:Nat}{T:Tab}{S0:Nat->Prop}{w0:ZaU}{Q:Exit->Act->World->Prop}(hT:ZxI P T)(hE:Ends Q)(n:Nat){ZbB d8:List It}{st st':St}(ras:List RA)(bs:List Bool)(na:NA){obl:List Prop}(ho:Obl obl)
  (h:toK P N T n ZbB st ras bs na=some (d8,st',obl)) (hk:Good P N S0 w0 Q d8 st'):Good P N S0 w0 Q ZbB st:=ZIO hT hE n ZbB d8 st st' ras bs na obl h ho.all hk
theorem Zai{P:Program}{N:Nat}{T:Tab}{S0:Nat->Prop}{w0:ZaU}{fn:Func}{res:V}(hT:ZxI P T)(n:Nat){ZbB:List It}{st:St}(ras:List RA)(bs:List Bool)(fz:List Nat)(dh dn:List (Nat×List (Nat×C))){obl:List Prop}(ho:Obl obl)
  (h:ZKv P N T n ZbB st ras bs fz dh dn fn.results.toList=some (res,obl)) (hp:res.pure=true):Good P N S0 w0 (bodyPost P fn (Post S0 w0 res)) ZbB st:=ZEF hT n ZbB st ras bs fz dh dn obl h hp ho.all
theorem ZbF{P:Program}{N:Nat}{T:Tab}{S0:Nat->Prop}{w0:ZaU}{fn:Func}{res:V}{h1:List (Nat×B)}(hT:ZxI P T)(n:Nat){ZbB:List It}{st:St}(ras:List RA)(bs:List Bool)(na:NA){obl:List Prop}(ho:Obl obl)
  (h:ZGf P N T n ZbB st ras bs na fn.results.toList=some (res,h1,obl)):Good P N S0 w0 (bodyPost P fn (ZaO S0 w0 h1 res)) ZbB st:=Zkt hT n ZbB st ras bs na obl h ho.all
def ZKa(P:Program)(N:Nat)(T:Tab)(n:Nat)(ZbB:List It)(st:St)(ras:List RA)(bs:List Bool)(na:NA)(gp:List Nat)(rs:List ResultVar):Option (V×List (Nat×B)×List Prop):=match runK P N T n ZbB st ras bs with
 |some (.code .ret :: _,st1,obl)=>match norm N na st1 with
  |some (st2,o2)=>match Zxz T st2 rs,ZEY st2 gp with
   |some v,some h=>some (v,h,obl++o2)
   |_,_=>none
  |none=>none
 |some ([],st1,obl)=>match norm N na st1 with
  |some (st2,o2)=>match Zxz T st2 rs,ZEY st2 gp with
   |some v,some h=>some (v,h,obl++o2)
   |_,_=>none
  |none=>none
 |_=>none
theorem ZdO{P:Program}{N:Nat}{T:Tab}{S0:Nat->Prop}{w0:ZaU}{fn:Func}{res:V}{h1:List (Nat×B)}(hT:ZxI P T)(n:Nat){ZbB:List It}{st:St}(ras:List RA)(bs:List Bool)(na:NA)(gp:List Nat){obl:List Prop}(ho:Obl obl)
  (h:ZKa P N T n ZbB st ras bs na gp fn.results.toList=some (res,h1,obl)):Good P N S0 w0 (bodyPost P fn (ZaO S0 w0 h1 res)) ZbB st:=by
 have ho:=ho.all;unfold ZKa at h;split at h
 .rename_i e1;split at h
  .rename_i st2 o2 h2;split at h
   .rename_i v hh h3 h4;cases h;exact Zmd hT ZaO.ends e1 (fun q hq=>Ziq ho q (List.mem_append.2 (.inl hq))) fun a w hs=>wp_ret (Zpp (Zvr hT.1 (hs.norm h2 fun q hq=>Ziq ho q (List.mem_append.2 (.inr hq))) h3 fun id b hb=>ZrH st2 h4 id b hb) _)
   .cases h
  .cases h
 .rename_i e1;split at h
  .rename_i st2 o2 h2;split at h
   .rename_i v hh h3 h4;cases h;exact Zmd hT ZaO.ends e1 (fun q hq=>Ziq ho q (List.mem_append.2 (.inl hq))) fun a w hs=>Zvr hT.1 (hs.norm h2 fun q hq=>Ziq ho q (List.mem_append.2 (.inr hq))) h3 fun id b hb=>ZrH st2 h4 id b hb
   .cases h
  .cases h
 .cases h
def nav:List Nat->Code->List It->Option (List It) | [],c,k=>some (.code c :: k)|0 :: l,.seq x y,k=>nav l x (.code y :: k)|_ :: l,.seq _ y,k=>nav l y k|_ :: l,.block id x,k=>nav l x (.endB id :: k)|0 :: l,.cond _ x _,k=>nav l x k|_ :: l,.cond _ _ y,k=>nav l y k|_ :: l,.loop x,k=>nav l x (.endL x :: k)|_,_,_=>none
def ZaM(fn:Func):Code:=fn.body.getD .skip
def at_(l:List Nat)(c:Code):List It:=(nav l c []).getD []
end Go.Proofs.YtmnloegcpaahcaaGreat
