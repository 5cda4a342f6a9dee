import Derived.Test.YtlpdogaifdeomaaGreatFAmS
namespace Go.Proofs.YtlpdogaifdeomaaGreat
open Go.RowKit
set_option linter.unusedSimpArgs false
set_option linter.unusedVariables false
def ZFW(P:Program)(T:Tab):Prop:=Zep P T/\P.follows .mixedOrders=true
def ZMp:List Nat->List Nat->List Nat
 | [],acc=>acc
 |k :: l,acc=>match memN k acc with
  |true=>ZMp l acc
  |false=>ZMp l (k :: acc)
def ZPZ:List Oper->List (List Nat)->List (List Nat) | [],acc=>acc|o :: r,acc=>ZPZ r (acc++[ZMp (Ztf o++(Ztf o).flatMap fun k=>acc.getD k []) []])
def ctOf(ops:Array Oper)(ra:RA):List (List Nat):=match ra.ct with
 | []=>ZPZ ops.toList []
 |c=>c
def ZRJ(o:Oper):Bool:=o.after.toList.any fun e=>match e.ground with
 | .gcOnly _=>true
 |_=>false
def ZMH(kn:List (Nat×Option Nat))(st:St):Operand->Option Nat
 | .tmp t=>match ZcL kn t with
  |some (some b)=>match Nat.beq b 99997 with
   |true=>none
   |false=>some b
  |some none=>none
  |none=>match st.get t with
   | .one (.ptr b _)=>some b
   | .one (.rp _ _ _)=>some 99998
   |_=>none
 |_=>none
def ZRL(kn:List (Nat×Option Nat))(st:St):Operand->Option Nat
 | .tmp t=>match ZcL kn t with
  |some (some b)=>match Nat.beq b 99997 with
   |true=>some 99998
   |false=>none
  |some none=>none
  |none=>match st.get t with
   | .one (.sl _ _ _)=>some 99998
   |_=>none
 |_=>none
def ZCQ(st:St):List Oper->List (Nat×Option Nat)->List (List Nat)
 | [],_=>[]
 |o :: r,kn=>match o.op with
  | .load _ x=>(match ZMH kn st x with
   |some b=>[b]
   |none=>[]) :: ZCQ st r ((o.dst.getD 0,some 99997) :: kn)
  | .store _ x _=>(match ZMH kn st x with
   |some b=>[b]
   |none=>[]) :: ZCQ st r ((o.dst.getD 0,none) :: kn)
  | .move x | .assign x=>[] :: ZCQ st r ((o.dst.getD 0,match ZMH kn st x with
   |some b=>some b
   |none=>match ZRL kn st x with
    |some _=>some 99997
    |none=>none) :: kn)
  | .alloc _ | .box _ _=>[] :: ZCQ st r ((o.dst.getD 0,some (o.dst.getD 0)) :: kn)
  | .indexAddr _ x _=>[] :: ZCQ st r ((o.dst.getD 0,match ZMH kn st x with
   |some b=>some b
   |none=>ZRL kn st x) :: kn)
  | .fieldAddr _ x _ | .nilCheck x=>[] :: ZCQ st r ((o.dst.getD 0,ZMH kn st x) :: kn)
  |_=>[] :: ZCQ st r ((o.dst.getD 0,none) :: kn)
def appOp(o:Oper):Bool:=match o.op with
 | .call { callee:=.builtin .append,.. }=>true
 |_=>false
def ctB(ops:Array Oper)(ra:RA)(st:St):List (List Nat):=match ops.toList.any ZRJ||ops.toList.any appOp,ra.hc with
 |false,[]=>ctOf ops ra
 |_,_=>ctOf ops ra++ZCQ st ops.toList []
def preFz(ra:RA)(st:St):Option (RA×St):=match ra.fz with
 | []=>some (ra,st)
 | [(0,ids)]=>match ZtN ids st with
  |some st'=>some ({ ra with fz:=[] },st')
  |none=>none
 |_=>none
theorem ZcM.preFz{N:Nat}{S0:Nat->Prop}{w0:ZeU}{st st':St}{a:Act}{w:World}{ra eW:RA}(h:ZcM N S0 w0 st a w)(he:Go.Proofs.YtlpdogaifdeomaaGreat.preFz ra st=some (eW,st')):ZcM N S0 w0 st' a w:=by
 unfold Go.Proofs.YtlpdogaifdeomaaGreat.preFz at he;split at he
 .cases he;exact h
 .split at he
  .rename_i hq;cases he;exact h.frozen hq
  .cases he
 .cases he
def ZNH(P:Program)(N:Nat)(T:Tab)(ZaJ:List It)(st:St)(ras:List RA)(bs:List Bool):Option (List It×St×List RA×List Bool×List Prop):=match ZaJ with
 | .code .skip :: k=>some (k,st,ras,bs,[])
 | .code (.seq x y) :: k=>some (.code x :: .code y :: k,st,ras,bs,[])
 | .code (.block id x) :: k=>some (.code x :: .endB id :: k,st,ras,bs,[])
 | .code (.loop x) :: k=>some (.code x :: .endL x :: k,st,ras,bs,[])
 | .code (.exit id) :: k=>match ZIy id k with
  |some k'=>some (k',st,ras,bs,[])
  |none=>none
 | .code (.cond c x y) :: k=>match evo st c,bs with
  | .one (.lit (.bool e)),b :: bs'=>some (.code (match b with|true=>x|false=>y) :: k,st,ras,bs',[e=b])
  |_,_=>none
 | .code (.region _ ops false) :: k=>match ras with
  |ra :: ras'=>match Zxg P N T ops ra 0 ops.toList st with
   |some (st',obl)=>some (k,st',ras',bs,obl)
   |none=>none
  | []=>none
 | .code (.region _ ops true) :: k=>match ras with
  |ra :: ras'=>match preFz ra st with
   |some (ra1,st0)=>match ZFB P N T ops ra1 (ctB ops ra1 st0) st0 with
    |some (st',obl)=>some (k,st',ras',bs,obl)
    |none=>none
   |none=>none
  | []=>none
 | .endB _ :: k=>some (k,st,ras,bs,[])
 | .endL x :: k=>some (.code (.loop x) :: k,st,ras,bs,[])
 |_=>none
def runK(P:Program)(N:Nat)(T:Tab):Nat->List It->St->List RA->List Bool->Option (List It×St×List Prop)
 | 0,ZaJ,st,_,_=>some (ZaJ,st,[])
 |n+1,ZaJ,st,ras,bs=>match ZNH P N T ZaJ st ras bs with
  |none=>none
  |some (it1,st1,ras1,bs1,o1)=>match runK P N T n it1 st1 ras1 bs1 with
   |none=>none
   |some (it2,st2,o2)=>some (it2,st2,o1++o2)
section
variable {P:Program} {N:Nat} {T:Tab} {S0:Nat->Prop} {w0:ZeU} {Q:Exit->Act->World->Prop}
theorem Zxb(hT:ZFW P T)(hE:Ends Q){ZaJ cY:List It}{st st':St}{ras ras':List RA}{bs bs':List Bool}{obl:List Prop}(h:ZNH P N T ZaJ st ras bs=some (cY,st',ras',bs',obl))(ho:∀q∈obl,q)(hk:Good P N S0 w0 Q cY st'):Good P N S0 w0 Q ZaJ st:=by
 unfold ZNH at h;split at h
 .cases h;exact ZLB hk
 .cases h;exact ZOX hk
 .cases h;exact ZIv hk
 .cases h;exact ZLD hE hk
 .split at h
  .rename_i hx;cases h;exact ZLE hx hk
  .cases h
 .split at h
  .rename_i e b bs1 hv;cases h;refine ZLH hv (ho _ List.mem_cons_self) ?_;cases b<;>exact hk
  .cases h
 .split at h
  .split at h
   .rename_i hr;cases h;exact ZEY hT.1 hr ho hk
   .cases h
  .cases h
 .split at h
  .split at h
   .rename_i hp;split at h
    .rename_i hr;cases h;exact fun a w hs=>ZQZ hT.1 hT.2 (hs.preFz hp) hr ho fun a' w' cW=>hk a' w' cW
    .cases h
   .cases h
  .cases h
 .cases h;exact ZLG hk
 .cases h;exact ZLF hk
 .cases h
theorem Zvg(hT:ZFW P T)(hE:Ends Q):∀{n:Nat}{ZaJ cY:List It}{st st':St}{ras:List RA}{bs:List Bool}{obl:List Prop},runK P N T n ZaJ st ras bs=some (cY,st',obl)->(∀q∈obl,q)->Good P N S0 w0 Q cY st'->Good P N S0 w0 Q ZaJ st
 | 0,ZaJ,cY,st,st',ras,bs,obl,h,ho,hk=>by cases h;exact hk
 |n+1,ZaJ,cY,st,st',ras,bs,obl,h,ho,hk=>by
  simp only[runK]at h
  split at h
  .cases h
  rename_i it1 st1 ras1 bs1 o1 h1
  split at h
  .cases h
  rename_i it2 st2 o2 h2
  cases h
  exact Zxb hT hE h1 (fun q hq=>ho q (List.mem_append.2 (.inl hq))) (Zvg hT hE h2 (fun q hq=>ho q (List.mem_append.2 (.inr hq))) hk)
theorem ZLC{ZaJ:List It}{na:NA}{st st':St}{obl:List Prop}(h:norm N na st=some (st',obl))(ho:∀q∈obl,q)(hk:Good P N S0 w0 Q ZaJ st'):Good P N S0 w0 Q ZaJ st:=fun a w hs=>hk a w (hs.norm h ho)
end
def Zsi:List Prop->Prop | []=>True|p :: l=>p/\Zsi l
theorem ZkJ:∀{l:List Prop},Zsi l->∀q∈l,q
 | [],_,q,h=>by cases h
 |p :: l,h,q,hq=>by
  rcases List.mem_cons.1 hq with rfl|hq
  .exact h.1
  .exact ZkJ h.2 q hq
inductive Obl:List Prop->Prop
 |n:Obl []
 |c {p:Prop} {l:List Prop} (h:p) (t:Obl l):Obl (p :: l)
theorem oi{α:Type}{a b:α}(h:some a=some b):a=b:=Option.some.inj h
theorem Obl.app:∀{l m:List Prop},Obl l->Obl m->Obl (l++m)
 |_,_,.n,k=>k
 |_,_,.c h t,k=>.c h (t.app k)
theorem Obl.all:∀{l:List Prop},Obl l->Zsi l
 |_,.n=>trivial
 |_,.c h t=>⟨h,t.all⟩
def ZJD(P:Program)(N:Nat)(T:Tab)(n:Nat)(ZaJ:List It)(st:St)(ras:List RA)(bs:List Bool)(na:NA)(rs:List ResultVar):Option (V×List (Nat×B)×List Prop):=match runK P N T n ZaJ st ras bs with
 |some (.code .ret :: _,st1,obl)=>match norm N na st1 with
  |some (st2,o2)=>match ZCs T st2 rs with
   |some v=>some (v,st2.heap,obl++o2)
   |none=>none
  |none=>none
 |some ([],st1,obl)=>match norm N na st1 with
  |some (st2,o2)=>match ZCs T st2 rs with
   |some v=>some (v,st2.heap,obl++o2)
   |none=>none
  |none=>none
 |_=>none
theorem Ziz{P:Program}{N:Nat}{T:Tab}{S0:Nat->Prop}{w0:ZeU}{fn:Func}{res:V}{h1:List (Nat×B)}(hT:ZFW P T)(n:Nat)(ZaJ:List It)(st:St)(ras:List RA)(bs:List Bool)(na:NA)(obl:List Prop)
  (h:ZJD P N T n ZaJ st ras bs na fn.results.toList=some (res,h1,obl)) (ho:Zsi obl):Good P N S0 w0 (bodyPost P fn (ZwI S0 w0 h1 res)) ZaJ st:=by
 unfold ZJD at h;split at h
 .rename_i e1;split at h
  .rename_i st2 o2 h2;split at h
   .rename_i v h3;cases h;exact Zvg hT ZwI.ends e1 (fun q hq=>ZkJ ho q (List.mem_append.2 (.inl hq))) fun a w hs=>wp_ret (ZqM (Zzg hT.1 (hs.norm h2 fun q hq=>ZkJ ho q (List.mem_append.2 (.inr hq))) h3 fun _ _ e=>e) _)
   .cases h
  .cases h
 .rename_i e1;split at h
  .rename_i st2 o2 h2;split at h
   .rename_i v h3;cases h;exact Zvg hT ZwI.ends e1 (fun q hq=>ZkJ ho q (List.mem_append.2 (.inl hq))) fun a w hs=>Zzg hT.1 (hs.norm h2 fun q hq=>ZkJ ho q (List.mem_append.2 (.inr hq))) h3 fun _ _ e=>e
   .cases h
  .cases h
 .cases h
theorem Zur{P:Program}{N:Nat}{T:Tab}{S0:Nat->Prop}{w0:ZeU}{fn:Func}{res:V}{h1:List (Nat×B)}(hT:ZFW P T)(n:Nat){ZaJ:List It}{st:St}(ras:List RA)(bs:List Bool)(na:NA){obl:List Prop}(ho:Obl obl)
  (h:ZJD P N T n ZaJ st ras bs na fn.results.toList=some (res,h1,obl)):Good P N S0 w0 (bodyPost P fn (ZwI S0 w0 h1 res)) ZaJ st:=Ziz hT n ZaJ st ras bs na obl h ho.all
def nav:List Nat->Code->List It->Option (List It) | [],c,k=>some (.code c :: k)|0 :: l,.seq x y,k=>nav l x (.code y :: k)|_ :: l,.seq _ y,k=>nav l y k|_ :: l,.block id x,k=>nav l x (.endB id :: k)|0 :: l,.cond _ x _,k=>nav l x k|_ :: l,.cond _ _ y,k=>nav l y k|_ :: l,.loop x,k=>nav l x (.endL x :: k)|_,_,_=>none
def ZxZ(fn:Func):Code:=fn.body.getD .skip
def at_(l:List Nat)(c:Code):List It:=(nav l c []).getD []
end Go.Proofs.YtlpdogaifdeomaaGreat
