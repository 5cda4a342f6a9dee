import Derived.Test.YtlpdogaifdeomaaGreatEAmS
namespace Go.Proofs.YtlpdogaifdeomaaGreat
open Go.RowKit
set_option linter.unusedSimpArgs false
set_option linter.unusedVariables false
def ZCp(P:Program)(T:Tab):Prop:=Zea P T/\P.follows .mixedOrders=true
def ZIu:List Nat->List Nat->List Nat
 | [],acc=>acc
 |k :: l,acc=>match memN k acc with
  |true=>ZIu l acc
  |false=>ZIu l (k :: acc)
def ZMh:List Oper->List (List Nat)->List (List Nat) | [],acc=>acc|o :: r,acc=>ZMh r (acc++[ZIu (ZrP o++(ZrP o).flatMap fun k=>acc.getD k []) []])
def ctOf(ops:Array Oper)(ra:RA):List (List Nat):=match ra.ct with
 | []=>ZMh ops.toList []
 |c=>c
def ZNU(o:Oper):Bool:=o.after.toList.any fun e=>match e.ground with
 | .gcOnly _=>true
 |_=>false
def ZIL(kn:List (Nat×Option Nat))(st:St):Operand->Option Nat
 | .tmp t=>match ZcH kn t with
  |some (some b)=>match Nat.beq b 99997 with
   |true=>none
   |false=>some b
  |some none=>none
  |none=>match st.get t with
   | .one (.ptr b _)=>some b
   | .one (.rp _ _ _)=>some 99998
   |_=>none
 |_=>none
def ZNW(kn:List (Nat×Option Nat))(st:St):Operand->Option Nat
 | .tmp t=>match ZcH kn t with
  |some (some b)=>match Nat.beq b 99997 with
   |true=>some 99998
   |false=>none
  |some none=>none
  |none=>match st.get t with
   | .one (.sl _ _ _)=>some 99998
   |_=>none
 |_=>none
def ZzR(st:St):List Oper->List (Nat×Option Nat)->List (List Nat)
 | [],_=>[]
 |o :: r,kn=>match o.op with
  | .load _ x=>(match ZIL kn st x with
   |some b=>[b]
   |none=>[]) :: ZzR st r ((o.dst.getD 0,some 99997) :: kn)
  | .store _ x _=>(match ZIL kn st x with
   |some b=>[b]
   |none=>[]) :: ZzR st r ((o.dst.getD 0,none) :: kn)
  | .move x | .assign x=>[] :: ZzR st r ((o.dst.getD 0,match ZIL kn st x with
   |some b=>some b
   |none=>match ZNW kn st x with
    |some _=>some 99997
    |none=>none) :: kn)
  | .alloc _ | .box _ _=>[] :: ZzR st r ((o.dst.getD 0,some (o.dst.getD 0)) :: kn)
  | .indexAddr _ x _=>[] :: ZzR st r ((o.dst.getD 0,match ZIL kn st x with
   |some b=>some b
   |none=>ZNW kn st x) :: kn)
  | .fieldAddr _ x _ | .nilCheck x=>[] :: ZzR st r ((o.dst.getD 0,ZIL kn st x) :: kn)
  |_=>[] :: ZzR st r ((o.dst.getD 0,none) :: kn)
def appOp(o:Oper):Bool:=match o.op with
 | .call { callee:=.builtin .append,.. }=>true
 |_=>false
def ctB(ops:Array Oper)(ra:RA)(st:St):List (List Nat):=match ops.toList.any ZNU||ops.toList.any appOp,ra.hc with
 |false,[]=>ctOf ops ra
 |_,_=>ctOf ops ra++ZzR st ops.toList []
def preFz(ra:RA)(st:St):Option (RA×St):=match ra.fz with
 | []=>some (ra,st)
 | [(0,ids)]=>match Zsx ids st with
  |some st'=>some ({ ra with fz:=[] },st')
  |none=>none
 |_=>none
theorem ZcI.preFz{N:Nat}{S0:Nat->Prop}{w0:ZeB}{st st':St}{a:Act}{w:World}{ra eV:RA}(h:ZcI N S0 w0 st a w)(he:Go.Proofs.YtlpdogaifdeomaaGreat.preFz ra st=some (eV,st')):ZcI N S0 w0 st' a w:=by
 unfold Go.Proofs.YtlpdogaifdeomaaGreat.preFz at he;split at he
 .cases he;exact h
 .split at he
  .rename_i hq;cases he;exact h.frozen hq
  .cases he
 .cases he
def ZJN(P:Program)(N:Nat)(T:Tab)(ZaK:List It)(st:St)(ras:List RA)(bs:List Bool):Option (List It×St×List RA×List Bool×List Prop):=match ZaK with
 | .code .skip :: k=>some (k,st,ras,bs,[])
 | .code (.seq x y) :: k=>some (.code x :: .code y :: k,st,ras,bs,[])
 | .code (.block id x) :: k=>some (.code x :: .endB id :: k,st,ras,bs,[])
 | .code (.loop x) :: k=>some (.code x :: .endL x :: k,st,ras,bs,[])
 | .code (.exit id) :: k=>match ZEL id k with
  |some k'=>some (k',st,ras,bs,[])
  |none=>none
 | .code (.cond c x y) :: k=>match evo st c,bs with
  | .one (.lit (.bool e)),b :: bs'=>some (.code (match b with|true=>x|false=>y) :: k,st,ras,bs',[e=b])
  |_,_=>none
 | .code (.region _ ops false) :: k=>match ras with
  |ra :: ras'=>match ZvG P N T ops ra 0 ops.toList st with
   |some (st',obl)=>some (k,st',ras',bs,obl)
   |none=>none
  | []=>none
 | .code (.region _ ops true) :: k=>match ras with
  |ra :: ras'=>match preFz ra st with
   |some (ra1,st0)=>match ZBT P N T ops ra1 (ctB ops ra1 st0) st0 with
    |some (st',obl)=>some (k,st',ras',bs,obl)
    |none=>none
   |none=>none
  | []=>none
 | .endB _ :: k=>some (k,st,ras,bs,[])
 | .endL x :: k=>some (.code (.loop x) :: k,st,ras,bs,[])
 |_=>none
def runK(P:Program)(N:Nat)(T:Tab):Nat->List It->St->List RA->List Bool->Option (List It×St×List Prop)
 | 0,ZaK,st,_,_=>some (ZaK,st,[])
 |n+1,ZaK,st,ras,bs=>match ZJN P N T ZaK st ras bs with
  |none=>none
  |some (it1,st1,ras1,bs1,o1)=>match runK P N T n it1 st1 ras1 bs1 with
   |none=>none
   |some (it2,st2,o2)=>some (it2,st2,o1++o2)
section
variable {P:Program} {N:Nat} {T:Tab} {S0:Nat->Prop} {w0:ZeB} {Q:Exit->Act->World->Prop}
theorem ZvB(hT:ZCp P T)(hE:Ends Q){ZaK cW:List It}{st st':St}{ras ras':List RA}{bs bs':List Bool}{obl:List Prop}(h:ZJN P N T ZaK st ras bs=some (cW,st',ras',bs',obl))(ho:∀q∈obl,q)(hk:Good P N S0 w0 Q cW st'):Good P N S0 w0 Q ZaK st:=by
 unfold ZJN at h;split at h
 .cases h;exact ZHI hk
 .cases h;exact ZLe hk
 .cases h;exact ZEJ hk
 .cases h;exact ZHK hE hk
 .split at h
  .rename_i hx;cases h;exact ZHL hx hk
  .cases h
 .split at h
  .rename_i e b bs1 hv;cases h;refine ZHO hv (ho _ List.mem_cons_self) ?_;cases b<;>exact hk
  .cases h
 .split at h
  .split at h
   .rename_i hr;cases h;exact ZBr hT.1 hr ho hk
   .cases h
  .cases h
 .split at h
  .split at h
   .rename_i hp;split at h
    .rename_i hr;cases h;exact fun a w hs=>ZNk hT.1 hT.2 (hs.preFz hp) hr ho fun a' w' dq=>hk a' w' dq
    .cases h
   .cases h
  .cases h
 .cases h;exact ZHN hk
 .cases h;exact ZHM hk
 .cases h
theorem ZtJ(hT:ZCp P T)(hE:Ends Q):∀{n:Nat}{ZaK cW:List It}{st st':St}{ras:List RA}{bs:List Bool}{obl:List Prop},runK P N T n ZaK st ras bs=some (cW,st',obl)->(∀q∈obl,q)->Good P N S0 w0 Q cW st'->Good P N S0 w0 Q ZaK st
 | 0,ZaK,cW,st,st',ras,bs,obl,h,ho,hk=>by cases h;exact hk
 |n+1,ZaK,cW,st,st',ras,bs,obl,h,ho,hk=>by
  simp only[runK]at h
  split at h
  .cases h
  rename_i it1 st1 ras1 bs1 o1 h1
  split at h
  .cases h
  rename_i it2 st2 o2 h2
  cases h
  exact ZvB hT hE h1 (fun q hq=>ho q (List.mem_append.2 (.inl hq))) (ZtJ hT hE h2 (fun q hq=>ho q (List.mem_append.2 (.inr hq))) hk)
theorem ZHJ{ZaK:List It}{na:NA}{st st':St}{obl:List Prop}(h:norm N na st=some (st',obl))(ho:∀q∈obl,q)(hk:Good P N S0 w0 Q ZaK st'):Good P N S0 w0 Q ZaK st:=fun a w hs=>hk a w (hs.norm h ho)
end
def ZqK:List Prop->Prop | []=>True|p :: l=>p/\ZqK l
theorem ZjZ:∀{l:List Prop},ZqK l->∀q∈l,q
 | [],_,q,h=>by cases h
 |p :: l,h,q,hq=>by
  rcases List.mem_cons.1 hq with rfl|hq
  .exact h.1
  .exact ZjZ h.2 q hq
inductive Obl:List Prop->Prop
 |n:Obl []
 |c {p:Prop} {l:List Prop} (h:p) (t:Obl l):Obl (p :: l)
theorem oi{α:Type}{a b:α}(h:some a=some b):a=b:=Option.some.inj h
theorem Obl.app:∀{l m:List Prop},Obl l->Obl m->Obl (l++m)
 |_,_,.n,k=>k
 |_,_,.c h t,k=>.c h (t.app k)
theorem Obl.all:∀{l:List Prop},Obl l->ZqK l
 |_,.n=>trivial
 |_,.c h t=>⟨h,t.all⟩
def ZFP(P:Program)(N:Nat)(T:Tab)(n:Nat)(ZaK:List It)(st:St)(ras:List RA)(bs:List Bool)(na:NA)(rs:List ResultVar):Option (V×List (Nat×B)×List Prop):=match runK P N T n ZaK st ras bs with
 |some (.code .ret :: _,st1,obl)=>match norm N na st1 with
  |some (st2,o2)=>match Zzt T st2 rs with
   |some v=>some (v,st2.heap,obl++o2)
   |none=>none
  |none=>none
 |some ([],st1,obl)=>match norm N na st1 with
  |some (st2,o2)=>match Zzt T st2 rs with
   |some v=>some (v,st2.heap,obl++o2)
   |none=>none
  |none=>none
 |_=>none
theorem ZhH{P:Program}{N:Nat}{T:Tab}{S0:Nat->Prop}{w0:ZeB}{fn:Func}{res:V}{h1:List (Nat×B)}(hT:ZCp P T)(n:Nat)(ZaK:List It)(st:St)(ras:List RA)(bs:List Bool)(na:NA)(obl:List Prop)
  (h:ZFP P N T n ZaK st ras bs na fn.results.toList=some (res,h1,obl)) (ho:ZqK obl):Good P N S0 w0 (bodyPost P fn (Zvj S0 w0 h1 res)) ZaK st:=by
 unfold ZFP at h;split at h
 .rename_i e1;split at h
  .rename_i st2 o2 h2;split at h
   .rename_i v h3;cases h;exact ZtJ hT Zvj.ends e1 (fun q hq=>ZjZ ho q (List.mem_append.2 (.inl hq))) fun a w hs=>wp_ret (Zpn (Zxi hT.1 (hs.norm h2 fun q hq=>ZjZ ho q (List.mem_append.2 (.inr hq))) h3 fun _ _ e=>e) _)
   .cases h
  .cases h
 .rename_i e1;split at h
  .rename_i st2 o2 h2;split at h
   .rename_i v h3;cases h;exact ZtJ hT Zvj.ends e1 (fun q hq=>ZjZ ho q (List.mem_append.2 (.inl hq))) fun a w hs=>Zxi hT.1 (hs.norm h2 fun q hq=>ZjZ ho q (List.mem_append.2 (.inr hq))) h3 fun _ _ e=>e
   .cases h
  .cases h
 .cases h
theorem Zta{P:Program}{N:Nat}{T:Tab}{S0:Nat->Prop}{w0:ZeB}{fn:Func}{res:V}{h1:List (Nat×B)}(hT:ZCp P T)(n:Nat){ZaK:List It}{st:St}(ras:List RA)(bs:List Bool)(na:NA){obl:List Prop}(ho:Obl obl)
  (h:ZFP P N T n ZaK st ras bs na fn.results.toList=some (res,h1,obl)):Good P N S0 w0 (bodyPost P fn (Zvj S0 w0 h1 res)) ZaK st:=ZhH hT n ZaK st ras bs na obl h ho.all
def nav:List Nat->Code->List It->Option (List It) | [],c,k=>some (.code c :: k)|0 :: l,.seq x y,k=>nav l x (.code y :: k)|_ :: l,.seq _ y,k=>nav l y k|_ :: l,.block id x,k=>nav l x (.endB id :: k)|0 :: l,.cond _ x _,k=>nav l x k|_ :: l,.cond _ _ y,k=>nav l y k|_ :: l,.loop x,k=>nav l x (.endL x :: k)|_,_,_=>none
def Zwr(fn:Func):Code:=fn.body.getD .skip
def at_(l:List Nat)(c:Code):List It:=(nav l c []).getD []
end Go.Proofs.YtlpdogaifdeomaaGreat
