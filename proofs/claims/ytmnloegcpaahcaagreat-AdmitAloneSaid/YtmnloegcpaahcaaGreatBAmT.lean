import Derived.Test.YtmnloegcpaahcaaGreatBAmS
namespace Go.Proofs.YtmnloegcpaahcaaGreat
open Go.RowKit
set_option linter.unusedSimpArgs false
set_option linter.unusedVariables false
def Zrr(P:Program)(T:Tab):Prop:=Zec P T/\P.follows .mixedOrders=true
def ZHk:List Nat->List Nat->List Nat
 | [],acc=>acc
 |k :: l,acc=>match memN k acc with
  |true=>ZHk l acc
  |false=>ZHk l (k :: acc)
def ZJE:List Oper->List (List Nat)->List (List Nat) | [],acc=>acc|o :: r,acc=>ZJE r (acc++[ZHk (ZmY o++(ZmY o).flatMap fun k=>acc.getD k []) []])
def ctOf(ops:Array Oper)(ra:RA):List (List Nat):=match ra.ct with
 | []=>ZJE ops.toList []
 |c=>c
def ZLl(o:Oper):Bool:=o.after.toList.any fun e=>match e.ground with
 | .gcOnly _=>true
 |_=>false
def ZHA(kn:List (Nat×Option Nat))(st:St):Operand->Option Nat
 | .tmp t=>match Zdb kn t with
  |some (some b)=>match Nat.beq b 99997 with
   |true=>none
   |false=>some b
  |some none=>none
  |none=>match st.get t with
   | .one (.ptr b _)=>some b
   | .one (.rp _ _ _)=>some 99998
   |_=>none
 |_=>none
def ZLm(kn:List (Nat×Option Nat))(st:St):Operand->Option Nat
 | .tmp t=>match Zdb kn t with
  |some (some b)=>match Nat.beq b 99997 with
   |true=>some 99998
   |false=>none
  |some none=>none
  |none=>match st.get t with
   | .one (.sl _ _ _)=>some 99998
   |_=>none
 |_=>none
def ZAI(st:St):List Oper->List (Nat×Option Nat)->List (List Nat)
 | [],_=>[]
 |o :: r,kn=>match o.op with
  | .load _ x=>(match ZHA kn st x with
   |some b=>[b]
   |none=>[]) :: ZAI st r ((o.dst.getD 0,some 99997) :: kn)
  | .store _ x _=>(match ZHA kn st x with
   |some b=>[b]
   |none=>[]) :: ZAI st r ((o.dst.getD 0,none) :: kn)
  | .move x | .assign x=>[] :: ZAI st r ((o.dst.getD 0,match ZHA kn st x with
   |some b=>some b
   |none=>match ZLm kn st x with
    |some _=>some 99997
    |none=>none) :: kn)
  | .alloc _ | .box _ _=>[] :: ZAI st r ((o.dst.getD 0,some (o.dst.getD 0)) :: kn)
  | .indexAddr _ x _=>[] :: ZAI st r ((o.dst.getD 0,match ZHA kn st x with
   |some b=>some b
   |none=>ZLm kn st x) :: kn)
  | .fieldAddr _ x _=>[] :: ZAI st r ((o.dst.getD 0,ZHA kn st x) :: kn)
  |_=>[] :: ZAI st r ((o.dst.getD 0,none) :: kn)
def ctB(ops:Array Oper)(ra:RA)(st:St):List (List Nat):=match ops.toList.any ZLl,ra.hc with
 |false,[]=>ctOf ops ra
 |_,_=>ctOf ops ra++ZAI st ops.toList []
def ZKZ(ra:RA)(st:St):Option (RA×St):=match ra.fz with
 | []=>some (ra,st)
 | [(0,ids)]=>match ZtB ids st with
  |some st'=>some ({ ra with fz:=[] },st')
  |none=>none
 |_=>none
theorem Zct.preFz{N:Nat}{S0:Nat->Prop}{w0:ZaW}{st st':St}{a:Act}{w:World}{ra d8:RA}(h:Zct N S0 w0 st a w)(he:Go.Proofs.YtmnloegcpaahcaaGreat.ZKZ ra st=some (d8,st')):Zct N S0 w0 st' a w:=by
 unfold Go.Proofs.YtmnloegcpaahcaaGreat.ZKZ at he;split at he
 .cases he;exact h
 .split at he
  .rename_i hq;cases he;exact h.frozen hq
  .cases he
 .cases he
def ZJP(P:Program)(N:Nat)(T:Tab)(ZbE:List It)(st:St)(ras:List RA)(bs:List Bool):Option (List It×St×List RA×List Bool×List Prop):=match ZbE with
 | .code .skip :: k=>some (k,st,ras,bs,[])
 | .code (.seq x y) :: k=>some (.code x :: .code y :: k,st,ras,bs,[])
 | .code (.block id x) :: k=>some (.code x :: .endB id :: k,st,ras,bs,[])
 | .code (.loop x) :: k=>some (.code x :: .endL x :: k,st,ras,bs,[])
 | .code (.exit id) :: k=>match ZEX id k with
  |some k'=>some (k',st,ras,bs,[])
  |none=>none
 | .code (.cond c x y) :: k=>match evo st c,bs with
  | .one (.lit (.bool e)),b :: bs'=>some (.code (match b with|true=>x|false=>y) :: k,st,ras,bs',[e=b])
  |_,_=>none
 | .code (.region _ ops false) :: k=>match ras with
  |ra :: ras'=>match Zme P N T ops ra 0 ops.toList st with
   |some (st',obl)=>some (k,st',ras',bs,obl)
   |none=>none
  | []=>none
 | .code (.region _ ops true) :: k=>match ras with
  |ra :: ras'=>match ZKZ ra st with
   |some (ra1,st0)=>match ZCk P N T ops ra1 (ctB ops ra1 st0) st0 with
    |some (st',obl)=>some (k,st',ras',bs,obl)
    |none=>none
   |none=>none
  | []=>none
 | .endB _ :: k=>some (k,st,ras,bs,[])
 | .endL x :: k=>some (.code (.loop x) :: k,st,ras,bs,[])
 |_=>none
def runK(P:Program)(N:Nat)(T:Tab):Nat->List It->St->List RA->List Bool->Option (List It×St×List Prop)
 | 0,ZbE,st,_,_=>some (ZbE,st,[])
 |n+1,ZbE,st,ras,bs=>match ZJP P N T ZbE st ras bs with
  |none=>none
  |some (it1,st1,ras1,bs1,o1)=>match runK P N T n it1 st1 ras1 bs1 with
   |none=>none
   |some (it2,st2,o2)=>some (it2,st2,o1++o2)
section
variable {P:Program} {N:Nat} {T:Tab} {S0:Nat->Prop} {w0:ZaW} {Q:Exit->Act->World->Prop}
theorem ZEl(hT:Zrr P T)(hE:Ends Q){ZbE eC:List It}{st st':St}{ras ras':List RA}{bs bs':List Bool}{obl:List Prop}(h:ZJP P N T ZbE st ras bs=some (eC,st',ras',bs',obl))(ho:∀q∈obl,q)(hk:Good P N S0 w0 Q eC st'):Good P N S0 w0 Q ZbE st:=by
 unfold ZJP at h;split at h
 .cases h;exact ZGK hk
 .cases h;exact Zyx hk
 .cases h;exact ZEU hk
 .cases h;exact ZGM hE hk
 .split at h
  .rename_i hx;cases h;exact ZGN hx hk
  .cases h
 .split at h
  .rename_i e b bs1 hv;cases h;refine ZGQ hv (ho _ List.mem_cons_self) ?_;cases b<;>exact hk
  .cases h
 .split at h
  .split at h
   .rename_i hr;cases h;exact Zvz hT.1 hr ho hk
   .cases h
  .cases h
 .split at h
  .split at h
   .rename_i hp;split at h
    .rename_i hr;cases h;exact fun a w hs=>ZKx hT.1 hT.2 (hs.preFz hp) hr ho fun a' w' bO=>hk a' w' bO
    .cases h
   .cases h
  .cases h
 .cases h;exact ZGP hk
 .cases h;exact ZGO hk
 .cases h
theorem Zjz(hT:Zrr P T)(hE:Ends Q):∀{n:Nat}{ZbE eC:List It}{st st':St}{ras:List RA}{bs:List Bool}{obl:List Prop},runK P N T n ZbE st ras bs=some (eC,st',obl)->(∀q∈obl,q)->Good P N S0 w0 Q eC st'->Good P N S0 w0 Q ZbE st
 | 0,ZbE,eC,st,st',ras,bs,obl,h,ho,hk=>by cases h;exact hk
 |n+1,ZbE,eC,st,st',ras,bs,obl,h,ho,hk=>by
  simp only[runK]at h
  split at h
  .cases h
  rename_i it1 st1 ras1 bs1 o1 h1
  split at h
  .cases h
  rename_i it2 st2 o2 h2
  cases h
  exact ZEl hT hE h1 (fun q hq=>ho q (List.mem_append.2 (.inl hq))) (Zjz hT hE h2 (fun q hq=>ho q (List.mem_append.2 (.inr hq))) hk)
theorem ZGL{ZbE:List It}{na:NA}{st st':St}{obl:List Prop}(h:norm N na st=some (st',obl))(ho:∀q∈obl,q)(hk:Good P N S0 w0 Q ZbE st'):Good P N S0 w0 Q ZbE st:=fun a w hs=>hk a w (hs.norm h ho)
end
def ZFm:List Prop->Prop | []=>True|p :: l=>p/\ZFm l
theorem ZdB:∀{l:List Prop},ZFm l->∀q∈l,q
 | [],_,q,h=>by cases h
 |p :: l,h,q,hq=>by
  rcases List.mem_cons.1 hq with rfl|hq
  .exact h.1
  .exact ZdB h.2 q hq
inductive Obl:List Prop->Prop
 |n:Obl []
 |c {p:Prop} {l:List Prop} (h:p) (t:Obl l):Obl (p :: l)
theorem oi{α:Type}{a b:α}(h:some a=some b):a=b:=Option.some.inj h
theorem Obl.app:∀{l m:List Prop},Obl l->Obl m->Obl (l++m)
 |_,_,.n,k=>k
 |_,_,.c h t,k=>.c h (t.app k)
theorem Obl.all:∀{l:List Prop},Obl l->ZFm l
 |_,.n=>trivial
 |_,.c h t=>⟨h,t.all⟩
def toK(P:Program)(N:Nat)(T:Tab)(n:Nat)(ZbE:List It)(st:St)(ras:List RA)(bs:List Bool)(na:NA):Option (List It×St×List Prop):=match runK P N T n ZbE st ras bs with
 |some (it,st1,obl)=>match norm N na st1 with
  |some (st2,o2)=>some (it,st2,obl++o2)
  |none=>none
 |none=>none
theorem ZHZ{P:Program}{N:Nat}{T:Tab}{S0:Nat->Prop}{w0:ZaW}{Q:Exit->Act->World->Prop}(hT:Zrr P T)(hE:Ends Q)(n:Nat)(ZbE eC:List It)(st st':St)(ras:List RA)(bs:List Bool)(na:NA)(obl:List Prop)
  (h:toK P N T n ZbE st ras bs na=some (eC,st',obl)) (ho:ZFm obl) (hk:Good P N S0 w0 Q eC st'):Good P N S0 w0 Q ZbE st:=by
 unfold toK at h;split at h
 .rename_i it st1 o h1;split at h
  .rename_i st2 o2 h2;cases h;exact Zjz hT hE h1 (fun q hq=>ZdB ho q (List.mem_append.2 (.inl hq))) (ZGL h2 (fun q hq=>ZdB ho q (List.mem_append.2 (.inr hq))) hk)
  .cases h
 .cases h
def ZJN(P:Program)(N:Nat)(T:Tab)(n:Nat)(ZbE:List It)(st:St)(ras:List RA)(bs:List Bool)(fz:List Nat)(dh dn:List (Nat×List (Nat×C)))(rs:List ResultVar):Option (V×List Prop):=match runK P N T n ZbE st ras bs with
 |some (.code .ret :: _,st1,obl)=>match tidy N fz dh dn st1 with
  |some st2=>match ZrV T st2 rs with
   |some v=>some (v,obl)
   |none=>none
  |none=>none
 |some ([],st1,obl)=>match tidy N fz dh dn st1 with
  |some st2=>match ZrV T st2 rs with
   |some v=>some (v,obl)
   |none=>none
  |none=>none
 |_=>none
theorem ZEi{P:Program}{N:Nat}{T:Tab}{S0:Nat->Prop}{w0:ZaW}{fn:Func}{res:V}(hT:Zrr P T)(n:Nat)(ZbE:List It)(st:St)(ras:List RA)(bs:List Bool)(fz:List Nat)(dh dn:List (Nat×List (Nat×C)))(obl:List Prop)
  (h:ZJN P N T n ZbE st ras bs fz dh dn fn.results.toList=some (res,obl)) (hp:res.pure=true) (ho:ZFm obl):Good P N S0 w0 (bodyPost P fn (Post S0 w0 res)) ZbE st:=by
 unfold ZJN at h;split at h
 .rename_i h1;split at h
  .rename_i st2 h2;split at h
   .rename_i v h3;cases h;exact Zjz hT Post.ends h1 (ZdB ho) fun a w hs=>wp_ret (ZoR (ZBs hT.1 (hs.tidied h2) h3 hp) _)
   .cases h
  .cases h
 .rename_i h1;split at h
  .rename_i st2 h2;split at h
   .rename_i v h3;cases h;exact Zjz hT Post.ends h1 (ZdB ho) fun a w hs=>ZBs hT.1 (hs.tidied h2) h3 hp
   .cases h
  .cases h
 .cases h
def ZFF(P:Program)(N:Nat)(T:Tab)(n:Nat)(ZbE:List It)(st:St)(ras:List RA)(bs:List Bool)(na:NA)(rs:List ResultVar):Option (V×List (Nat×B)×List Prop):=match runK P N T n ZbE st ras bs with
 |some (.code .ret :: _,st1,obl)=>match norm N na st1 with
  |some (st2,o2)=>match ZrV T st2 rs with
   |some v=>some (v,st2.heap,obl++o2)
   |none=>none
  |none=>none
 |some ([],st1,obl)=>match norm N na st1 with
  |some (st2,o2)=>match ZrV T st2 rs with
   |some v=>some (v,st2.heap,obl++o2)
   |none=>none
  |none=>none
 |_=>none
theorem ZrJ{P:Program}{N:Nat}{T:Tab}{S0:Nat->Prop}{w0:ZaW}{fn:Func}{res:V}{h1:List (Nat×B)}(hT:Zrr P T)(n:Nat)(ZbE:List It)(st:St)(ras:List RA)(bs:List Bool)(na:NA)(obl:List Prop)
  (h:ZFF P N T n ZbE st ras bs na fn.results.toList=some (res,h1,obl)) (ho:ZFm obl):Good P N S0 w0 (bodyPost P fn (ZaP S0 w0 h1 res)) ZbE st:=by
 unfold ZFF at h;split at h
 .rename_i e1;split at h
  .rename_i st2 o2 h2;split at h
   .rename_i v h3;cases h;exact Zjz hT ZaP.ends e1 (fun q hq=>ZdB ho q (List.mem_append.2 (.inl hq))) fun a w hs=>wp_ret (ZoR (Zuu hT.1 (hs.norm h2 fun q hq=>ZdB ho q (List.mem_append.2 (.inr hq))) h3 fun _ _ e=>e) _)
   .cases h
  .cases h
 .rename_i e1;split at h
  .rename_i st2 o2 h2;split at h
   .rename_i v h3;cases h;exact Zjz hT ZaP.ends e1 (fun q hq=>ZdB ho q (List.mem_append.2 (.inl hq))) fun a w hs=>Zuu hT.1 (hs.norm h2 fun q hq=>ZdB ho q (List.mem_append.2 (.inr hq))) h3 fun _ _ e=>e
   .cases h
  .cases h
 .cases h
inductive Outc where
 |ret (h1:List (Nat×B)) (res:V)
 |pan (pv:V)
def ZwQ(S0:Nat->Prop)(w0:ZaW)(pv:V):Ending->World->Prop:=fun e w'=>∃x S',e=.panicked [{ v:=x,recovered:=false }]/\Goes w0.F.no S0 S' w0.w w'/\(∀b,S' b->b<w'.heap.size)/\RepV S' w' ZcV pv x
def ZnE(S0:Nat->Prop)(w0:ZaW):Outc->Ending->World->Prop | .ret h1 res=>ZaP S0 w0 h1 res | .pan pv=>ZwQ S0 w0 pv
theorem ZwQ.ends{P:Program}{fn:Func}{S0:Nat->Prop}{w0:ZaW}{pv:V}:Ends (bodyPost P fn (ZwQ S0 w0 pv)):=by
 refine⟨fun a w h=>?_,fun l a w h=>h⟩;obtain⟨x,S',h,_⟩:=h;cases h
theorem ZnE.ends{P:Program}{fn:Func}{S0:Nat->Prop}{w0:ZaW}{o:Outc}:Ends (bodyPost P fn (ZnE S0 w0 o)):=by
 cases o with
 |ret h1 res=>exact ZaP.ends
 |pan pv=>exact ZwQ.ends
def Zio(P:Program)(f:FuncId)(h0:List (Nat×B))(args:List V):Outc->Prop | .ret h1 res=>ZcC P f h0 args h1 res | .pan pv=>ZFn P f h0 args pv
theorem ZFn.of {P : Program} {f : FuncId} {fn : Func} {c : Code} {N : Nat} {h0 : List (Nat × B)} {args : List V} {pv : V} (hf : P.funcs[f]? = some fn) (hb : fn.body = some c) (hn : (fn.name == "runtime.NumGoroutine") = false) (hN : fn.ntmps = N) (hl : Nat.ble args.length N = true)
  (h:∀S0 w0,Good P N S0 w0 (bodyPost P fn (ZwQ S0 w0 pv)) [.code c] (St.initH args h0)):ZFn P f h0 args pv:=by
 refine⟨⟨fn,hf,hn,by rw[hb];rfl⟩,fun no S m w vs hS bh hrep a6=>?_⟩;have hle:=Nat.le_of_ble_eq_true hl;have hget:∀t,(St.initH args h0).get t=args.getD t (.one .junk):=fun t=>St.get_init args t;have hsh:Zct N S ⟨w,no,m⟩ (St.initH args h0) { tmps:=vs.toArray++Array.replicate (fn.ntmps-vs.toArray.size) undef,defers:=[] } w:=by
  refine⟨S,m,⟨by simp;have:=a6.1;omega,fun t=>?_,fun t ht=>?_,hrep.rep,hrep.own,hrep.inj,hS,rfl,bh,fun _ _=>rfl,rfl,hrep.lno⟩,Goes.refl _ _ _⟩
  .rw[hget];by_cases ht:t<args.length
   .have hv:args[t]?=some (args.getD t (.one .junk)):=by simp[List.getD_eq_getElem?_getD,ht]
    obtain⟨x,h1,h2⟩:=a6.2 t _ hv;have:(vs.toArray++Array.replicate (fn.ntmps-vs.toArray.size) undef).getD t undef=x:=by
     have hlt:t<vs.length:=by rw[a6.1];exact ht
     rw[Array.getD_eq_getD_getElem?,Array.getElem?_append_left (by simpa using hlt)];simp[h1]
    rw[this];exact h2
   .have:args.getD t (.one .junk)=.one .junk:=by simp[List.getD_eq_getElem?_getD,show ¬t<args.length from ht]
    rw[this];exact RepC.junk
  .rw[hget];simp[List.getD_eq_getElem?_getD,show ¬t<args.length by omega]
 exact calls_of_wp hf hb (h S ⟨w,no,m⟩ _ w hsh)
theorem Zio.of {P : Program} {f : FuncId} {fn : Func} {c : Code} {N : Nat} {h0 : List (Nat × B)} {args : List V} {o : Outc} (hf : P.funcs[f]? = some fn) (hb : fn.body = some c) (hn : (fn.name == "runtime.NumGoroutine") = false) (hN : fn.ntmps = N) (hl : Nat.ble args.length N = true)
  (h:∀S0 w0,Good P N S0 w0 (bodyPost P fn (ZnE S0 w0 o)) [.code c] (St.initH args h0)):Zio P f h0 args o:=by
 cases o with
 |ret h1 res=>exact ZcC.of hf hb hn hN hl h
 |pan pv=>exact ZFn.of hf hb hn hN hl h
theorem ZpF{P:Program}{Q:Exit->Act->World->Prop}{ch:List PanicEntry}{a:Act}{w:World}(h:Q (.panic ch) a w):∀k,Zqd P Q k (.panic ch) a w
 | []=>h
 | .code c :: k=>ZpF h k
 | .endB id :: k=>ZpF h k
 | .endL b :: k=>ZpF h k
def ZGs(ops:Array Oper)(i:Nat):Bool:=match ops[i]? with
 |some o=>match o.op with
  | .panic _=>false
  |_=>true
 |none=>true
def ZKP(P:Program)(N:Nat)(T:Tab)(n:Nat)(ZbE:List It)(st:St)(ras:List RA)(bs:List Bool)(ra:RA)(i:Nat)(pa:PA):Option (V×List Prop):=match runK P N T n ZbE st ras bs with
 |some (.code (.region _ ops false) :: _,st1,obl)=>match ZDa P N T ops ra i pa 0 ops.toList st1 with
  |some (pv,o2)=>some (pv,obl++o2)
  |none=>none
 |some (.code (.region _ ops true) :: _,st1,obl)=>match ZKZ ra st1 with
  |some (ra1,st2)=>match ZGs ops i,ZBv P N T ops ra1 (ctOf ops ra1) i pa st2 with
   |true,some (pv,o2)=>some (pv,obl++o2)
   |_,_=>none
  |none=>none
 |_=>none
theorem Zbs{P:Program}{N:Nat}{T:Tab}{S0:Nat->Prop}{w0:ZaW}{fn:Func}{pv:V}(hT:Zrr P T)(n:Nat)(ZbE:List It)(st:St)(ras:List RA)(bs:List Bool)(ra:RA)(i:Nat)(pa:PA){obl:List Prop}(ho:Obl obl)
  (h:ZKP P N T n ZbE st ras bs ra i pa=some (pv,obl)):Good P N S0 w0 (bodyPost P fn (ZwQ S0 w0 pv)) ZbE st:=by
 have ho:=ho.all;have hQ:∀k,PanQ S0 w0 pv (Zqd P (bodyPost P fn (ZwQ S0 w0 pv)) k):=fun k a x w' S' h1 h2 h3 h4=>ZpF (show bodyPost P fn (ZwQ S0 w0 pv) _ a w' from⟨h1,x,S',rfl,h2,h3,h4⟩) k;unfold ZKP at h;split at h
 .rename_i id ops k st1 o1 h1;split at h
  .rename_i pv2 o2 h2;cases h;exact Zjz hT ZwQ.ends h1 (fun q hq=>ZdB ho q (List.mem_append.2 (.inl hq))) fun a w hs=>wp_region_list (ZzJ hT.1 hs h2 (fun q hq=>ZdB ho q (List.mem_append.2 (.inr hq))) (hQ k))
  .cases h
 .rename_i id ops k st1 o1 h1;split at h;rotate_left
  .cases h
  rename_i ra1 st2 hp;split at h
  .rename_i pv2 o2 hn h2;cases h;refine Zjz hT ZwQ.ends h1 (fun q hq=>ZdB ho q (List.mem_append.2 (.inl hq))) fun a w hs=>ZEE hT.1 hT.2 (hs.preFz hp) (fun o x dy hx=>?_) h2 (fun q hq=>ZdB ho q (List.mem_append.2 (.inr hq))) (hQ k);unfold ZGs at hn;rw[dy]at hn;simp only[hx]at hn;cases hn
  .cases h
 .cases h
theorem ZaC{P:Program}{N:Nat}{T:Tab}{S0:Nat->Prop}{w0:ZaW}{Q:Exit->Act->World->Prop}(hT:Zrr P T)(hE:Ends Q)(n:Nat){ZbE eC:List It}{st st':St}(ras:List RA)(bs:List Bool)(na:NA){obl:List Prop}(ho:Obl obl)
  (h:toK P N T n ZbE st ras bs na=some (eC,st',obl)) (hk:Good P N S0 w0 Q eC st'):Good P N S0 w0 Q ZbE st:=ZHZ hT hE n ZbE eC st st' ras bs na obl h ho.all hk
theorem Zaj{P:Program}{N:Nat}{T:Tab}{S0:Nat->Prop}{w0:ZaW}{fn:Func}{res:V}(hT:Zrr P T)(n:Nat){ZbE:List It}{st:St}(ras:List RA)(bs:List Bool)(fz:List Nat)(dh dn:List (Nat×List (Nat×C))){obl:List Prop}(ho:Obl obl)
  (h:ZJN P N T n ZbE st ras bs fz dh dn fn.results.toList=some (res,obl)) (hp:res.pure=true):Good P N S0 w0 (bodyPost P fn (Post S0 w0 res)) ZbE st:=ZEi hT n ZbE st ras bs fz dh dn obl h hp ho.all
theorem Zbl{P:Program}{N:Nat}{T:Tab}{S0:Nat->Prop}{w0:ZaW}{fn:Func}{res:V}{h1:List (Nat×B)}(hT:Zrr P T)(n:Nat){ZbE:List It}{st:St}(ras:List RA)(bs:List Bool)(na:NA){obl:List Prop}(ho:Obl obl)
  (h:ZFF P N T n ZbE st ras bs na fn.results.toList=some (res,h1,obl)):Good P N S0 w0 (bodyPost P fn (ZaP S0 w0 h1 res)) ZbE st:=ZrJ hT n ZbE st ras bs na obl h ho.all
def ZJo(P:Program)(N:Nat)(T:Tab)(n:Nat)(ZbE:List It)(st:St)(ras:List RA)(bs:List Bool)(na:NA)(gJ:List Nat)(rs:List ResultVar):Option (V×List (Nat×B)×List Prop):=match runK P N T n ZbE st ras bs with
 |some (.code .ret :: _,st1,obl)=>match norm N na st1 with
  |some (st2,o2)=>match ZrV T st2 rs,ZEC st2 gJ with
   |some v,some h=>some (v,h,obl++o2)
   |_,_=>none
  |none=>none
 |some ([],st1,obl)=>match norm N na st1 with
  |some (st2,o2)=>match ZrV T st2 rs,ZEC st2 gJ with
   |some v,some h=>some (v,h,obl++o2)
   |_,_=>none
  |none=>none
 |_=>none
theorem ZdD{P:Program}{N:Nat}{T:Tab}{S0:Nat->Prop}{w0:ZaW}{fn:Func}{res:V}{h1:List (Nat×B)}(hT:Zrr P T)(n:Nat){ZbE:List It}{st:St}(ras:List RA)(bs:List Bool)(na:NA)(gJ:List Nat){obl:List Prop}(ho:Obl obl)
  (h:ZJo P N T n ZbE st ras bs na gJ fn.results.toList=some (res,h1,obl)):Good P N S0 w0 (bodyPost P fn (ZaP S0 w0 h1 res)) ZbE st:=by
 have ho:=ho.all;unfold ZJo at h;split at h
 .rename_i e1;split at h
  .rename_i st2 o2 h2;split at h
   .rename_i v hh h3 h4;cases h;exact Zjz hT ZaP.ends e1 (fun q hq=>ZdB ho q (List.mem_append.2 (.inl hq))) fun a w hs=>wp_ret (ZoR (Zuu hT.1 (hs.norm h2 fun q hq=>ZdB ho q (List.mem_append.2 (.inr hq))) h3 fun id b hb=>ZqX st2 h4 id b hb) _)
   .cases h
  .cases h
 .rename_i e1;split at h
  .rename_i st2 o2 h2;split at h
   .rename_i v hh h3 h4;cases h;exact Zjz hT ZaP.ends e1 (fun q hq=>ZdB ho q (List.mem_append.2 (.inl hq))) fun a w hs=>Zuu hT.1 (hs.norm h2 fun q hq=>ZdB ho q (List.mem_append.2 (.inr hq))) h3 fun id b hb=>ZqX st2 h4 id b hb
   .cases h
  .cases h
 .cases h
def nav:List Nat->Code->List It->Option (List It) | [],c,k=>some (.code c :: k)|0 :: l,.seq x y,k=>nav l x (.code y :: k)|_ :: l,.seq _ y,k=>nav l y k|_ :: l,.block id x,k=>nav l x (.endB id :: k)|0 :: l,.cond _ x _,k=>nav l x k|_ :: l,.cond _ _ y,k=>nav l y k|_ :: l,.loop x,k=>nav l x (.endL x :: k)|_,_,_=>none
def ZaR(fn:Func):Code:=fn.body.getD .skip
def at_(l:List Nat)(c:Code):List It:=(nav l c []).getD []
end Go.Proofs.YtmnloegcpaahcaaGreat
