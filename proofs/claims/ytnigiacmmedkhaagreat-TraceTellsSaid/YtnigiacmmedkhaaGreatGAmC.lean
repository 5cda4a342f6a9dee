import Derived.Test.YtnigiacmmedkhaaGreatGAmB
namespace Go.Proofs.YtnigiacmmedkhaaGreat
open Go.RowKit
set_option linter.unusedSimpArgs false
set_option linter.unusedVariables false
inductive TK where
 |bool|int (k:IntKind)|str|ptr (e:TypeId)|slice (e:TypeId)|array (n:Nat) (e:TypeId)|struct (fs:List (Nat×TypeId))|map (k v:TypeId)|func|iface|other
def TK.fits:TK->TypeDesc->Prop | .bool,.bool=>True | .int k,.int k'=>k=k' | .str,.string=>True | .ptr e,.pointer e'=>e=e' | .slice e,.slice e'=>e=e' | .array n e,.array n' e'=>n=n'/\e=e' | .struct fs,.struct fields=>fields.toList.map (fun f=>(f.offset,f.type))=fs | .map k v,.map k' v'=>k=k'/\v=v' | .func,.func _ _ _=>True | .iface,.interface _=>True | .other,_=>True|_,_=>False
structure TI where
 k:TK
 size:Nat
 bytes:Nat
 zero:Option Value
abbrev Tab:=List (Nat×TI)
def ZeV:Tab->Nat->Option TI
 | [],_=>none
 | (k,v) :: r,t=>match Nat.beq k t with
  |true=>some v
  |false=>ZeV r t
def TiOk(P:Program)(t:TypeId)(ti:TI):Prop:=(P.info? t).map (fun i=>(i.size,i.bytes))=some (ti.size,ti.bytes)/\(P.info? t).bind (·.zero)=ti.zero/\∃d,P.underlying t=some d/\ti.k.fits d
def Zes(P:Program)(T:Tab):Prop:=∀t ti,ZeV T t=some ti->TiOk P t ti
theorem Zes.nil(P:Program):Zes P []:=fun _ _ h=>by cases h
theorem Zes.cons{P:Program}{t:Nat}{ti:TI}{T:Tab}(h:TiOk P t ti)(hT:Zes P T):Zes P ((t,ti) :: T):=by
 intro t' ti' hq;simp only[ZeV]at hq;split at hq
 .rename_i hb;obtain rfl:=Nat.eq_of_beq_eq_true hb;cases hq;exact h
 .exact hT _ _ hq
def TI.isAgg(ti:TI):Bool:=match ti.k with
 | .struct _ | .array _ _=>true
 |_=>false
def V.ofVal:Value->V
 | .agg cs=>match cs.toList.all Value.oneCell' with
  |true=>.agg (cs.toList.map C.lit)
  |false=>.one .junk
 | .tuple _=>.one .junk
 |x=>.one (.lit x)
def evo(st:St):Operand->V | .tmp t=>st.get t | .const v=>V.ofVal v | .func f=>.one (.lit (.func (.func f) #[] #[])) | .global _=>.one .junk
theorem RepL.lits{S:Nat->Prop}{w:World}{m:Mp}{l:List Value}(h:l.all Value.oneCell'=true):RepL S w m (l.map C.lit) l:=by
 refine⟨by simp,fun j c hc=>?_,fun x hx=>List.all_eq_true.1 h x hx⟩;simp only[List.getElem?_map,Option.map_eq_some_iff]at hc;obtain⟨x,h0,rfl⟩:=hc;exact⟨x,h0,.lit⟩
theorem V.ofVal_rep{S:Nat->Prop}{w:World}{m:Mp}(x:Value):RepV S w m (V.ofVal x) x:=by
 unfold V.ofVal;split
 .rename_i cs;split
  .rename_i h;exact⟨cs,rfl,RepL.lits h⟩
  .exact RepC.junk
 .exact RepC.junk
 .exact RepC.lit
theorem Sim.evo{N:Nat}{F:Keep}{S:Nat->Prop}{m:Mp}{st:St}{a:Act}{w:World}(h:Sim N F S m st a w)(x:Operand):RepV S w m (evo st x) (a.eval x):=by
 cases x with
 |tmp t=>exact h.env t
 |const v=>exact V.ofVal_rep v
 |func f=>exact RepC.lit
 |global g=>exact RepC.junk
def C.isOne:C->Bool | .lit x=>x.oneCell' | .junk=>false | .agv _ _=>false|_=>true
theorem RepC.isOne{S:Nat->Prop}{w:World}{m:Mp}{c:C}{x:Value}(h:RepC S w m c x)(h1:c.isOne=true):x.oneCell'=true:=by
 cases h<;>first|exact h1|rfl|simp[C.isOne]at h1
def V.cells:V->Option (List C)
 | .one c=>match c.isOne with
  |true=>some [c]
  |false=>none
 | .agg l=>some l
 | .tup _=>none
theorem V.cells_rep{S:Nat->Prop}{w:World}{m:Mp}{v:V}{x:Value}{l:List C}(h:RepV S w m v x)(hv:v.cells=some l):RepL S w m l x.cells.toList:=by
 cases v with
 |one c=>
  simp only[V.cells]at hv;split at hv
  .rename_i hc;cases hv;have h1:=RepC.isOne h hc;have hx:x.cells = #[x]:=by cases x<;>first|rfl|cases h1
   rw[hx];refine⟨rfl,fun j c' hj=>?_,fun y hy=>?_⟩
   .cases j with
    |zero=>simp only[List.getElem?_cons_zero,Option.some.injEq]at hj;subst hj;exact⟨x,rfl,h⟩
    |succ j=>simp at hj
   .simp at hy;subst hy;exact h1
  .cases hv
 |agg l'=>
  cases hv;obtain⟨xs,rfl,h⟩:=h;exact h
 |tup l'=>cases hv
def mkV(agg:Bool)(l:List C):Option V:=match agg,l with
 |true,l=>some (.agg l)
 |false,[c]=>some (.one c)
 |_,_=>none
def cut(l:List C)(o n:Nat):Option (List C):=match Nat.ble (o+n) l.length with
 |true=>some ((l.drop o).take n)
 |false=>none
def Zer(n:Nat)(f:Nat->C):List C:=(List.range n).map f
inductive Ans where
 |b (v:Bool)
 |c (n:Nat) (cell:Nat->Nat->C)
 |own
 |r (v:V) (fz:List Nat)
 |id (n:Nat)
 |m (l:List (Value×V))
def ZQn(op:BinOp)(k:IntKind)(x y:Int):Option (Value×List Prop):=match op with
 | .add=>some (.int k (k.wrap (x+y)),[])
 | .sub=>some (.int k (k.wrap (x-y)),[])
 | .mul=>some (.int k (k.wrap (x*y)),[])
 | .quo=>some (.int k (k.wrap (x.tdiv y)),[y≠0])
 | .rem=>some (.int k (x.tmod y),[y≠0])
 | .and=>some (.int k (k.wrap (BitVec.ofInt k.bits x &&& BitVec.ofInt k.bits y).toNat),[])
 | .or=>some (.int k (k.wrap (BitVec.ofInt k.bits x |||BitVec.ofInt k.bits y).toNat),[])
 | .xor=>some (.int k (k.wrap (BitVec.ofInt k.bits x ^^^ BitVec.ofInt k.bits y).toNat),[])
 | .andNot=>some (.int k (k.wrap (BitVec.ofInt k.bits x &&& ~~~BitVec.ofInt k.bits y).toNat),[])
 | .eql=>some (.bool (x==y),[])
 | .neq=>some (.bool (x != y),[])
 | .lss=>some (.bool (x<y),[])
 | .leq=>some (.bool (x<=y),[])
 | .gtr=>some (.bool (x>y),[])
 | .geq=>some (.bool (x>=y),[])
 |_=>none
def ZKo(op:BinOp)(k:IntKind)(x y:Int):Option (Value×List Prop):=match op with
 | .shl=>some (.int k (k.wrap (x * 2 ^ (min y.toNat k.bits))),[0<=y])
 | .shr=>some (.int k (x.fdiv (2 ^ (min y.toNat k.bits))),[0<=y])
 |_=>none
def ZQj(op:BinOp)(x y:ByteArray):Option (Value×List Prop):=match op with
 | .add=>some (.string (x++y),[x.size+y.size<=maxLen])
 | .eql=>some (.bool (x.toList==y.toList),[])
 | .neq=>some (.bool (!(x.toList==y.toList)),[])
 | .lss=>some (.bool (Op.bytesLess x.toList y.toList),[])
 | .leq=>some (.bool (Op.bytesLess x.toList y.toList||x.toList==y.toList),[])
 | .gtr=>some (.bool (!(Op.bytesLess x.toList y.toList||x.toList==y.toList)),[])
 | .geq=>some (.bool (!Op.bytesLess x.toList y.toList),[])
 |_=>none
def ZJQ:BinOp->Bool | .shl | .shr=>true|_=>false
def ZNV:IntKind->IntKind->Bool | .i8,.i8 | .i16,.i16 | .i32,.i32 | .i64,.i64 | .u8,.u8 | .u16,.u16 | .u32,.u32 | .u64,.u64=>true|_,_=>false
theorem ZKz{a b:IntKind}(h:ZNV a b=true):a=b:=by cases a<;>cases b<;>first|rfl|cases h
def ZPp(T:Tab)(op:BinOp)(t:TypeId)(x y:Value):Option (Value×List Prop):=match x,y with
 | .int k a,.int k' b=>match ZJQ op with
  |true=>ZKo op k a b
  |false=>match ZNV k k' with
   |true=>ZQn op k a b
   |false=>none
 | .string a,.string b=>ZQj op a b
 | .bool a,.bool b=>match ZeV T t with
  |some ti=>match ti.k,op with
   | .bool,.eql=>some (.bool (a==b),[])
   | .bool,.neq=>some (.bool (!(a==b)),[])
   |_,_=>none
  |none=>none
 |_,_=>none
theorem Zes.under{P:Program}{T:Tab}(hT:Zes P T){t:TypeId}{ti:TI}(h:ZeV T t=some ti):∃d,P.underlying t=some d/\ti.k.fits d:=(hT t ti h).2.2
theorem ZBR{P:Program}{t:TypeId}(hu:P.underlying t=some .bool)(n:Nat)(a b:Bool)(w:World):(Op.equalIn (n+1) t (.bool a) (.bool b)).run P w=.ok (a==b) w:=by
 simp only[Op.equalIn,Sem.run_bind,run_underlying hu,Result.andThen_ok,Sem.run_pure]
theorem Zwh{P:Program}{t:TypeId}(hu:P.underlying t=some .bool)(a b:Bool)(w:World):(Op.equal t (.bool a) (.bool b)).run P w=.ok (a==b) w:=ZBR hu 9999 a b w
theorem ZKy {P : Program} {T : Tab} (hT : Zes P T) {op : BinOp} {t : TypeId} {x y r : Value} {obl : List Prop} (h : ZPp T op t x y = some (r, obl)) (ho : ∀ p ∈ obl, p) (xo yo : Operand) (w : World) :
    (do eqGuard op t xo yo x y; binOp op t x y:Sem Value).run P w = .ok r w:=by
  unfold ZPp at h
  split at h
  . rename_i k a k' b
    split at h
    . rename_i hs
      unfold ZKo at h
      have hg:(eqGuard op t xo yo (.int k a) (.int k' b)).run P w = .ok () w:=by
        cases op <;> first | cases h; done | simp [eqGuard]
      cases op <;> (try (simp at h; done)) <;> (simp only [Option.some.injEq,Prod.mk.injEq] at h; obtain ⟨rfl,rfl⟩:=h; have hy:0<=b:=ho _ (by simp); simp [Sem.run_bind,hg,binOp,Op.shift,show ¬ b < 0 by omega])
    . rename_i hs
      split at h
      . rename_i hk
        obtain rfl:=ZKz hk
        have hg:(eqGuard op t xo yo (.int k a) (.int k b)).run P w = .ok () w:=by
          cases op <;> simp [eqGuard]
        unfold ZQn at h
        cases op <;> (try (simp at h; done)) <;> (try (simp [ZJQ] at hs; done)) <;> (simp only [Option.some.injEq,Prod.mk.injEq] at h; obtain ⟨rfl,rfl⟩:=h) <;>
          first
          | (simp [Sem.run_bind,hg,binOp,Op.intArith,Op.intBits,Op.intCmp]; done)
          | (have hy:b ≠ 0:=ho _ (by simp); simp [Sem.run_bind,hg,binOp,Op.intDiv,hy])
      . cases h
  . rename_i a b
    have hg:(eqGuard op t xo yo (.string a) (.string b)).run P w = .ok () w:=by cases op <;> simp [eqGuard]
    unfold ZQj at h
    cases op <;> (try (simp at h; done)) <;> (simp only [Option.some.injEq,Prod.mk.injEq] at h; obtain ⟨rfl,rfl⟩:=h) <;>
      first
      | (simp [Sem.run_bind,hg,binOp,Op.stringOp]; done)
      | (have hy : a.size + b.size <= maxLen := ho _ (by simp)
         have h2 : ¬ (((a.size + b.size:Nat):Int) > IntKind.i64.max):=by simp only [maxLen] at hy; simp only [IntKind.max,IntKind.signed,IntKind.bits]; simp; omega
         simp only [Sem.run_bind,hg,Result.andThen_ok,binOp,Op.stringOp,if_neg h2,Sem.run_pure])
  . rename_i a b
    have hg:(eqGuard op t xo yo (.bool a) (.bool b)).run P w = .ok () w:=by cases op <;> simp [eqGuard]
    split at h
    . rename_i ti a7
      obtain ⟨d,hu,hf⟩:=hT.under a7
      split at h
      . rename_i hk
        simp only [Option.some.injEq,Prod.mk.injEq] at h
        obtain ⟨rfl,rfl⟩:=h
        rw [hk] at hf
        cases d <;> simp only [TK.fits] at hf
        simp only [Sem.run_bind,hg,Result.andThen_ok,binOp,Zwh hu,Sem.run_pure]
      . rename_i hk
        simp only [Option.some.injEq,Prod.mk.injEq] at h
        obtain ⟨rfl,rfl⟩:=h
        rw [hk] at hf
        cases d <;> simp only [TK.fits] at hf
        simp only [Sem.run_bind,hg,Result.andThen_ok,binOp,Zwh hu,Sem.run_pure]
      . cases h
    . cases h
  . cases h
end Go.Proofs.YtnigiacmmedkhaaGreat
