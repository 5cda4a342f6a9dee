/-
  AN EVALUATOR OF WALKS, over whatever program: one operation, whichever.
-/
import Derived.Test.YtaakonlnlfbfkaaAmJ
import Derived.Lib.LazyBuf
import Derived.Laws.Pointers
namespace Go.Proofs.Ytaakonlnlfbfkaa
open Go.RowKit
set_option linter.unusedSimpArgs false
set_option linter.unusedVariables false

def evNil : V → Option V
  | .one (.ptr id off) => some (.one (.ptr id off))
  | .one (.rp false n c) => some (.one (.rp false n c))
  | .one (.eptr id sz i off) => some (.one (.eptr id sz i off))
  | .one (.ifc t c) => some (.one (.ifc t c))
  | .one (.ifa t n c) => some (.one (.ifa t n c))
  | .one (.clo (.func f) na nb a b) => some (.one (.clo (.func f) na nb a b))
  | .one (.lit (.func (.func f) a b)) => some (.one (.lit (.func (.func f) a b)))
  | _ => none

def evUn (op : UnOp) (x : V) : Option V := match op, x with
  | .not, .one (.lit (.bool b)) => some (.one (.lit (.bool (!b))))
  | .neg, .one (.lit (.int k n)) => some (.one (.lit (.int k (k.wrap (0 - n)))))
  | .xor, .one (.lit (.int k n)) => some (.one (.lit (.int k (k.wrap (BitVec.ofInt k.bits (if k.signed then -1 else k.max) ^^^ BitVec.ofInt k.bits n).toNat))))
  | _, _ => none

def evConv (T : Tab) (s d : TypeId) (x : V) : Option V := match tlook T s, tlook T d with
  | some ts, some td => match td.k, x with
    | .int k, .one (.lit (.int _ n)) => some (.one (.lit (.int k (k.wrap n))))
    | .str, .one (.lit (.string t)) => some (.one (.lit (.string t)))
    | _, _ => none
  | _, _ => none

def litsOf : List C → Option (List Value)
  | [] => some []
  | .lit x :: l => match litsOf l with
    | some xs => some (x :: xs)
    | none => none
  | _ => none

/-- The value itself, where the tree is no more than that. -/
def V.val : V → Option Value
  | .one (.lit x) => some x
  | .agg l => match litsOf l with
    | some xs => some (.agg xs.toArray)
    | none => none
  | _ => none

theorem litsOf_rep {S : Nat → Prop} {w : World} {m : Nat → Value} : ∀ {l : List C} {ys xs : List Value}, RepL S w m l ys → litsOf l = some xs → ys = xs
  | [], ys, xs, h, hl => by
    cases hl
    exact List.eq_nil_of_length_eq_zero h.1
  | c :: l, ys, xs, h, hl => by
    cases c <;> simp only [litsOf] at hl <;> try (cases hl; done)
    rename_i x
    split at hl
    · rename_i xs' hxs
      cases hl
      obtain ⟨e1, e2, e3⟩ := h
      cases ys with
      | nil => simp at e1
      | cons y ys =>
        have ht := litsOf_rep (ys := ys) ⟨by simpa using e1, fun j c hj => by have := e2 (j + 1) c (by simpa using hj); simpa using this, fun y hy => e3 y (by simp [hy])⟩ hxs
        obtain ⟨z, h3, h4⟩ := e2 0 _ rfl
        cases h3
        cases h4
        rw [ht]
    · cases hl

theorem V.val_rep {S : Nat → Prop} {w : World} {m : Nat → Value} {v : V} {x y : Value} (h : RepV S w m v x) (hv : v.val = some y) : x = y := by
  unfold V.val at hv
  split at hv
  · cases hv
    cases h
    rfl
  · split at hv
    · rename_i l xs hxs
      cases hv
      obtain ⟨ys, rfl, h1⟩ := h
      rw [← litsOf_rep h1 hxs]
    · cases hv
  · cases hv

def evMM (mx : Bool) : List V → Option V
  | [.one (.lit (.int k x)), .one (.lit (.int _ y))] => some (.one (.lit (.int k (match mx with | true => if y > x then y else x | false => if y < x then y else x))))
  | _ => none

def optV (st : St) : Option Operand → Option V
  | none => none
  | some x => some (evo st x)

theorem optV_rep {N : Nat} {F : Keep} {S : Nat → Prop} {m : Nat → Value} {st : St} {a : Act} {w : World} (hs : Sim N F S m st a w) (x : Option Operand) : RepO S w m (optV st x) (x.map a.eval) := by
  cases x with
  | none => trivial
  | some x => exact hs.evo x

def ptrNil : V → Option Bool
  | .one (.rp b _ _) => some b
  | .one (.ptr _ _) => some false
  | .one (.eptr _ _ _ _) => some false
  | .one (.lit (.pointer none)) => some true
  | _ => none

theorem ptrNil_rep {S : Nat → Prop} {w : World} {m : Nat → Value} {v : V} {x : Value} {b : Bool} (h : RepV S w m v x) (hv : ptrNil v = some b) : ∃ p, x = .pointer p ∧ p.isNone = b := by
  unfold ptrNil at hv
  split at hv
  · cases hv; cases h <;> exact ⟨_, rfl, rfl⟩
  · cases hv; cases h; exact ⟨_, rfl, rfl⟩
  · cases hv; cases h; exact ⟨_, rfl, rfl⟩
  · cases hv; cases h; exact ⟨_, rfl, rfl⟩
  · cases hv

/-- A pointer against nil. -/
def evPtr (T : Tab) (op : BinOp) (t : TypeId) (x : V) : Option (V × List Prop) := match ptrNil x with
  | some b => match tlook T t with
    | some ti => match ti.k, op with
      | .ptr _, .eql => some (.one (.lit (.bool b)), [])
      | .ptr _, .neq => some (.one (.lit (.bool (!b))), [])
      | _, _ => none
    | none => none
  | none => none

theorem evPtr_run {P : Program} {T : Tab} (hT : TabOk P T) {S : Nat → Prop} {w : World} {m : Nat → Value} {op : BinOp} {t : TypeId} {x v : V} {px : Value} {xo yo : Operand} {obl : List Prop} (hx : RepV S w m x px)
    (h : evPtr T op t x = some (v, obl)) : ∃ r, (do eqGuard op t xo yo px (.pointer none); binOp op t px (.pointer none) : Sem Value).run P w = .ok r w ∧ RepV S w m v r := by
  unfold evPtr at h
  split at h
  rotate_left
  · cases h
  rename_i b hb
  obtain ⟨p, rfl, rfl⟩ := ptrNil_rep hx hb
  split at h
  rotate_left
  · cases h
  rename_i ti hti
  obtain ⟨d, hu, hf⟩ := hT.under hti
  have hpt : ∀ e, ti.k = .ptr e → P.underlying t = some (.pointer (P.pointee t)) := fun e hk => by
    rw [hk] at hf
    cases d <;> simp only [TK.fits] at hf
    simp [Program.pointee, hu]
  split at h
  · rename_i e hk
    simp only [Option.some.injEq, Prod.mk.injEq] at h
    obtain ⟨rfl, rfl⟩ := h
    refine ⟨_, ?_, RepC.lit⟩
    have hg : (eqGuard .eql t xo yo (.pointer p) (.pointer none)).run P w = .ok () w := by simp [eqGuard]
    rw [Sem.run_bind, hg, Result.andThen_ok]
    exact run_eql_pointer_nil w t p (hpt e hk)
  · rename_i e hk
    simp only [Option.some.injEq, Prod.mk.injEq] at h
    obtain ⟨rfl, rfl⟩ := h
    refine ⟨_, ?_, RepC.lit⟩
    have hg : (eqGuard .neq t xo yo (.pointer p) (.pointer none)).run P w = .ok () w := by simp [eqGuard]
    rw [Sem.run_bind, hg, Result.andThen_ok]
    exact run_neq_pointer_nil w t p (hpt e hk)
  · cases h

/-- A slice that is not empty, against nil. -/
def evNilEq (T : Tab) (op : BinOp) (t : TypeId) (x y : V) : Option (V × List Prop) := match y with
  | .one (.lit (.pointer none)) => evPtr T op t x
  | .one (.lit (.slice none 0 0)) => match op, x with
    | .eql, .one (.sl _ len _) => match tlook T t with
      | some ti => match ti.k with
        | .slice _ => some (.one (.lit (.bool false)), [0 < len])
        | _ => none
      | none => none
    | _, _ => none
  | _ => none

theorem evNilEq_run {P : Program} {T : Tab} (hT : TabOk P T) {S : Nat → Prop} {w : World} {m : Nat → Value} {op : BinOp} {t : TypeId} {x y v : V} {px py : Value} {xo yo : Operand} {obl : List Prop} (hx : RepV S w m x px) (hy : RepV S w m y py)
    (h : evNilEq T op t x y = some (v, obl)) (ho : ∀ q ∈ obl, q) : ∃ r, (do eqGuard op t xo yo px py; binOp op t px py : Sem Value).run P w = .ok r w ∧ RepV S w m v r := by
  unfold evNilEq at h
  split at h
  · cases hy
    exact evPtr_run hT hx h
  rotate_left
  · cases h
  split at h
  rotate_left
  · cases h
  rename_i sz len cell
  split at h
  rotate_left
  · cases h
  rename_i ti hti
  obtain ⟨d, hu, hf⟩ := hT.under hti
  split at h
  rotate_left
  · cases h
  rename_i e hk
  rw [hk] at hf
  cases d <;> simp only [TK.fits] at hf
  subst hf
  simp only [Option.some.injEq, Prod.mk.injEq] at h
  obtain ⟨rfl, rfl⟩ := h
  have h0 : 0 < len := ho _ (by simp)
  cases hy
  cases hx with
  | sl b off vals hcap ha hc h1 hr =>
    rename_i a cap
    obtain ⟨rfl, _⟩ := ha h0
    refine ⟨.bool false, ?_, RepC.lit⟩
    have hg : (eqGuard .eql t xo yo (.slice (some ⟨b, off, none⟩) len cap) (.slice none 0 0)).run P w = .ok () w := by simp [eqGuard]
    rw [Sem.run_bind, hg, Result.andThen_ok]
    exact Go.run_eql_slice_nil w _ _ (some ⟨b, off, none⟩) len cap hu

def evOp (P : Program) (N : Nat) (T : Tab) (o : Oper) (st : St) (an : Option Ans) : Option (V × List Prop × St) :=
  let d := o.dst.getD 0
  match o.op with
  | .move x => match an with
    | some (.c n c) => evShr N st d (evo st x) n c
    | _ => some (evo st x, [], st)
  | .assign x => match an with
    | some (.c n c) => evShr N st d (evo st x) n c
    | _ => some (evo st x, [], st)
  | .pick c x y => match evo st c with
    | .one (.lit (.bool true)) => some (evo st x, [], st)
    | .one (.lit (.bool false)) => some (evo st y, [], st)
    | _ => none
  | .alloc e => match tlook T e with
    | some te => match zeroC te with
      | some l => evBox N st d l
      | none => none
    | none => none
  | .box _ x => match (evo st x).cells with
    | some l => evBox N st d l
    | none => none
  | .build t ps => match evBuild T st t (ps.toList.map fun p => (p.1, evo st p.2)) with
    | some v => some (v, [], st)
    | none => none
  | .buildSlice t n ps => evLitSlice N T st d t n (ps.toList.map fun p => (p.1, evo st p.2)) an
  | .load t p => match evLoad T st t (evo st p) with
    | some (v, obl) => some (v, obl, st)
    | none => none
  | .store t p x => match evStore T st t (evo st p) (evo st x) an with
    | some (obl, st') => some (.one .junk, obl, st')
    | none => none
  | .nilCheck x => match evNil (evo st x) with
    | some v => some (v, [], st)
    | none => none
  | .binOp op t x y _ => match evo st x, evo st y with
    | .one (.lit p), .one (.lit q) => match evBin T op t p q with
      | some (r, obl) => some (.one (.lit r), obl, st)
      | none => match evNilEq T op t (.one (.lit p)) (.one (.lit q)) with
        | some (r, obl) => some (r, obl, st)
        | none => match an with
          | some (.r (.one (.lit r)) _) => some (.one (.lit r), [∀ w, (do eqGuard op t x y p q; binOp op t p q : Sem Value).run P w = .ok r w], st)
          | _ => none
    | vx, vy => match evNilEq T op t vx vy with
      | some (r, obl) => some (r, obl, st)
      | none => match vx.val, vy.val, an with
        | some p, some q, some (.r (.one (.lit r)) _) => some (.one (.lit r), [∀ w, (do eqGuard op t x y p q; binOp op t p q : Sem Value).run P w = .ok r w], st)
        | _, _, _ => none
  | .unOp op _ x => match evUn op (evo st x) with
    | some v => some (v, [], st)
    | none => none
  | .convert s d x => match evConv T s d (evo st x) with
    | some v => some (v, [], st)
    | none => none
  | .makeSlice t l c => evMake N T st d t (evo st l) (evo st c) an
  | .slice t x lo hi mx => match evSlice T t (evo st x) (optV st lo) (optV st hi) (optV st mx) with
    | some (v, obl) => some (v, obl, st)
    | none => none
  | .fieldAddr t x f => match evFieldAddr T t f (evo st x) with
    | some v => some (v, [], st)
    | none => none
  | .field t x f => match evField T t f (evo st x) with
    | some v => some (v, [], st)
    | none => none
  | .indexAddr t x i => match evIndexAddr T t (evo st x) (evo st i) with
    | some (v, obl) => some (v, obl, st)
    | none => none
  | .index t x i => match evIndex T t (evo st x) (evo st i) with
    | some (v, obl) => some (v, obl, st)
    | none => none
  | .extract x i => match evExtract (evo st x) i with
    | some v => some (v, [], st)
    | none => none
  | .makeFunc fn first cap => match litsV (first.toList.map (evo st)), litsV (cap.toList.map (evo st)) with
    | some xs, some ys => some (.one (.clo fn first.size cap.size (fun i => xs.getD i .junk) fun i => ys.getD i .junk), [], st)
    | _, _ => none
  | .call { callee := .builtin .len, args, argTypes } => match args.toList, argTypes.toList with
    | [x], [t] => match evLen T st t (evo st x) with
      | some v => some (v, [], st)
      | none => none
    | _, _ => none
  | .call { callee := .builtin .append, args, argTypes } => match args.toList, argTypes.toList with
    | [s, x], [t, t'] => match Nat.beq t t' with
      | true => match an with
        | some (.r _ _) => evAppIn T st t (evo st s) (evo st x) an
        | _ => evAppend N T st d t (evo st s) (evo st x) an
      | false => none
    | _, _ => none
  | .call { callee := .builtin .clear, args, argTypes } => match args.toList, argTypes.toList with
    | [x], [t] => evClear T st t (evo st x) an
    | _, _ => none
  | .call { callee := .builtin .min, args, .. } => match evMM false (args.toList.map (evo st)) with
    | some v => some (v, [], st)
    | none => none
  | .call { callee := .builtin .max, args, .. } => match evMM true (args.toList.map (evo st)) with
    | some v => some (v, [], st)
    | none => none
  | .call { callee := .value f, args, .. } => match an with
    | some (.r r _) => match evCall P st f args.toList r with
      | some obl => some (r, obl, st)
      | none => none
    | _ => none
  | _ => none
where
  litsV : List V → Option (List C)
    | [] => some []
    | .one c :: l => match litsV l with
      | some r => some (c :: r)
      | none => none
    | _ => none

theorem litsV_rep {S : Nat → Prop} {w : World} {m : Nat → Value} : ∀ {vs : List V} {xs : List C} {ys : List Value}, (∀ (j : Nat) (v : V), vs[j]? = some v → ∃ x, ys[j]? = some x ∧ RepV S w m v x) → evOp.litsV vs = some xs → xs.length = vs.length ∧ ∀ j, j < vs.length → RepC S w m (xs.getD j .junk) (ys.getD j undef)
  | [], xs, ys, h, hl => by cases hl; exact ⟨rfl, fun j h => absurd h (by simp)⟩
  | v :: vs, xs, ys, h, hl => by
    cases v <;> simp only [evOp.litsV] at hl <;> try (cases hl; done)
    rename_i c
    split at hl
    · rename_i r hr
      cases hl
      cases ys with
      | nil => obtain ⟨x, h1, _⟩ := h 0 _ rfl; simp at h1
      | cons y ys =>
        obtain ⟨h1, h2⟩ := litsV_rep (ys := ys) (fun j v hj => by have := h (j + 1) v (by simpa using hj); simpa using this) hr
        refine ⟨by simp [h1], fun j hj => ?_⟩
        cases j with
        | zero =>
          obtain ⟨x, h3, h4⟩ := h 0 _ rfl
          cases h3
          exact h4
        | succ j => simpa using h2 j (by simpa using hj)
    · cases hl

theorem map_rep {N : Nat} {F : Keep} {S : Nat → Prop} {m : Nat → Value} {st : St} {a : Act} {w : World} (hs : Sim N F S m st a w) (args : List Operand) : ∀ (j : Nat) (v : V), (args.map (evo st))[j]? = some v → ∃ x, (args.map a.eval)[j]? = some x ∧ RepV S w m v x := by
  intro j v hj
  simp only [List.getElem?_map, Option.map_eq_some_iff] at hj
  obtain ⟨y, h1, rfl⟩ := hj
  exact ⟨a.eval y, by simp [h1], hs.evo y⟩

theorem evNil_run {P : Program} {S : Nat → Prop} {w : World} {m : Nat → Value} {o : Oper} {a : Act} {x : Operand} (ho : o.op = .nilCheck x) {u v : V} (hx : RepV S w m u (a.eval x)) (h : evNil u = some v) :
    ∃ y, (execOp a.eval o).run P w = .ok (.value y) w ∧ RepV S w m v y := by
  refine ⟨a.eval x, ?_, ?_⟩
  · unfold execOp
    simp only [ho]
    generalize a.eval x = q at hx
    unfold evNil at h
    split at h <;> (try (cases h; done)) <;> cases hx <;> simp
  · unfold evNil at h
    split at h <;> (try (cases h; done)) <;> (cases h; exact hx)

theorem evUn_run {P : Program} {S : Nat → Prop} {w : World} {m : Nat → Value} {op : UnOp} {u v : V} {x : Value} (hx : RepV S w m u x) (h : evUn op u = some v) : ∃ y, (Op.unary op x).run P w = .ok y w ∧ RepV S w m v y := by
  unfold evUn at h
  split at h <;> (try (cases h; done)) <;> cases h <;> cases hx
  · exact ⟨_, by simp [Op.unary], RepC.lit⟩
  · exact ⟨_, by simp [Op.unary, Op.intArith], RepC.lit⟩
  · exact ⟨_, by simp [Op.unary, Op.intBits], RepC.lit⟩

theorem evConv_run {P : Program} {T : Tab} (hT : TabOk P T) {S : Nat → Prop} {w : World} {m : Nat → Value} {s d : TypeId} {u v : V} {x : Value} (hx : RepV S w m u x) (h : evConv T s d u = some v) : ∃ y, (convert s d x).run P w = .ok y w ∧ RepV S w m v y := by
  unfold evConv at h
  split at h
  · rename_i ts td hts htd
    obtain ⟨ds, hus, _⟩ := hT.under hts
    obtain ⟨dd, hud, hfd⟩ := hT.under htd
    split at h
    · rename_i k k' n hk
      cases h
      cases hx
      rw [hk] at hfd
      cases dd <;> simp only [TK.fits] at hfd
      subst hfd
      refine ⟨_, ?_, RepC.lit⟩
      cases ds <;> simp [convert, Sem.run_bind, run_underlying hus, run_underlying hud, Conv.intToInt]
    · rename_i t hk
      cases h
      cases hx
      rw [hk] at hfd
      cases dd <;> simp only [TK.fits] at hfd
      refine ⟨_, ?_, RepC.lit⟩
      cases ds <;> simp [convert, Sem.run_bind, run_underlying hus, run_underlying hud]
    · cases h
  · cases h

end Go.Proofs.Ytaakonlnlfbfkaa
