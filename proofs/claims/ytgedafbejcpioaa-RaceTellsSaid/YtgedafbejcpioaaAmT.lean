/-
  AN EVALUATOR OF WALKS, over whatever program: the walk from one place to another.
-/
import Derived.Test.YtgedafbejcpioaaAmS
namespace Go.Proofs.Ytgedafbejcpioaa
open Go.RowKit
set_option linter.unusedSimpArgs false
set_option linter.unusedVariables false

/-! ### The walk from one place to another -/
/-- What is known of the program. -/
def AllOk (P : Program) (T : Tab) : Prop := TabOk P T ∧ P.follows .mixedOrders = true

def dedupN : List Nat → List Nat → List Nat
  | [], acc => acc
  | k :: l, acc => match memN k acc with
    | true => dedupN l acc
    | false => dedupN l (k :: acc)

def certGo : List Oper → List (List Nat) → List (List Nat)
  | [], acc => acc
  | o :: r, acc => certGo r (acc ++ [dedupN (direct o ++ (direct o).flatMap fun k => acc.getD k []) []])

/-- The lists of those ahead, of a region that draws. -/
def ctOf (ops : Array Oper) (ra : RA) : List (List Nat) := match ra.ct with
  | [] => certGo ops.toList []
  | c => c

/-- Is there an edge that one toolchain alone keeps? -/
def gcEdge (o : Oper) : Bool := o.after.toList.any fun e => match e.ground with
  | .gcOnly _ => true
  | _ => false

def boxAt (kn : List (Nat × Option Nat)) (st : St) : Operand → Option Nat
  | .tmp t => match klook kn t with
    | some (some b) => match Nat.beq b 99997 with
      | true => none
      | false => some b
    | some none => none
    | none => match st.get t with
      | .one (.ptr b _) => some b
      | .one (.rp _ _ _) => some 99998
      | _ => none
  | _ => none

/-- Is it a slice that nobody writes any more? (A guess that is looked at where it is loaded from.) -/
def farAt (kn : List (Nat × Option Nat)) (st : St) : Operand → Option Nat
  | .tmp t => match klook kn t with
    | some (some b) => match Nat.beq b 99997 with
      | true => some 99998
      | false => none
    | some none => none
    | none => match st.get t with
      | .one (.sl _ _ _) => some 99998
      | _ => none
  | _ => none

/-- The blocks that loads and stores touch, by a guess that is looked at where they are done. -/
def boxGo (st : St) : List Oper → List (Nat × Option Nat) → List (List Nat)
  | [], _ => []
  | o :: r, kn => match o.op with
    | .load _ x => (match boxAt kn st x with
      | some b => [b]
      | none => []) :: boxGo st r ((o.dst.getD 0, some 99997) :: kn)
    | .store _ x _ => (match boxAt kn st x with
      | some b => [b]
      | none => []) :: boxGo st r ((o.dst.getD 0, none) :: kn)
    | .move x | .assign x => [] :: boxGo st r ((o.dst.getD 0, match boxAt kn st x with
      | some b => some b
      | none => match farAt kn st x with
        | some _ => some 99997
        | none => none) :: kn)
    | .alloc _ | .box _ _ => [] :: boxGo st r ((o.dst.getD 0, some (o.dst.getD 0)) :: kn)
    | .indexAddr _ x _ => [] :: boxGo st r ((o.dst.getD 0, match boxAt kn st x with
      | some b => some b
      | none => farAt kn st x) :: kn)
    | .fieldAddr _ x _ | .nilCheck x => [] :: boxGo st r ((o.dst.getD 0, boxAt kn st x) :: kn)
    | _ => [] :: boxGo st r ((o.dst.getD 0, none) :: kn)

def appOp (o : Oper) : Bool := match o.op with
  | .call { callee := .builtin .append, .. } => true
  | _ => false

def ctB (ops : Array Oper) (ra : RA) (st : St) : List (List Nat) := match ops.toList.any gcEdge || ops.toList.any appOp, ra.hc with
  | false, [] => ctOf ops ra
  | _, _ => ctOf ops ra ++ boxGo st ops.toList []

/-- What is given away ahead of a region that draws. -/
def preFz (ra : RA) (st : St) : Option (RA × St) := match ra.fz with
  | [] => some (ra, st)
  | [(0, ids)] => match freezeL ids st with
    | some st' => some ({ ra with fz := [] }, st')
    | none => none
  | _ => none

theorem Shows.preFz {N : Nat} {S0 : Nat → Prop} {w0 : Start} {st st' : St} {a : Act} {w : World} {ra ra' : RA} (h : Shows N S0 w0 st a w) (he : Go.Proofs.Ytgedafbejcpioaa.preFz ra st = some (ra', st')) : Shows N S0 w0 st' a w := by
  unfold Go.Proofs.Ytgedafbejcpioaa.preFz at he
  split at he
  · cases he; exact h
  · split at he
    · rename_i hq; cases he; exact h.frozen hq
    · cases he
  · cases he

def stepK (P : Program) (N : Nat) (T : Tab) (items : List It) (st : St) (ras : List RA) (bs : List Bool) : Option (List It × St × List RA × List Bool × List Prop) := match items with
  | .code .skip :: k => some (k, st, ras, bs, [])
  | .code (.seq x y) :: k => some (.code x :: .code y :: k, st, ras, bs, [])
  | .code (.block id x) :: k => some (.code x :: .endB id :: k, st, ras, bs, [])
  | .code (.loop x) :: k => some (.code x :: .endL x :: k, st, ras, bs, [])
  | .code (.exit id) :: k => match exitK id k with
    | some k' => some (k', st, ras, bs, [])
    | none => none
  | .code (.cond c x y) :: k => match evo st c, bs with
    | .one (.lit (.bool e)), b :: bs' => some (.code (match b with | true => x | false => y) :: k, st, ras, bs', [e = b])
    | _, _ => none
  | .code (.region _ ops false) :: k => match ras with
    | ra :: ras' => match runOps P N T ops ra 0 ops.toList st with
      | some (st', obl) => some (k, st', ras', bs, obl)
      | none => none
    | [] => none
  | .code (.region _ ops true) :: k => match ras with
    | ra :: ras' => match preFz ra st with
      | some (ra1, st0) => match drawRun P N T ops ra1 (ctB ops ra1 st0) st0 with
        | some (st', obl) => some (k, st', ras', bs, obl)
        | none => none
      | none => none
    | [] => none
  | .endB _ :: k => some (k, st, ras, bs, [])
  | .endL x :: k => some (.code (.loop x) :: k, st, ras, bs, [])
  | _ => none

def runK (P : Program) (N : Nat) (T : Tab) : Nat → List It → St → List RA → List Bool → Option (List It × St × List Prop)
  | 0, items, st, _, _ => some (items, st, [])
  | n + 1, items, st, ras, bs => match stepK P N T items st ras bs with
    | none => none
    | some (it1, st1, ras1, bs1, o1) => match runK P N T n it1 st1 ras1 bs1 with
      | none => none
      | some (it2, st2, o2) => some (it2, st2, o1 ++ o2)

section
variable {P : Program} {N : Nat} {T : Tab} {S0 : Nat → Prop} {w0 : Start} {Q : Exit → Act → World → Prop}

theorem stepK_good (hT : AllOk P T) (hE : Ends Q) {items it' : List It} {st st' : St} {ras ras' : List RA} {bs bs' : List Bool} {obl : List Prop} (h : stepK P N T items st ras bs = some (it', st', ras', bs', obl)) (ho : ∀ q ∈ obl, q) (hk : Good P N S0 w0 Q it' st') : Good P N S0 w0 Q items st := by
  unfold stepK at h
  split at h
  · cases h; exact good_skip hk
  · cases h; exact good_seq hk
  · cases h; exact good_block hk
  · cases h; exact good_loop hE hk
  · split at h
    · rename_i hx
      cases h
      exact good_exit hx hk
    · cases h
  · split at h
    · rename_i e b bs1 hv
      cases h
      refine good_cond hv (ho _ List.mem_cons_self) ?_
      cases b <;> exact hk
    · cases h
  · split at h
    · split at h
      · rename_i hr
        cases h
        exact good_region hT.1 hr ho hk
      · cases h
    · cases h
  · split at h
    · split at h
      · rename_i hp
        split at h
        · rename_i hr
          cases h
          exact fun a w hs => draw_wp hT.1 hT.2 (hs.preFz hp) hr ho fun a' w' hs' => hk a' w' hs'
        · cases h
      · cases h
    · cases h
  · cases h; exact good_endB hk
  · cases h; exact good_endL hk
  · cases h

theorem runK_good (hT : AllOk P T) (hE : Ends Q) : ∀ {n : Nat} {items it' : List It} {st st' : St} {ras : List RA} {bs : List Bool} {obl : List Prop}, runK P N T n items st ras bs = some (it', st', obl) → (∀ q ∈ obl, q) → Good P N S0 w0 Q it' st' → Good P N S0 w0 Q items st
  | 0, items, it', st, st', ras, bs, obl, h, ho, hk => by cases h; exact hk
  | n + 1, items, it', st, st', ras, bs, obl, h, ho, hk => by
    simp only [runK] at h
    split at h
    · cases h
    rename_i it1 st1 ras1 bs1 o1 h1
    split at h
    · cases h
    rename_i it2 st2 o2 h2
    cases h
    exact stepK_good hT hE h1 (fun q hq => ho q (List.mem_append.2 (.inl hq))) (runK_good hT hE h2 (fun q hq => ho q (List.mem_append.2 (.inr hq))) hk)

theorem good_norm {items : List It} {na : NA} {st st' : St} {obl : List Prop} (h : norm N na st = some (st', obl)) (ho : ∀ q ∈ obl, q) (hk : Good P N S0 w0 Q items st') : Good P N S0 w0 Q items st := fun a w hs => hk a w (hs.norm h ho)
end

/-- All of them hold. -/
def allOf : List Prop → Prop
  | [] => True
  | p :: l => p ∧ allOf l

theorem allOf_mem : ∀ {l : List Prop}, allOf l → ∀ q ∈ l, q
  | [], _, q, h => by cases h
  | p :: l, h, q, hq => by
    rcases List.mem_cons.1 hq with rfl | hq
    · exact h.1
    · exact allOf_mem h.2 q hq

/-- All of them hold: as a list of proofs, which tells what they are. -/
inductive Obl : List Prop → Prop
  | n : Obl []
  | c {p : Prop} {l : List Prop} (h : p) (t : Obl l) : Obl (p :: l)

theorem oi {α : Type} {a b : α} (h : some a = some b) : a = b := Option.some.inj h

theorem Obl.app : ∀ {l m : List Prop}, Obl l → Obl m → Obl (l ++ m)
  | _, _, .n, k => k
  | _, _, .c h t, k => .c h (t.app k)

theorem Obl.all : ∀ {l : List Prop}, Obl l → allOf l
  | _, .n => trivial
  | _, .c h t => ⟨h, t.all⟩

/-- A walk to a place where ways meet. -/
def toK (P : Program) (N : Nat) (T : Tab) (n : Nat) (items : List It) (st : St) (ras : List RA) (bs : List Bool) (na : NA) : Option (List It × St × List Prop) := match runK P N T n items st ras bs with
  | some (it, st1, obl) => match norm N na st1 with
    | some (st2, o2) => some (it, st2, obl ++ o2)
    | none => none
  | none => none

theorem toK_good {P : Program} {N : Nat} {T : Tab} {S0 : Nat → Prop} {w0 : Start} {Q : Exit → Act → World → Prop} (hT : AllOk P T) (hE : Ends Q) (n : Nat) (items it' : List It) (st st' : St) (ras : List RA) (bs : List Bool) (na : NA) (obl : List Prop)
    (h : toK P N T n items st ras bs na = some (it', st', obl)) (ho : allOf obl) (hk : Good P N S0 w0 Q it' st') : Good P N S0 w0 Q items st := by
  unfold toK at h
  split at h
  · rename_i it st1 o h1
    split at h
    · rename_i st2 o2 h2
      cases h
      exact runK_good hT hE h1 (fun q hq => allOf_mem ho q (List.mem_append.2 (.inl hq))) (good_norm h2 (fun q hq => allOf_mem ho q (List.mem_append.2 (.inr hq))) hk)
    · cases h
  · cases h

/-- A walk to the function's end. -/
def toEnd (P : Program) (N : Nat) (T : Tab) (n : Nat) (items : List It) (st : St) (ras : List RA) (bs : List Bool) (fz : List Nat) (dh dn : List (Nat × List (Nat × C))) (rs : List ResultVar) : Option (V × List Prop) := match runK P N T n items st ras bs with
  | some (.code .ret :: _, st1, obl) => match tidy N fz dh dn st1 with
    | some st2 => match evRes T st2 rs with
      | some v => some (v, obl)
      | none => none
    | none => none
  | some ([], st1, obl) => match tidy N fz dh dn st1 with
    | some st2 => match evRes T st2 rs with
      | some v => some (v, obl)
      | none => none
    | none => none
  | _ => none

theorem toEnd_good {P : Program} {N : Nat} {T : Tab} {S0 : Nat → Prop} {w0 : Start} {fn : Func} {res : V} (hT : AllOk P T) (n : Nat) (items : List It) (st : St) (ras : List RA) (bs : List Bool) (fz : List Nat) (dh dn : List (Nat × List (Nat × C))) (obl : List Prop)
    (h : toEnd P N T n items st ras bs fz dh dn fn.results.toList = some (res, obl)) (hp : res.pure = true) (ho : allOf obl) : Good P N S0 w0 (bodyPost P fn (Post S0 w0 res)) items st := by
  unfold toEnd at h
  split at h
  · rename_i h1
    split at h
    · rename_i st2 h2
      split at h
      · rename_i v h3
        cases h
        exact runK_good hT Post.ends h1 (allOf_mem ho) fun a w hs => wp_ret (contK_ret (post_of hT.1 (hs.tidied h2) h3 hp) _)
      · cases h
    · cases h
  · rename_i h1
    split at h
    · rename_i st2 h2
      split at h
      · rename_i v h3
        cases h
        exact runK_good hT Post.ends h1 (allOf_mem ho) fun a w hs => post_of hT.1 (hs.tidied h2) h3 hp
      · cases h
    · cases h
  · cases h

/-- A walk to the end of a function that is lent blocks, or that gives some of its own. -/
def toEndH (P : Program) (N : Nat) (T : Tab) (n : Nat) (items : List It) (st : St) (ras : List RA) (bs : List Bool) (na : NA) (rs : List ResultVar) : Option (V × List (Nat × B) × List Prop) := match runK P N T n items st ras bs with
  | some (.code .ret :: _, st1, obl) => match norm N na st1 with
    | some (st2, o2) => match evRes T st2 rs with
      | some v => some (v, st2.heap, obl ++ o2)
      | none => none
    | none => none
  | some ([], st1, obl) => match norm N na st1 with
    | some (st2, o2) => match evRes T st2 rs with
      | some v => some (v, st2.heap, obl ++ o2)
      | none => none
    | none => none
  | _ => none

theorem toEndH_good {P : Program} {N : Nat} {T : Tab} {S0 : Nat → Prop} {w0 : Start} {fn : Func} {res : V} {h1 : List (Nat × B)} (hT : AllOk P T) (n : Nat) (items : List It) (st : St) (ras : List RA) (bs : List Bool) (na : NA) (obl : List Prop)
    (h : toEndH P N T n items st ras bs na fn.results.toList = some (res, h1, obl)) (ho : allOf obl) : Good P N S0 w0 (bodyPost P fn (HPost S0 w0 h1 res)) items st := by
  unfold toEndH at h
  split at h
  · rename_i e1
    split at h
    · rename_i st2 o2 h2
      split at h
      · rename_i v h3
        cases h
        exact runK_good hT HPost.ends e1 (fun q hq => allOf_mem ho q (List.mem_append.2 (.inl hq))) fun a w hs => wp_ret (contK_ret (hpost_of hT.1 (hs.norm h2 fun q hq => allOf_mem ho q (List.mem_append.2 (.inr hq))) h3 fun _ _ e => e) _)
      · cases h
    · cases h
  · rename_i e1
    split at h
    · rename_i st2 o2 h2
      split at h
      · rename_i v h3
        cases h
        exact runK_good hT HPost.ends e1 (fun q hq => allOf_mem ho q (List.mem_append.2 (.inl hq))) fun a w hs => hpost_of hT.1 (hs.norm h2 fun q hq => allOf_mem ho q (List.mem_append.2 (.inr hq))) h3 fun _ _ e => e
      · cases h
    · cases h
  · cases h

/-! ### Functions that may panic -/
inductive Outc where
  | ret (h1 : List (Nat × B)) (res : V)
  | pan (pv : V)

def PPost (S0 : Nat → Prop) (w0 : Start) (pv : V) : Ending → World → Prop := fun e w' =>
  ∃ x S', e = .panicked [{ v := x, recovered := false }] ∧ Goes w0.F.no S0 S' w0.w w' ∧ (∀ b, S' b → b < w'.heap.size) ∧ RepV S' w' none' pv x

def OPost (S0 : Nat → Prop) (w0 : Start) : Outc → Ending → World → Prop
  | .ret h1 res => HPost S0 w0 h1 res
  | .pan pv => PPost S0 w0 pv

theorem PPost.ends {P : Program} {fn : Func} {S0 : Nat → Prop} {w0 : Start} {pv : V} : Ends (bodyPost P fn (PPost S0 w0 pv)) := by
  refine ⟨fun a w h => ?_, fun l a w h => h⟩
  obtain ⟨x, S', h, _⟩ := h
  cases h

theorem OPost.ends {P : Program} {fn : Func} {S0 : Nat → Prop} {w0 : Start} {o : Outc} : Ends (bodyPost P fn (OPost S0 w0 o)) := by
  cases o with
  | ret h1 res => exact HPost.ends
  | pan pv => exact PPost.ends

def OCall (P : Program) (f : FuncId) (h0 : List (Nat × B)) (args : List V) : Outc → Prop
  | .ret h1 res => HCall P f h0 args h1 res
  | .pan pv => PCall P f h0 args pv

theorem PCall.of {P : Program} {f : FuncId} {fn : Func} {c : Code} {N : Nat} {h0 : List (Nat × B)} {args : List V} {pv : V} (hf : P.funcs[f]? = some fn) (hb : fn.body = some c) (hn : (fn.name == "runtime.NumGoroutine") = false) (hN : fn.ntmps = N) (hl : Nat.ble args.length N = true)
    (h : ∀ S0 w0, Good P N S0 w0 (bodyPost P fn (PPost S0 w0 pv)) [.code c] (St.initH args h0)) : PCall P f h0 args pv := by
  refine ⟨⟨fn, hf, hn, by rw [hb]; rfl⟩, fun no S m w vs hS hno hrep hra => ?_⟩
  have hle := Nat.le_of_ble_eq_true hl
  have hget : ∀ t, (St.initH args h0).get t = args.getD t (.one .junk) := fun t => St.get_init args t
  have hsh : Shows N S ⟨w, no, m⟩ (St.initH args h0) { tmps := vs.toArray ++ Array.replicate (fn.ntmps - vs.toArray.size) undef, defers := [] } w := by
    refine ⟨S, m, ⟨by simp; have := hra.1; omega, fun t => ?_, fun t ht => ?_, hrep.rep, hrep.own, hrep.inj, hS, rfl, hno, fun _ _ => rfl, rfl, hrep.lno⟩, Goes.refl _ _ _⟩
    · rw [hget]
      by_cases ht : t < args.length
      · have hv : args[t]? = some (args.getD t (.one .junk)) := by simp [List.getD_eq_getElem?_getD, ht]
        obtain ⟨x, h1, h2⟩ := hra.2 t _ hv
        have : (vs.toArray ++ Array.replicate (fn.ntmps - vs.toArray.size) undef).getD t undef = x := by
          have hlt : t < vs.length := by rw [hra.1]; exact ht
          rw [Array.getD_eq_getD_getElem?, Array.getElem?_append_left (by simpa using hlt)]
          simp [h1]
        rw [this]
        exact h2
      · have : args.getD t (.one .junk) = .one .junk := by simp [List.getD_eq_getElem?_getD, show ¬ t < args.length from ht]
        rw [this]
        exact RepC.junk
    · rw [hget]
      simp [List.getD_eq_getElem?_getD, show ¬ t < args.length by omega]
  exact calls_of_wp hf hb (h S ⟨w, no, m⟩ _ w hsh)

theorem OCall.of {P : Program} {f : FuncId} {fn : Func} {c : Code} {N : Nat} {h0 : List (Nat × B)} {args : List V} {o : Outc} (hf : P.funcs[f]? = some fn) (hb : fn.body = some c) (hn : (fn.name == "runtime.NumGoroutine") = false) (hN : fn.ntmps = N) (hl : Nat.ble args.length N = true)
    (h : ∀ S0 w0, Good P N S0 w0 (bodyPost P fn (OPost S0 w0 o)) [.code c] (St.initH args h0)) : OCall P f h0 args o := by
  cases o with
  | ret h1 res => exact HCall.of hf hb hn hN hl h
  | pan pv => exact PCall.of hf hb hn hN hl h

theorem contK_panic {P : Program} {Q : Exit → Act → World → Prop} {ch : List PanicEntry} {a : Act} {w : World} (h : Q (.panic ch) a w) : ∀ k, contK P Q k (.panic ch) a w
  | [] => h
  | .code c :: k => contK_panic h k
  | .endB id :: k => contK_panic h k
  | .endL b :: k => contK_panic h k

def noPanOp (ops : Array Oper) (i : Nat) : Bool := match ops[i]? with
  | some o => match o.op with
    | .panic _ => false
    | _ => true
  | none => true

/-- A walk to an operation that panics. -/
def toPan (P : Program) (N : Nat) (T : Tab) (n : Nat) (items : List It) (st : St) (ras : List RA) (bs : List Bool) (ra : RA) (i : Nat) (pa : PA) : Option (V × List Prop) := match runK P N T n items st ras bs with
  | some (.code (.region _ ops false) :: _, st1, obl) => match panOps P N T ops ra i pa 0 ops.toList st1 with
    | some (pv, o2) => some (pv, obl ++ o2)
    | none => none
  | some (.code (.region _ ops true) :: _, st1, obl) => match preFz ra st1 with
    | some (ra1, st2) => match noPanOp ops i, panDraw P N T ops ra1 (ctOf ops ra1) i pa st2 with
      | true, some (pv, o2) => some (pv, obl ++ o2)
      | _, _ => none
    | none => none
  | _ => none

theorem toPan_good {P : Program} {N : Nat} {T : Tab} {S0 : Nat → Prop} {w0 : Start} {fn : Func} {pv : V} (hT : AllOk P T) (n : Nat) (items : List It) (st : St) (ras : List RA) (bs : List Bool) (ra : RA) (i : Nat) (pa : PA) {obl : List Prop} (ho : Obl obl)
    (h : toPan P N T n items st ras bs ra i pa = some (pv, obl)) : Good P N S0 w0 (bodyPost P fn (PPost S0 w0 pv)) items st := by
  have ho := ho.all
  have hQ : ∀ k, PanQ S0 w0 pv (contK P (bodyPost P fn (PPost S0 w0 pv)) k) := fun k a x w' S' h1 h2 h3 h4 => contK_panic (show bodyPost P fn (PPost S0 w0 pv) _ a w' from ⟨h1, x, S', rfl, h2, h3, h4⟩) k
  unfold toPan at h
  split at h
  · rename_i id ops k st1 o1 h1
    split at h
    · rename_i pv2 o2 h2
      cases h
      exact runK_good hT PPost.ends h1 (fun q hq => allOf_mem ho q (List.mem_append.2 (.inl hq))) fun a w hs => wp_region_list (panOps_wp hT.1 hs h2 (fun q hq => allOf_mem ho q (List.mem_append.2 (.inr hq))) (hQ k))
    · cases h
  · rename_i id ops k st1 o1 h1
    split at h
    rotate_left
    · cases h
    rename_i ra1 st2 hp
    split at h
    · rename_i pv2 o2 hn h2
      cases h
      refine runK_good hT PPost.ends h1 (fun q hq => allOf_mem ho q (List.mem_append.2 (.inl hq))) fun a w hs => panDraw_wp hT.1 hT.2 (hs.preFz hp) (fun o x hoi hx => ?_) h2 (fun q hq => allOf_mem ho q (List.mem_append.2 (.inr hq))) (hQ k)
      unfold noPanOp at hn
      rw [hoi] at hn
      simp only [hx] at hn
      cases hn
    · cases h
  · cases h

/-! ### The same walks, with the debts told by their proofs -/
theorem toK_g {P : Program} {N : Nat} {T : Tab} {S0 : Nat → Prop} {w0 : Start} {Q : Exit → Act → World → Prop} (hT : AllOk P T) (hE : Ends Q) (n : Nat) {items it' : List It} {st st' : St} (ras : List RA) (bs : List Bool) (na : NA) {obl : List Prop} (ho : Obl obl)
    (h : toK P N T n items st ras bs na = some (it', st', obl)) (hk : Good P N S0 w0 Q it' st') : Good P N S0 w0 Q items st := toK_good hT hE n items it' st st' ras bs na obl h ho.all hk

theorem toEnd_g {P : Program} {N : Nat} {T : Tab} {S0 : Nat → Prop} {w0 : Start} {fn : Func} {res : V} (hT : AllOk P T) (n : Nat) {items : List It} {st : St} (ras : List RA) (bs : List Bool) (fz : List Nat) (dh dn : List (Nat × List (Nat × C))) {obl : List Prop} (ho : Obl obl)
    (h : toEnd P N T n items st ras bs fz dh dn fn.results.toList = some (res, obl)) (hp : res.pure = true) : Good P N S0 w0 (bodyPost P fn (Post S0 w0 res)) items st := toEnd_good hT n items st ras bs fz dh dn obl h hp ho.all

theorem toEndH_g {P : Program} {N : Nat} {T : Tab} {S0 : Nat → Prop} {w0 : Start} {fn : Func} {res : V} {h1 : List (Nat × B)} (hT : AllOk P T) (n : Nat) {items : List It} {st : St} (ras : List RA) (bs : List Bool) (na : NA) {obl : List Prop} (ho : Obl obl)
    (h : toEndH P N T n items st ras bs na fn.results.toList = some (res, h1, obl)) : Good P N S0 w0 (bodyPost P fn (HPost S0 w0 h1 res)) items st := toEndH_good hT n items st ras bs na obl h ho.all

/-- The same, where some blocks alone are told to the caller. -/
def toEndO (P : Program) (N : Nat) (T : Tab) (n : Nat) (items : List It) (st : St) (ras : List RA) (bs : List Bool) (na : NA) (outs : List Nat) (rs : List ResultVar) : Option (V × List (Nat × B) × List Prop) := match runK P N T n items st ras bs with
  | some (.code .ret :: _, st1, obl) => match norm N na st1 with
    | some (st2, o2) => match evRes T st2 rs, pickH st2 outs with
      | some v, some h => some (v, h, obl ++ o2)
      | _, _ => none
    | none => none
  | some ([], st1, obl) => match norm N na st1 with
    | some (st2, o2) => match evRes T st2 rs, pickH st2 outs with
      | some v, some h => some (v, h, obl ++ o2)
      | _, _ => none
    | none => none
  | _ => none

theorem toEndO_g {P : Program} {N : Nat} {T : Tab} {S0 : Nat → Prop} {w0 : Start} {fn : Func} {res : V} {h1 : List (Nat × B)} (hT : AllOk P T) (n : Nat) {items : List It} {st : St} (ras : List RA) (bs : List Bool) (na : NA) (outs : List Nat) {obl : List Prop} (ho : Obl obl)
    (h : toEndO P N T n items st ras bs na outs fn.results.toList = some (res, h1, obl)) : Good P N S0 w0 (bodyPost P fn (HPost S0 w0 h1 res)) items st := by
  have ho := ho.all
  unfold toEndO at h
  split at h
  · rename_i e1
    split at h
    · rename_i st2 o2 h2
      split at h
      · rename_i v hh h3 h4
        cases h
        exact runK_good hT HPost.ends e1 (fun q hq => allOf_mem ho q (List.mem_append.2 (.inl hq))) fun a w hs => wp_ret (contK_ret (hpost_of hT.1 (hs.norm h2 fun q hq => allOf_mem ho q (List.mem_append.2 (.inr hq))) h3 fun id b hb => hget_pickH st2 h4 id b hb) _)
      · cases h
    · cases h
  · rename_i e1
    split at h
    · rename_i st2 o2 h2
      split at h
      · rename_i v hh h3 h4
        cases h
        exact runK_good hT HPost.ends e1 (fun q hq => allOf_mem ho q (List.mem_append.2 (.inl hq))) fun a w hs => hpost_of hT.1 (hs.norm h2 fun q hq => allOf_mem ho q (List.mem_append.2 (.inr hq))) h3 fun id b hb => hget_pickH st2 h4 id b hb
      · cases h
    · cases h
  · cases h

/-- What is to do at a place of the body. -/
def nav : List Nat → Code → List It → Option (List It)
  | [], c, k => some (.code c :: k)
  | 0 :: l, .seq x y, k => nav l x (.code y :: k)
  | _ :: l, .seq _ y, k => nav l y k
  | _ :: l, .block id x, k => nav l x (.endB id :: k)
  | 0 :: l, .cond _ x _, k => nav l x k
  | _ :: l, .cond _ _ y, k => nav l y k
  | _ :: l, .loop x, k => nav l x (.endL x :: k)
  | _, _, _ => none

def bodyOf (fn : Func) : Code := fn.body.getD .skip

def at_ (l : List Nat) (c : Code) : List It := (nav l c []).getD []


end Go.Proofs.Ytgedafbejcpioaa
