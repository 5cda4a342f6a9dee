/-
  PROOFS OF CONTRACTS IN FEW WORDS, over whatever program: what a walk meets is gathered on its way (Ev), and the walk is run at its end (runA).
-/
import Derived.Test.YtgedafbejcpioaaAmU
namespace Go.Proofs.Ytgedafbejcpioaa
open Go.RowKit
set_option linter.unusedVariables false

/-- What a walk meets: a call that is done by its contract, one that is lent blocks, a decision, a fact, what region k is told besides. -/
inductive Ev where
  | c (p : Prop) (v : V)
  | h (p : Prop) (h1 : List (Nat × B)) (v : V)
  | b (x v : Bool)
  | f (p : Prop)
  | x (k : Nat) (ra : RA)

@[reducible] def Ev.one : Ev → Prop
  | .c q _ => q
  | .h q _ _ => q
  | .b y z => y = z
  | .f q => q
  | .x _ _ => True

/-- The debts that are paid, the oldest first. -/
def props : List Ev → List Prop → List Prop
  | [], l => l
  | .c p _ :: r, l => props r (p :: l)
  | .h p _ _ :: r, l => props r (p :: l)
  | .b x v :: r, l => props r ((x = v) :: l)
  | .f p :: r, l => props r (p :: l)
  | .x _ _ :: r, l => props r l

def evsOf : List Ev → List Ev → List Ev
  | [], l => l
  | .x _ _ :: r, l => evsOf r l
  | e :: r, l => evsOf r (e :: l)

def raAdd (a b : RA) : RA := ⟨a.an ++ b.an, a.bl ++ b.bl, a.fz ++ b.fz, a.ct ++ b.ct, a.dn ++ b.dn, a.rl ++ b.rl, a.hc ++ b.hc⟩

def xAt (k : Nat) : List Ev → RA
  | [] => rz
  | .x j ra :: r => match Nat.beq j k with
    | true => raAdd (xAt k r) ra
    | false => xAt k r
  | _ :: r => xAt k r

def popC : List Ev → Option (Ev × List Ev)
  | .c p v :: r => some (.c p v, r)
  | .h p h1 v :: r => some (.h p h1 v, r)
  | .f _ :: r => popC r
  | _ => none

def popB : List Ev → Option (Bool × List Ev)
  | .b _ v :: r => some (v, r)
  | .f _ :: r => popB r
  | _ => none

def callsOp (o : Oper) : Bool := match o.op with
  | .call { callee := .value _, .. } => true
  | _ => false

def decides (i : Nat) : List Oper → Bool
  | [] => false
  | o :: r => match o.guard with
    | some (j, _) => match Nat.beq j i with
      | true => true
      | false => decides i r
    | none => decides i r

def skips (bl : List (Nat × Bool)) (sk : List Nat) (o : Oper) : Bool := match o.guard with
  | none => false
  | some (j, w) => match memN j sk with
    | true => true
    | false => match klook bl j, w with
      | some true, false => true
      | some false, true => true
      | _, _ => false

/-- What a region is told, of what was met. -/
def autoGo (x : RA) : Nat → List Oper → List Ev → List (Nat × Ans) → List (Nat × Bool) → List (Nat × HA) → List Nat → RA × List Ev
  | _, [], ev, an, bl, hc, _ => (⟨x.an ++ an, x.bl ++ bl, x.fz, x.ct, x.dn, x.rl, hc ++ x.hc⟩, ev)
  | i, o :: r, ev, an, bl, hc, sk => match skips bl sk o with
    | true => autoGo x (i + 1) r ev an bl hc (i :: sk)
    | false => match (match callsOp o with
        | true => match popC ev with
          | some (.c _ v, ev') => ((i, .r v []) :: an, hc, ev')
          | some (.h _ h1 v, ev') => match klook x.hc i with
            | some ha => (an, (i, ⟨ha.lend, ha.new, h1, v⟩) :: hc, ev')
            | none => (an, hc, ev')
          | _ => (an, hc, ev)
        | false => (an, hc, ev)) with
      | (an', hc', ev') => match decides i r with
        | true => match popB ev' with
          | some (b, ev2) => autoGo x (i + 1) r ev2 an' ((i, b) :: bl) hc' sk
          | none => autoGo x (i + 1) r ev' an' bl hc' sk
        | false => autoGo x (i + 1) r ev' an' bl hc' sk

def prepA (items : List It) (k : Nat) (ev all : List Ev) : List RA × List Bool × Nat × List Ev := match items with
  | .code (.region _ ops _) :: _ => match autoGo (xAt k all) 0 ops.toList ev [] [] [] [] with
    | (ra, ev') => ([ra], [], k + 1, ev')
  | .code (.cond _ _ _) :: _ => match popB ev with
    | some (b, ev') => ([], [b], k, ev')
    | none => ([], [], k, ev)
  | _ => ([], [], k, ev)

/-- Is a walk at the function's end? -/
def atEnd : List It → Bool
  | [] => true
  | .code .ret :: _ => true
  | _ => false

def runA (P : Program) (N : Nat) (T : Tab) (all : List Ev) : Nat → Nat → List It → St → List Ev → Option (List It × St × List Prop)
  | 0, _, items, st, _ => some (items, st, [])
  | n + 1, k, items, st, ev => match atEnd items with
    | true => some (items, st, [])
    | false => match prepA items k ev all with
      | (ras, bs, k', ev') => match stepK P N T items st ras bs with
        | none => none
        | some (it1, st1, _, _, o1) => match runA P N T all n k' it1 st1 ev' with
          | none => none
          | some (it2, st2, o2) => some (it2, st2, o1 ++ o2)

/-- What is known of the program, for all contracts. -/
class Tb (P : Program) (T : outParam Tab) : Prop where
  ok : AllOk P T

/-- Where a walk begins. -/
structure Zw where
  S : Nat → Prop
  w : Start

def Chk (P : Program) (N : Nat) (z : Zw) {R : Type} (Q : R → Exit → Act → World → Prop) (items : List It) (st : St) (acc : List Ev) (o : Option R) : Prop :=
  allOf (props acc []) → ∀ r, o = some r → Good P N z.S z.w (Q r) items st

class Con {ρ : Type} (o : Option ρ) (ev : outParam (ρ → Ev)) : Prop where
  ok : ∀ {x}, o = some x → (ev x).one
class ConH {ρ : Type} (o : Option ρ) (ev : outParam (ρ → Ev)) : Prop where
  ok : ∀ {x}, o = some x → (ev x).one

theorem props_app : ∀ (acc : List Ev) (l : List Prop), allOf (props acc l) ↔ allOf (props acc []) ∧ allOf l
  | [], l => by simp [props, allOf]
  | .c p v :: r, l => by simp only [props]; rw [props_app r, props_app r [p]]; simp only [allOf]; constructor <;> intro h <;> simp_all
  | .h p h1 v :: r, l => by simp only [props]; rw [props_app r, props_app r [p]]; simp only [allOf]; constructor <;> intro h <;> simp_all
  | .b x v :: r, l => by simp only [props]; rw [props_app r, props_app r [x = v]]; simp only [allOf]; constructor <;> intro h <;> simp_all
  | .f p :: r, l => by simp only [props]; rw [props_app r, props_app r [p]]; simp only [allOf]; constructor <;> intro h <;> simp_all
  | .x k ra :: r, l => by simp only [props]; exact props_app r l

theorem props_add {acc : List Ev} {e : Ev} (h : allOf (props acc [])) (he : e.one) : allOf (props (e :: acc) []) := by
  cases e <;> simp only [props] <;> simp only [Ev.one] at he <;> first | exact h | (rw [props_app]; exact ⟨h, he, trivial⟩)

section
variable {P : Program} {N : Nat} {z : Zw} {R : Type} {Q : R → Exit → Act → World → Prop} {items : List It} {st : St} {acc : List Ev}

/-- A call. -/
theorem kC {ρ : Type} {o : Option ρ} {k : ρ → Option R} {ev : ρ → Ev} [q : Con o ev] (h : ∀ x, Chk P N z Q items st (ev x :: acc) (k x)) : Chk P N z Q items st acc (o.bind k) := fun ha r hr => by
  obtain ⟨x, h1, h2⟩ := bind_some' hr
  exact h x (props_add ha (q.ok h1)) r h2
theorem kCq {ρ : Type} {o : Option ρ} {k : ρ → Option R} {ev : ρ → Ev} [q : Con o ev] (h : ∀ x, o = some x → Chk P N z Q items st (ev x :: acc) (k x)) : Chk P N z Q items st acc (o.bind k) := fun ha r hr => by
  obtain ⟨x, h1, h2⟩ := bind_some' hr
  exact h x h1 (props_add ha (q.ok h1)) r h2
/-- A call that is lent blocks, or gives its own. -/
theorem kDq {ρ : Type} {o : Option ρ} {k : ρ → Option R} {ev : ρ → Ev} [q : ConH o ev] (n i : Nat) (lend new : List (Nat × Nat)) (h : ∀ x, o = some x → Chk P N z Q items st (.x n ⟨[], [], [], [], [], [], [(i, ⟨lend, new, [], .one .junk⟩)]⟩ :: ev x :: acc) (k x)) : Chk P N z Q items st acc (o.bind k) := fun ha r hr => by
  obtain ⟨x, h1, h2⟩ := bind_some' hr
  exact h x h1 (props_add (e := .x _ _) (props_add ha (q.ok h1)) trivial) r h2
theorem kD {ρ : Type} {o : Option ρ} {k : ρ → Option R} {ev : ρ → Ev} [q : ConH o ev] (n i : Nat) (lend new : List (Nat × Nat)) (h : ∀ x, Chk P N z Q items st (.x n ⟨[], [], [], [], [], [], [(i, ⟨lend, new, [], .one .junk⟩)]⟩ :: ev x :: acc) (k x)) : Chk P N z Q items st acc (o.bind k) := kDq n i lend new fun x _ => h x
/-- A call of which nothing is owed here. -/
theorem kE {ρ : Type} {o : Option ρ} {k : ρ → Option R} (h : ∀ x, o = some x → Chk P N z Q items st acc (k x)) : Chk P N z Q items st acc (o.bind k) := fun ha r hr => by
  obtain ⟨x, h1, h2⟩ := bind_some' hr
  exact h x h1 ha r h2
/-- A decision. -/
theorem kB {c : Bool} {a b : Option R} (h1 : Chk P N z Q items st (.b c true :: acc) a) (h2 : Chk P N z Q items st (.b c false :: acc) b) : Chk P N z Q items st acc (bif c then a else b) := fun ha r hr => by
  rcases br_some hr with ⟨h, hr⟩ | ⟨h, hr⟩
  · exact h1 (props_add (e := .b _ _) ha h) r hr
  · exact h2 (props_add (e := .b _ _) ha h) r hr
theorem kBq {c : Bool} {a b : Option R} (h1 : c = true → Chk P N z Q items st (.b c true :: acc) a) (h2 : c = false → Chk P N z Q items st (.b c false :: acc) b) : Chk P N z Q items st acc (bif c then a else b) := fun ha r hr => by
  rcases br_some hr with ⟨h, hr⟩ | ⟨h, hr⟩
  · exact h1 h (props_add (e := .b _ _) ha h) r hr
  · exact h2 h (props_add (e := .b _ _) ha h) r hr
theorem kBm {c : Bool} {a b : Option R} (h1 : c = true → Chk P N z Q items st acc a) (h2 : c = false → Chk P N z Q items st acc b) : Chk P N z Q items st acc (bif c then a else b) := fun ha r hr => by
  rcases br_some hr with ⟨h, hr⟩ | ⟨h, hr⟩
  · exact h1 h ha r hr
  · exact h2 h ha r hr
/-- What is needed. -/
theorem kN {p : Prop} [Decidable p] {k : Option R} (h : Chk P N z Q items st (.f p :: acc) k) : Chk P N z Q items st acc (need p k) := fun ha r hr => by
  obtain ⟨h1, hr⟩ := need_some hr
  exact h (props_add (e := .f _) ha h1) r hr
theorem kNq {p : Prop} [Decidable p] {k : Option R} (h : p → Chk P N z Q items st (.f p :: acc) k) : Chk P N z Q items st acc (need p k) := fun ha r hr => by
  obtain ⟨h1, hr⟩ := need_some hr
  exact h h1 (props_add (e := .f _) ha h1) r hr
theorem kNm {p : Prop} [Decidable p] {k : Option R} (h : p → Chk P N z Q items st acc k) : Chk P N z Q items st acc (need p k) := fun ha r hr => by
  obtain ⟨h1, hr⟩ := need_some hr
  exact h h1 ha r hr
/-- A place that lies within. -/
theorem kPq {a : Int} {n : Nat} [Decidable (0 ≤ a ∧ a < (n : Int))] {k : Option R} (h : (0 ≤ a ∧ a < (n : Int)) → Chk P N z Q items st (.f (a.toNat < n) :: acc) k) : Chk P N z Q items st acc (need (0 ≤ a ∧ a < (n : Int)) k) := fun ha r hr => by
  obtain ⟨h1, hr⟩ := need_some hr
  exact h h1 (props_add (e := .f _) ha (ltOf h1)) r hr
theorem kP {a : Int} {n : Nat} [Decidable (0 ≤ a ∧ a < (n : Int))] {k : Option R} (h : Chk P N z Q items st (.f (a.toNat < n) :: acc) k) : Chk P N z Q items st acc (need (0 ≤ a ∧ a < (n : Int)) k) := kPq fun _ => h
/-- Two structs are compared. -/
theorem kQ {o : Option R} (n i : Nat) {f : Sem Value} {v : Bool} (hp : ∀ w, f.run P w = .ok (.bool v) w) (h : Chk P N z Q items st (.x n (rA [(i, aB v)]) :: .f (∀ w, f.run P w = .ok (.bool v) w) :: acc) o) : Chk P N z Q items st acc o := fun ha r hr => h (props_add (e := .x _ _) (props_add (e := .f _) ha hp) trivial) r hr
/-- A place among few. -/
theorem kI {n k : Int} {a b : Option R} (h1 : n = k → Chk P N z Q items st acc a) (h2 : n ≠ k → Chk P N z Q items st acc b) : Chk P N z Q items st acc (ix1 n k a b) := fun ha r hr => by
  rcases ix1_some hr with ⟨h, hr⟩ | ⟨h, hr⟩
  · exact h1 h ha r hr
  · exact h2 h ha r hr
theorem kI2 {n : Int} {a b : Option R} (h : 0 ≤ n ∧ n < ((2 : Nat) : Int)) (h1 : n = 0 → Chk P N z Q items st acc a) (h2 : n = 1 → Chk P N z Q items st acc b) : Chk P N z Q items st acc (ix2 n a b) := fun ha r hr => by
  rcases ix2_some h hr with ⟨h, hr⟩ | ⟨h, hr⟩
  · exact h1 h ha r hr
  · exact h2 h ha r hr
/-- A fact; a call that was done before; a decision that is known; what a region is told besides. -/
theorem kH {o : Option R} {p : Prop} (hp : p) (h : Chk P N z Q items st (.f p :: acc) o) : Chk P N z Q items st acc o := fun ha r hr => h (props_add (e := .f _) ha hp) r hr
theorem kT {o : Option R} {p : Prop} (v : V) (hp : p) (h : Chk P N z Q items st (.c p v :: acc) o) : Chk P N z Q items st acc o := fun ha r hr => h (props_add (e := .c p v) ha hp) r hr
theorem kU {o : Option R} {p : Prop} (h1 : List (Nat × B)) (v : V) (hp : p) (h : Chk P N z Q items st (.h p h1 v :: acc) o) : Chk P N z Q items st acc o := fun ha r hr => h (props_add (e := .h p h1 v) ha hp) r hr
theorem kJ {ρ : Type} {o : Option R} {o' : Option ρ} {ev : ρ → Ev} [q : Con o' ev] {x : ρ} (hp : o' = some x) (h : Chk P N z Q items st (ev x :: acc) o) : Chk P N z Q items st acc o := fun ha r hr => h (props_add ha (q.ok hp)) r hr
theorem kJh {ρ : Type} {o : Option R} {o' : Option ρ} {ev : ρ → Ev} [q : ConH o' ev] {x : ρ} (hp : o' = some x) (h : Chk P N z Q items st (ev x :: acc) o) : Chk P N z Q items st acc o := fun ha r hr => h (props_add ha (q.ok hp)) r hr
theorem kK {o : Option R} (b : Bool) (h : Chk P N z Q items st (.b b b :: acc) o) : Chk P N z Q items st acc o := fun ha r hr => h (props_add (e := .b b b) ha rfl) r hr
theorem kY {o : Option R} {c v : Bool} (hp : c = v) (h : Chk P N z Q items st (.b c v :: acc) o) : Chk P N z Q items st acc o := fun ha r hr => h (props_add (e := .b _ _) ha hp) r hr
theorem kX {o : Option R} (k : Nat) (ra : RA) (h : Chk P N z Q items st (.x k ra :: acc) o) : Chk P N z Q items st acc o := fun ha r hr => h (props_add (e := .x k ra) ha trivial) r hr
/-- How the rows of a slice are told: cells of a row, the row's cells, a row of nothing. -/
structure Ec (α : Type) where
  sz : Nat
  e : α → List C
  d : α
def Ec.c {α : Type} (E : Ec α) (l : List α) : C := cL E.sz E.e E.d l
def Ec.cs {α : Type} (E : Ec α) (l : List α) : List C := [cL E.sz E.e E.d l]
def Ec.v {α : Type} (E : Ec α) (l : List α) : V := .one (cL E.sz E.e E.d l)
def Ec.r {α : Type} (E : Ec α) (t : Nat) (l : List α) : B := .rows t E.sz l.length (rowsOf E.e E.d l)
def eI (k : IntKind) : Ec Int := ⟨1, cI k, 0⟩
def eB : Ec Bool := ⟨1, cB, false⟩

/-- A row is stored. -/
theorem kW {o : Option R} {α : Type} (k i : Nat) (E : Ec α) (l : List α) (ix : Nat) (x : α) (hx : ix < l.length) (h : Chk P N z Q items st (.x k (rA [(i, .c (l.set ix x).length (rowsOf E.e E.d (l.set ix x)))]) :: .f (ExtU E.sz l.length (rowsOf E.e E.d l) ix 0 (E.e x) (rowsOf E.e E.d (l.set ix x))) :: .f (ix < l.length) :: .f ((l.set ix x).length = l.length) :: acc) o)
    (he : (E.e x).length = E.sz := by exact rfl) : Chk P N z Q items st acc o := fun ha r hr =>
  h (props_add (e := .x _ _) (props_add (e := .f _) (props_add (e := .f _) (props_add (e := .f _) ha List.length_set) hx) (ext_set l ix x he)) trivial) r hr
/-- A literal's rows. -/
theorem kM {o : Option R} {α : Type} (k i : Nat) (E : Ec α) (l : List α) (h : Chk P N z Q items st (.x k ⟨[], [], [], [], [], [(i, (l.length, rowsOf E.e E.d l))], []⟩ :: .f (l.length = l.length ∧ ∀ i j, i < l.length → j < E.sz → rowsOf E.e E.d l i j = (l.flatMap E.e).getD (i * E.sz + j) .junk) :: acc) o)
    (he : ∀ x, (E.e x).length = E.sz := by exact fun _ => rfl) : Chk P N z Q items st acc o := fun ha r hr =>
  h (props_add (e := .x _ _) (props_add (e := .f _) ha ⟨rfl, rows_flat he l⟩) trivial) r hr
/-- Rows are appended. -/
theorem kA {α : Type} {l m : List α} {b q : Nat} [Decidable ((l ++ m).length * b ≤ q ∧ (l ++ m).length ≤ maxLen)] {t : Option R} (k i : Nat) (E : Ec α) (h : Chk P N z Q items st (.x k (rA [(i, .c (l ++ m).length (rowsOf E.e E.d (l ++ m)))]) :: .f ((l ++ m).length ≤ maxLen) :: .f ((l ++ m).length * b ≤ q) :: .f (Ext E.sz l.length m.length (rowsOf E.e E.d l) (rowsOf E.e E.d m) (l ++ m).length (rowsOf E.e E.d (l ++ m))) :: acc) t) :
    Chk P N z Q items st acc (need ((l ++ m).length * b ≤ q ∧ (l ++ m).length ≤ maxLen) t) := fun ha r hr => by
  obtain ⟨h1, hr⟩ := need_some hr
  exact h (props_add (e := .x _ _) (props_add (e := .f _) (props_add (e := .f _) (props_add (e := .f _) ha (ext_app l m)) h1.1) h1.2) trivial) r hr

theorem kZ : Chk P N z Q items st acc none := fun _ _ h => by cases h

theorem runA_good {S0 : Nat → Prop} {w0 : Start} {T : Tab} {Q : Exit → Act → World → Prop} (hT : AllOk P T) (hE : Ends Q) {all : List Ev} : ∀ {n k : Nat} {items it' : List It} {st st' : St} {ev : List Ev} {obl : List Prop}, runA P N T all n k items st ev = some (it', st', obl) → (∀ q ∈ obl, q) → Good P N S0 w0 Q it' st' → Good P N S0 w0 Q items st
  | 0, k, items, it', st, st', ev, obl, h, ho, hk => by cases h; exact hk
  | n + 1, k, items, it', st, st', ev, obl, h, ho, hk => by
    simp only [runA] at h
    split at h
    · cases h; exact hk
    generalize prepA items k ev all = z at h
    obtain ⟨ras, bs, k', ev'⟩ := z
    simp only at h
    split at h
    · cases h
    rename_i it1 st1 ras1 bs1 o1 h1
    split at h
    · cases h
    rename_i it2 st2 o2 h2
    cases h
    exact stepK_good hT hE h1 (fun q hq => ho q (List.mem_append.2 (.inl hq))) (runA_good hT hE h2 (fun q hq => ho q (List.mem_append.2 (.inr hq))) hk)
end

def qS {R : Type} (P : Program) (fn : Func) (z : Zw) (vr : R → V) : R → Exit → Act → World → Prop := fun r => bodyPost P fn (Post z.S z.w (vr r))
def qH {R : Type} (P : Program) (fn : Func) (z : Zw) (h1 : R → List (Nat × B)) (vr : R → V) : R → Exit → Act → World → Prop := fun r => bodyPost P fn (HPost z.S z.w (h1 r) (vr r))

/-- The walk's end. -/
def finS (N : Nat) (T : Tab) (r : Option (List It × St × List Prop)) (fz : List Nat) (dh dn : List (Nat × List (Nat × C))) (rs : List ResultVar) : Option (V × List Prop) := match r with
  | some (it, st1, obl) => match atEnd it, tidy N fz dh dn st1 with
    | true, some st2 => match evRes T st2 rs with
      | some v => match v.pure with
        | true => some (v, obl)
        | false => none
      | none => none
    | _, _ => none
  | none => none

def outH (st : St) : Option (List Nat) → Option (List (Nat × B))
  | some l => pickH st l
  | none => some st.heap

theorem outH_get {st : St} {l : Option (List Nat)} {h : List (Nat × B)} (e : outH st l = some h) (id : Nat) (b : B) (hb : hget h id = some b) : hget st.heap id = some b := by
  cases l with
  | none => cases e; exact hb
  | some l => exact hget_pickH st e id b hb

def finH (N : Nat) (T : Tab) (r : Option (List It × St × List Prop)) (na : NA) (outs : Option (List Nat)) (rs : List ResultVar) : Option (V × List (Nat × B) × List Prop) := match r with
  | some (it, st1, obl) => match atEnd it, norm N na st1 with
    | true, some (st2, o2) => match evRes T st2 rs, outH st2 outs with
      | some v, some h => some (v, h, obl ++ o2)
      | _, _ => none
    | _, _ => none
  | none => none

def finK (N : Nat) (r : Option (List It × St × List Prop)) (na : NA) : Option (List It × St × List Prop) := match r with
  | some (it, st1, obl) => match norm N na st1 with
    | some (st2, o2) => some (it, st2, obl ++ o2)
    | none => none
  | none => none

theorem good_end {P : Program} {N : Nat} {S0 : Nat → Prop} {w0 : Start} {fn : Func} {E : Ending → World → Prop} {it : List It} {st : St} (he : atEnd it = true) (h : ∀ a w, Shows N S0 w0 st a w → bodyPost P fn E .normal a w ∧ bodyPost P fn E .ret a w) : Good P N S0 w0 (bodyPost P fn E) it st := by
  unfold atEnd at he
  split at he
  · exact fun a w hs => (h a w hs).1
  · exact fun a w hs => wp_ret (contK_ret (h a w hs).2 _)
  · cases he

section
variable {P : Program} {z : Zw} {R : Type} {T : Tab} [tb : Tb P T] {items : List It} {st : St} {acc : List Ev}

theorem kR {fn : Func} {vr : R → V} {v : R} (fz : List Nat) (dh dn : List (Nat × List (Nat × C)))
    (h : finS fn.ntmps T (runA P fn.ntmps T acc 100000 0 items st (evsOf acc [])) fz dh dn fn.results.toList = some (vr v, props acc []) := by kernel_rfl) : Chk P fn.ntmps z (qS P fn z vr) items st acc (some v) := fun ha r hr => by
  cases hr
  unfold finS at h
  split at h
  rotate_left
  · cases h
  rename_i it st1 obl h1
  split at h
  rotate_left
  · cases h
  rename_i st2 e1 e2
  split at h
  rotate_left
  · cases h
  rename_i v' e3
  split at h
  rotate_left
  · cases h
  rename_i hp
  simp only [Option.some.injEq, Prod.mk.injEq] at h
  obtain ⟨rfl, rfl⟩ := h
  exact runA_good tb.ok Post.ends h1 (allOf_mem ha) (good_end e1 fun a w hs => ⟨post_of tb.ok.1 (hs.tidied e2) e3 hp, post_of tb.ok.1 (hs.tidied e2) e3 hp⟩)

theorem kR0 {fn : Func} {vr : R → V} {v : R}
    (h : finS fn.ntmps T (runA P fn.ntmps T acc 100000 0 items st (evsOf acc [])) [] [] [] fn.results.toList = some (vr v, props acc []) := by kernel_rfl) : Chk P fn.ntmps z (qS P fn z vr) items st acc (some v) := kR [] [] [] h

theorem kRH {fn : Func} {vr : R → V} {h1 : R → List (Nat × B)} {v : R} (na : NA) (outs : Option (List Nat))
    (h : finH fn.ntmps T (runA P fn.ntmps T acc 100000 0 items st (evsOf acc [])) na outs fn.results.toList = some (vr v, h1 v, props acc []) := by kernel_rfl) : Chk P fn.ntmps z (qH P fn z h1 vr) items st acc (some v) := fun ha r hr => by
  cases hr
  unfold finH at h
  split at h
  rotate_left
  · cases h
  rename_i it st1 obl e0
  split at h
  rotate_left
  · cases h
  rename_i st2 o2 e1 e2
  split at h
  rotate_left
  · cases h
  rename_i v' hh e3 e4
  simp only [Option.some.injEq, Prod.mk.injEq] at h
  obtain ⟨rfl, rfl, hl⟩ := h
  rw [← hl] at ha
  have hg := outH_get e4
  exact runA_good tb.ok HPost.ends e0 (fun q hq => allOf_mem ha q (List.mem_append.2 (.inl hq))) (good_end e1 fun a w hs =>
    have := hpost_of tb.ok.1 (hs.norm e2 fun q hq => allOf_mem ha q (List.mem_append.2 (.inr hq))) e3 hg
    ⟨this, this⟩)

class EndsQ {R : Type} (Q : R → Exit → Act → World → Prop) : Prop where
  ends : ∀ r, Ends (Q r)
instance endsQS {fn : Func} {vr : R → V} : EndsQ (qS P fn z vr) := ⟨fun _ => Post.ends⟩
instance endsQH {fn : Func} {h1 : R → List (Nat × B)} {vr : R → V} : EndsQ (qH P fn z h1 vr) := ⟨fun _ => HPost.ends⟩

def unren : List (Nat × Nat) → Nat → Nat
  | [], k => k
  | (o, n) :: r, k => match Nat.beq n k with
    | true => o
    | false => unren r k

def naK (st' : St) (fz : List Nat) (dh dn : List (Nat × List (Nat × C))) (rl : List (Nat × Nat)) (ado : List (Nat × Nat × Nat × Nat × (Nat → Nat → C))) (ren : List (Nat × Nat)) : NA :=
  ⟨fz, dh, dn, rl, ado, st'.env.map (·.1), st'.heap.map fun p => unren ren p.1, ren⟩

/-- A place where ways meet. -/
theorem kLn {N : Nat} {Q : R → Exit → Act → World → Prop} [e : EndsQ Q] {it' : List It} {st' : St} {o : Option R} (n : Nat) (na : NA) (hk : Chk P N z Q it' st' [] o)
    (h : finK N (runA P N T acc n 0 items st (evsOf acc [])) na = some (it', st', props acc []) := by kernel_rfl) : Chk P N z Q items st acc o := fun ha r hr => by
  unfold finK at h
  split at h
  rotate_left
  · cases h
  rename_i it st1 obl e0
  split at h
  rotate_left
  · cases h
  rename_i st2 o2 e1
  simp only [Option.some.injEq, Prod.mk.injEq] at h
  obtain ⟨rfl, rfl, hl⟩ := h
  rw [← hl] at ha
  exact runA_good tb.ok (e.ends r) e0 (fun q hq => allOf_mem ha q (List.mem_append.2 (.inl hq))) (good_norm e1 (fun q hq => allOf_mem ha q (List.mem_append.2 (.inr hq))) (hk trivial r hr))

theorem kL {N : Nat} {Q : R → Exit → Act → World → Prop} [e : EndsQ Q] {it' : List It} {st' : St} {o : Option R} (n : Nat) (hk : Chk P N z Q it' st' [] o)
    (h : finK N (runA P N T acc n 0 items st (evsOf acc [])) (naK st' [] [] [] [] [] []) = some (it', st', props acc []) := by kernel_rfl) : Chk P N z Q items st acc o := kLn n _ hk h
theorem kLr {N : Nat} {Q : R → Exit → Act → World → Prop} [e : EndsQ Q] {it' : List It} {st' : St} {o : Option R} (n : Nat) (ren : List (Nat × Nat)) (hk : Chk P N z Q it' st' [] o)
    (h : finK N (runA P N T acc n 0 items st (evsOf acc [])) (naK st' [] [] [] [] [] ren) = some (it', st', props acc []) := by kernel_rfl) : Chk P N z Q items st acc o := kLn n _ hk h
theorem kLx {N : Nat} {Q : R → Exit → Act → World → Prop} [e : EndsQ Q] {it' : List It} {st' : St} {o : Option R} (n : Nat) (fz : List Nat) (dh dn : List (Nat × List (Nat × C))) (rl : List (Nat × Nat)) (ado : List (Nat × Nat × Nat × Nat × (Nat → Nat → C))) (ren : List (Nat × Nat)) (hk : Chk P N z Q it' st' [] o)
    (h : finK N (runA P N T acc n 0 items st (evsOf acc [])) (naK st' fz dh dn rl ado ren) = some (it', st', props acc []) := by kernel_rfl) : Chk P N z Q items st acc o := kLn n _ hk h
end

def fnOk (fn : Func) (n : Nat) : Bool := match fn.body with
  | some _ => match fn.name == "runtime.NumGoroutine" with
    | false => Nat.ble n fn.ntmps
    | true => false
  | none => false

theorem fnOk_body {fn : Func} {n : Nat} (h : fnOk fn n = true) : fn.body = some (bodyOf fn) ∧ (fn.name == "runtime.NumGoroutine") = false ∧ Nat.ble n fn.ntmps = true := by
  unfold fnOk at h
  split at h
  · rename_i c hc
    split at h
    · rename_i hn
      exact ⟨by simp [bodyOf, hc], hn, h⟩
    · cases h
  · cases h

theorem kS {P : Program} {f : FuncId} {fn : Func} {R : Type} {o : Option R} {args : List V} {vr : R → V} (hf : P.funcs[f]? = some fn) (h : ∀ {z : Zw}, Chk P fn.ntmps z (qS P fn z vr) [.code (bodyOf fn)] (St.init args) [] o) (hb : fnOk fn args.length = true := by kernel_rfl) :
    Con o fun r => .c (SCall P f args (vr r)) (vr r) :=
  ⟨fun {r} hr => show SCall P f args (vr r) from by obtain ⟨b1, b2, b3⟩ := fnOk_body hb; exact SCall.of hf b1 b2 rfl b3 fun S0 w0 => h (z := ⟨S0, w0⟩) trivial r hr⟩

theorem kHC {P : Program} {f : FuncId} {fn : Func} {R : Type} {o : Option R} {h0 : List (Nat × B)} {args : List V} {h1 : R → List (Nat × B)} {vr : R → V} (hf : P.funcs[f]? = some fn) (h : ∀ {z : Zw}, Chk P fn.ntmps z (qH P fn z h1 vr) [.code (bodyOf fn)] (St.initH args h0) [] o) (hb : fnOk fn args.length = true := by kernel_rfl) :
    ConH o fun r => .h (HCall P f h0 args (h1 r) (vr r)) (h1 r) (vr r) :=
  ⟨fun {r} hr => show HCall P f h0 args (h1 r) (vr r) from by obtain ⟨b1, b2, b3⟩ := fnOk_body hb; exact HCall.of hf b1 b2 rfl b3 fun S0 w0 => h (z := ⟨S0, w0⟩) trivial r hr⟩

/-- The same of contracts that are told otherwise. -/
theorem Con.of {R : Type} {o : Option R} {P : Program} {f : FuncId} {args : List V} {vr : R → V} (h : ∀ r, o = some r → SCall P f args (vr r)) : Con o fun r => .c (SCall P f args (vr r)) (vr r) := ⟨fun {r} hr => show SCall _ _ _ _ from h r hr⟩
theorem ConH.of {R : Type} {o : Option R} {P : Program} {f : FuncId} {h0 : List (Nat × B)} {args : List V} {h1 : R → List (Nat × B)} {vr : R → V} (h : ∀ r, o = some r → HCall P f h0 args (h1 r) (vr r)) : ConH o fun r => .h (HCall P f h0 args (h1 r) (vr r)) (h1 r) (vr r) := ⟨fun {r} hr => show HCall _ _ _ _ _ _ from h r hr⟩

/-! ### A row that was told apart is one of the others again -/
def closeH (id n : Nat) (f : Nat → Nat → C) : List (Nat × B) → List (Nat × B)
  | [] => []
  | (j, .hole e len c k x) :: r => match Nat.beq j id with
    | true => (j, .rows e 1 n f) :: r
    | false => (j, .hole e len c k x) :: closeH id n f r
  | p :: r => p :: closeH id n f r

def holeAt (id : Nat) : List (Nat × B) → Option (Nat × (Nat → C) × Nat × C)
  | [] => none
  | (j, b) :: r => match Nat.beq j id with
    | true => match b with
      | .hole _ len c k x => some (len, c, k, x)
      | _ => none
    | false => holeAt id r

theorem hget_closeH {id n i : Nat} {f : Nat → Nat → C} {b : B} : ∀ {h : List (Nat × B)}, hget (closeH id n f h) i = some b → hget h i = some b ∨ ∃ e len c k x, i = id ∧ b = .rows e 1 n f ∧ hget h i = some (.hole e len c k x) ∧ holeAt id h = some (len, c, k, x)
  | [], h => by cases h
  | (j, c) :: r, h => by
    have skip : hget ((j, c) :: closeH id n f r) i = some b → (j = id → False) → hget ((j, c) :: r) i = some b ∨ ∃ e len c' k x, i = id ∧ b = .rows e 1 n f ∧ hget ((j, c) :: r) i = some (.hole e len c' k x) ∧ holeAt id ((j, c) :: r) = some (len, c', k, x) := by
      intro h hne
      rw [hget_cons] at h ⊢
      split at h
      · rename_i e; rw [if_pos e]; exact .inl h
      · rename_i e
        rw [if_neg e]
        rcases hget_closeH h with h | ⟨e', len, c', k, x, h1, h2, h3, h4⟩
        · exact .inl h
        · refine .inr ⟨e', len, c', k, x, h1, h2, h3, ?_⟩
          unfold holeAt
          split
          · rename_i hb; exact (hne (Nat.eq_of_beq_eq_true hb)).elim
          · exact h4
    have stay : hget ((j, c) :: closeH id n f r) i = some b → (∀ e len c' k x, c ≠ .hole e len c' k x) → hget ((j, c) :: r) i = some b ∨ ∃ e len c' k x, i = id ∧ b = .rows e 1 n f ∧ hget ((j, c) :: r) i = some (.hole e len c' k x) ∧ holeAt id ((j, c) :: r) = some (len, c', k, x) := by
      intro h hc
      by_cases hj : j = id
      · rw [hget_cons] at h ⊢
        split at h
        · rename_i e; rw [if_pos e]; exact .inl h
        · rename_i e
          rw [if_neg e]
          rcases hget_closeH h with h | ⟨e', len, c', k, x, h1, h2, h3, h4⟩
          · exact .inl h
          · exact absurd (hj.trans h1.symm) e
      · exact skip h hj
    cases c with
    | hole e len c' k x =>
      simp only [closeH] at h
      split at h
      · rename_i hb
        have hb := Nat.eq_of_beq_eq_true hb
        rw [hget_cons] at h ⊢
        split at h
        · rename_i e2
          rw [if_pos e2]
          cases h
          refine .inr ⟨e, len, c', k, x, e2.symm.trans hb, rfl, rfl, ?_⟩
          subst hb
          simp only [holeAt, Nat.beq_refl]
        · rename_i e2; rw [if_neg e2]; exact .inl h
      · rename_i hb
        exact skip h (Nat.ne_of_beq_eq_false hb)
    | box l => exact stay h (fun _ _ _ _ _ e => by cases e)
    | rows e sz len c => exact stay h (fun _ _ _ _ _ e => by cases e)
    | map kt l => exact stay h (fun _ _ _ _ _ e => by cases e)

theorem Sim.closed {N : Nat} {F : Keep} {S : Nat → Prop} {m : Mp} {st : St} {a : Act} {w : World} (h : Sim N F S m st a w) {id n : Nat} {f : Nat → Nat → C} {len : Nat} {c : Nat → C} {k : Nat} {x : C} (hh : holeAt id st.heap = some (len, c, k, x)) (hx : x.pure = true) (hn : n = len) (hf : ∀ i, i < len → (i ≠ k → f i 0 = c i) ∧ (i = k → f i 0 = x)) :
    Sim N F S m ⟨st.env, closeH id n f st.heap⟩ a w := by
  have back : ∀ {i b}, hget (closeH id n f st.heap) i = some b → ∃ b', hget st.heap i = some b' := fun {i b} hb => by
    rcases hget_closeH hb with h1 | ⟨_, _, _, _, _, _, _, h1, _⟩
    · exact ⟨_, h1⟩
    · exact ⟨_, h1⟩
  refine ⟨h.size, h.env, h.far, fun i b hb => ?_, fun i b hb => ?_, fun i j b b' hij h1 h2 => ?_, h.dom, h.defers, h.base_le, h.pin, h.len⟩
  · rcases hget_closeH hb with h1 | ⟨e, len', c', k', x', rfl, rfl, h1, h2⟩
    · exact h.heap i b h1
    · rw [hh] at h2
      cases h2
      obtain ⟨xs, q1, q2, q3⟩ := h.heap _ _ h1
      subst hn
      refine ⟨xs, q1, fun i j hi hj => ?_, q3⟩
      obtain rfl : j = 0 := by omega
      obtain ⟨y, q4, q5, q6⟩ := q2 i hi
      refine ⟨y, by rw [Nat.mul_one, Nat.add_zero]; exact q4, ?_⟩
      by_cases hik : i = k
      · rw [(hf i hi).2 hik]; exact (q6 hik).anyM none' hx
      · rw [(hf i hi).1 hik]; exact q5 hik
  · obtain ⟨b', hb'⟩ := back hb
    exact h.own i b' hb'
  · obtain ⟨b1, g1⟩ := back h1
    obtain ⟨b2, g2⟩ := back h2
    exact h.inj i j b1 b2 hij g1 g2

theorem kClose {P : Program} {N : Nat} {z : Zw} {R : Type} {Q : R → Exit → Act → World → Prop} {items : List It} {e : List (Nat × V)} {hp : List (Nat × B)} {o : Option R} (id n : Nat) (f : Nat → Nat → C) {len : Nat} {c : Nat → C} {k : Nat} {x : C}
    (hk : Chk P N z Q items ⟨e, closeH id n f hp⟩ [] o) (hn : n = len) (hf : ∀ i, i < len → (i ≠ k → f i 0 = c i) ∧ (i = k → f i 0 = x)) (hh : holeAt id hp = some (len, c, k, x) := by kernel_rfl) (hx : x.pure = true := by kernel_rfl) : Chk P N z Q items ⟨e, hp⟩ [] o := fun ha r hr a w hs => by
  obtain ⟨S, m, h1, h2⟩ := hs
  exact hk ha r hr a w ⟨S, m, h1.closed hh hx hn hf, h2⟩
end Go.Proofs.Ytgedafbejcpioaa
