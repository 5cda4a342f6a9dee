/-
  AN EVALUATOR OF WALKS, over whatever program: maps of the call's own.
-/
import Derived.Test.YtgedafbejcpioaaAmJ
namespace Go.Proofs.Ytgedafbejcpioaa
open Go.RowKit
set_option linter.unusedSimpArgs false
set_option linter.unusedVariables false

def litsOf : List C → Option (List Value)
  | [] => some []
  | .lit x :: l => match litsOf l with
    | some xs => some (x :: xs)
    | none => none
  | _ => none

/-- The value itself, where the tree is no more than that. -/
def V.val : V → Option Value
  | .one (.lit x) => some x
  | .agg l => match litsOf l with
    | some xs => some (.agg xs.toArray)
    | none => none
  | _ => none

theorem litsOf_rep {S : Nat → Prop} {w : World} {m : Mp} : ∀ {l : List C} {ys xs : List Value}, RepL S w m l ys → litsOf l = some xs → ys = xs
  | [], ys, xs, h, hl => by
    cases hl
    exact List.eq_nil_of_length_eq_zero h.1
  | c :: l, ys, xs, h, hl => by
    cases c <;> simp only [litsOf] at hl <;> try (cases hl; done)
    rename_i x
    split at hl
    · rename_i xs' hxs
      cases hl
      obtain ⟨e1, e2, e3⟩ := h
      cases ys with
      | nil => simp at e1
      | cons y ys =>
        have ht := litsOf_rep (ys := ys) ⟨by simpa using e1, fun j c hj => by have := e2 (j + 1) c (by simpa using hj); simpa using this, fun y hy => e3 y (by simp [hy])⟩ hxs
        obtain ⟨z, h3, h4⟩ := e2 0 _ rfl
        cases h3
        cases h4
        rw [ht]
    · cases hl

theorem V.val_rep {S : Nat → Prop} {w : World} {m : Mp} {v : V} {x y : Value} (h : RepV S w m v x) (hv : v.val = some y) : x = y := by
  unfold V.val at hv
  split at hv
  · cases hv
    cases h
    rfl
  · split at hv
    · rename_i l xs hxs
      cases hv
      obtain ⟨ys, rfl, h1⟩ := h
      rw [← litsOf_rep h1 hxs]
    · cases hv
  · cases hv


/-! ### Where a key stands -/
/-- What the program's tables owe for a key, among those that are there. -/
structure KeyOk (P : Program) (kt : TypeId) (k : Value) (ks : List Value) : Prop where
  check : ∀ (e : Bool) (w : World), (Instr.checkKey e 10000 kt k).run P w = .ok () w
  slow : ∃ d, P.underlying kt = some d ∧ ∀ k' ∈ ks, Instr.sameNow d k k' = none ∨ ∃ b, Instr.sameNow d k k' = some b ∧ (b = true ↔ k = k')
  eql : ∀ k' ∈ ks, ∀ w, ∃ b : Bool, (Op.equal kt k k').run P w = .ok b w ∧ (b = true ↔ k = k')
  same : Instr.sameBits 10000 k k = true

/-- What a search for a key finds. -/
def Found (k : Value) (es : List MapEntry) (i : Nat) (r : Option (Nat × Value)) : Prop := (r = none ∧ ∀ e ∈ es, e.key ≠ k) ∨ ∃ j e, es[j]? = some e ∧ e.key = k ∧ r = some (i + j, e.val)

theorem Found.cons {k : Value} {e : MapEntry} {es : List MapEntry} {i : Nat} {r : Option (Nat × Value)} (he : e.key ≠ k) (h : Found k es (i + 1) r) : Found k (e :: es) i r := by
  rcases h with ⟨h1, h2⟩ | ⟨j, e', h1, h2, h3⟩
  · exact .inl ⟨h1, fun x hx => by rcases List.mem_cons.1 hx with rfl | hx; exact he; exact h2 x hx⟩
  · exact .inr ⟨j + 1, e', by simpa using h1, h2, by rw [h3]; congr 2; omega⟩

theorem run_findAskingE {P : Program} {kt : TypeId} {k : Value} (w : World) : ∀ (es : List MapEntry) (i : Nat), (∀ e ∈ es, ∃ b : Bool, (Op.equal kt k e.key).run P w = .ok b w ∧ (b = true ↔ k = e.key)) → ∃ r, (Instr.findAsking kt k es i).run P w = .ok r w ∧ Found k es i r
  | [], i, h => ⟨none, by simp [Instr.findAsking], .inl ⟨rfl, by simp⟩⟩
  | e :: es, i, h => by
    obtain ⟨b, h1, h2⟩ := h e List.mem_cons_self
    simp only [Instr.findAsking, Sem.run_bind, h1, Result.andThen_ok]
    cases b with
    | true => exact ⟨some (i, e.val), by simp, .inr ⟨0, e, rfl, (h2.1 rfl).symm, rfl⟩⟩
    | false =>
      obtain ⟨r, h3, h4⟩ := run_findAskingE (P := P) (kt := kt) (k := k) w es (i + 1) fun e he => h e (List.mem_cons_of_mem _ he)
      exact ⟨r, by simpa using h3, h4.cons fun hk => by have := h2.2 hk.symm; cases this⟩

theorem findNowE {d : TypeDesc} {k : Value} : ∀ (es : List MapEntry) (i : Nat), (∀ e ∈ es, Instr.sameNow d k e.key = none ∨ ∃ b, Instr.sameNow d k e.key = some b ∧ (b = true ↔ k = e.key)) → Instr.findNow d k es i = none ∨ ∃ r, Instr.findNow d k es i = some r ∧ Found k es i r
  | [], i, h => .inr ⟨none, rfl, .inl ⟨rfl, by simp⟩⟩
  | e :: es, i, h => by
    rcases h e List.mem_cons_self with h1 | ⟨b, h1, h2⟩
    · left; simp [Instr.findNow, h1]
    · cases b with
      | true => exact .inr ⟨some (i, e.val), by simp [Instr.findNow, h1], .inr ⟨0, e, rfl, (h2.1 rfl).symm, rfl⟩⟩
      | false =>
        rcases findNowE (d := d) (k := k) es (i + 1) fun e he => h e (List.mem_cons_of_mem _ he) with h3 | ⟨r, h3, h4⟩
        · left; simp [Instr.findNow, h1, h3]
        · exact .inr ⟨r, by simp [Instr.findNow, h1, h3], h4.cons fun hk => by have := h2.2 hk.symm; cases this⟩

theorem KeyOk.find {P : Program} {kt : TypeId} {k : Value} {es : List MapEntry} (h : KeyOk P kt k (es.map (·.key))) (w : World) : ∃ r, (Instr.findKey kt k es).run P w = .ok r w ∧ Found k es 0 r := by
  obtain ⟨d, hd, hs⟩ := h.slow
  have he : ∀ e ∈ es, e.key ∈ es.map (·.key) := fun e he => List.mem_map.2 ⟨e, he, rfl⟩
  unfold Instr.findKey
  simp only [Sem.run_bind, run_underlying hd, Result.andThen_ok]
  rcases findNowE (d := d) (k := k) es 0 fun e h => hs _ (he e h) with h1 | ⟨r, h1, h2⟩
  · rw [h1]
    exact run_findAskingE w es 0 fun e hm => h.eql _ (he e hm) w
  · rw [h1]
    exact ⟨r, by simp, h2⟩

theorem RepE.keysEq {S : Nat → Prop} {w : World} {l : List (Value × V)} {es : List MapEntry} {c : Nat} (h : RepE S w l es c) : es.map (·.key) = l.map (·.1) := by
  apply List.ext_getElem
  · simp [h.len]
  · intro i h1 h2
    have i1 : i < es.length := by simpa using h1
    have i2 : i < l.length := by simpa using h2
    simp only [List.getElem_map]
    exact (h.at_ i l[i] es[i] (by simp [i2]) (by simp [i1])).1

/-- What is told of a place that is asked for. -/
def MLook (l : List (Value × V)) (k z : Value) (v : V) : Prop := (∃ p ∈ l, p.1 = k ∧ ∀ S w m x, RepV S w m p.2 x → RepV S w m v x) ∨ ((∀ p ∈ l, p.1 ≠ k) ∧ ∀ S w m, RepV S w m v z)
def MPut (l : List (Value × V)) (k : Value) (v : V) (l' : List (Value × V)) : Prop := (∃ j, (l[j]?).map (·.1) = some k ∧ l' = l.set j (k, v)) ∨ ((∀ p ∈ l, p.1 ≠ k) ∧ l' = l ++ [(k, v)])
def MDel (l : List (Value × V)) (k : Value) (l' : List (Value × V)) : Prop := (∃ j, (l[j]?).map (·.1) = some k ∧ l' = l.eraseIdx j) ∨ ((∀ p ∈ l, p.1 ≠ k) ∧ l' = l)

theorem mapAt {α : Type} {l : List α} {j : Nat} (h : j < l.length) : l[j]? = some l[j] := by simp [h]

theorem nodup_at {α : Type} {l : List α} (h : l.Nodup) {i j : Nat} {a : α} (hi : l[i]? = some a) (hj : l[j]? = some a) : i = j := by
  obtain ⟨i1, e1⟩ := List.getElem?_eq_some_iff.1 hi
  exact (List.getElem?_inj i1 h).1 (hi.trans hj.symm)

/-! ### The operations -/
def mapTy (T : Tab) (t : TypeId) : Option (TypeId × TypeId) := match tlook T t with
  | some ti => match ti.k with
    | .map k v => some (k, v)
    | _ => none
  | none => none

theorem mapTy_run {P : Program} {T : Tab} (hT : TabOk P T) {t k v : TypeId} (h : mapTy T t = some (k, v)) : P.underlying t = some (.map k v) := by
  unfold mapTy at h
  split at h
  rotate_left
  · cases h
  rename_i ti hti
  obtain ⟨d, hu, hf⟩ := hT.under hti
  split at h
  rotate_left
  · cases h
  rename_i k' v' hk
  cases h
  rw [hk] at hf
  cases d <;> simp only [TK.fits] at hf
  obtain ⟨rfl, rfl⟩ := hf
  exact hu

def mapOf (st : St) (v : V) : Option (Nat × TypeId × List (Value × V)) := match v with
  | .one (.mp id) => match hget st.heap id with
    | some (.map kt l) => some (id, kt, l)
    | _ => none
  | _ => none

theorem mapOf_eq {st : St} {v : V} {id kt : Nat} {l : List (Value × V)} (h : mapOf st v = some (id, kt, l)) : v = .one (.mp id) ∧ hget st.heap id = some (.map kt l) := by
  unfold mapOf at h
  split at h
  · split at h
    · cases h; exact ⟨rfl, by assumption⟩
    · cases h
  · cases h

def evMakeMap (N : Nat) (T : Tab) (st : St) (d t : Nat) (r : Option V) : Option (V × List Prop × St) := match mapTy T t, quiet N d st with
  | some (k, _), true => match r with
    | none => some (.one (.mp d), [], st.new d (.map k []))
    | some v => match intV v with
      | some _ => some (.one (.mp d), [], st.new d (.map k []))
      | none => none
  | _, _ => none

def zeroOf (T : Tab) (t : TypeId) : Option Value := match tlook T t with
  | some ti => ti.zero
  | none => none

def evLookup (P : Program) (T : Tab) (st : St) (t : Nat) (x k : V) (ok : Bool) (an : Option Ans) : Option (V × List Prop) := match ok, mapTy T t, mapOf st x, k.val, an with
  | false, some (kt, vt), some (_, _, l), some kv, some (.r v _) => match zeroOf T vt with
    | some z => some (v, [KeyOk P kt kv (l.map (·.1)), MLook l kv z v])
    | none => none
  | _, _, _, _, _ => none

def evMapUp (P : Program) (T : Tab) (st : St) (t : Nat) (x k v : V) (an : Option Ans) : Option (List Prop × St) := match mapTy T t, mapOf st x, k.val, v.pure, an with
  | some (kt, _), some (id, kt', l), some kv, true, some (.m l') => some ([KeyOk P kt kv (l.map (·.1)), MPut l kv v l'], { st with heap := hset st.heap id (.map kt' l') })
  | _, _, _, _, _ => none

/-- A map of which something was deleted: its type's number is raised, once. -/
def loose (kt : Nat) : Nat := match Nat.blt kt 1000000 with
  | true => kt + 1000000
  | false => kt

def evMapDel (P : Program) (T : Tab) (st : St) (t : Nat) (x k : V) (an : Option Ans) : Option (List Prop × St) := match mapTy T t, mapOf st x, k.val, an with
  | some (kt, _), some (id, kt', l), some kv, some (.m l') => some ([KeyOk P kt kv (l.map (·.1)), MDel l kv l'], { st with heap := hset st.heap id (.map (loose kt') l') })
  | _, _, _, _ => none

/-- What is told of an entry that is asked for, to be written: it is there then; its place. -/
def MEnt (l : List (Value × V)) (k z : Value) (j : Int) (l' : List (Value × V)) : Prop := (∃ i : Nat, (l[i]?).map (·.1) = some k ∧ j = (i : Int) ∧ l' = l) ∨ ((∀ p ∈ l, p.1 ≠ k) ∧ j = ((l.length : Nat) : Int) ∧ ∃ v, (∀ S w m, RepV S w m v z) ∧ (∀ S w m x, RepV S w m v x → x = z) ∧ l' = l ++ [(k, v)])
def MSt (l : List (Value × V)) (j : Int) (v : V) (l' : List (Value × V)) : Prop := ∃ i : Nat, j = (i : Int) ∧ ∃ p, l[i]? = some p ∧ l' = l.set i (p.1, v)

def evMapEntry (P : Program) (T : Tab) (st : St) (t : Nat) (x k : V) (an : Option Ans) : Option (V × List Prop × St) := match mapTy T t, mapOf st x, k.val, an with
  | some (kt, vt), some (id, kt', l), some kv, some (.m ((.int _ j, _) :: l')) => match zeroOf T vt, Nat.blt kt' 1000000 with
    | some z, true => some (.tup [(false, [.junk]), (false, [.lit (.int .i64 j)])], [KeyOk P kt kv (kv :: l.map (·.1)), MEnt l kv z j l'], { st with heap := hset st.heap id (.map kt' l') })
    | _, _ => none
  | _, _, _, _ => none

def evEntryStore (st : St) (x s v : V) (an : Option Ans) : Option (List Prop × St) := match mapOf st x, s, v.pure, an with
  | some (id, kt', l), .one (.lit (.int _ j)), true, some (.m l') => match Nat.blt kt' 1000000 with
    | true => some ([MSt l j v l'], { st with heap := hset st.heap id (.map kt' l') })
    | false => none
  | _, _, _, _ => none

theorem KeyOk.sub {P : Program} {kt : TypeId} {k : Value} {ks ks' : List Value} (h : KeyOk P kt k ks) (hs : ∀ x ∈ ks', x ∈ ks) : KeyOk P kt k ks' :=
  ⟨h.check, by obtain ⟨d, h1, h2⟩ := h.slow; exact ⟨d, h1, fun x hx => h2 x (hs x hx)⟩, fun x hx => h.eql x (hs x hx), h.same⟩

/-- What is found is the same where the entry is there. -/
theorem MLook.ent {l l' : List (Value × V)} {k z : Value} {v : V} {j : Int} (h : MLook l k z v) (he : MEnt l k z j l') : MLook l' k z v := by
  rcases he with ⟨i, _, _, rfl⟩ | ⟨h1, _, v0, _, h3, rfl⟩
  · exact h
  · rcases h with ⟨p, h4, h5, _⟩ | ⟨_, h4⟩
    · exact absurd h5 (h1 p h4)
    · exact .inl ⟨(k, v0), by simp, rfl, fun S w m x hx => by rw [h3 S w m x hx]; exact h4 S w m⟩

theorem MEnt.keys {l l' : List (Value × V)} {k z : Value} {j : Int} (he : MEnt l k z j l') : ∀ x ∈ l'.map (·.1), x ∈ k :: l.map (·.1) := by
  rcases he with ⟨i, _, _, rfl⟩ | ⟨h1, _, v0, _, h3, rfl⟩
  · exact fun x hx => List.mem_cons_of_mem _ hx
  · intro x hx
    rw [List.map_append, List.mem_append] at hx
    rcases hx with hx | hx
    · exact List.mem_cons_of_mem _ hx
    · simp only [List.map_cons, List.map_nil, List.mem_singleton] at hx; rw [hx]; simp

theorem alloc_new (w : World) (o : Obj) : (w.alloc o).heap[w.heap.size]? = some o := by
  show (w.heap.push o)[w.heap.size]? = some o
  simp

theorem dense_push {kt : TypeId} {es : Array MapEntry} {clock : Nat} (h : Dense kt es.toList clock) {e : MapEntry} (he : e.born = clock) : Dense kt (es.push e).toList (clock + 1) := fun hk => by
  obtain ⟨h1, h2⟩ := h hk
  refine ⟨by simpa using h1, fun j x hx => ?_⟩
  rw [Array.toList_push, List.getElem?_append] at hx
  split at hx
  · exact h2 j x hx
  · rename_i hj
    rcases Nat.eq_zero_or_pos (j - es.toList.length) with hz | hz
    · rw [hz] at hx
      cases hx
      omega
    · rw [List.getElem?_eq_none (by simp; simp at hz; omega)] at hx
      cases hx

theorem dense_modify {kt : TypeId} {es : Array MapEntry} {clock : Nat} (h : Dense kt es.toList clock) (i : Nat) (f : MapEntry → MapEntry) (hf : ∀ e, (f e).born = e.born) : Dense kt (es.modify i f).toList clock := fun hk => by
  obtain ⟨h1, h2⟩ := h hk
  refine ⟨by simpa using h1, fun j x hx => ?_⟩
  rw [Array.toList_modify, List.getElem?_modify] at hx
  cases hj : es.toList[j]? with
  | none => rw [hj] at hx; cases hx
  | some e =>
    rw [hj] at hx
    have := h2 j e hj
    by_cases hij : i = j
    · simp only [hij, if_true, Option.map_some, Option.some.injEq, Option.map_eq_map] at hx
      subst hx
      rw [hf]; exact this
    · simp only [hij, if_false, Option.map_some, Option.some.injEq, Option.map_eq_map, id] at hx
      subst hx
      exact this

theorem dense_del (kt : TypeId) (es : List MapEntry) (clock : Nat) : Dense (loose kt) es clock := fun hk => by
  unfold loose at hk
  split at hk
  · have := Nat.le_of_ble_eq_true hk
    omega
  · rename_i h
    rw [h] at hk
    cases hk

/-- A world with another object in a block. -/
def putObj (w : World) (b : Nat) (o : Obj) : World := { w with heap := w.heap.setIfInBounds b o }

theorem run_putObj {P : Program} (w : World) (b : Nat) (es : Array MapEntry) (c : Nat) (o : Obj) (h : w.heap[b]? = some (.map es c)) : (Go.setObj b o).run P w = .ok () (putObj w b o) := by
  simp [Go.setObj, Sem.run, h, putObj]

theorem run_getMap {P : Program} {w : World} {b : Nat} {es : Array MapEntry} {c : Nat} (h : w.heap[b]? = some (.map es c)) : (Go.getObj b).run P w = .ok (.map es c) w := by simp [Go.getObj, Sem.run, h]

section
variable {P : Program} {T : Tab} {N : Nat} {S0 : Nat → Prop} {w0 : Start} {st : St} {a : Act} {w : World} {S : Nat → Prop} {m : Mp}

theorem Sim.mapBlock (hs : Sim N w0.F S m st a w) {id kt : Nat} {l : List (Value × V)} (hl : hget st.heap id = some (.map kt l)) : ∃ b es clock, m id = .map (some b) ∧ w.heap[b]? = some (.map es clock) ∧ RepE S w l es.toList clock ∧ Dense kt es.toList clock := hs.heap id _ hl

/-- A map of the call's own is written. -/
theorem Sim.writeMap (hs : Sim N w0.F S m st a w) (hg : Goes w0.F.no S0 S w0.w w) {id kt : Nat} {l l' : List (Value × V)} (hl : hget st.heap id = some (.map kt l)) {b clock clock' : Nat} {es es' : Array MapEntry} (hm : m id = .map (some b)) (hb : w.heap[b]? = some (.map es clock))
    {kt2 : Nat} (h : ∀ w', Agree S w w' → RepE S w' l' es'.toList clock') (hd : Dense kt2 es'.toList clock') : Sim N w0.F S m { st with heap := hset st.heap id (.map kt2 l') } a (putObj w b (.map es' clock')) ∧ Goes w0.F.no S0 S w0.w (putObj w b (.map es' clock')) := by
  have hlt : b < w.heap.size := (hs.own id _ hl b (by rw [hm]; rfl)).2.2
  have hS : ¬ S b := (hs.own id _ hl b (by rw [hm]; rfl)).1
  have hno : ¬ w0.F.no b := (hs.own id _ hl b (by rw [hm]; rfl)).2.1
  have hoth : ∀ k, k ≠ b → (putObj w b (.map es' clock')).heap[k]? = w.heap[k]? := fun k hk => by simp only [putObj]; rw [Array.getElem?_setIfInBounds_ne (Ne.symm hk)]
  have hag : Agree S w (putObj w b (.map es' clock')) := fun k hk => hoth k fun e => hS (e ▸ hk)
  refine ⟨hs.write (.map kt2 l') hl (by simp [putObj]) (fun k hk hne => hoth k fun e => hne (by rw [hm, e]; rfl)) ?_, hg.step ⟨rfl, rfl, rfl, by simp [putObj], fun k hk => hoth k fun e => hno (e ▸ hk), Nat.le_refl _⟩ (fun _ h => h) fun _ h => .inl h⟩
  rw [hm]
  exact ⟨b, es', clock', rfl, by simp [putObj, hlt], h _ hag, hd⟩

theorem evMakeMap_run (hT : TabOk P T) (hs : Sim N w0.F S m st a w) (hg : Goes w0.F.no S0 S w0.w w) {d t : Nat} {r : Option V} {pr : Option Value} {v : V} {obl : List Prop} {st' : St} (hr : match r, pr with | none, none => True | some v, some x => RepV S w m v x | _, _ => False)
    (h : evMakeMap N T st d t r = some (v, obl, st')) : ∃ y w' m', (Instr.makeMap t pr).run P w = .ok y w' ∧ Sim N w0.F S m' st' a w' ∧ Goes w0.F.no S0 S w0.w w' ∧ RepV S w' m' v y := by
  unfold evMakeMap at h
  split at h
  rotate_left
  · cases h
  rename_i k vt hmt hq
  have hu := mapTy_run hT hmt
  have main : v = .one (.mp d) → st' = st.new d (.map k []) → (Instr.makeMap t pr).run P w = .ok (.map (some w.heap.size)) (w.alloc (.map #[] 0)) → ∃ y w' m', (Instr.makeMap t pr).run P w = .ok y w' ∧ Sim N w0.F S m' st' a w' ∧ Goes w0.F.no S0 S w0.w w' ∧ RepV S w' m' v y := by
    rintro rfl rfl hrun
    refine ⟨_, _, upd m d (.map (some w.heap.size)), hrun, hs.newBlock d hq (.map #[] 0) (.map (some w.heap.size)) (.map k []) rfl ⟨w.heap.size, #[], 0, rfl, alloc_new w _, ⟨rfl, fun j p e h => by simp at h, by simp, by simp⟩, fun _ => ⟨rfl, fun j e h => by simp at h⟩⟩, hg.alloc hs.base_le _, ?_⟩
    exact RepC.mp (upd_same _ _ _)
  cases r with
  | none =>
    cases pr with
    | some x => exact hr.elim
    | none =>
      cases h
      exact main rfl rfl (by simp [Instr.makeMap, Sem.run_bind])
  | some v0 =>
    cases pr with
    | none => exact hr.elim
    | some x =>
      simp only at h
      split at h
      · rename_i p hp
        cases h
        obtain ⟨kk, n⟩ := p
        obtain rfl := intV_rep hr hp
        exact main rfl rfl (by simp [Instr.makeMap, Sem.run_bind, run_underlying hu, asInt, asIntOf])
      · cases h

theorem evLookup_run (hT : TabOk P T) (hs : Sim N w0.F S m st a w) {t : Nat} {x k v : V} {px pk : Value} {ok : Bool} {an : Option Ans} {obl : List Prop} (hx : RepV S w m x px) (hk : RepV S w m k pk) (h : evLookup P T st t x k ok an = some (v, obl)) (ho : ∀ q ∈ obl, q) :
    ∃ y, (Instr.lookup t px pk ok).run P w = .ok y w ∧ RepV S w m v y := by
  unfold evLookup at h
  split at h
  rotate_left
  · cases h
  rename_i kt vt id kt' l kv v' fz hmt hmo hkv
  split at h
  rotate_left
  · cases h
  rename_i z hz
  cases h
  have hu := mapTy_run hT hmt
  obtain ⟨rfl, hl⟩ := mapOf_eq hmo
  obtain ⟨b, es, clock, hm, hb, hE, hD⟩ := hs.mapBlock hl
  obtain rfl := V.val_rep hk hkv
  have hK : KeyOk P kt pk (l.map (·.1)) := ho _ (by simp)
  have hM : MLook l pk z v := ho _ (by simp)
  have hpx : px = .map (some b) := by
    cases hx with
    | mp h' => rw [hm] at h'; exact h'.symm
  subst hpx
  have hK' := hK
  rw [← hE.keysEq] at hK'
  obtain ⟨r, h1, h2⟩ := hK'.find w
  have hzero : (zeroValue vt).run P w = .ok z w := by
    unfold zeroOf at hz
    split at hz
    · rename_i ti hti
      obtain ⟨i, q1, q2, q3, q4⟩ := hT.info hti
      simp [zeroValue, typeInfo, q1, q4, hz]
    · cases hz
  rcases h2 with ⟨rfl, h3⟩ | ⟨j, e, h3, h4, rfl⟩
  · refine ⟨z, ?_, ?_⟩
    · simp only [Instr.lookup, Sem.run_bind, run_underlying hu, Result.andThen_ok, run_getMap hb, Sem.run_pure, hK.check, h1, hzero]
      simp
    · rcases hM with ⟨p, hp, hp1, hp2⟩ | ⟨_, hM⟩
      · exfalso
        obtain ⟨j, hj, e⟩ := List.getElem_of_mem hp
        have hj2 : j < es.toList.length := by rw [hE.len]; exact hj
        have := (hE.at_ j p es.toList[j] (by rw [mapAt hj, e]) (mapAt hj2)).1
        exact h3 _ (List.getElem_mem hj2) (this.trans hp1)
      · exact hM S w m
  · refine ⟨e.val, ?_, ?_⟩
    · simp only [Instr.lookup, Sem.run_bind, run_underlying hu, Result.andThen_ok, run_getMap hb, Sem.run_pure, hK.check, h1]
      simp
    · have hj : j < l.length := by
        have := (List.getElem?_eq_some_iff.1 h3).1
        rw [hE.len] at this
        exact this
      obtain ⟨q1, q2, q3⟩ := hE.at_ j l[j] e (mapAt hj) h3
      rcases hM with ⟨p, hp, hp1, hpv⟩ | ⟨hM, _⟩
      · obtain ⟨j2, hj2, e2⟩ := List.getElem_of_mem hp
        have : j = j2 := nodup_at hE.keys (a := pk) (by rw [List.getElem?_map, mapAt hj]; simp [← q1, h4]) (by rw [List.getElem?_map, mapAt hj2, e2]; simp [hp1])
        subst this
        rw [e2] at q3
        exact hpv _ _ _ _ q3.keepM
      · exact absurd (q1.symm.trans h4) (hM _ (List.getElem_mem hj))

theorem RepE.put {l l' : List (Value × V)} {es : List MapEntry} {clock : Nat} {k : Value} {v : V} {x : Value} (h : RepE S w l es clock) (hx : RepV S w none' v x) (hM : MPut l k v l') :
    (∃ j e, es[j]? = some e ∧ e.key = k ∧ RepE S w l' (es.set j { e with key := k, val := x }) clock) ∨ ((∀ e ∈ es, e.key ≠ k) ∧ RepE S w l' (es ++ [{ key := k, val := x, born := clock }]) (clock + 1)) := by
  rcases hM with ⟨j, h1, rfl⟩ | ⟨h1, rfl⟩
  · left
    have hj : j < l.length := by
      rcases Nat.lt_or_ge j l.length with h | h
      · exact h
      · rw [List.getElem?_eq_none h] at h1; cases h1
    have hj2 : j < es.length := by rw [h.len]; exact hj
    rw [mapAt hj] at h1
    simp only [Option.map_some, Option.some.injEq] at h1
    obtain ⟨q1, q2, q3⟩ := h.at_ j l[j] es[j] (mapAt hj) (mapAt hj2)
    refine ⟨j, es[j], mapAt hj2, q1.trans h1, ⟨by simp [h.len], fun i p e hp he => ?_, ?_, ?_⟩⟩
    · rw [List.getElem?_set] at hp he
      by_cases hij : j = i
      · subst hij
        rw [if_pos rfl, if_pos hj] at hp
        rw [if_pos rfl, if_pos hj2] at he
        cases hp
        cases he
        exact ⟨rfl, q2, hx⟩
      · rw [if_neg hij] at hp he
        exact h.at_ i p e hp he
    · have : (l.set j (k, v)).map (·.1) = l.map (·.1) := by
        rw [List.map_set]
        apply List.ext_getElem?
        intro i
        rw [List.getElem?_set]
        split
        · rename_i e; subst e
          rw [if_pos (by simpa using hj), List.getElem?_map, mapAt hj]
          simp [h1]
        · rfl
      rw [this]
      exact h.keys
    · have : (es.set j { es[j] with key := k, val := x }).map (·.born) = es.map (·.born) := by
        rw [List.map_set]
        apply List.ext_getElem?
        intro i
        rw [List.getElem?_set]
        split
        · rename_i e; subst e
          rw [if_pos (by simpa using hj2), List.getElem?_map, mapAt hj2]
          rfl
        · rfl
      rw [this]
      exact h.born
  · right
    have hk := h.keysEq
    have hne : ∀ e ∈ es, e.key ≠ k := fun e he hk2 => by
      have : e.key ∈ es.map (·.key) := List.mem_map.2 ⟨e, he, rfl⟩
      rw [hk, List.mem_map] at this
      obtain ⟨p, hp, hp2⟩ := this
      exact h1 p hp (hp2.trans hk2)
    refine ⟨hne, ⟨by simp [h.len], fun i p e hp he => ?_, ?_, ?_⟩⟩
    · rw [List.getElem?_append] at hp he
      have hl := h.len
      split at hp
      · rename_i hi
        rw [if_pos (by omega)] at he
        obtain ⟨q1, q2, q3⟩ := h.at_ i p e hp he
        exact ⟨q1, by omega, q3⟩
      · rename_i hi
        rw [if_neg (by omega)] at he
        have hi2 : i - l.length = i - es.length := by omega
        rw [hi2] at hp
        rcases Nat.eq_zero_or_pos (i - es.length) with hz | hz
        · rw [hz] at hp he
          cases hp
          cases he
          exact ⟨rfl, Nat.lt_succ_self _, hx⟩
        · rw [List.getElem?_eq_none (by simp; omega)] at hp
          cases hp
    · rw [List.map_append, List.nodup_append]
      refine ⟨h.keys, by simp, fun a ha b hb => ?_⟩
      simp only [List.map_cons, List.map_nil, List.mem_singleton] at hb
      subst hb
      rw [List.mem_map] at ha
      obtain ⟨p, hp, rfl⟩ := ha
      exact h1 p hp
    · rw [List.map_append, List.nodup_append]
      refine ⟨h.born, by simp, fun a ha b hb => ?_⟩
      simp only [List.map_cons, List.map_nil, List.mem_singleton] at hb
      subst hb
      rw [List.mem_map] at ha
      obtain ⟨e, he, rfl⟩ := ha
      obtain ⟨i, hi, rfl⟩ := List.getElem_of_mem he
      have hi2 : i < l.length := by rw [← h.len]; exact hi
      have := (h.at_ i l[i] es[i] (mapAt hi2) (mapAt hi)).2.1
      omega

theorem RepE.del {l l' : List (Value × V)} {es : List MapEntry} {clock : Nat} {k : Value} (h : RepE S w l es clock) (hM : MDel l k l') :
    (∃ j e, es[j]? = some e ∧ e.key = k ∧ RepE S w l' (es.eraseIdx j) clock) ∨ ((∀ e ∈ es, e.key ≠ k) ∧ RepE S w l' es clock) := by
  have hk := h.keysEq
  rcases hM with ⟨j, h1, rfl⟩ | ⟨h1, rfl⟩
  · left
    have hj : j < l.length := by
      rcases Nat.lt_or_ge j l.length with h | h
      · exact h
      · rw [List.getElem?_eq_none h] at h1; cases h1
    have hj2 : j < es.length := by rw [h.len]; exact hj
    rw [mapAt hj] at h1
    simp only [Option.map_some, Option.some.injEq] at h1
    obtain ⟨q1, q2, q3⟩ := h.at_ j l[j] es[j] (mapAt hj) (mapAt hj2)
    refine ⟨j, es[j], mapAt hj2, q1.trans h1, ⟨by rw [List.length_eraseIdx_of_lt hj, List.length_eraseIdx_of_lt hj2, h.len], fun i p e hp he => ?_, ?_, ?_⟩⟩
    · rw [List.getElem?_eraseIdx] at hp he
      split at hp
      · rename_i hi; rw [if_pos hi] at he; exact h.at_ i p e hp he
      · rename_i hi; rw [if_neg hi] at he; exact h.at_ (i + 1) p e hp he
    · exact ((List.eraseIdx_sublist l j).map _).nodup h.keys
    · exact ((List.eraseIdx_sublist es j).map _).nodup h.born
  · right
    refine ⟨fun e he hk2 => ?_, h⟩
    have : e.key ∈ es.map (·.key) := List.mem_map.2 ⟨e, he, rfl⟩
    rw [hk, List.mem_map] at this
    obtain ⟨p, hp, hp2⟩ := this
    exact h1 p hp (hp2.trans hk2)

theorem evMapUp_run (hT : TabOk P T) (hs : Sim N w0.F S m st a w) (hg : Goes w0.F.no S0 S w0.w w) {t : Nat} {x k v : V} {px pk pv : Value} {an : Option Ans} {obl : List Prop} {st' : St} (hx : RepV S w m x px) (hk : RepV S w m k pk) (hv : RepV S w m v pv)
    (h : evMapUp P T st t x k v an = some (obl, st')) (ho : ∀ q ∈ obl, q) : ∃ w', (Instr.mapUpdate t px pk pv).run P w = .ok () w' ∧ Sim N w0.F S m st' a w' ∧ Goes w0.F.no S0 S w0.w w' := by
  unfold evMapUp at h
  split at h
  rotate_left
  · cases h
  rename_i kt vt id kt' l kv l' hmt hmo hkv hpure
  cases h
  have hu := mapTy_run hT hmt
  obtain ⟨rfl, hl⟩ := mapOf_eq hmo
  obtain ⟨b, es, clock, hm, hb, hE, hD⟩ := hs.mapBlock hl
  obtain rfl := V.val_rep hk hkv
  have hK : KeyOk P kt pk (l.map (·.1)) := ho _ (by simp)
  have hM : MPut l pk v l' := ho _ (by simp)
  have hpx : px = .map (some b) := by
    cases hx with
    | mp h' => rw [hm] at h'; exact h'.symm
  subst hpx
  have hK' := hK
  rw [← hE.keysEq] at hK'
  obtain ⟨r, h1, h2⟩ := hK'.find w
  have hv0 : RepV S w none' v pv := hv.anyM none' hpure
  have hagr : ∀ w', Agree S w w' → RepE S w' l es.toList clock := fun w' hw => hE.keep hw fun _ h => h
  rcases h2 with ⟨rfl, h3⟩ | ⟨j, e, h3, h4, rfl⟩
  · have key : ∀ w', Agree S w w' → RepE S w' l' (es.push { key := pk, val := pv, born := clock }).toList (clock + 1) := fun w' hw => by
      rcases (hagr w' hw).put (hv0.keep hw fun _ h => h) hM with ⟨j, e, q1, q2, _⟩ | ⟨_, q⟩
      · exact absurd q2 (h3 e (List.mem_of_getElem? q1))
      · simpa using q
    obtain ⟨s1, s2⟩ := hs.writeMap (kt2 := kt') hg hl hm hb key (dense_push hD rfl)
    refine ⟨_, ?_, s1, s2⟩
    simp only [Instr.mapUpdate, Sem.run_bind, run_underlying hu, Result.andThen_ok, run_getMap hb, hK.check, h1]
    exact run_putObj w b es clock _ hb
  · have hj2 : j < es.toList.length := (List.getElem?_eq_some_iff.1 h3).1
    have key : ∀ w', Agree S w w' → RepE S w' l' (es.modify (0 + j) fun e => { e with key := pk, val := pv }).toList clock := fun w' hw => by
      rcases (hagr w' hw).put (hv0.keep hw fun _ h => h) hM with ⟨j', e', q1, q2, q3⟩ | ⟨q, _⟩
      · have hjj : j' = j := by
          have k1 : (es.toList.map (·.key))[j']? = some pk := by rw [List.getElem?_map, q1]; simp [q2]
          have k2 : (es.toList.map (·.key))[j]? = some pk := by rw [List.getElem?_map, h3]; simp [h4]
          exact nodup_at (by rw [hE.keysEq]; exact hE.keys) k1 k2
        subst hjj
        have e3 : (es.modify (0 + j') fun e => { e with key := pk, val := pv }).toList = es.toList.set j' { e' with key := pk, val := pv } := by
          rw [Array.toList_modify, Nat.zero_add]
          apply List.ext_getElem?
          intro i
          rw [List.getElem?_modify, List.getElem?_set]
          by_cases hij : j' = i
          · subst hij
            rw [if_pos rfl, if_pos (by simpa using hj2)]
            simp [q1]
          · simp [hij]
        rw [e3]
        exact q3
      · exact absurd h4 (q e (List.mem_of_getElem? h3))
    obtain ⟨s1, s2⟩ := hs.writeMap (kt2 := kt') hg hl hm hb key (dense_modify hD _ _ fun _ => rfl)
    refine ⟨_, ?_, s1, s2⟩
    have hkey : ((es[0 + j]?.map (·.key)).getD pk) = pk := by
      have : es[0 + j]? = some e := by rw [Nat.zero_add, ← Array.getElem?_toList]; exact h3
      rw [this]
      simp [h4]
    simp only [Instr.mapUpdate, Sem.run_bind, run_underlying hu, Result.andThen_ok, run_getMap hb, hK.check, h1, hkey, Instr.keyThatStays, hK.same, if_true, Sem.run_pure]
    exact run_putObj w b es clock _ hb

theorem tupS_rep (c y : Value) (d : C) (h : RepC S w m d y) : RepV S w m (.tup [(false, [.junk]), (false, [d])]) (.tuple #[c, y]) :=
  ⟨#[c, y], rfl, rfl, fun j p hj => match j, hj with
    | 0, hj => by cases hj; exact ⟨c, rfl, RepC.junk⟩
    | 1, hj => by cases hj; exact ⟨y, rfl, h⟩
    | j + 2, hj => by simp at hj⟩

theorem zeroOf_run (hT : TabOk P T) {vt : Nat} {z : Value} (hz : zeroOf T vt = some z) : (zeroValue vt).run P w = .ok z w := by
  unfold zeroOf at hz
  split at hz
  · rename_i ti hti
    obtain ⟨i, q1, q2, q3, q4⟩ := hT.info hti
    simp [zeroValue, typeInfo, q1, q4, hz]
  · cases hz

theorem evMapEntry_run (hT : TabOk P T) (hs : Sim N w0.F S m st a w) (hg : Goes w0.F.no S0 S w0.w w) {t : Nat} {x k v : V} {px pk : Value} {an : Option Ans} {obl : List Prop} {st' : St} (hx : RepV S w m x px) (hk : RepV S w m k pk)
    (h : evMapEntry P T st t x k an = some (v, obl, st')) (ho : ∀ q ∈ obl, q) : ∃ y w', (Instr.mapEntry t px pk).run P w = .ok y w' ∧ Sim N w0.F S m st' a w' ∧ Goes w0.F.no S0 S w0.w w' ∧ RepV S w' m v y := by
  unfold evMapEntry at h
  split at h
  rotate_left
  · cases h
  rename_i kt vt id kt' l kv ik j z0 l' hmt hmo hkv
  split at h
  rotate_left
  · cases h
  rename_i z hz hden
  cases h
  have hu := mapTy_run hT hmt
  obtain ⟨rfl, hl⟩ := mapOf_eq hmo
  obtain ⟨b, es, clock, hm, hb, hE, hD⟩ := hs.mapBlock hl
  obtain rfl := V.val_rep hk hkv
  have hK : KeyOk P kt pk (l.map (·.1)) := KeyOk.sub (ks := pk :: l.map (·.1)) (ho _ (by simp)) fun _ h => List.mem_cons_of_mem _ h
  have hM : MEnt l pk z j l' := ho _ (by simp)
  have hpx : px = .map (some b) := by
    cases hx with
    | mp h' => rw [hm] at h'; exact h'.symm
  subst hpx
  have hK' := hK
  rw [← hE.keysEq] at hK'
  obtain ⟨r, h1, h2⟩ := hK'.find w
  obtain ⟨hc, hbn⟩ := hD hden
  have hagr : ∀ w', Agree S w w' → RepE S w' l es.toList clock := fun w' hw => hE.keep hw fun _ h => h
  have hfin : ∀ (y : Value) (n : Nat) w', y.oneCell' = true ∨ True → (j = (n : Int)) → RepV S w' m (.tup [(false, [.junk]), (false, [.lit (.int .i64 j)])]) (.tuple #[y, goInt n]) := fun y n w' _ hj => by
    subst hj
    exact tupS_rep _ _ _ RepC.lit
  rcases h2 with ⟨rfl, h3⟩ | ⟨i, e, h3, h4, rfl⟩
  · rcases hM with ⟨i, q1, q2, q3⟩ | ⟨q1, q2, v0, q3, _, q4⟩
    · exfalso
      have : pk ∈ es.toList.map (·.key) := by rw [hE.keysEq]; exact List.mem_of_getElem? (by rw [List.getElem?_map]; exact q1)
      obtain ⟨e, he, hk'⟩ := List.mem_map.1 this
      exact h3 e he hk'
    · have key : ∀ w', Agree S w w' → RepE S w' l' (es.push { key := pk, val := z, born := clock }).toList (clock + 1) := fun w' hw => by
        rcases (hagr w' hw).put (q3 S w' none') (.inr ⟨q1, q4⟩) with ⟨j', e, p1, p2, _⟩ | ⟨_, p⟩
        · exact absurd p2 (h3 e (List.mem_of_getElem? p1))
        · simpa using p
      obtain ⟨s1, s2⟩ := hs.writeMap (kt2 := kt') hg hl hm hb key (dense_push hD rfl)
      refine ⟨_, _, ?_, s1, s2, hfin z clock _ (.inr trivial) (by rw [q2, hc, hE.len])⟩
      simp only [Instr.mapEntry, Sem.run_bind, run_underlying hu, Result.andThen_ok, run_getMap hb, hK.check, h1, zeroOf_run hT hz, run_putObj w b es clock _ hb]
      rfl
  · have hi2 : i < es.toList.length := (List.getElem?_eq_some_iff.1 h3).1
    have hi3 : i < l.length := by rw [← hE.len]; exact hi2
    obtain ⟨p1, p2, p3⟩ := hE.at_ i l[i] e (mapAt hi3) h3
    rcases hM with ⟨i', q1, q2, q3⟩ | ⟨q1, _⟩
    · have hii : i' = i := nodup_at hE.keys (a := pk) (by rw [List.getElem?_map]; exact q1) (by rw [List.getElem?_map, mapAt hi3]; simp [← p1, h4])
      subst hii
      subst q3
      have hkey : ((es[0 + i']?.map (·.key)).getD pk) = pk := by
        have : es[0 + i']? = some e := by rw [Nat.zero_add, ← Array.getElem?_toList]; exact h3
        rw [this]
        simp [h4]
      have hborn : ((es[0 + i']?.map (fun x => (x.born : Int))).getD 0) = (i' : Int) := by
        have : es[0 + i']? = some e := by rw [Nat.zero_add, ← Array.getElem?_toList]; exact h3
        rw [this]
        simp [hbn i' e h3]
      have e3 : (es.modify (0 + i') fun e => { e with key := pk }).toList = es.toList := by
        rw [Array.toList_modify, Nat.zero_add]
        apply List.ext_getElem?
        intro n
        rw [List.getElem?_modify]
        by_cases hin : i' = n
        · subst hin
          rw [h3]
          simp [← h4]
        · simp [hin]
      have key : ∀ w', Agree S w w' → RepE S w' l' (es.modify (0 + i') fun e => { e with key := pk }).toList clock := fun w' hw => by rw [e3]; exact hagr w' hw
      obtain ⟨s1, s2⟩ := hs.writeMap (kt2 := kt') hg hl hm hb key (dense_modify hD _ _ fun _ => rfl)
      refine ⟨_, _, ?_, s1, s2, hfin e.val i' _ (.inr trivial) q2⟩
      simp only [Instr.mapEntry, Sem.run_bind, run_underlying hu, Result.andThen_ok, run_getMap hb, hK.check, h1, hkey, Instr.keyThatStays, hK.same, if_true, Sem.run_pure, hborn, run_putObj w b es clock _ hb]
    · exact absurd (p1.symm.trans h4) (q1 _ (List.getElem_mem hi3))

theorem findIdx_born : ∀ (es : List MapEntry) (i : Nat) (e : MapEntry), es[i]? = some e → (∀ (j : Nat) (e : MapEntry), es[j]? = some e → e.born = j) → es.findIdx? (fun e => (e.born : Int) == (i : Int)) = some i := by
  intro es i e h hb
  obtain ⟨hi, rfl⟩ := List.getElem?_eq_some_iff.1 h
  rw [List.findIdx?_eq_some_iff_getElem]
  refine ⟨hi, ?_, fun j hj => ?_⟩
  · rw [hb i _ h]; simp
  · have := hb j es[j] (by simp [Nat.lt_trans hj hi])
    simp [this]
    omega

theorem evEntryStore_run (hs : Sim N w0.F S m st a w) (hg : Goes w0.F.no S0 S w0.w w) {t : Nat} {x s v : V} {px ps pv : Value} {an : Option Ans} {obl : List Prop} {st' : St} (hx : RepV S w m x px) (hsv : RepV S w m s ps) (hv : RepV S w m v pv)
    (h : evEntryStore st x s v an = some (obl, st')) (ho : ∀ q ∈ obl, q) : ∃ w', (Instr.entryStore t px ps pv).run P w = .ok () w' ∧ Sim N w0.F S m st' a w' ∧ Goes w0.F.no S0 S w0.w w' := by
  unfold evEntryStore at h
  split at h
  rotate_left
  · cases h
  rename_i id kt' l ik j l' hmo hpure
  split at h
  rotate_left
  · cases h
  rename_i hden
  cases h
  obtain ⟨rfl, hl⟩ := mapOf_eq hmo
  obtain ⟨b, es, clock, hm, hb, hE, hD⟩ := hs.mapBlock hl
  obtain ⟨i, rfl, p, hp, rfl⟩ : MSt l j v l' := ho _ (by simp)
  have hpx : px = .map (some b) := by
    cases hx with
    | mp h' => rw [hm] at h'; exact h'.symm
  subst hpx
  have hps : ps = .int ik i := by cases hsv; rfl
  subst hps
  obtain ⟨hc, hbn⟩ := hD hden
  have hi : i < l.length := (List.getElem?_eq_some_iff.1 hp).1
  have hi2 : i < es.toList.length := by rw [hE.len]; exact hi
  obtain ⟨q1, q2, q3⟩ := hE.at_ i p es.toList[i] hp (mapAt hi2)
  have hv0 : RepV S w none' v pv := hv.anyM none' hpure
  have hag : ∀ w', Agree S w w' → RepE S w' (l.set i (p.1, v)) (es.modify i fun e => { e with val := pv }).toList clock := fun w' hw => by
    rcases (hE.keep hw fun _ h => h).put (hv0.keep hw fun _ h => h) (k := p.1) (l' := l.set i (p.1, v)) (.inl ⟨i, by rw [hp]; rfl, rfl⟩) with ⟨j', e', r1, r2, r3⟩ | ⟨r, _⟩
    · have hjj : j' = i := by
        have k1 : (es.toList.map (·.key))[j']? = some p.1 := by rw [List.getElem?_map, r1]; simp [r2]
        have k2 : (es.toList.map (·.key))[i]? = some p.1 := by rw [List.getElem?_map, mapAt hi2, Option.map_some, q1]
        exact nodup_at (by rw [hE.keysEq]; exact hE.keys) k1 k2
      subst hjj
      have e3 : (es.modify j' fun e => { e with val := pv }).toList = es.toList.set j' { e' with key := p.1, val := pv } := by
        rw [Array.toList_modify]
        apply List.ext_getElem?
        intro n
        rw [List.getElem?_modify, List.getElem?_set]
        by_cases hij : j' = n
        · subst hij
          rw [if_pos rfl, if_pos hi2]
          simp [r1, ← r2]
        · simp [hij]
      rw [e3]
      exact r3
    · exact absurd q1 (r _ (List.getElem_mem hi2))
  obtain ⟨s1, s2⟩ := hs.writeMap (kt2 := kt') hg hl hm hb hag (dense_modify hD _ _ fun _ => rfl)
  refine ⟨_, ?_, s1, s2⟩
  have hf : es.findIdx? (fun e => (e.born : Int) == (i : Int)) = some i := by
    have e0 : es = es.toList.toArray := (Array.toArray_toList).symm
    rw [e0, List.findIdx?_toArray]
    exact findIdx_born _ _ _ (mapAt hi2) hbn
  simp only [Instr.entryStore, asInt, asIntOf, Sem.run_bind, Result.andThen_ok, run_getMap hb, Sem.run_pure, hf]
  exact run_putObj w b es clock _ hb

theorem evMapDel_run (hT : TabOk P T) (hs : Sim N w0.F S m st a w) (hg : Goes w0.F.no S0 S w0.w w) {t ty : Nat} {x k : V} {px pk : Value} {an : Option Ans} {obl : List Prop} {st' : St} (hx : RepV S w m x px) (hk : RepV S w m k pk)
    (h : evMapDel P T st t x k an = some (obl, st')) (ho : ∀ q ∈ obl, q) (t2 : TypeId) : ∃ w', (Builtin.delete_ #[t, t2] ty #[px, pk]).run P w = .ok (.tuple #[]) w' ∧ Sim N w0.F S m st' a w' ∧ Goes w0.F.no S0 S w0.w w' := by
  unfold evMapDel at h
  split at h
  rotate_left
  · cases h
  rename_i kt vt id kt' l kv l' hmt hmo hkv
  cases h
  have hu := mapTy_run hT hmt
  obtain ⟨rfl, hl⟩ := mapOf_eq hmo
  obtain ⟨b, es, clock, hm, hb, hE, hD⟩ := hs.mapBlock hl
  obtain rfl := V.val_rep hk hkv
  have hK : KeyOk P kt pk (l.map (·.1)) := ho _ (by simp)
  have hM : MDel l pk l' := ho _ (by simp)
  have hpx : px = .map (some b) := by
    cases hx with
    | mp h' => rw [hm] at h'; exact h'.symm
  subst hpx
  have hK' := hK
  rw [← hE.keysEq] at hK'
  obtain ⟨r, h1, h2⟩ := hK'.find w
  have hagr : ∀ w', Agree S w w' → RepE S w' l es.toList clock := fun w' hw => hE.keep hw fun _ h => h
  rcases h2 with ⟨rfl, h3⟩ | ⟨j, e, h3, h4, rfl⟩
  · have key : ∀ w', Agree S w w' → RepE S w' l' es.toList clock := fun w' hw => by
      rcases (hagr w' hw).del hM with ⟨j, e, q1, q2, _⟩ | ⟨_, q⟩
      · exact absurd q2 (h3 e (List.mem_of_getElem? q1))
      · exact q
    obtain ⟨s1, s2⟩ := hs.writeMap (kt2 := loose kt') hg hl hm hb key (dense_del _ _ _)
    refine ⟨_, ?_, s1, s2⟩
    simp [Builtin.delete_, Sem.run_bind, run_underlying hu, run_getMap hb, hK.check, h1, run_putObj w b es clock _ hb]
  · have hj2 : j < es.toList.length := (List.getElem?_eq_some_iff.1 h3).1
    have key : ∀ w', Agree S w w' → RepE S w' l' (es.eraseIdxIfInBounds (0 + j)).toList clock := fun w' hw => by
      rcases (hagr w' hw).del hM with ⟨j', e', q1, q2, q3⟩ | ⟨q, _⟩
      · have hjj : j' = j := by
          have k1 : (es.toList.map (·.key))[j']? = some pk := by rw [List.getElem?_map, q1]; simp [q2]
          have k2 : (es.toList.map (·.key))[j]? = some pk := by rw [List.getElem?_map, h3]; simp [h4]
          exact nodup_at (by rw [hE.keysEq]; exact hE.keys) k1 k2
        subst hjj
        have hj3 : 0 + j' < es.size := by simpa using hj2
        have e3 : (es.eraseIdxIfInBounds (0 + j')).toList = es.toList.eraseIdx j' := by
          unfold Array.eraseIdxIfInBounds
          rw [dif_pos hj3, Array.toList_eraseIdx, Nat.zero_add]
        rw [e3]
        exact q3
      · exact absurd h4 (q e (List.mem_of_getElem? h3))
    obtain ⟨s1, s2⟩ := hs.writeMap (kt2 := loose kt') hg hl hm hb key (dense_del _ _ _)
    refine ⟨_, ?_, s1, s2⟩
    simp only [Nat.zero_add] at s1 ⊢
    simp [Builtin.delete_, Sem.run_bind, run_underlying hu, run_getMap hb, hK.check, h1, run_putObj w b es clock _ hb]
end

end Go.Proofs.Ytgedafbejcpioaa
