/-
  PLAIN FACTS ON MAPS, over whatever program: a map whose keys are read as κ and whose values as ν.
-/
import Derived.Test.YtocebogaopjkfaaMem
namespace Go.Proofs.Ytocebogaopjkfaa
open Go.RowKit

/-- A map's entries: key, value, stamp; and its clock. -/
structure MapS (κ ν : Type) where
  l : List (κ × ν × Nat)
  clock : Nat

section
variable {κ ν : Type} [DecidableEq κ] (kv : κ → Value) (vv : ν → Value)

def MapS.ents (s : MapS κ ν) : List MapEntry := s.l.map fun p => { key := kv p.1, val := vv p.2.1, born := p.2.2 }
/-- The object in memory. -/
def MapS.obj (s : MapS κ ν) : Obj := .map (s.ents kv vv).toArray s.clock

def MapS.find (s : MapS κ ν) (k : κ) : Option ν := (s.l.find? (fun p => decide (k = p.1))).map (·.2.1)
def MapS.idx (s : MapS κ ν) (k : κ) : Option Nat := s.l.findIdx? (fun p => decide (k = p.1))
def MapS.keys (s : MapS κ ν) : List κ := s.l.map (·.1)

/-- Keys unlike, stamps unlike and below the clock. -/
structure MapS.Ok (s : MapS κ ν) : Prop where
  keys : (s.l.map (·.1)).Nodup
  born : (s.l.map (·.2.2)).Nodup
  below : ∀ p ∈ s.l, p.2.2 < s.clock

/-- m[k] = v. -/
def MapS.put (s : MapS κ ν) (k : κ) (v : ν) : MapS κ ν :=
  if k ∈ s.keys then { s with l := s.l.map fun p => if k = p.1 then (p.1, v, p.2.2) else p } else { l := s.l ++ [(k, v, s.clock)], clock := s.clock + 1 }

theorem MapS.put_mem {s : MapS κ ν} {k : κ} (v : ν) (h : k ∈ s.keys) : s.put k v = { s with l := s.l.map fun p => if k = p.1 then (p.1, v, p.2.2) else p } := by
  unfold MapS.put; rw [if_pos h]
theorem MapS.put_new {s : MapS κ ν} {k : κ} (v : ν) (h : k ∉ s.keys) : s.put k v = { l := s.l ++ [(k, v, s.clock)], clock := s.clock + 1 } := by
  unfold MapS.put; rw [if_neg h]

theorem MapS.put_keys (s : MapS κ ν) (k : κ) (v : ν) : (s.put k v).keys = if k ∈ s.keys then s.keys else s.keys ++ [k] := by
  unfold MapS.put
  split
  · simp only [MapS.keys, List.map_map]
    apply List.map_congr_left
    intro p _
    simp only [Function.comp]
    split <;> rfl
  · simp [MapS.keys]

theorem MapS.Ok.put {s : MapS κ ν} (h : s.Ok) (k : κ) (v : ν) : (s.put k v).Ok := by
  have hk := MapS.put_keys s k v
  unfold MapS.keys at hk
  by_cases hm : k ∈ s.keys
  · have hm' : k ∈ List.map (fun x => x.1) s.l := hm
    rw [if_pos hm'] at hk
    refine ⟨by rw [hk]; exact h.keys, ?_, ?_⟩
    · have : (s.put k v).l.map (·.2.2) = s.l.map (·.2.2) := by
        unfold MapS.put
        rw [if_pos hm]
        simp only [List.map_map]
        apply List.map_congr_left
        intro p _
        simp only [Function.comp]
        split <;> rfl
      rw [this]; exact h.born
    · unfold MapS.put
      rw [if_pos hm]
      intro p hp
      simp only [List.mem_map] at hp
      obtain ⟨q, hq, rfl⟩ := hp
      have := h.below q hq
      split <;> exact this
  · have hm' : ¬ k ∈ List.map (fun x => x.1) s.l := hm
    rw [if_neg hm'] at hk
    refine ⟨?_, ?_, ?_⟩
    · rw [hk, List.nodup_append]
      exact ⟨h.keys, by simp, fun a ha b hb => by simp at hb; subst hb; intro e; subst e; exact hm' ha⟩
    · unfold MapS.put
      rw [if_neg hm]
      simp only [List.map_append, List.map_cons, List.map_nil]
      rw [List.nodup_append]
      refine ⟨h.born, by simp, fun a ha b hb => ?_⟩
      simp only [List.mem_map] at ha
      obtain ⟨q, hq, rfl⟩ := ha
      have := h.below q hq
      simp at hb
      omega
    · unfold MapS.put
      rw [if_neg hm]
      intro p hp
      simp only [List.mem_append, List.mem_singleton] at hp
      rcases hp with hp | rfl
      · have := h.below p hp
        show p.2.2 < s.clock + 1
        omega
      · show s.clock < s.clock + 1
        omega

/-- What the program's tables owe for the keys. -/
structure KeyLaws (P : Program) (kt : TypeId) : Prop where
  check : ∀ (e : Bool) (k : κ) (w : World), (Instr.checkKey e 10000 kt (kv k)).run P w = .ok () w
  eql : ∀ (a b : κ) (w : World), (Op.equal kt (kv a) (kv b)).run P w = .ok (decide (a = b)) w
  slow : ∃ d, P.underlying kt = some d ∧ ∀ a b, Instr.sameNow d (kv a) (kv b) = none
  same : ∀ k, Instr.sameBits 10000 (kv k) (kv k) = true

variable {kv vv}

/-- The first entry of a key: its place, its value. -/
def findIn (k : κ) : List (κ × ν × Nat) → Nat → Option (Nat × ν × Nat)
  | [], _ => none
  | p :: l, i => if k = p.1 then some (i, p.2) else findIn k l (i + 1)

theorem run_findAsking {P : Program} {kt : TypeId} (K : KeyLaws kv P kt) (k : κ) (w : World) : ∀ (l : List (κ × ν × Nat)) (i : Nat),
    (Instr.findAsking kt (kv k) (l.map fun p => { key := kv p.1, val := vv p.2.1, born := p.2.2 }) i).run P w = .ok ((findIn k l i).map fun q => (q.1, vv q.2.1)) w
  | [], i => by simp [Instr.findAsking, findIn, Sem.run_pure]
  | p :: l, i => by
    simp only [List.map_cons, Instr.findAsking, Sem.run_bind, K.eql, Result.andThen_ok, findIn]
    by_cases h : k = p.1
    · simp [h, Sem.run_pure]
    · simp only [h, decide_false, Bool.false_eq_true, if_false]
      exact run_findAsking K k w l (i + 1)

theorem run_findKey {P : Program} {kt : TypeId} (K : KeyLaws kv P kt) (k : κ) (w : World) (l : List (κ × ν × Nat)) :
    (Instr.findKey kt (kv k) (l.map fun p => { key := kv p.1, val := vv p.2.1, born := p.2.2 })).run P w = .ok ((findIn k l 0).map fun q => (q.1, vv q.2.1)) w := by
  obtain ⟨d, hd, hs⟩ := K.slow
  unfold Instr.findKey
  rw [Sem.run_bind, run_underlying hd w]
  simp only [Result.andThen_ok]
  cases l with
  | nil => simp [Instr.findNow, findIn, Sem.run_pure]
  | cons p l =>
    simp only [List.map_cons, Instr.findNow, hs]
    exact run_findAsking K k w (p :: l) 0

theorem findIn_spec (k : κ) : ∀ (l : List (κ × ν × Nat)) (i : Nat),
    (findIn k l i = none ∧ k ∉ l.map (·.1)) ∨ ∃ j v n, findIn k l i = some (i + j, v, n) ∧ l[j]? = some (k, v, n)
  | [], i => .inl ⟨rfl, by simp⟩
  | p :: l, i => by
    by_cases h : k = p.1
    · refine .inr ⟨0, p.2.1, p.2.2, ?_, ?_⟩
      · simp [findIn, h]
      · simp [h]
    · rcases findIn_spec k l (i + 1) with ⟨h1, h2⟩ | ⟨j, v, n, h1, h2⟩
      · refine .inl ⟨by simp [findIn, h, h1], ?_⟩
        simp only [List.map_cons, List.mem_cons, not_or]
        exact ⟨h, h2⟩
      · refine .inr ⟨j + 1, v, n, ?_, by simpa using h2⟩
        simp only [findIn, h, if_false, h1]
        congr 2
        omega

/-- What m[k] gives. -/
def MapS.get (s : MapS κ ν) (k : κ) (z : ν) : ν := ((findIn k s.l 0).map (·.2.1)).getD z

/-- The stamp of a key's entry, once it is there. -/
def MapS.stamp (s : MapS κ ν) (k : κ) : Nat := ((findIn k s.l 0).map (·.2.2)).getD s.clock

/-- A world with another object in a block. -/
def _root_.Go.World.setObj (w : World) (b : Nat) (o : Obj) : World := { w with heap := w.heap.setIfInBounds b o }

theorem setObj_heap (w : World) (b : Nat) (o : Obj) (h : b < w.heap.size) : (w.setObj b o).heap[b]? = some o := by
  simp [World.setObj, h]
theorem setObj_setObj (w : World) (b : Nat) (o o' : Obj) : (w.setObj b o).setObj b o' = w.setObj b o' := by
  simp [World.setObj]
theorem setObj_size (w : World) (b : Nat) (o : Obj) : (w.setObj b o).heap.size = w.heap.size := by simp [World.setObj]
theorem setObj_drew (w : World) (b : Nat) (o : Obj) : w.drew.setObj b o = (w.setObj b o).drew := rfl
theorem setObj_cell (w : World) (b : Nat) (o : Obj) (a : Addr) (h : a.block ≠ b) : (w.setObj b o).cell? a = w.cell? a := by
  simp only [World.cell?, World.setObj]
  rw [Array.getElem?_setIfInBounds_ne (by omega)]
theorem Below_setObj {B : Nat} {a w : World} (h : Below B a w) {b : Nat} (hb : B ≤ b) (o : Obj) : Below B a (w.setObj b o) :=
  h.trans ⟨rfl, rfl, rfl, by simp [World.setObj], fun k hk => by
    simp only [World.setObj]
    rw [Array.getElem?_setIfInBounds_ne (by omega)]⟩

omit [DecidableEq κ] in
/-- Rows lie in no map's block. -/
theorem _root_.Go.Proofs.Ytocebogaopjkfaa.Rows.setObj {α : Type} [Cells α] {w : World} {ao : Option Addr} {l : List α} (h : Rows w ao l) {b : Nat} {s : MapS κ ν} (hb : w.heap[b]? = some (s.obj kv vv)) (o : Obj) : Rows (w.setObj b o) ao l := by
  intro i hi
  obtain ⟨c, off, e, hc⟩ := h i hi
  refine ⟨c, off, e, fun j hj => ?_⟩
  have h0 := hc j hj
  have hlt : j < (Cells.cells l[i]).length := by rw [Cells.size]; exact hj
  rw [List.getElem?_eq_getElem hlt] at h0 ⊢
  rw [setObj_cell _ _ _ _ (by
    rintro rfl
    simp [World.cell?, hb, MapS.obj] at h0)]
  exact h0

variable (kv vv)

theorem run_lookup_map {P : Program} {t kt et : TypeId} (K : KeyLaws kv P kt) (ht : P.underlying t = some (.map kt et)) (z : ν) (hz : ∀ w, (zeroValue et).run P w = .ok (vv z) w)
    (s : MapS κ ν) (k : κ) (b : Nat) (w : World) (hb : w.heap[b]? = some (s.obj kv vv)) :
    (Instr.lookup t (.map (some b)) (kv k) false).run P w = .ok (vv (s.get k z)) w := by
  have h1 := run_findKey (vv := vv) K k w s.l
  simp only [MapS.obj, MapS.ents] at hb
  simp only [Instr.lookup, Sem.run_bind, run_underlying ht, Result.andThen_ok, getObj, Sem.run, hb, K.check, h1, Sem.run_pure]
  unfold MapS.get
  cases h : findIn k s.l 0 with
  | none => simp [hz]
  | some q => simp

/-- Where a key stands: the entry at j, and nowhere else. -/
theorem MapS.at_key {s : MapS κ ν} (h : s.Ok) {k : κ} {j : Nat} {v : ν} {n : Nat} (hj : s.l[j]? = some (k, v, n)) (v' : ν) :
    (s.l.map fun p => if k = p.1 then (p.1, v', p.2.2) else p) = s.l.set j (k, v', n) := by
  apply List.ext_getElem?
  intro i
  have hlt : j < s.l.length := (List.getElem?_eq_some_iff.1 hj).1
  rw [List.getElem?_map, List.getElem?_set]
  by_cases hij : j = i
  · subst hij
    rw [hj]
    simp [hlt]
  · rw [if_neg hij]
    cases hi : s.l[i]? with
    | none => rfl
    | some p =>
      simp only [Option.map_some, Option.some.injEq]
      rw [if_neg]
      intro e
      have hn := h.keys
      have h1 : (s.l.map (·.1))[j]? = some k := by simp [hj]
      have h2 : (s.l.map (·.1))[i]? = some k := by simp [hi, e]
      exact hij ((List.getElem?_inj (by simpa using hlt) hn).1 (h1.trans h2.symm))

omit [DecidableEq κ] in
theorem MapS.mem_of_at {s : MapS κ ν} {k : κ} {j : Nat} {v : ν} {n : Nat} (hj : s.l[j]? = some (k, v, n)) : k ∈ s.keys := by
  unfold MapS.keys
  exact List.mem_map.2 ⟨_, List.mem_of_getElem? hj, rfl⟩

theorem MapS.put_at {s : MapS κ ν} (h : s.Ok) {k : κ} {j : Nat} {v : ν} {n : Nat} (hj : s.l[j]? = some (k, v, n)) (v' : ν) :
    s.put k v' = { s with l := s.l.set j (k, v', n) } := by
  unfold MapS.put
  rw [if_pos (MapS.mem_of_at hj), MapS.at_key h hj v']

theorem MapS.put_same {s : MapS κ ν} (h : s.Ok) {k : κ} {j : Nat} {v : ν} {n : Nat} (hj : s.l[j]? = some (k, v, n)) : s.put k v = s := by
  rw [MapS.put_at h hj]
  have : s.l.set j (k, v, n) = s.l := by
    apply List.ext_getElem?
    intro i
    rw [List.getElem?_set]
    by_cases hij : j = i
    · subst hij
      rw [hj]
      simp [(List.getElem?_eq_some_iff.1 hj).1]
    · rw [if_neg hij]
  rw [this]

theorem MapS.put_put {s : MapS κ ν} (k : κ) (v v' : ν) : (s.put k v).put k v' = s.put k v' := by
  have hk := MapS.put_keys s k v
  have hm : k ∈ (s.put k v).keys := by
    rw [hk]; split
    · assumption
    · simp
  rw [MapS.put_mem v' hm]
  by_cases h : k ∈ s.keys
  · rw [MapS.put_mem v h, MapS.put_mem v' h]
    simp only [List.map_map]
    congr 1
    apply List.map_congr_left
    intro p _
    simp only [Function.comp]
    by_cases hp : k = p.1 <;> simp [hp]
  · rw [MapS.put_new v h, MapS.put_new v' h]
    simp only [List.map_append, List.map_cons, List.map_nil, if_true]
    congr 1
    congr 1
    conv => rhs; rw [← List.map_id s.l]
    apply List.map_congr_left
    intro p hp
    rw [if_neg]
    · rfl
    · intro e
      exact h (List.mem_map.2 ⟨p, hp, e.symm⟩)

theorem MapS.get_put {s : MapS κ ν} (k : κ) (v z : ν) : (s.put k v).get k z = v := by
  have hk := MapS.put_keys s k v
  have hm : k ∈ (s.put k v).keys := by
    rw [hk]; split
    · assumption
    · simp
  unfold MapS.get
  rcases findIn_spec k (s.put k v).l 0 with ⟨_, h2⟩ | ⟨j, u, n, h1, h2⟩
  · exact absurd hm h2
  · rw [h1]
    simp only [Option.map_some, Option.getD_some]
    have hmem := List.mem_of_getElem? h2
    unfold MapS.put at hmem
    split at hmem
    · simp only [List.mem_map] at hmem
      obtain ⟨p, _, hp⟩ := hmem
      split at hp
      · exact (congrArg (fun q => q.2.1) hp).symm
      · rename_i hne
        exact absurd (congrArg (fun q => q.1) hp).symm hne
    · rename_i hne
      simp only [List.mem_append, List.mem_singleton] at hmem
      rcases hmem with hmem | hmem
      · exact absurd (List.mem_map.2 ⟨_, hmem, rfl⟩) hne
      · exact congrArg (fun q => q.2.1) hmem

theorem MapS.stamp_put {s : MapS κ ν} (h : s.Ok) (k : κ) (v : ν) : (s.put k v).stamp k = s.stamp k := by
  have hm : k ∈ (s.put k v).keys := by
    rw [MapS.put_keys]; split
    · assumption
    · simp
  have ho := h.put k v
  unfold MapS.stamp
  rcases findIn_spec k s.l 0 with ⟨h1, h2⟩ | ⟨j, u, n, h1, h2⟩
  · rw [h1]
    rcases findIn_spec k (s.put k v).l 0 with ⟨_, h4⟩ | ⟨i, u, n, h3, h4⟩
    · exact absurd hm h4
    · rw [h3]
      rw [MapS.put_new v h2] at h4
      have hmem := List.mem_of_getElem? h4
      simp only [List.mem_append, List.mem_singleton] at hmem
      rcases hmem with hmem | hmem
      · exact absurd (List.mem_map.2 ⟨_, hmem, rfl⟩) h2
      · simpa using congrArg (fun q => q.2.2) hmem
  · rw [h1]
    have hlt : j < s.l.length := (List.getElem?_eq_some_iff.1 h2).1
    have h5 : (s.put k v).l[j]? = some (k, v, n) := by
      rw [MapS.put_at h h2]
      simp [hlt]
    rcases findIn_spec k (s.put k v).l 0 with ⟨_, h4⟩ | ⟨i, u', n', h3, h4⟩
    · exact absurd hm h4
    · rw [h3]
      have hij : i = j := by
        have a1 : ((s.put k v).l.map (·.1))[i]? = some k := by rw [List.getElem?_map, h4]; rfl
        have a2 : ((s.put k v).l.map (·.1))[j]? = some k := by rw [List.getElem?_map, h5]; rfl
        have : i < (s.put k v).l.length := (List.getElem?_eq_some_iff.1 h4).1
        exact (List.getElem?_inj (by simpa using this) ho.keys).1 (a1.trans a2.symm)
      subst hij
      rw [h4] at h5
      simpa using congrArg (fun q => q.2.2) (Option.some.inj h5)

theorem MapS.get_none {s : MapS κ ν} {k : κ} (z : ν) (h : k ∉ s.keys) : s.get k z = z := by
  unfold MapS.get
  rcases findIn_spec k s.l 0 with ⟨h1, _⟩ | ⟨j, u, n, _, h2⟩
  · rw [h1]; rfl
  · exact absurd (MapS.mem_of_at h2) h

theorem run_setObj {P : Program} (w : World) (b : Nat) (es : Array MapEntry) (c : Nat) (o : Obj) (h : w.heap[b]? = some (.map es c)) : (Go.setObj b o).run P w = .ok () (w.setObj b o) := by
  simp [Go.setObj, Sem.run, h, World.setObj]

/-- m[k] = v. -/
theorem run_mapUpdate_map {P : Program} {t kt et : TypeId} (K : KeyLaws kv P kt) (ht : P.underlying t = some (.map kt et))
    (s : MapS κ ν) (hs : s.Ok) (k : κ) (v : ν) (b : Nat) (w : World) (hb : w.heap[b]? = some (s.obj kv vv)) :
    (Instr.mapUpdate t (.map (some b)) (kv k) (vv v)).run P w = .ok () (w.setObj b ((s.put k v).obj kv vv)) := by
  have h1 := run_findKey (vv := vv) K k w s.l
  have hb' := hb
  simp only [MapS.obj, MapS.ents] at hb'
  simp only [Instr.mapUpdate, Sem.run_bind, run_underlying ht, Result.andThen_ok, getObj, Sem.run, hb', K.check, h1]
  rcases findIn_spec k s.l 0 with ⟨h2, h3⟩ | ⟨j, u, n, h2, h3⟩
  · rw [h2]
    simp only [Option.map_none]
    rw [run_setObj w b _ _ _ hb']
    have hk : ¬ k ∈ s.keys := h3
    simp [MapS.obj, MapS.ents, MapS.put, hk]
  · rw [h2]
    have hlt : j < s.l.length := (List.getElem?_eq_some_iff.1 h3).1
    have hkey : ((List.map (fun p => ({ key := kv p.1, val := vv p.2.1, born := p.2.2 } : MapEntry)) s.l).toArray[0 + j]?.map (·.key)).getD (kv k) = kv k := by
      simp [h3]
    simp only [Option.map_some, hkey, Instr.keyThatStays, K.same, if_true, Sem.run_bind, Sem.run_pure, Result.andThen_ok]
    rw [run_setObj w b _ _ _ hb']
    rw [MapS.put_at hs h3]
    congr 2
    simp only [MapS.obj, MapS.ents]
    congr 1
    apply Array.ext'
    rw [Array.toList_modify]
    apply List.ext_getElem?
    intro i
    rw [Nat.zero_add, List.getElem?_modify]
    simp only [List.getElem?_map, List.getElem?_set]
    by_cases hij : j = i
    · subst hij
      have e := (List.getElem?_eq_some_iff.1 h3).2
      simp [hlt, e]
    · simp [hij]

/-- The entry of m[k], made if it is not there: its value and its stamp. -/
theorem run_mapEntry_map {P : Program} {t kt et : TypeId} (K : KeyLaws kv P kt) (ht : P.underlying t = some (.map kt et)) (z : ν) (hz : ∀ w, (zeroValue et).run P w = .ok (vv z) w)
    (s : MapS κ ν) (hs : s.Ok) (k : κ) (b : Nat) (w : World) (hb : w.heap[b]? = some (s.obj kv vv)) :
    (Instr.mapEntry t (.map (some b)) (kv k)).run P w = .ok (.tuple #[vv (s.get k z), goInt (s.stamp k)]) (w.setObj b ((s.put k (s.get k z)).obj kv vv)) := by
  have h1 := run_findKey (vv := vv) K k w s.l
  have hb' := hb
  simp only [MapS.obj, MapS.ents] at hb'
  simp only [Instr.mapEntry, Sem.run_bind, run_underlying ht, Result.andThen_ok, getObj, Sem.run, hb', K.check, h1]
  unfold MapS.stamp
  rcases findIn_spec k s.l 0 with ⟨h2, h3⟩ | ⟨j, u, n, h2, h3⟩
  · have hg := MapS.get_none (s := s) z h3
    rw [hg, h2]
    simp only [Option.map_none, Sem.run_bind, hz, Result.andThen_ok]
    rw [run_setObj w b _ _ _ hb']
    have hk : ¬ k ∈ s.keys := h3
    simp [MapS.obj, MapS.ents, MapS.put, hk]
  · have hg : s.get k z = u := by unfold MapS.get; rw [h2]; rfl
    rw [hg, h2]
    have hlt : j < s.l.length := (List.getElem?_eq_some_iff.1 h3).1
    have e := (List.getElem?_eq_some_iff.1 h3).2
    have hkey : ((List.map (fun p => ({ key := kv p.1, val := vv p.2.1, born := p.2.2 } : MapEntry)) s.l).toArray[0 + j]?.map (·.key)).getD (kv k) = kv k := by
      simp [h3]
    simp only [Option.map_some, hkey, Instr.keyThatStays, K.same, if_true, Sem.run_bind, Sem.run_pure, Result.andThen_ok]
    rw [run_setObj w b _ _ _ hb', MapS.put_same hs h3]
    simp only [Result.andThen_ok]
    have hm : (List.map (fun p => ({ key := kv p.1, val := vv p.2.1, born := p.2.2 } : MapEntry)) s.l).toArray.modify (0 + j) (fun x => { x with key := kv k }) = (List.map (fun p => ({ key := kv p.1, val := vv p.2.1, born := p.2.2 } : MapEntry)) s.l).toArray := by
      apply Array.ext'
      rw [Array.toList_modify]
      apply List.ext_getElem?
      intro i
      rw [Nat.zero_add, List.getElem?_modify]
      simp only [List.getElem?_map]
      by_cases hij : j = i
      · subst hij
        simp [hlt, e]
      · simp [hij]
    rw [hm]
    simp [hlt, e, MapS.obj, MapS.ents]

/-- The entry of a stamp is given a value. -/
theorem run_entryStore_map {P : Program} (t : TypeId) (s : MapS κ ν) (hs : s.Ok) (k : κ) (v : ν) (b : Nat) (w : World) (hk : k ∈ s.keys) (hb : w.heap[b]? = some (s.obj kv vv)) :
    (Instr.entryStore t (.map (some b)) (goInt (s.stamp k)) (vv v)).run P w = .ok () (w.setObj b ((s.put k v).obj kv vv)) := by
  have hb' := hb
  simp only [MapS.obj, MapS.ents] at hb'
  rcases findIn_spec k s.l 0 with ⟨_, h3⟩ | ⟨j, u, n, h2, h3⟩
  · exact absurd hk h3
  have hst : s.stamp k = n := by unfold MapS.stamp; rw [h2]; rfl
  have hlt : j < s.l.length := (List.getElem?_eq_some_iff.1 h3).1
  have e := (List.getElem?_eq_some_iff.1 h3).2
  have hidx : (List.map (fun p => ({ key := kv p.1, val := vv p.2.1, born := p.2.2 } : MapEntry)) s.l).toArray.findIdx? (fun x => (x.born : Int) == (n : Int)) = some j := by
    rw [List.findIdx?_toArray, List.findIdx?_eq_some_iff_getElem]
    refine ⟨by simpa using hlt, by simp [e], fun i hi => ?_⟩
    simp only [List.getElem_map, beq_iff_eq, Int.natCast_inj]
    intro hn
    have h4 : (s.l.map (·.2.2))[j]? = some n := by simp [h3]
    have hil : i < s.l.length := by omega
    have h5 : (s.l.map (·.2.2))[i]? = some n := by simp [hil, hn]
    have := (List.getElem?_inj (by simpa using hlt) hs.born).1 (h4.trans h5.symm)
    omega
  rw [hst]
  simp only [Instr.entryStore, goInt, asInt, asIntOf, Sem.run_bind, Result.andThen_ok, getObj, Sem.run, hb', Sem.run_pure, hidx]
  rw [run_setObj w b _ _ _ hb', MapS.put_at hs h3]
  congr 2
  simp only [MapS.obj, MapS.ents]
  congr 1
  apply Array.ext'
  rw [Array.toList_modify]
  apply List.ext_getElem?
  intro i
  rw [List.getElem?_modify]
  simp only [List.getElem?_map, List.getElem?_set]
  by_cases hij : j = i
  · subst hij
    simp [hlt, e]
  · simp [hij]

omit [DecidableEq κ] in
theorem run_len_map {P : Program} {t ty kt et : TypeId} (ht : P.underlying t = some (.map kt et)) (s : MapS κ ν) (b : Nat) (w : World) (hb : w.heap[b]? = some (s.obj kv vv)) :
    (Builtin.len_ #[t] ty #[.map (some b)]).run P w = .ok (.int .i64 s.keys.length) w := by
  simp only [MapS.obj, MapS.ents] at hb
  simp [Builtin.len_, Sem.run_bind, run_underlying ht, getObj, Sem.run, hb, goInt, MapS.keys]

end
end Go.Proofs.Ytocebogaopjkfaa
