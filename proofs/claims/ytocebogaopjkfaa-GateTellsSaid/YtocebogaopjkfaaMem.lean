/-
  PLAIN FACTS ON MEMORY, over whatever program: Go data read as Lean data ('Cells'), slices of structs, a struct loaded from the middle of a block, stored into a block of the call's own.
-/
import Derived.WalkKit
import Derived.WalkSpells
import Derived.WalkLawsBesides
import Derived.Lib.Hide
import Derived.ProofKit
import Derived.Deep.Slices
import Derived.ChangeArms
import Derived.Laws.Tables
namespace Go.Proofs.Ytocebogaopjkfaa
open Go.RowKit

theorem ret_int {k : IntKind} {a b : Int} (h : a = b) : Ending.returned (.int k a) = .returned (.int k b) := by rw [h]
theorem ret_bool {a b : Bool} (h : a = b) : Ending.returned (.bool a) = .returned (.bool b) := by rw [h]

/-- A Go type read as a Lean type: how many cells it has, what they hold, and what else must lie in memory. -/
class Cells (α : Type) where
  sz : Nat
  cells : α → List Value
  deep : World → α → Prop
  size : ∀ a, (cells a).length = sz
  one : ∀ a, ∀ v ∈ cells a, v.oneCell' = true
  keep : ∀ {w w' : World} {a : α}, deep w a → Below w.heap.size w w' → deep w' a

instance : Cells Int where
  sz := 1
  cells n := [.int .i64 n]
  deep _ n := -9223372036854775808 ≤ n ∧ n ≤ 9223372036854775807
  size _ := rfl
  one _ v h := by simp at h; subst h; rfl
  keep h _ := h

instance : Cells Bool where
  sz := 1
  cells b := [.bool b]
  deep _ _ := True
  size _ := rfl
  one _ v h := by simp at h; subst h; rfl
  keep h _ := h

instance : Cells UInt64 where
  sz := 1
  cells n := [.int .u64 n.toNat]
  deep _ _ := True
  size _ := rfl
  one _ v h := by simp at h; subst h; rfl
  keep h _ := h

instance : Cells ByteArray where
  sz := 1
  cells s := [.string s]
  deep _ s := s.size ≤ maxLen
  size _ := rfl
  one _ v h := by simp at h; subst h; rfl
  keep h _ := h

/-- A slice: its address, its capacity, its elements. -/
structure Sl (α : Type) where
  ao : Option Addr
  cap : Nat
  l : List α

/-- The value in a slot. -/
def Sl.val {α : Type} (s : Sl α) : Value := .slice s.ao s.l.length s.cap

/-- The elements' cells lie behind the address. -/
def Rows {α : Type} [Cells α] (w : World) (ao : Option Addr) (l : List α) : Prop :=
  ∀ i (h : i < l.length), ∃ b off, ao = some ⟨b, off, none⟩ ∧ ∀ j, j < Cells.sz α → w.cell? ⟨b, off + i * Cells.sz α + j, none⟩ = (Cells.cells l[i])[j]?

theorem Rows.keep {α : Type} [Cells α] {w w' : World} {ao : Option Addr} {l : List α} (h : Rows w ao l) (hb : Below w.heap.size w w') : Rows w' ao l := by
  intro i hi
  obtain ⟨b, off, rfl, hc⟩ := h i hi
  refine ⟨b, off, rfl, fun j hj => ?_⟩
  have h1 := hc j hj
  have hlt : j < (Cells.cells l[i]).length := by rw [Cells.size]; exact hj
  rw [List.getElem?_eq_getElem hlt] at h1 ⊢
  rw [hb.cell (block_lt_of_cell h1)]
  exact h1

theorem Rows.nil {α : Type} [Cells α] (w : World) (ao : Option Addr) : Rows w ao ([] : List α) := fun i h => absurd h (by simp)

instance {α : Type} [Cells α] : Cells (Sl α) where
  sz := 1
  cells s := [s.val]
  deep w s := s.l.length ≤ s.cap ∧ s.cap ≤ 9223372036854775807 ∧ (s.ao = none → s.cap = 0) ∧ Rows w s.ao s.l ∧ ∀ x ∈ s.l, Cells.deep w x
  size _ := rfl
  one _ v h := by simp at h; subst h; rfl
  keep h hb := ⟨h.1, h.2.1, h.2.2.1, h.2.2.2.1.keep hb, fun x hx => Cells.keep (h.2.2.2.2 x hx) hb⟩

theorem Rows.at {α : Type} [Cells α] {w : World} {ao : Option Addr} {l : List α} (h : Rows w ao l) (i : Nat) (hi : i < l.length) :
    ∃ b off, ao = some ⟨b, off, none⟩ ∧ ∀ j v, (Cells.cells l[i])[j]? = some v → w.cell? ⟨b, off + i * Cells.sz α + j, none⟩ = some v := by
  obtain ⟨b, off, hao, hc⟩ := h i hi
  refine ⟨b, off, hao, fun j v hv => ?_⟩
  have hj : j < Cells.sz α := by
    have := (List.getElem?_eq_some_iff.1 hv).1
    rw [Cells.size] at this
    exact this
  rw [hc j hj]
  exact hv

/-! ### A struct loaded whole -/
theorem addr_add (b o j : Nat) : (⟨b, o, none⟩ : Addr).add j = ⟨b, o + j, none⟩ := by
  unfold Addr.add
  split
  · rename_i h; subst h; rfl
  · rfl

theorem isAgg_struct {P : Program} {ty : TypeId} {fs : Array Field} (hu : P.underlying ty = some (.struct fs)) (w : World) : (isAgg ty).run P w = .ok true w := by
  unfold isAgg
  rw [Sem.run_bind, run_underlying hu w]
  rfl

theorem sizeOf_run {P : Program} {ty : TypeId} {n : Nat} (hi : (P.info? ty).map (·.size) = some n) (w : World) : (sizeOf ty).run P w = .ok n w := by
  cases hq : P.info? ty with
  | none => simp [hq] at hi
  | some i =>
    have hs : i.size = n := by simpa [hq] using hi
    simp [sizeOf, typeInfo, hq, hs]

theorem run_load_struct {P : Program} (w : World) (ty : TypeId) (fs : Array Field) (b o : Nat) (cs : List Value) (hu : P.underlying ty = some (.struct fs)) (hi : (P.info? ty).map (·.size) = some cs.length)
    (h : ∀ j, j < cs.length → w.cell? ⟨b, o + j, none⟩ = cs[j]?) : (loadVar ty ⟨b, o, none⟩).run P w = .ok (.agg cs.toArray) w := by
  have hl := run_loadCells_list (P := P) w ⟨b, o, none⟩ cs (fun j v hv => by
    rw [addr_add, h j (List.getElem?_eq_some_iff.1 hv).1]
    exact hv)
  simp [loadVar, Sem.run_bind, isAgg_struct hu w, sizeOf_run hi w, hl]

theorem Rows.load {P : Program} {α : Type} [Cells α] {w : World} {b off : Nat} {l : List α} (h : Rows w (some ⟨b, off, none⟩) l) (i : Nat) (hi : i < l.length) (ty : TypeId) (fs : Array Field)
    (hu : P.underlying ty = some (.struct fs)) (hs : (P.info? ty).map (·.size) = some (Cells.sz α)) : (loadVar ty ⟨b, off + i * Cells.sz α, none⟩).run P w = .ok (.agg (Cells.cells l[i]).toArray) w := by
  obtain ⟨b', off', e, hc⟩ := h i hi
  obtain ⟨rfl, rfl⟩ : b' = b ∧ off' = off := by
    have := Option.some.inj e
    simp at this
    exact ⟨this.1.symm, this.2.symm⟩
  exact run_load_struct w ty fs _ _ _ hu (by rw [Cells.size]; exact hs) (fun j hj => hc j (by rwa [Cells.size] at hj))

theorem setRow_fresh (w : World) (old cs : Array Value) (t : TypeId) : (w.alloc (.cells old t)).setRow w.heap.size cs = w.alloc (.cells cs t) := by
  show ({ w with heap := (w.heap.push _).modify _ _ } : World) = { w with heap := w.heap.push _ }
  congr 1
  apply Array.ext
  · simp
  · intro i h1 h2
    simp only [Array.getElem_modify, Array.getElem_push]
    by_cases h : w.heap.size = i
    · subst h; simp
    · have : i < w.heap.size := by simp at h2; omega
      simp [h, this]

/-- A struct stored into a block that the call has just laid. -/
theorem run_store_fresh {P : Program} {α : Type} [Cells α] (x : α) (w : World) (n : Nat) (ty t : TypeId) (old : Array Value) (hn : n = w.heap.size) (hi : (P.info? ty).map (·.size) = some (Cells.sz α)) (ho : old.size = Cells.sz α) :
    (storeVar ty ⟨n, 0, none⟩ (.agg (Cells.cells x).toArray)).run P (w.alloc (.cells old t)) = .ok () (w.alloc (.cells (Cells.cells x).toArray t)) := by
  subst hn
  rw [run_storeVar_row (P := P) _ w.heap.size t ty old _ (heap_alloc_new _ _) (by simpa [Cells.size] using hi) (by simpa [Cells.size] using ho) (by
    rw [Array.all_eq_true_iff_forall_mem]
    intro v hv
    exact Cells.one x v (by simpa using hv)), setRow_fresh]

/-! ### What the call itself has gathered by append -/
/-- Append to a slice of the call's own, AND WHERE THE NEW ONE LIES: in the old block, or in a new one. -/
theorem run_append_own_at {P : Program} (w : World) (base : Nat) (t ty e : TypeId) (i : TypeInfo) (z : Value) (size bytes : Nat) (ht : P.underlying t = some (.slice e)) (hi : P.info? e = some i) (hz : i.zero = some z)
    (hsize : i.size = size) (hby : i.bytes = bytes) (hzs : z.cells.size = size) (hsz : 0 < size)
    (v : Value) (n : Nat) (xs : List Value) (hown : w.ownsRow base e size v n xs)
    (a : Addr) (m c : Nat) (news : List Value) (hl : news.length = m * size) (hnews : ∀ j u, news[j]? = some u → w.cell? (a.add j) = some u) (h1 : ∀ u ∈ news, u.oneCell' = true)
    (h63 : n + m ≤ maxLen) (hbytes : (n + m) * bytes ≤ 140737488355328) (hbase : base ≤ w.heap.size) :
    ∃ v' w', (Builtin.append_ #[t, t] ty #[v, .slice (some a) m c]).run P w = .ok v' w' ∧ w'.ownsRow base e size v' (n + m) (xs ++ news) ∧ w.grownBy w' v.ownBlock ∧
      (v'.ownBlock = v.ownBlock ∨ ∀ k, v'.ownBlock = some k → w.heap.size ≤ k) := by
  obtain ⟨v', w', hr, h2, h3, _⟩ := run_append_own (P := P) w base t ty e i z size bytes ht hi hz hsize hby hzs hsz v n xs hown a m c news hl hnews h1 h63 hbytes hbase
  refine ⟨v', w', hr, h2, h3, ?_⟩
  subst hsize
  subst hby
  have hsmall : n + m ≤ 9223372036854775807 := by simp only [maxLen] at h63; omega
  rcases hown.2 with ⟨rfl, rfl⟩ | ⟨g, cap, cur, rfl, hbg, hg, hnc, hcm, hcs, htake⟩
  · have hx : xs = [] := List.eq_nil_of_length_eq_zero (by simpa using hown.1)
    subst hx
    by_cases hm : m = 0
    · subst hm
      rcases h2.2 with ⟨rfl, _⟩ | ⟨g, cap, cur, rfl, _, _, _, _, _, _⟩
      · exact .inl rfl
      · have hn : news = [] := List.eq_nil_of_length_eq_zero (by simpa using hl)
        subst hn
        have hr2 : (Builtin.append_ #[t, t] ty #[.slice none 0 0, .slice (some a) 0 c]).run P w = .ok (.slice none 0 0) w := by
          simp [Builtin.append_, run_underlying ht, sizeOf, typeInfo, hi, Builtin.lenOf, Builtin.firstCells, loadCells, loadCellsFrom]
        have := hr.symm.trans hr2
        simp at this
    · have hr2 := run_append_nil (P := P) w t ty e i z ht hi hz a m c news hl hnews (by omega) (by omega) (by have hb := hbytes; simp only [Nat.zero_add] at hb; omega)
      have := hr.symm.trans hr2
      simp only [Result.ok.injEq] at this
      rw [this.1]
      exact .inr fun k hk => by simp [Value.ownBlock] at hk; omega
  · by_cases hroom : n + m ≤ cap
    · have hfit : n * i.size + news.length ≤ cur.size := by rw [hl, hcs, ← Nat.add_mul]; exact Nat.mul_le_mul_right _ hroom
      have hr2 := run_append_room (P := P) w t ty e i ht hi g n cap cur hg a m c news hl hnews h1 hroom hfit
      have := hr.symm.trans hr2
      simp only [Result.ok.injEq] at this
      rw [this.1]
      exact .inl rfl
    · have holds : ∀ j u, xs[j]? = some u → w.cell? ((⟨g, 0, none⟩ : Addr).add j) = some u := hown.cells (g := g) rfl
      have hr2 := run_append_grow (P := P) w t ty e i z ht hi hz ⟨g, 0, none⟩ n cap xs hown.1 holds a m c news hl hnews (by omega) (by omega) (growslice_fits (by omega) hbytes)
      have := hr.symm.trans hr2
      simp only [Result.ok.injEq] at this
      rw [this.1]
      exact .inr fun k hk => by simp [Value.ownBlock] at hk; omega

/-- The new slice lies in the old one's block, or in a new one. -/
def Moves (w : World) (v v' : Value) : Prop := v'.ownBlock = v.ownBlock ∨ ∀ k, v'.ownBlock = some k → w.heap.size ≤ k

theorem wpList_append_own_at {P : Program} {ops : Array Oper} {rest : List Oper} {o : Oper} {a : Act} {w : World} {Q : Exit → Act → World → Prop} (hgd : o.guard = none) (s x : Operand) (t : TypeId)
    (ho : o.op = .call { callee := .builtin .append, args := #[s, x], argTypes := #[t, t] })
    (base : Nat) (e : TypeId) (i : TypeInfo) (z : Value) (size bytes : Nat) (ht : P.underlying t = some (.slice e)) (hi : P.info? e = some i) (hz : i.zero = some z)
    (hsize : i.size = size) (hby : i.bytes = bytes) (hzs : z.cells.size = size) (hsz : 0 < size)
    (v : Value) (n : Nat) (xs : List Value) (hs : a.eval s = v) (hown : w.ownsRow base e size v n xs)
    (ad : Addr) (m c : Nat) (news : List Value) (hx : a.eval x = .slice (some ad) m c) (hl : news.length = m * size) (hnews : ∀ j u, news[j]? = some u → w.cell? (ad.add j) = some u) (h1 : ∀ u ∈ news, u.oneCell' = true)
    (h63 : n + m ≤ maxLen) (hbytes : (n + m) * bytes ≤ 140737488355328) (hbase : base ≤ w.heap.size)
    (h : ∀ v' w', w'.ownsRow base e size v' (n + m) (xs ++ news) → w.grownBy w' v.ownBlock → Moves w v v' → wpList P ops Q rest (a.put o.dst v') w') : wpList P ops Q (o :: rest) a w := by
  refine wpList_plain hgd fun K hK => ?_
  obtain ⟨v', w', hr, h2, h3, h4⟩ := run_append_own_at (P := P) w base t o.type e i z size bytes ht hi hz hsize hby hzs hsz v n xs hown ad m c news hl hnews h1 h63 hbytes hbase
  unfold Oper.wp execOp
  simp only [ho, resolve, invoke, builtin, Sem.run_bind, Sem.run_pure, Result.andThen_ok, List.map_toArray, List.map_cons, List.map_nil, hs, hx, hr]
  exact hK _ _ (h v' w' h2 h3 h4)

/-- The slice value v is the call's own (blocks from 'base' on) and holds the list l. -/
def Own {α : Type} [Cells α] (w : World) (base : Nat) (e : TypeId) (v : Value) (l : List α) : Prop :=
  w.ownsRow base e (Cells.sz α) v l.length (l.flatMap Cells.cells)

theorem flat_get {α : Type} [Cells α] : ∀ (l : List α) (i j : Nat) (h : i < l.length), j < Cells.sz α → (l.flatMap Cells.cells)[i * Cells.sz α + j]? = (Cells.cells l[i])[j]?
  | x :: l, 0, j, h, hj => by
    simp only [List.flatMap_cons, Nat.zero_mul, Nat.zero_add, List.getElem_cons_zero]
    rw [List.getElem?_append_left (by rw [Cells.size]; exact hj)]
  | x :: l, i + 1, j, h, hj => by
    have := flat_get l i j (by simpa using h) hj
    simp only [List.flatMap_cons, List.getElem_cons_succ]
    rw [List.getElem?_append_right (by rw [Cells.size, Nat.add_mul]; omega), Cells.size, Nat.add_mul, ← this]
    congr 1
    omega

theorem flat_length {α : Type} [Cells α] (l : List α) : (l.flatMap Cells.cells).length = l.length * Cells.sz α := by
  induction l with
  | nil => simp
  | cons x l ih => simp [ih, Cells.size, Nat.add_mul]; omega

theorem Own.nil {α : Type} [Cells α] (w : World) (base : Nat) (e : TypeId) : Own (α := α) w base e (.slice none 0 0) [] := World.ownsRow_nil _ _ _ _

theorem Own.rows {α : Type} [Cells α] {w : World} {base : Nat} {e : TypeId} {v : Value} {l : List α} (h : Own w base e v l) :
    ∃ ao cap, v = .slice ao l.length cap ∧ l.length ≤ cap ∧ cap ≤ maxLen ∧ (ao = none → cap = 0) ∧ Rows w ao l ∧ ∀ a, ao = some a → base ≤ a.block ∧ a.block < w.heap.size := by
  have hc := h
  obtain ⟨hx, h | ⟨g, cap, cur, rfl, hg, hh, hn, hm, hs, ht⟩⟩ := h
  · obtain ⟨rfl, h0⟩ := h
    have : l = [] := List.eq_nil_of_length_eq_zero h0
    subst this
    exact ⟨none, 0, rfl, Nat.le_refl _, Nat.zero_le _, fun _ => rfl, Rows.nil _ _, fun a h => by cases h⟩
  · refine ⟨_, cap, rfl, hn, hm, (fun h => by cases h), ?_, fun a h => by cases h; exact ⟨hg, (Array.getElem?_eq_some_iff.1 hh).1⟩⟩
    intro i hi
    refine ⟨g, 0, rfl, fun j hj => ?_⟩
    have h2 : i * Cells.sz α + j < l.length * Cells.sz α := by
      have : (i + 1) * Cells.sz α ≤ l.length * Cells.sz α := Nat.mul_le_mul_right _ (by omega)
      rw [Nat.add_mul] at this
      omega
    have := World.ownsRow.cellAt hc (i * Cells.sz α + j) h2
    rw [Nat.zero_add, this, flat_get l i j hi hj]

theorem Own.sl {α : Type} [Cells α] {w : World} {base : Nat} {e : TypeId} {v : Value} {l : List α} (h : Own w base e v l) (hd : ∀ x ∈ l, Cells.deep w x) :
    ∃ s : Sl α, v = s.val ∧ s.l = l ∧ Cells.deep w s ∧ ∀ a, s.ao = some a → base ≤ a.block ∧ a.block < w.heap.size := by
  obtain ⟨ao, cap, rfl, h1, h2, h3, h4, h5⟩ := h.rows
  exact ⟨⟨ao, cap, l⟩, rfl, rfl, ⟨h1, by simpa [maxLen] using h2, h3, h4, hd⟩, h5⟩

theorem Own.alloc {α : Type} [Cells α] {w : World} {base : Nat} {e : TypeId} {v : Value} {l : List α} (h : Own w base e v l) (o : Obj) : Own (w.alloc o) base e v l := World.ownsRow.alloc h o

/-- 'append(out, x)', out the call's own: x lies in the one-element block that has just been laid. -/
theorem wpList_app1 {P : Program} {α : Type} [Cells α] {ops : Array Oper} {rest : List Oper} {o : Oper} {a : Act} {w : World} {Q : Exit → Act → World → Prop} (y : α) (w0 : World) (l : List α) (v : Value)
    (s x : Operand) (t : TypeId) (base : Nat) (e : TypeId) (i : TypeInfo) (z : Value) (bytes : Nat)
    (hgd : o.guard = none) (ho : o.op = .call { callee := .builtin .append, args := #[s, x], argTypes := #[t, t] })
    (ht : P.underlying t = some (.slice e)) (hi : P.info? e = some i) (hz : i.zero = some z)
    (hsize : i.size = Cells.sz α) (hby : i.bytes = bytes) (hzs : z.cells.size = Cells.sz α) (hsz : 0 < Cells.sz α) (e' : TypeId)
    (hw : w = w0.alloc (.cells (Cells.cells y).toArray e')) (hs : a.eval s = v) (hx : a.eval x = .slice (some ⟨w0.heap.size, 0, none⟩) 1 1)
    (hown : Own w0 base e v l) (hlen : (l.length + 1) * bytes ≤ 140737488355328) (hml : l.length + 1 ≤ maxLen) (hbase : base ≤ w0.heap.size)
    (h : ∀ v' w', Own w' base e v' (l ++ [y]) → w.grownBy w' v.ownBlock → Moves w v v' → wpList P ops Q rest (a.put o.dst v') w') : wpList P ops Q (o :: rest) a w := by
  subst hw
  refine wpList_append_own_at (w := w0.alloc _) (Q := Q) hgd s x t ho base e i z (Cells.sz α) bytes ht hi hz hsize hby hzs hsz v l.length (l.flatMap Cells.cells) hs (hown.alloc _) ⟨w0.heap.size, 0, none⟩ 1 1 (Cells.cells y) hx
    (by rw [Cells.size]; omega) (fun j u hu => by
      rw [addr_add, Nat.zero_add, World.cell?_alloc_at _ _ _ _ rfl]
      simpa using hu) (Cells.one y) hml hlen (by simp; omega) ?_
  intro v' w' h1 h2 h3
  refine h v' w' ?_ h2 h3
  unfold Own
  simpa [List.flatMap_append] using h1

/-- What is owned stays owned while nothing that was there turns. -/
theorem Own.keep {α : Type} [Cells α] {w w' : World} {base : Nat} {e : TypeId} {v : Value} {l : List α} (h : Own w base e v l) (hb : Below w.heap.size w w') : Own w' base e v l := by
  obtain ⟨h1, h2⟩ := h
  refine ⟨h1, ?_⟩
  rcases h2 with h2 | ⟨g, cap, cur, hv, hg, hh, r⟩
  · exact .inl h2
  · exact .inr ⟨g, cap, cur, hv, hg, by rw [hb.block g (Array.getElem?_eq_some_iff.1 hh).1]; exact hh, r⟩

/-- Rows lie apart from what the call owns. -/
def Apart (ao : Option Addr) (v : Value) : Prop := ∀ a, ao = some a → v.ownBlock ≠ some a.block

theorem Rows.grown {α : Type} [Cells α] {w w' : World} {ao : Option Addr} {l : List α} (h : Rows w ao l) {v : Value} (ha : Apart ao v) (hg : w.grownBy w' v.ownBlock) : Rows w' ao l := by
  intro i hi
  obtain ⟨b, off, rfl, hc⟩ := h i hi
  refine ⟨b, off, rfl, fun j hj => ?_⟩
  have h0 := hc j hj
  have hlt : j < (Cells.cells l[i]).length := by rw [Cells.size]; exact hj
  rw [List.getElem?_eq_getElem hlt] at h0 ⊢
  rw [← h0]
  exact World.cell?_of_block (hg.block b (block_lt_of_cell h0) (fun e => ha _ rfl e.symm))

/-- .. and go on doing so. -/
theorem Apart.moves {w : World} {ao : Option Addr} {v v' : Value} (h : Apart ao v) (hm : Moves w v v') (hlt : ∀ a, ao = some a → a.block < w.heap.size) : Apart ao v' := by
  intro a ha e
  rcases hm with hm | hm
  · exact h a ha (hm ▸ e)
  · have := hm _ e
    have := hlt a ha
    omega

/-- Below the base nothing turns behind such an append. -/
theorem Own.below {α : Type} [Cells α] {B : Nat} {a w w' : World} {base : Nat} {e : TypeId} {v : Value} {l : List α} (hown : Own w base e v l) (h : Below B a w) (o : Obj) (hg : (w.alloc o).grownBy w' v.ownBlock) (hB : B ≤ base) (hbw : B ≤ w.heap.size) : Below B a w' := by
  refine (h.alloc hbw o).grown hg (by simp; omega) (fun k hk => ?_)
  have := (World.ownsRow.lt hown k hk).1
  omega

theorem Own.made {α : Type} [Cells α] (w : World) (base n : Nat) (e : TypeId) (h : base ≤ w.heap.size) (hn : n = w.heap.size) : Own (α := α) (w.alloc (.cells #[] e)) base e (.slice (some ⟨n, 0, none⟩) 0 0) [] := by
  subst hn
  exact World.ownsRow_made _ _ _ h (Nat.zero_le _) (by simp)

/-- The call gives back a slice in new memory that holds the list l; what was there is as it was. -/
def Gives {α : Type} [Cells α] (w : World) (l : List α) (e : Ending) (w' : World) : Prop :=
  ∃ s : Sl α, e = .returned s.val ∧ s.l = l ∧ Cells.deep w' s ∧ Below w.heap.size w w' ∧ ∀ a, s.ao = some a → w.heap.size ≤ a.block ∧ a.block < w'.heap.size

theorem Own.gives {α : Type} [Cells α] {w w' : World} {base : Nat} {e : TypeId} {v : Value} {l : List α} (h : Own w' base e v l) (hd : ∀ x ∈ l, Cells.deep w x) (hb : Below w.heap.size w w') (hB : w.heap.size ≤ base) : Gives w l (.returned v) w' := by
  obtain ⟨s, rfl, hl, h2, h3⟩ := h.sl (fun x hx => Cells.keep (hd x hx) hb)
  exact ⟨s, rfl, hl, h2, hb, fun a ha => ⟨Nat.le_trans hB (h3 a ha).1, (h3 a ha).2⟩⟩

theorem Rows.news {α : Type} [Cells α] {w : World} {b off : Nat} {l : List α} (h : Rows w (some ⟨b, off, none⟩) l) :
    ∀ j u, (l.flatMap Cells.cells)[j]? = some u → w.cell? ((⟨b, off, none⟩ : Addr).add j) = some u := by
  intro j u hu
  have hj := (List.getElem?_eq_some_iff.1 hu).1
  rw [flat_length] at hj
  by_cases hz : Cells.sz α = 0
  · rw [hz] at hj; omega
  have hz' : 0 < Cells.sz α := by omega
  have hi : j / Cells.sz α < l.length := by
    rw [Nat.div_lt_iff_lt_mul hz']
    exact hj
  have hm : j % Cells.sz α < Cells.sz α := Nat.mod_lt _ hz'
  have hjd : j / Cells.sz α * Cells.sz α + j % Cells.sz α = j := by
    rw [Nat.mul_comm]; exact Nat.div_add_mod _ _
  obtain ⟨b', off', e, hc⟩ := h (j / Cells.sz α) hi
  obtain ⟨rfl, rfl⟩ : b' = b ∧ off' = off := by
    have := Option.some.inj e
    simp at this
    exact ⟨this.1.symm, this.2.symm⟩
  have := hc (j % Cells.sz α) hm
  rw [← flat_get l _ _ hi hm, hjd, Nat.add_assoc, hjd, hu] at this
  rw [addr_add]
  exact this

theorem flat_one {α : Type} [Cells α] (l : List α) : ∀ u ∈ l.flatMap Cells.cells, u.oneCell' = true := by
  intro u hu
  obtain ⟨x, _, hx⟩ := List.mem_flatMap.1 hu
  exact Cells.one x u hx

/-- 'append(out, xs...)', out the call's own. -/
theorem wpList_appN {P : Program} {α : Type} [Cells α] {ops : Array Oper} {rest : List Oper} {o : Oper} {a : Act} {w : World} {Q : Exit → Act → World → Prop} (ys : List α) (l : List α) (v : Value)
    (s x : Operand) (t : TypeId) (base : Nat) (e : TypeId) (i : TypeInfo) (z : Value) (bytes : Nat)
    (hgd : o.guard = none) (ho : o.op = .call { callee := .builtin .append, args := #[s, x], argTypes := #[t, t] })
    (ht : P.underlying t = some (.slice e)) (hi : P.info? e = some i) (hz : i.zero = some z)
    (hsize : i.size = Cells.sz α) (hby : i.bytes = bytes) (hzs : z.cells.size = Cells.sz α) (hsz : 0 < Cells.sz α) (ad : Addr) (c : Nat)
    (hs : a.eval s = v) (hx : a.eval x = .slice (some ad) ys.length c)
    (hnews : ∀ j u, (ys.flatMap Cells.cells)[j]? = some u → w.cell? (ad.add j) = some u)
    (hown : Own w base e v l) (hlen : (l.length + ys.length) * bytes ≤ 140737488355328) (hml : l.length + ys.length ≤ maxLen) (hbase : base ≤ w.heap.size)
    (h : ∀ v' w', Own w' base e v' (l ++ ys) → w.grownBy w' v.ownBlock → Moves w v v' → wpList P ops Q rest (a.put o.dst v') w') : wpList P ops Q (o :: rest) a w := by
  refine wpList_append_own_at (w := w) (Q := Q) hgd s x t ho base e i z (Cells.sz α) bytes ht hi hz hsize hby hzs hsz v l.length (l.flatMap Cells.cells) hs hown ad ys.length c (ys.flatMap Cells.cells) hx
    (flat_length ys) hnews (flat_one ys) hml hlen hbase ?_
  intro v' w' h1 h2 h3
  refine h v' w' ?_ h2 h3
  unfold Own
  simpa [List.flatMap_append] using h1

theorem Own.empty {α : Type} [Cells α] (w : World) (e : TypeId) : Own (α := α) (w.alloc (.cells #[] e)) w.heap.size e (.slice (some ⟨w.heap.size, 0, none⟩) 0 0) [] :=
  World.ownsRow_made _ _ _ (Nat.le_refl _) (Nat.zero_le _) (by simp)

end Go.Proofs.Ytocebogaopjkfaa
