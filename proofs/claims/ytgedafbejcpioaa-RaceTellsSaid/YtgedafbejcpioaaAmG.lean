/-
  AN EVALUATOR OF WALKS, over whatever program: stores, new variables, new rows, appends.
-/
import Derived.Test.YtgedafbejcpioaaAmF
import Derived.Laws.CopyRow
import Derived.Laws.AppendOwn
namespace Go.Proofs.Ytgedafbejcpioaa
open Go.RowKit
set_option linter.unusedSimpArgs false
set_option linter.unusedVariables false

/-- From the call's begin on: nothing that was there turned; what nobody writes any more is what it was, and new blocks. -/
structure Bel (F : Nat → Prop) (w w' : World) : Prop where
  os : w'.os = w.os
  tape : w'.tape = w.tape
  output : w'.output = w.output
  size : w.heap.size ≤ w'.heap.size
  block : ∀ k, F k → w'.heap[k]? = w.heap[k]?
  drawn : w.drawn ≤ w'.drawn
theorem Bel.refl (F : Nat → Prop) (w : World) : Bel F w w := ⟨rfl, rfl, rfl, Nat.le_refl _, fun _ _ => rfl, Nat.le_refl _⟩
theorem Bel.trans {F : Nat → Prop} {a b c : World} (h : Bel F a b) (k : Bel F b c) : Bel F a c :=
  ⟨k.os.trans h.os, k.tape.trans h.tape, k.output.trans h.output, Nat.le_trans h.size k.size, fun i hi => (k.block i hi).trans (h.block i hi), Nat.le_trans h.drawn k.drawn⟩
theorem Bel.mono {F F' : Nat → Prop} {w w' : World} (h : Bel F w w') (hF : ∀ k, F' k → F k) : Bel F' w w' := ⟨h.os, h.tape, h.output, h.size, fun k hk => h.block k (hF k hk), h.drawn⟩
theorem Bel.alloc {F : Nat → Prop} {w : World} (hF : ∀ k, F k → k < w.heap.size) (o : Obj) : Bel F w (w.alloc o) :=
  ⟨rfl, rfl, rfl, by simp, fun k hk => Below.heap_alloc w o k (hF k hk), Nat.le_refl _⟩
theorem Bel.grown {F : Nat → Prop} {w w' : World} {r : Option Nat} (h : w.grownBy w' r) (hd : w.drawn ≤ w'.drawn) (hF : ∀ k, F k → k < w.heap.size) (hr : ∀ k, F k → some k ≠ r) : Bel F w w' :=
  ⟨h.os, h.tape, h.output, h.size, fun k hk => h.block k (hF k hk) (hr k hk), hd⟩

structure Goes (F : Nat → Prop) (S S' : Nat → Prop) (w w' : World) : Prop where
  below : Bel F w w'
  sub : ∀ b, S b → S' b
  sup : ∀ b, S' b → S b ∨ ¬ F b

theorem Goes.refl (F : Nat → Prop) (S : Nat → Prop) (w : World) : Goes F S S w w := ⟨Bel.refl _ _, fun _ h => h, fun _ h => .inl h⟩
theorem Goes.step {F : Nat → Prop} {S S1 S2 : Nat → Prop} {w w1 w2 : World} (h : Goes F S S1 w w1) (hb : Bel F w1 w2) (hs : ∀ b, S1 b → S2 b) (hs' : ∀ b, S2 b → S1 b ∨ ¬ F b) : Goes F S S2 w w2 :=
  ⟨h.below.trans hb, fun b x => hs b (h.sub b x), fun b x => (hs' b x).elim (fun y => h.sup b y) .inr⟩

/-- The state is shown: some map of the call's own blocks is there. -/
def Shows (N : Nat) (S0 : Nat → Prop) (w0 : Start) (st : St) (a : Act) (w : World) : Prop :=
  ∃ S m, Sim N w0.F S m st a w ∧ Goes w0.F.no S0 S w0.w w

/-! ### A new block -/
def St.new (st : St) (d : Nat) (b : B) : St := { st with heap := hins st.heap d b }

theorem Sim.reheap {N : Nat} {F : Keep} {S : Nat → Prop} {m : Mp} {e : List (Nat × V)} {h h' : List (Nat × B)} {a : Act} {w : World} (hs : Sim N F S m ⟨e, h⟩ a w) (hh : ∀ id b, hget h' id = some b → hget h id = some b) : Sim N F S m ⟨e, h'⟩ a w :=
  ⟨hs.size, hs.env, hs.far, fun id b hb => hs.heap id b (hh id b hb), fun id b hb => hs.own id b (hh id b hb), fun i j b b' hne h1 h2 => hs.inj i j b b' hne (hh _ _ h1) (hh _ _ h2), hs.dom, hs.defers, hs.base_le, hs.pin, hs.len⟩

theorem Sim.newBlock {N : Nat} {F : Keep} {S : Nat → Prop} {m : Mp} {st : St} {a : Act} {w : World} (h : Sim N F S m st a w) (d : Nat) (hq : quiet N d st = true) (o : Obj) (x : Value) (b : B) (hx : blk x = some w.heap.size) (hB : RepB S (w.alloc o) (upd m d x) x b) :
    Sim N F S (upd m d x) (st.new d b) a (w.alloc o) :=
  Sim.reheap (h := (d, b) :: st.heap) (h.renew d hq x b none (by simp) (fun k hk _ => Below.heap_alloc w o k hk) (fun k hk => by
    rw [hx] at hk
    cases hk
    exact ⟨fun hF => absurd (h.base_le _ hF) (Nat.lt_irrefl _), by simp, .inr (Nat.le_refl _)⟩) hB) fun id b' hb' => by rw [hget_hins] at hb'; rw [hget_cons]; exact hb'

theorem run_newRow (P : Program) (w : World) (e : TypeId) (cs : Array Value) : (newRow e cs).run P w = .ok ⟨w.heap.size, 0, none⟩ (w.alloc (.cells cs e)) := rfl

theorem Goes.alloc {F : Nat → Prop} {S S1 : Nat → Prop} {w w1 : World} (h : Goes F S S1 w w1) (hb : ∀ k, F k → k < w1.heap.size) (o : Obj) : Goes F S S1 w (w1.alloc o) :=
  h.step (Bel.alloc hb o) (fun _ x => x) (fun _ x => .inl x)

def evBox (N : Nat) (st : St) (d : Nat) (l : List C) : Option (V × List Prop × St) := match quiet N d st, l.any (C.says d) with
  | true, false => some (.one (.ptr d 0), [], st.new d (.box l))
  | _, _ => none

theorem Sim.newBox {N : Nat} {F : Keep} {S : Nat → Prop} {m : Mp} {st : St} {a : Act} {w : World} (h : Sim N F S m st a w) (d : Nat) (t : TypeId) {l : List C} {xs : Array Value} (hl : RepL S w m l xs.toList) {v : V} {obl : List Prop} {st' : St} (he : evBox N st d l = some (v, obl, st')) :
    ∃ m', Sim N F S m' st' a (w.alloc (.cells xs t)) ∧ RepV S (w.alloc (.cells xs t)) m' v (.pointer (some ⟨w.heap.size, 0, none⟩)) := by
  unfold evBox at he
  split at he
  · rename_i hq hs
    cases he
    refine ⟨upd m d (.pointer (some ⟨w.heap.size, 0, none⟩)), h.newBlock d hq _ _ _ rfl ⟨w.heap.size, xs, t, rfl, heap_alloc_new _ _, ?_⟩, RepC.ptr (upd_same _ _ _)⟩
    exact (hl.keepL (w' := w.alloc (.cells xs t)) (fun b hb => Below.heap_alloc _ _ _ (h.dom b hb)) (fun _ x => x) fun b hb => Below.heap_alloc _ _ _ (h.base_le b (h.len.2 b hb))).other _ d (upd_other m d _) rfl hs
  · cases he

/-! ### New rows -/
theorem Sim.newRows {N : Nat} {F : Keep} {S : Nat → Prop} {m : Mp} {st : St} {a : Act} {w : World} (h : Sim N F S m st a w) (d : Nat) (hq : quiet N d st = true) (e : TypeId) (sz len cap : Nat) (c : Nat → Nat → C) (arr : Array Value) (hle : len ≤ cap) (hcap : cap ≤ maxLen)
    (hsz : arr.size = cap * sz) (h1 : ∀ x ∈ arr.toList, x.oneCell' = true) (hc : ∀ i j, i < len → j < sz → ∃ x, arr[i * sz + j]? = some x ∧ RepC S w none' (c i j) x) :
    Sim N F S (upd m d (.slice (some ⟨w.heap.size, 0, none⟩) len cap)) (st.new d (.rows e sz len c)) a (w.alloc (.cells arr e)) ∧
      RepV S (w.alloc (.cells arr e)) (upd m d (.slice (some ⟨w.heap.size, 0, none⟩) len cap)) (.one (.osl d len)) (.slice (some ⟨w.heap.size, 0, none⟩) len cap) := by
  have hls : len * sz ≤ cap * sz := Nat.mul_le_mul_right _ hle
  refine ⟨h.newBlock d hq _ _ _ rfl ⟨arr.toList.take (len * sz), ⟨by simp; omega, .inr ⟨w.heap.size, cap, arr, rfl, Nat.zero_le _, heap_alloc_new _ _, hle, hcap, hsz, rfl⟩⟩, fun i j hi hj => ?_, fun x hx => h1 x (List.mem_of_mem_take hx)⟩, RepC.osl (upd_same _ _ _) (.inr ⟨_, rfl⟩) hle⟩
  obtain ⟨x, h2, h3⟩ := hc i j hi hj
  have hlt : i * sz + j < len * sz := by
    have : (i + 1) * sz ≤ len * sz := Nat.mul_le_mul_right _ (by omega)
    rw [Nat.add_mul] at this
    omega
  refine ⟨x, ?_, h3.keep (fun b hb => Below.heap_alloc _ _ _ (h.dom b hb)) fun _ x => x⟩
  rw [List.getElem?_take, if_pos hlt, Array.getElem?_toList]
  exact h2

/-- Rows that nobody writes any more. -/
theorem Sim.pureRows {N : Nat} {F : Keep} {S : Nat → Prop} {m : Mp} {st : St} {a : Act} {w : World} (h : Sim N F S m st a w) (e : TypeId) (sz n : Nat) {l : List C} {xs : Array Value} (hl : RepL S w m l xs.toList) (hp : l.all C.pure = true) (hn : l.length = n * sz) :
    Sim N F (fun b => S b ∨ b = w.heap.size) m st a (w.alloc (.cells xs e)) ∧
      RepV (fun b => S b ∨ b = w.heap.size) (w.alloc (.cells xs e)) m (.one (.sl sz n fun i j => l.getD (i * sz + j) .junk)) (.slice (some ⟨w.heap.size, 0, none⟩) n n) := by
  refine ⟨h.grow (by simp) (fun k hk => Below.heap_alloc _ _ _ hk) (fun _ x => .inl x) (fun b hb => hb.imp id fun e => ⟨by omega, by simp; omega⟩), ?_⟩
  have hsx : xs.size = l.length := by simpa using hl.1
  have key : ∀ i j, i < n → j < sz → i * sz + j < l.length := by
    intro i j hi hj
    have : (i + 1) * sz ≤ n * sz := Nat.mul_le_mul_right _ (by omega)
    rw [Nat.add_mul] at this
    omega
  have hx : ∀ i j, i < n → j < sz → xs[i * sz + j]? = some (xs.getD (i * sz + j) undef) := by
    intro i j hi hj
    have := key i j hi hj
    simp [Array.getD_eq_getD_getElem?, show i * sz + j < xs.size by omega]
  refine RepC.sl w.heap.size 0 (fun i j => xs.getD (i * sz + j) undef) (Nat.le_refl _) (fun _ => ⟨rfl, .inr rfl⟩) (fun i j hi hj => ?_) (fun i j hi hj => ?_) (fun i j hi hj => ?_)
  · rw [World.cell?_alloc_at _ _ _ _ rfl, Nat.zero_add]
    exact hx i j hi hj
  · have := hx i j hi hj
    rw [← Array.getElem?_toList] at this
    exact hl.2.2 _ (List.mem_of_getElem? this)
  · have hc : l[i * sz + j]? = some (l.getD (i * sz + j) .junk) := by simp [List.getD_eq_getElem?_getD, key i j hi hj]
    obtain ⟨x, h4, h5⟩ := hl.2.1 _ _ hc
    have h6 := hx i j hi hj
    rw [← Array.getElem?_toList, h4] at h6
    have h7 := Option.some.inj h6
    rw [← h7]
    exact (h5.anyM none' (List.all_eq_true.1 hp _ (List.mem_of_getElem? hc))).keep (fun b hb => Below.heap_alloc _ _ _ (h.dom b hb)) fun _ x => .inl x

/-! ### A store -/
theorem splice_get {α : Type} (l : List α) (o : Nat) (cs : List α) (h : o + cs.length ≤ l.length) (q : Nat) : (splice l o cs)[q]? = if o ≤ q ∧ q < o + cs.length then cs[q - o]? else l[q]? := by
  unfold splice
  have e1 : (l.take o).length = o := by simp; omega
  by_cases h1 : q < o
  · rw [if_neg (by omega), List.append_assoc, List.getElem?_append_left (by omega), List.getElem?_take, if_pos h1]
  · by_cases h2 : q < o + cs.length
    · rw [if_pos ⟨by omega, h2⟩, List.append_assoc, List.getElem?_append_right (by omega), e1, List.getElem?_append_left (by omega)]
    · rw [if_neg (by omega), List.getElem?_append_right (by simp; omega), List.getElem?_drop]
      congr 1
      simp
      omega

/-- Row i of c, turned from cell off on: c'. -/
def ExtU (sz len : Nat) (c : Nat → Nat → C) (i off : Nat) (cs : List C) (c' : Nat → Nat → C) : Prop :=
  ∀ i' j, i' < len → j < sz → c' i' j = if i' = i ∧ off ≤ j ∧ j < off + cs.length then cs.getD (j - off) .junk else c i' j

def evStore (T : Tab) (st : St) (t : Nat) (p v : V) (an : Option Ans) : Option (List Prop × St) := match tlook T t, v.cells with
  | some ti, some cs => match Nat.beq cs.length ti.size with
    | true => match p with
      | .one (.ptr id off) => match hget st.heap id with
        | some (.box l) => match Nat.ble (off + cs.length) l.length with
          | true => some ([], { st with heap := hset st.heap id (.box (splice l off cs)) })
          | false => none
        | _ => none
      | .one (.eptr id sz i off) => match hget st.heap id, an with
        | some (.rows e sz' len c), some (.c n' c') => match Nat.beq sz sz', Nat.ble (off + cs.length) sz, cs.all C.pure with
          | true, true, true => some ([n' = len, i < len, ExtU sz len c i off cs c'], { st with heap := hset st.heap id (.rows e sz n' c') })
          | _, _, _ => none
        | some (.rows e sz' len c), some .own => match cs, Nat.beq sz 1, Nat.beq sz' 1, Nat.beq off 0 with
          | [x], true, true, true => some ([i < len], { st with heap := hset st.heap id (.hole e len (fun i => c i 0) i x) })
          | _, _, _, _ => none
        | _, _ => none
      | _ => none
    | false => none
  | _, _ => none

theorem evStore_run {P : Program} {T : Tab} (hT : TabOk P T) {N : Nat} {S0 : Nat → Prop} {w0 : Start} {st : St} {a : Act} {w : World} {S : Nat → Prop} {m : Mp} (hs : Sim N w0.F S m st a w) (hg : Goes w0.F.no S0 S w0.w w)
    {t : Nat} {p v : V} {px x : Value} {an : Option Ans} {obl : List Prop} {st' : St} (hp : RepV S w m p px) (hv : RepV S w m v x) (h : evStore T st t p v an = some (obl, st')) (ho : ∀ q ∈ obl, q) :
    ∃ w', (Instr.storeAt t px x).run P w = .ok () w' ∧ Sim N w0.F S m st' a w' ∧ Goes w0.F.no S0 S w0.w w' := by
  unfold evStore at h
  split at h
  · rename_i ti cs hti hcs
    have hvc := V.cells_rep hv hcs
    have hsz := hT.size hti w
    have hxs : x.cells.size = cs.length := by simpa using hvc.1
    split at h
    · rename_i hb
      have hn := eq_of_beq' hb
      have hne : ¬ (x.cells.size ≠ ti.size) := by omega
      split at h
      · rename_i id off
        split at h
        · rename_i l hl
          split at h
          · rename_i hb2
            have hle := Nat.le_of_ble_eq_true hb2
            simp only [Option.some.injEq, Prod.mk.injEq] at h
            obtain ⟨rfl, rfl⟩ := h
            cases hp with
            | ptr hm =>
              rename_i b
              have hB := hs.heap id _ hl
              have hB0 := hB
              rw [hm] at hB
              obtain ⟨b', arr, ty, h1, h2, h3⟩ := hB
              simp only [Value.pointer.injEq, Option.some.injEq, Addr.mk.injEq, and_true] at h1
              subst h1
              have hla : arr.size = l.length := by simpa using h3.1
              have hst := run_storeCells_at P b off ty x.cells.toList 0 arr w h2 (by simp; omega) hvc.2.2
              have hbase := (hs.own id _ hl b (by rw [hm]; rfl)).2.1
              have hrun : (Instr.storeAt t (.pointer (some ⟨b, off, none⟩)) x).run P w = .ok () (w.setRow b (List.take (off + 0) arr.toList ++ x.cells.toList ++ List.drop (off + 0 + x.cells.toList.length) arr.toList).toArray) := by
                simp only [Instr.storeAt, Instr.sureAddr, storeVar, Sem.run_bind, Sem.run_pure, Result.andThen_ok, hsz]
                rw [if_neg hne]
                exact hst
              refine ⟨_, hrun, hs.write (.box (splice l off cs)) hl (by simp [World.setRow]) (fun k hk hne' => ?_) ?_, ?_⟩
              · exact setRow_other w b k _ (fun e => hne' (by rw [hm, e]; rfl))
              · rw [hm]
                refine ⟨b, _, ty, rfl, setRow_heap w b arr _ ty (0, 0) h2, ?_⟩
                have := (h3.spliced (o := off) hvc).keepL (w' := w.setRow b (List.take (off + 0) arr.toList ++ x.cells.toList ++ List.drop (off + 0 + x.cells.toList.length) arr.toList).toArray) (S' := S) (fun k hk => setRow_other w b k _ (fun e => (hs.own id _ hl b (by rw [hm]; rfl)).1 (e ▸ hk))) (fun _ h => h) (fun k hk => setRow_other w b k _ (fun e => (hs.own id _ hl b (by rw [hm]; rfl)).2.1 (hs.len.2 _ (e ▸ hk))))
                simpa [splice] using this
              · refine hg.step ⟨rfl, rfl, rfl, by simp [World.setRow], fun k hk => setRow_other w b k _ (fun e => (hs.own id _ hl b (by rw [hm]; rfl)).2.1 (e ▸ hk)), by simp [World.setRow]⟩ (fun _ h => h) (fun _ h => .inl h)
          · cases h
        · cases h
      · rename_i id sz i off
        split at h
        · rename_i e sz' len c n' c' hl
          split at h
          · rename_i hb1 hb2 hpure
            obtain rfl := eq_of_beq' hb1
            have hle := Nat.le_of_ble_eq_true hb2
            simp only [Option.some.injEq, Prod.mk.injEq] at h
            obtain ⟨rfl, rfl⟩ := h
            have hn' : n' = len := ho _ (by simp)
            subst hn'
            have hi : i < n' := ho _ (by simp)
            have hext : ExtU sz n' c i off cs c' := ho _ (by simp)
            cases hp with
            | eptr hm =>
              rename_i b n cp
              have hB := hs.heap id _ hl
              rw [hm] at hB
              obtain ⟨xs, ⟨hlen, hor⟩, hc, h1c⟩ := hB
              rcases hor with ⟨hor, _⟩ | ⟨g, cap, cur, hv', hbase, hgk, hn', hm', hcs', htk⟩
              · cases hor
              simp only [Value.slice.injEq, Option.some.injEq, Addr.mk.injEq, and_true] at hv'
              obtain ⟨rfl, rfl, rfl⟩ := hv'
              have hrow : (i + 1) * sz ≤ n * sz := Nat.mul_le_mul_right _ (by omega)
              have hcapn : n * sz ≤ cp * sz := Nat.mul_le_mul_right _ hn'
              rw [Nat.add_mul, Nat.one_mul] at hrow
              have hst := run_storeCells_at P b (i * sz + off) e x.cells.toList 0 cur w hgk (by simp; omega) hvc.2.2
              have hnS := (hs.own id _ hl b (by rw [hm]; rfl)).1
              have hrun : (Instr.storeAt t (.pointer (some ⟨b, i * sz + off, none⟩)) x).run P w = .ok () (w.setRow b (List.take (i * sz + off + 0) cur.toList ++ x.cells.toList ++ List.drop (i * sz + off + 0 + x.cells.toList.length) cur.toList).toArray) := by
                simp only [Instr.storeAt, Instr.sureAddr, storeVar, Sem.run_bind, Sem.run_pure, Result.andThen_ok, hsz]
                rw [if_neg hne]
                exact hst
              refine ⟨_, hrun, hs.write (.rows e sz n c') hl (by simp [World.setRow]) (fun k hk hne' => ?_) ?_, ?_⟩
              · exact setRow_other w b k _ (fun e => hne' (by rw [hm, e]; rfl))
              · rw [hm]
                simp only [Nat.add_zero]
                have hxl : x.cells.toList.length = cs.length := hvc.1
                refine ⟨splice xs (i * sz + off) x.cells.toList, ⟨?_, .inr ⟨b, cp, _, rfl, hbase, setRow_heap w b cur _ e (0, 0) hgk, hn', hm', ?_, ?_⟩⟩, fun i' j hi' hj => ?_, fun y hy => ?_⟩
                · simp only [splice, List.length_append, List.length_take, List.length_drop]
                  omega
                · simp only [List.size_toArray, List.length_append, List.length_take, List.length_drop, Array.length_toList]
                  omega
                · simp only [splice, ← htk]
                  rw [List.take_append, List.take_append, List.take_take, List.drop_take]
                  simp only [List.length_take, Array.length_toList, List.length_append]
                  rw [Nat.min_eq_right (by omega), List.take_of_length_le (l := x.cells.toList) (by omega)]
                  rw [Nat.min_eq_left (by omega : i * sz + off ≤ cur.size), List.take_take, Nat.min_eq_left (by omega : i * sz + off ≤ n * sz)]
                · have hext' := hext i' j hi' hj
                  have hrow' : (i' + 1) * sz ≤ n * sz := Nat.mul_le_mul_right _ (by omega)
                  rw [Nat.add_mul, Nat.one_mul] at hrow'
                  have hag : Agree S w (w.setRow b (List.take (i * sz + off) cur.toList ++ x.cells.toList ++ List.drop (i * sz + off + x.cells.toList.length) cur.toList).toArray) := fun k hk => setRow_other w b k _ (fun e => hnS (e ▸ hk))
                  rw [splice_get _ _ _ (by omega)]
                  by_cases hin : i' = i ∧ off ≤ j ∧ j < off + cs.length
                  · rw [if_pos hin] at hext'
                    obtain ⟨rfl, hj1, hj2⟩ := hin
                    rw [if_pos ⟨by omega, by omega⟩, hext', show i' * sz + j - (i' * sz + off) = j - off by omega]
                    have hcc : cs[j - off]? = some (cs.getD (j - off) .junk) := by simp [List.getD_eq_getElem?_getD, show j - off < cs.length by omega]
                    obtain ⟨y, h4, h5⟩ := hvc.2.1 _ _ hcc
                    exact ⟨y, h4, (h5.anyM none' (List.all_eq_true.1 hpure _ (List.mem_of_getElem? hcc))).keep hag fun _ h => h⟩
                  · rw [if_neg hin] at hext'
                    have hout : ¬ (i * sz + off ≤ i' * sz + j ∧ i' * sz + j < i * sz + off + x.cells.toList.length) := by
                      rcases Nat.lt_trichotomy i' i with hlt | rfl | hlt
                      · have : (i' + 1) * sz ≤ i * sz := Nat.mul_le_mul_right _ hlt
                        rw [Nat.add_mul, Nat.one_mul] at this
                        omega
                      · omega
                      · have : (i + 1) * sz ≤ i' * sz := Nat.mul_le_mul_right _ hlt
                        rw [Nat.add_mul, Nat.one_mul] at this
                        omega
                    rw [if_neg hout, hext']
                    obtain ⟨y, h4, h5⟩ := hc i' j hi' hj
                    exact ⟨y, h4, h5.keep hag fun _ h => h⟩
                · simp only [splice, List.mem_append] at hy
                  rcases hy with (hy | hy) | hy
                  · exact h1c y (List.mem_of_mem_take hy)
                  · exact hvc.2.2 y hy
                  · exact h1c y (List.mem_of_mem_drop hy)
              · refine hg.step ⟨rfl, rfl, rfl, by simp [World.setRow], fun k hk => setRow_other w b k _ (fun e => (hs.own id _ hl b (by rw [hm]; rfl)).2.1 (e ▸ hk)), by simp [World.setRow]⟩ (fun _ h => h) (fun _ h => .inl h)
          · cases h
        · rename_i e sz' len c hl
          split at h
          · rename_i cx hb1 hb2 hb3
            obtain rfl := eq_of_beq' hb1
            obtain rfl := eq_of_beq' hb2
            obtain rfl := eq_of_beq' hb3
            simp only [Option.some.injEq, Prod.mk.injEq] at h
            obtain ⟨rfl, rfl⟩ := h
            have hi : i < len := ho _ (by simp)
            cases hp with
            | eptr hm =>
              rename_i b n cp
              have hB := hs.heap id _ hl
              rw [hm] at hB
              obtain ⟨xs, ⟨hlen, hor⟩, hc, h1c⟩ := hB
              rcases hor with ⟨hor, _⟩ | ⟨g, cap, cur, hv', hbase, hgk, hn', hm', hcs', htk⟩
              · cases hor
              simp only [Value.slice.injEq, Option.some.injEq, Addr.mk.injEq, and_true] at hv'
              obtain ⟨rfl, rfl, rfl⟩ := hv'
              have hx1 : x.cells.toList.length = 1 := hvc.1
              have hx2 : x.cells.size = 1 := hx1
              have hst := run_storeCells_at P b (i * 1 + 0) e x.cells.toList 0 cur w hgk (by rw [hx1]; simp; omega) hvc.2.2
              have hnS := (hs.own id _ hl b (by rw [hm]; rfl)).1
              have hrun : (Instr.storeAt t (.pointer (some ⟨b, i * 1 + 0, none⟩)) x).run P w = .ok () (w.setRow b (List.take (i * 1 + 0 + 0) cur.toList ++ x.cells.toList ++ List.drop (i * 1 + 0 + 0 + x.cells.toList.length) cur.toList).toArray) := by
                simp only [Instr.storeAt, Instr.sureAddr, storeVar, Sem.run_bind, Sem.run_pure, Result.andThen_ok, hsz]
                rw [if_neg hne]
                exact hst
              have hag : Agree S w (w.setRow b (List.take (i * 1 + 0 + 0) cur.toList ++ x.cells.toList ++ List.drop (i * 1 + 0 + 0 + x.cells.toList.length) cur.toList).toArray) := fun k hk => setRow_other w b k _ (fun e => hnS (e ▸ hk))
              have hagL : Agree m.L w (w.setRow b (List.take (i * 1 + 0 + 0) cur.toList ++ x.cells.toList ++ List.drop (i * 1 + 0 + 0 + x.cells.toList.length) cur.toList).toArray) := fun k hk => setRow_other w b k _ (fun e => (hs.own id _ hl b (by rw [hm]; rfl)).2.1 (hs.len.2 _ (e ▸ hk)))
              refine ⟨_, hrun, hs.write (.hole e n (fun i => c i 0) i cx) hl (by simp [World.setRow]) (fun k hk hne' => ?_) ?_, ?_⟩
              · exact setRow_other w b k _ (fun e => hne' (by rw [hm, e]; rfl))
              · rw [hm]
                refine ⟨splice xs i x.cells.toList, ⟨?_, .inr ⟨b, cp, _, rfl, hbase, setRow_heap w b cur _ e (0, 0) hgk, hn', hm', ?_, ?_⟩⟩, fun i' hi' => ?_, fun y hy => ?_⟩
                · simp only [splice, List.length_append, List.length_take, List.length_drop]
                  omega
                · simp only [List.size_toArray, List.length_append, List.length_take, List.length_drop, Array.length_toList, hx2]
                  omega
                · simp only [splice, ← htk, Nat.mul_one, Nat.add_zero]
                  rw [List.take_append, List.take_append, List.take_take, List.drop_take]
                  simp only [List.length_take, Array.length_toList, List.length_append]
                  rw [Nat.min_eq_right (by omega), List.take_of_length_le (l := x.cells.toList) (by omega)]
                  rw [Nat.min_eq_left (by omega : i ≤ cur.size), List.take_take, Nat.min_eq_left (by omega : i ≤ n)]
                · rw [splice_get _ _ _ (by omega)]
                  by_cases hin : i' = i
                  · subst hin
                    rw [if_pos ⟨by omega, by omega⟩, Nat.sub_self]
                    obtain ⟨y, h4, h5⟩ := hvc.2.1 0 cx rfl
                    exact ⟨y, h4, fun e => absurd rfl e, fun _ => h5.keepL hag (fun _ h => h) hagL⟩
                  · rw [if_neg (by omega)]
                    obtain ⟨y, h4, h5⟩ := hc i' 0 hi' (by omega)
                    rw [Nat.mul_one, Nat.add_zero] at h4
                    exact ⟨y, h4, fun _ => h5.keep hag fun _ h => h, fun e => absurd e hin⟩
                · simp only [splice, List.mem_append] at hy
                  rcases hy with (hy | hy) | hy
                  · exact h1c y (List.mem_of_mem_take hy)
                  · exact hvc.2.2 y hy
                  · exact h1c y (List.mem_of_mem_drop hy)
              · refine hg.step ⟨rfl, rfl, rfl, by simp [World.setRow], fun k hk => setRow_other w b k _ (fun e => (hs.own id _ hl b (by rw [hm]; rfl)).2.1 (e ▸ hk)), by simp [World.setRow]⟩ (fun _ h => h) (fun _ h => .inl h)
          · cases h
        · cases h
      · cases h
    · cases h
  · cases h

end Go.Proofs.Ytgedafbejcpioaa
