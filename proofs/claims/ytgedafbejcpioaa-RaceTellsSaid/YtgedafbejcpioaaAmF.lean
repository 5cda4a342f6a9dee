/-
  AN EVALUATOR OF WALKS, over whatever program: structs and rows that are built out of parts.
-/
import Derived.Test.YtgedafbejcpioaaAmE
namespace Go.Proofs.Ytgedafbejcpioaa
open Go.RowKit
set_option linter.unusedSimpArgs false
set_option linter.unusedVariables false

def splice {α : Type} (l : List α) (o : Nat) (cs : List α) : List α := l.take o ++ cs ++ l.drop (o + cs.length)

theorem RepL.append {S : Nat → Prop} {w : World} {m : Mp} {l k : List C} {xs ys : List Value} (h : RepL S w m l xs) (h' : RepL S w m k ys) : RepL S w m (l ++ k) (xs ++ ys) := by
  refine ⟨by simp [h.1, h'.1], fun j c hj => ?_, fun x hx => ?_⟩
  · by_cases hl : j < l.length
    · rw [List.getElem?_append_left hl] at hj
      rw [List.getElem?_append_left (by rw [h.1]; exact hl)]
      exact h.2.1 j c hj
    · rw [List.getElem?_append_right (by omega)] at hj
      rw [List.getElem?_append_right (by rw [h.1]; omega), h.1]
      exact h'.2.1 _ c hj
  · rcases List.mem_append.1 hx with hx | hx
    · exact h.2.2 x hx
    · exact h'.2.2 x hx

theorem RepL.take {S : Nat → Prop} {w : World} {m : Mp} {l : List C} {xs : List Value} (h : RepL S w m l xs) (n : Nat) : RepL S w m (l.take n) (xs.take n) := by
  refine ⟨by simp [h.1], fun j c hj => ?_, fun x hx => h.2.2 x (List.mem_of_mem_take hx)⟩
  rw [List.getElem?_take] at hj ⊢
  split at hj
  · rename_i hn
    rw [if_pos hn]
    exact h.2.1 j c hj
  · cases hj

theorem RepL.drop {S : Nat → Prop} {w : World} {m : Mp} {l : List C} {xs : List Value} (h : RepL S w m l xs) (n : Nat) : RepL S w m (l.drop n) (xs.drop n) := by
  refine ⟨by simp [h.1], fun j c hj => ?_, fun x hx => h.2.2 x (List.mem_of_mem_drop hx)⟩
  rw [List.getElem?_drop] at hj ⊢
  exact h.2.1 _ c hj

theorem RepL.spliced {S : Nat → Prop} {w : World} {m : Mp} {l cs : List C} {xs ys : List Value} {o : Nat} (h : RepL S w m l xs) (h' : RepL S w m cs ys) : RepL S w m (splice l o cs) (splice xs o ys) := by
  unfold splice
  rw [h'.1]
  exact ((h.take o).append h').append (h.drop _)

theorem set_splice : ∀ (vs : List Value) (k off : Nat) (arr : Array Value), off + k + vs.length ≤ arr.size →
    ((vs.zipIdx k).foldl (fun cs p => cs.setIfInBounds (off + p.2) p.1) arr).toList = splice arr.toList (off + k) vs
  | [], k, off, arr, h => by simp [splice]
  | v :: vs, k, off, arr, h => by
    simp only [List.length_cons] at h
    simp only [List.zipIdx_cons, List.foldl_cons]
    rw [set_splice vs (k + 1) off _ (by simp; omega)]
    simp only [splice, Array.toList_setIfInBounds, List.length_cons]
    have hlt : off + k < arr.toList.length := by simp; omega
    have e1 : (arr.toList.set (off + k) v).take (off + (k + 1)) = arr.toList.take (off + k) ++ [v] := by
      rw [List.set_eq_take_append_cons_drop, if_pos hlt, List.take_append]
      have e2 : (arr.toList.take (off + k)).length = off + k := by simp; omega
      rw [e2, List.take_of_length_le (by rw [e2]; omega)]
      have e3 : off + (k + 1) - (off + k) = 1 := by omega
      rw [e3]
      rfl
    have e4 : (arr.toList.set (off + k) v).drop (off + (k + 1) + vs.length) = arr.toList.drop (off + k + (vs.length + 1)) := by
      rw [List.drop_set_of_lt (by omega)]
      congr 1
      omega
    rw [e1, e4]
    simp

def fillC (place : Nat → Option (Nat × Nat)) : List C → List (Nat × V) → Option (List C)
  | cells, [] => some cells
  | cells, (i, v) :: rest => match place i with
    | none => none
    | some (o, n) => match v.cells with
      | none => none
      | some cs => match Nat.beq cs.length n, Nat.ble (o + n) cells.length with
        | true, true => fillC place (splice cells o cs) rest
        | _, _ => none

theorem fill_run {N : Nat} {F : Keep} {S : Nat → Prop} {m : Mp} {st : St} {a : Act} {w : World} (hs : Sim N F S m st a w) {place place' : Nat → Option (Nat × Nat)} (hp : ∀ i p, place i = some p → place' i = some p) :
    ∀ (ps : List (Nat × Operand)) (cells r : List C) (xs : Array Value), RepL S w m cells xs.toList → fillC place cells (ps.map fun p => (p.1, evo st p.2)) = some r →
      ∃ ys, Instr.fill place' xs (ps.map fun p => (p.1, a.eval p.2)) = some ys ∧ RepL S w m r ys.toList
  | [], cells, r, xs, hx, h => by cases h; exact ⟨xs, rfl, hx⟩
  | (i, x) :: ps, cells, r, xs, hx, h => by
    simp only [List.map_cons, fillC] at h
    split at h
    · cases h
    rename_i o n hpl
    split at h
    · cases h
    rename_i cs hcs
    split at h
    · rename_i hb1 hb2
      obtain rfl := eq_of_beq' hb1
      have hle := Nat.le_of_ble_eq_true hb2
      have hv := V.cells_rep (hs.evo x) hcs
      have hsz : (a.eval x).cells.size = cs.length := by simpa using hv.1
      have hsx : xs.size = cells.length := by simpa using hx.1
      have hset := set_splice (a.eval x).cells.toList 0 o xs (by simp; omega)
      obtain ⟨ys, h1, h2⟩ := fill_run hs hp ps _ r (((a.eval x).cells.toList.zipIdx 0).foldl (fun cs p => cs.setIfInBounds (o + p.2) p.1) xs) (by rw [hset, Nat.add_zero]; exact hx.spliced hv) h
      refine ⟨ys, ?_, h2⟩
      simp only [List.map_cons, Instr.fill, hp i _ hpl]
      rw [if_neg (by simp [hsz]; omega), ← h1]
      congr 1
      rw [← Array.foldl_toList]
      simp [Array.toList_zipIdx]
    · cases h

def zeroC (ti : TI) : Option (List C) := match ti.zero with
  | some z => (V.ofVal z).cells
  | none => none

theorem zeroC_run {P : Program} {T : Tab} (hT : TabOk P T) {t : Nat} {ti : TI} (h : tlook T t = some ti) {l : List C} (hz : zeroC ti = some l) {S : Nat → Prop} {w : World} {m : Mp} :
    ∃ z, (zeroValue t).run P w = .ok z w ∧ RepL S w m l z.cells.toList := by
  unfold zeroC at hz
  obtain ⟨i, h1, h2, h3, h4⟩ := hT.info h
  split at hz
  · rename_i z hq
    refine ⟨z, ?_, V.cells_rep (V.ofVal_rep z) hz⟩
    simp [zeroValue, typeInfo, h1, h4, hq]
  · cases hz

def placeS (T : Tab) (fs : List (Nat × TypeId)) (i : Nat) : Option (Nat × Nat) := match fs[i]? with
  | some (o, ty) => match tlook T ty with
    | some ti => some (o, ti.size)
    | none => none
  | none => none

def allIn (T : Tab) : List (Nat × TypeId) → Bool
  | [] => true
  | (_, ty) :: r => match tlook T ty with
    | some _ => allIn T r
    | none => false

theorem allIn_mem {T : Tab} : ∀ {fs : List (Nat × TypeId)}, allIn T fs = true → ∀ p ∈ fs, ∃ ti, tlook T p.2 = some ti
  | [], _, p, h => by cases h
  | (o, ty) :: r, h, p, hp => by
    simp only [allIn] at h
    split at h
    · rename_i ti hti
      rcases List.mem_cons.1 hp with rfl | hp
      · exact ⟨ti, hti⟩
      · exact allIn_mem h p hp
    · cases h

def evBuild (T : Tab) (st : St) (t : Nat) (ps : List (Nat × V)) : Option V := match tlook T t with
  | some ti => match zeroC ti with
    | some z => match ti.k with
      | .struct fs => match allIn T fs with
        | true => match fillC (placeS T fs) z ps with
          | some l => some (.agg l)
          | none => none
        | false => none
      | .array n e => match tlook T e with
        | some te => match fillC (fun i => some (i * te.size, te.size)) z ps with
          | some l => some (.agg l)
          | none => none
        | none => none
      | _ => none
    | none => none
  | none => none

theorem run_mapM {α β : Type} (P : Program) (w : World) (f : α → Sem β) (g : α → β) : ∀ (l : List α) (acc : Array β), (∀ x ∈ l, (f x).run P w = .ok (g x) w) → (l.foldlM (fun bs a => bs.push <$> f a) acc).run P w = .ok (acc ++ (l.map g).toArray) w
  | [], acc, h => by simp
  | x :: l, acc, h => by
    have h1 := h x (by simp)
    simp only [List.foldlM_cons, Sem.run_bind]
    rw [show ((acc.push <$> f x : Sem (Array β)).run P w) = .ok (acc.push (g x)) w by rw [map_eq_pure_bind, Sem.run_bind, h1]; rfl]
    simp only [Result.andThen_ok]
    rw [run_mapM P w f g l _ fun y hy => h y (by simp [hy])]
    simp

theorem run_mapM_array {α β : Type} (P : Program) (w : World) (f : α → Sem β) (g : α → β) (xs : Array α) (h : ∀ x ∈ xs.toList, (f x).run P w = .ok (g x) w) : (xs.mapM f).run P w = .ok (xs.map g) w := by
  rw [Array.mapM_eq_foldlM, ← Array.foldlM_toList, run_mapM P w f g xs.toList _ h]
  congr 1
  apply Array.ext'
  simp

theorem evBuild_run {P : Program} {T : Tab} (hT : TabOk P T) {N : Nat} {F : Keep} {S : Nat → Prop} {m : Mp} {st : St} {a : Act} {w : World} (hs : Sim N F S m st a w) {t : Nat} {ps : Array (Nat × Operand)} {v : V}
    (h : evBuild T st t (ps.toList.map fun p => (p.1, evo st p.2)) = some v) : ∃ x, (Instr.build t (ps.map fun (i, x) => (i, a.eval x))).run P w = .ok x w ∧ RepV S w m v x := by
  unfold evBuild at h
  split at h
  · rename_i ti hti
    obtain ⟨d, hu, hf⟩ := hT.under hti
    split at h
    · rename_i z hz
      obtain ⟨zv, hz1, hz2⟩ := zeroC_run (S := S) (w := w) (m := m) hT hti hz
      have hps : (ps.map fun (i, x) => (i, a.eval x)).toList = ps.toList.map fun p => (p.1, a.eval p.2) := by simp
      split at h
      · rename_i fs hk
        rw [hk] at hf
        cases d <;> simp only [TK.fits] at hf
        rename_i fields
        split at h
        · rename_i hall
          split at h
          · rename_i l hl
            cases h
            have hmap := run_mapM_array P w (fun f : Field => do pure (f.offset, ← sizeOf f.type)) (fun f => (f.offset, ((tlook T f.type).map (·.size)).getD 0)) fields (fun f hf' => by
              obtain ⟨tf, htf⟩ := allIn_mem hall (f.offset, f.type) (by rw [← hf]; exact List.mem_map.2 ⟨f, hf', rfl⟩)
              simp [Sem.run_bind, hT.size htf w, htf])
            obtain ⟨ys, h1, h2⟩ := fill_run hs (place' := fun i => (fields.map fun f => (f.offset, ((tlook T f.type).map (·.size)).getD 0))[i]?) (fun i p hp => by
              unfold placeS at hp
              split at hp
              · rename_i o ty hfs
                obtain ⟨fld, h4, h5, h6⟩ := fields_get hf hfs
                split at hp
                · rename_i tf htf
                  cases hp
                  simp [h4, h5, h6, htf]
                · cases hp
              · cases hp) ps.toList z l zv.cells hz2 hl
            refine ⟨.agg ys, ?_, ys, rfl, h2⟩
            simp only [Instr.build, Sem.run_bind, hz1, Result.andThen_ok, run_underlying hu, hmap, hps, h1, Sem.run_pure]
          · cases h
        · cases h
      · rename_i n e hk
        rw [hk] at hf
        cases d <;> simp only [TK.fits] at hf
        obtain ⟨rfl, rfl⟩ := hf
        split at h
        · rename_i te hte
          split at h
          · rename_i l hl
            cases h
            obtain ⟨ys, h1, h2⟩ := fill_run hs (place' := fun i => some (i * te.size, te.size)) (fun i p hp => hp) ps.toList z l zv.cells hz2 hl
            refine ⟨.agg ys, ?_, ys, rfl, h2⟩
            simp only [Instr.build, Sem.run_bind, hz1, Result.andThen_ok, run_underlying hu, hT.size hte w, hps, h1, Sem.run_pure]
          · cases h
        · cases h
      · cases h
    · cases h
  · cases h

end Go.Proofs.Ytgedafbejcpioaa
