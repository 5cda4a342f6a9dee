/-
  AN EVALUATOR OF WALKS, over whatever program: a loop over a map of the call's own that looks at the map's entries and does not touch the map: whichever order the entries come in.
-/
import Derived.Test.YtgedafbejcpioaaAmSk
import Derived.Laws.IdiomRangeMap
namespace Go.Proofs.Ytgedafbejcpioaa
open Go.RowKit
set_option linter.unusedSimpArgs false
set_option linter.unusedVariables false

theorem run_putIter {P : Program} (w : World) (b : Nat) (x : Option Nat) (c d : Nat) (s : Array Nat) (o : Obj) (h : w.heap[b]? = some (.mapIter x c s d)) : (Go.setObj b o).run P w = .ok () (putObj w b o) := by
  simp [Go.setObj, Sem.run, h, putObj]

/-- 'next', the iterator lying wherever. -/
theorem next_at {P : Program} (w : World) (ty : TypeId) (bm bit : Nat) (seen : Array Nat) (es : Array MapEntry) (clock : Nat) (hb : w.heap[bm]? = some (.map es clock)) (hi : w.heap[bit]? = some (.mapIter (some bm) clock seen clock)) (hold : ∀ x ∈ es.toList, x.born < clock) :
    ((leftOf es seen).size = 0 ∧ (Instr.next (.pointer (some ⟨bit, 0, none⟩)) false ty).run P w = .ok (.tuple #[.bool false]) w) ∨
    ∃ e ∈ (leftOf es seen).toList, ∃ w1 : World, (w1 = w ∨ w1 = w.drew) ∧ (Instr.next (.pointer (some ⟨bit, 0, none⟩)) false ty).run P w = .ok (.tuple #[.bool true, e.key, e.val]) (putObj w1 bit (.mapIter (some bm) clock (seen.push e.born) clock)) := by
  simp only [Instr.next, getObj, Sem.run_bind, Sem.run, hi, hb, Result.andThen, next_test_false seen es clock clock hold (Nat.le_refl _), Bool.false_eq_true, if_false]
  unfold leftOf
  have hmem : ∀ x ∈ (Array.filter (fun e => !seen.contains e.born) es).toList, x.born < clock := fun x hx => hold x (by simp at hx ⊢; exact hx.1)
  generalize Array.filter (fun e => !seen.contains e.born) es = L at hmem ⊢
  have e1 : L.filter (fun x => decide (x.born < clock)) = L := Array.filter_eq_self.2 (fun x hx => by simpa using hmem x (by simpa using hx))
  have e2 : L.filter (fun x => decide (x.born ≥ clock)) = #[] := by
    rw [Array.filter_eq_empty_iff]
    intro x hx
    have := hmem x (by simpa using hx)
    simp
    omega
  simp only [e1, e2, Array.append_empty]
  by_cases h0 : L.size = 0
  · left
    have : L = #[] := Array.eq_empty_of_size_eq_zero h0
    subst this
    refine ⟨rfl, ?_⟩
    simp [choose, Sem.run, Question.forced]
  · right
    have hne : L.isEmpty = false := by simp [Array.isEmpty, h0]
    simp only [hne, Bool.false_eq_true, if_false, Array.empty_append, Array.size_map]
    have hch : ∃ (j : Nat) (w1 : World), j < L.size ∧ (w1 = w ∨ w1 = w.drew) ∧ (choose (Question.mapNext L.size)).run P w = .ok j w1 := by
      by_cases hf : L.size ≤ 1
      · exact ⟨0, w, by omega, .inl rfl, by simp [choose, Sem.run, Question.forced, hf]⟩
      · exact ⟨_, w.drew, Nat.mod_lt _ (by omega), .inr rfl, by
          simp only [choose, Sem.run, Question.forced, decide_eq_true_eq, hf, if_false, Question.cut]
          rfl⟩
    obtain ⟨j, w1, hj, hal, hrun⟩ := hch
    refine ⟨L[j], by simp, w1, hal, ?_⟩
    have hi1 : w1.heap[bit]? = some (.mapIter (some bm) clock seen clock) := by
      rcases hal with rfl | rfl
      · exact hi
      · exact hi
    simp only [hrun, Array.getElem?_map, Array.getElem?_eq_getElem hj, Option.map_some, Sem.run_bind, run_putIter _ _ _ _ _ _ _ hi1, Result.andThen]
    rfl

/-- 'entry' behind it. -/
theorem entry_at {P : Program} (w : World) (bm bit : Nat) (seen : Array Nat) (es : Array MapEntry) (clock : Nat) (e : MapEntry) (hb : w.heap[bm]? = some (.map es clock)) (hi : w.heap[bit]? = some (.mapIter (some bm) clock (seen.push e.born) clock)) (he : e ∈ es.toList) (hn : (es.toList.map (·.born)).Nodup) :
    (Instr.entry (.pointer (some ⟨bit, 0, none⟩))).run P w = .ok (.tuple #[e.key, e.val]) w := by
  have hf : es.find? (·.born == e.born) = some e := by rw [← Array.find?_toList]; exact find_born e es.toList hn he
  simp only [Instr.entry, getObj, Sem.run_bind, Sem.run, hi, hb, Result.andThen, Array.back?_push, bne_self_eq_false, Bool.false_eq_true, if_false, hf]
  rfl

theorem op_val {P : Program} {ops : Array Oper} {Q : Exit → Act → World → Prop} {a : Act} {w w' : World} {rest : List Oper} {o : Oper} {x : Value} (hg : o.guard = none) (h : (execOp a.eval o).run P w = .ok (.value x) w') (hk : wpList P ops Q rest (a.put o.dst x) w') :
    wpList P ops Q (o :: rest) a w := by
  refine wpList_step fun K hK => ?_
  rw [if_pos (by simp [Region.wanted, hg])]
  show o.upon P a K Q ((execOp a.eval o).run P w)
  rw [h]
  exact hK _ _ hk

section
variable {N : Nat} {F : Keep} {S : Nat → Prop} {m : Mp} {st st' : St} {a : Act} {w w' : World}

theorem Sim.eqv (h : Sim N F S m st a w) (he : Eqv st st') : Sim N F S m st' a w :=
  ⟨h.size, fun t => by rw [he.env]; exact h.env t, fun t ht => by rw [he.env]; exact h.far t ht, fun id b hb => h.heap id b (by rw [← he.heap]; exact hb), fun id b hb => h.own id b (by rw [← he.heap]; exact hb), fun i j b b' hne h1 h2 => h.inj i j b b' hne (by rw [← he.heap]; exact h1) (by rw [← he.heap]; exact h2), h.dom, h.defers, h.base_le, h.pin, h.len⟩

/-- A slot of which the state says nothing is written. -/
theorem Sim.junked (h : Sim N F S m st a w) {d : Nat} (hj : st.get d = .one .junk) (hd : d < N) (x : Value) : Sim N F S m st (a.put (some d) x) w :=
  (h.put (v := .one .junk) (x := x) RepC.junk hd).eqv ⟨fun t => by rw [St.get_put]; split <;> simp_all, rfl⟩

/-- One block is written that the state does not speak of. -/
theorem Sim.but (h : Sim N F S m st a w) (k0 : Nat) (hsz : w'.heap.size = w.heap.size) (hk : ∀ k, k ≠ k0 → w'.heap[k]? = w.heap[k]?) (hS : ¬ S k0) (hL : ¬ m.L k0) (ho : ∀ id b, hget st.heap id = some b → blk (m id) ≠ some k0) : Sim N F S m st a w' := by
  have hw : Agree S w w' := fun b hb => hk b fun e => hS (e ▸ hb)
  have hl : Agree m.L w w' := fun b hb => hk b fun e => hL (e ▸ hb)
  exact ⟨h.size, fun t => (h.env t).keepL hw (fun _ x => x) hl, h.far, fun id b hb => (h.heap id b hb).keepL hw (fun _ x => x) hl fun k hk' => hk k fun e => ho id b hb (e ▸ hk'), fun id b hb k hk' => by
    obtain ⟨h1, h2, h3⟩ := h.own id b hb k hk'
    exact ⟨h1, h2, by omega⟩, h.inj, fun b hb => by have := h.dom b hb; omega, h.defers, fun k hk => by have := h.base_le k hk; omega, h.pin, h.len⟩

/-- The map and its iterator are put away: nobody may touch them. -/
def hid (F : Keep) (bm bit : Nat) : Keep := ⟨fun k => F.no k ∨ k = bm ∨ k = bit, F.pin⟩

def mlit (bm : Nat) : V := .one (.lit (.map (some bm)))
def plit (bit : Nat) : V := .one (.lit (.pointer (some ⟨bit, 0, none⟩)))

def envDel (s : Nat) : List (Nat × V) → List (Nat × V)
  | [] => []
  | (k, v) :: r => match Nat.beq k s with
    | true => envDel s r
    | false => (k, v) :: envDel s r
theorem look_envDel {d : V} {s t : Nat} (h : s ≠ t) : ∀ l, look d (envDel s l) t = look d l t
  | [] => rfl
  | (k, v) :: r => by
    simp only [envDel]
    split
    · rename_i e
      have e := Nat.eq_of_beq_eq_true e
      rw [look_cons, if_neg (by omega)]
      exact look_envDel h r
    · rw [look_cons, look_cons, look_envDel h r]

/-- The state of a round: the map's slot and the iterator's slot as plain words. -/
def hidSt (st : St) (src it id bm bit : Nat) : St := ⟨(src, mlit bm) :: (it, plit bit) :: envDel src st.env, hdel st.heap id⟩

theorem hidSt_get (st : St) (src it id bm bit t : Nat) : (hidSt st src it id bm bit).get t = if src = t then mlit bm else if it = t then plit bit else st.get t := by
  show look _ ((src, mlit bm) :: (it, plit bit) :: envDel src st.env) t = _
  rw [look_cons, look_cons]
  split
  · rfl
  · rename_i h
    rw [look_envDel h]
    rfl

theorem Sim.hide (h : Sim N F S m st a w) {src it id bm bit : Nat} {kt : TypeId} {l : List (Value × V)} (hl : hget st.heap id = some (.map kt l)) (hm : m id = .map (some bm)) (hsrc : a.tmps.getD src undef = .map (some bm)) (hit : a.tmps.getD it undef = .pointer (some ⟨bit, 0, none⟩)) (hs1 : src < N) (hi1 : it < N)
    (hb : bit < w.heap.size) (ho : ∀ id' b, hget st.heap id' = some b → blk (m id') ≠ some bit) : Sim N (hid F bm bit) S m (hidSt st src it id bm bit) a w := by
  have hbm := h.own id _ hl bm (by rw [hm]; rfl)
  refine ⟨h.size, fun t => ?_, fun t ht => ?_, fun id' b hb' => ?_, fun id' b hb' k hk => ?_, fun i j b b' hne h1 h2 => ?_, h.dom, h.defers, fun k hk => ?_, h.pin, ⟨h.len.1, fun b hb' => .inl (h.len.2 b hb')⟩⟩
  · rw [hidSt_get]
    split
    · rename_i e; subst e; rw [hsrc]; exact RepC.lit
    · split
      · rename_i e; subst e; rw [hit]; exact RepC.lit
      · exact h.env t
  · rw [hidSt_get, if_neg (by omega), if_neg (by omega)]; exact h.far t ht
  · have : hget st.heap id' = some b := by
      have hb2 : hget (hdel st.heap id) id' = some b := hb'
      rw [hget_hdel] at hb2; split at hb2; cases hb2; exact hb2
    exact h.heap id' b this
  · have hb2 : hget (hdel st.heap id) id' = some b := hb'
    rw [hget_hdel] at hb2
    split at hb2
    · cases hb2
    rename_i hne
    obtain ⟨h1, h2, h3⟩ := h.own id' b hb2 k hk
    refine ⟨h1, fun hc => ?_, h3⟩
    rcases hc with hc | rfl | rfl
    · exact h2 hc
    · exact h.inj id id' _ _ hne hl hb2 k (by rw [hm]; rfl) hk
    · exact ho id' b hb2 hk
  · have g1 : hget (hdel st.heap id) i = some b := h1
    have g2 : hget (hdel st.heap id) j = some b' := h2
    rw [hget_hdel] at g1 g2
    split at g1
    · cases g1
    split at g2
    · cases g2
    exact h.inj i j b b' hne g1 g2
  · rcases hk with hk | rfl | rfl
    · exact h.base_le k hk
    · exact hbm.2.2
    · exact hb
end

/-- The cells of a key that is a struct of words; the cell of a value. -/
def kcs : Value → List C
  | .agg xs => xs.toList.map C.lit
  | _ => []
def cvs : V → List C
  | .one c => [c]
  | _ => []

/-- The state in which a round's body begins: the entry is known. -/
def rgSt (st : St) (src it id bm bit t24 t25 : Nat) (p : Value × V) : St := ((hidSt st src it id bm bit).put t24 (.one (.lit (.bool true)))).put t25 (.tup [(true, kcs p.1), (false, cvs p.2)])

theorem kcs_rep {S : Nat → Prop} {w : World} {m : Mp} {xs : Array Value} (h1 : ∀ x ∈ xs.toList, x.oneCell' = true) : RepL S w m (kcs (.agg xs)) xs.toList := by
  refine ⟨by simp [kcs], fun j c hj => ?_, h1⟩
  simp only [kcs, List.getElem?_map] at hj
  cases hx : xs.toList[j]? with
  | none => rw [hx] at hj; cases hj
  | some x => rw [hx] at hj; cases hj; exact ⟨x, rfl, RepC.lit⟩

theorem Sim.unhide {N : Nat} {F : Keep} {S : Nat → Prop} {m : Mp} {st st1 : St} {a : Act} {w : World} {src it id bm bit : Nat} (h : Sim N (hid F bm bit) S m st1 a w) (he : ∀ t, st.get t = .one .junk ∨ st1.get t = (hidSt st src it id bm bit).get t) (hh : st1.heap = hdel st.heap id) (hsrc : st.get src = .one (.mp id)) (hit : st.get it = .one .junk)
    (hq : ∀ t, t ≠ src → (st.get t).says id = false) (hqh : ∀ id' l, id' ≠ id → hget st.heap id' = some (.box l) → l.any (C.says id) = false) (hpi : id < pinBase) {kt : TypeId} {l : List (Value × V)} (hl : hget st.heap id = some (.map kt l))
    {es : Array MapEntry} {clock : Nat} (hb : w.heap[bm]? = some (.map es clock)) (hE : RepE S w l es.toList clock) (hD : Dense kt es.toList clock) (hS : ¬ S bm) (hF : ¬ F.no bm) (hL : ∀ b, F.pin.L b → F.no b) : Sim N F S (upd m id (.map (some bm))) st a w := by
  have hne : ∀ {i b}, i ≠ id → hget st.heap i = some b → hget st1.heap i = some b := fun {i b} hi hb => by rw [hh, hget_hdel, if_neg (Ne.symm hi)]; exact hb
  have hlt : bm < w.heap.size := by
    rcases Nat.lt_or_ge bm w.heap.size with h | h
    · exact h
    · simp [Array.getElem?_eq_none h] at hb
  refine ⟨h.size, fun t => ?_, fun t ht => ?_, fun i b hi => ?_, fun i b hi k hk => ?_, fun i j b b' hij h1 h2 k hk hk2 => ?_, h.dom, h.defers, fun k hk => h.base_le k (.inl hk), fun i hi => ?_, ⟨h.len.1, fun b hb' => hL b (h.len.1 ▸ hb')⟩⟩
  · by_cases ht : t = src
    · subst ht
      have h1 := h.env t
      rcases he t with hj | hj
      · rw [hsrc] at hj; cases hj
      rw [hj, hidSt_get, if_pos rfl] at h1
      rw [hsrc]
      have h1' : RepC S w m (.lit (.map (some bm))) (a.tmps.getD t undef) := h1
      generalize a.tmps.getD t undef = x at h1'
      cases h1'
      exact RepC.mp (upd_same _ _ _)
    · rcases he t with hj | hj
      · rw [hj]; exact RepC.junk
      by_cases hti : t = it
      · rw [hti, hit]; exact RepC.junk
      have h1 := h.env t
      rw [hj, hidSt_get, if_neg (Ne.symm ht), if_neg (Ne.symm hti)] at h1
      exact h1.other _ id (upd_other m id _) rfl (hq t ht)
  · have h1 := h.far t ht
    rcases he t with hj | hj
    · exact hj
    rw [hj, hidSt_get] at h1
    split at h1
    · cases h1
    · split at h1
      · cases h1
      · exact h1
  · by_cases hi2 : i = id
    · subst hi2
      rw [hl] at hi
      cases hi
      rw [upd_same]
      exact ⟨bm, es, clock, rfl, hb, hE, hD⟩
    · rw [upd_other _ _ _ _ hi2]
      have h1 := h.heap i b (hne hi2 hi)
      cases b with
      | box l' =>
        obtain ⟨b, arr, t, q1, q2, q3⟩ := h1
        exact ⟨b, arr, t, q1, q2, q3.other _ id (upd_other m id _) rfl (hqh i l' hi2 hi)⟩
      | rows e sz len c => exact h1
      | map kt l' => exact h1
  · by_cases hi2 : i = id
    · subst hi2
      rw [upd_same] at hk
      cases hk
      exact ⟨hS, hF, hlt⟩
    · rw [upd_other _ _ _ _ hi2] at hk
      obtain ⟨q1, q2, q3⟩ := h.own i b (hne hi2 hi) k hk
      exact ⟨q1, fun hc => q2 (.inl hc), q3⟩
  · by_cases hi2 : i = id
    · subst hi2
      rw [upd_same] at hk
      rw [upd_other _ _ _ _ (Ne.symm hij)] at hk2
      cases hk
      exact (h.own j b' (hne (Ne.symm hij) h2) _ hk2).2.1 (.inr (.inl rfl))
    · rw [upd_other _ _ _ _ hi2] at hk
      by_cases hj2 : j = id
      · subst hj2
        rw [upd_same] at hk2
        cases hk2
        exact (h.own i b (hne hi2 h1) _ hk).2.1 (.inr (.inl rfl))
      · rw [upd_other _ _ _ _ hj2] at hk2
        exact h.inj i j b b' hij (hne hi2 h1) (hne hj2 h2) k hk hk2
  · rw [upd_other _ _ _ _ (by omega)]
    exact h.pin i hi

theorem drew_or {w w1 : World} (h : w1 = w ∨ w1 = w.drew) : w1.heap = w.heap ∧ w1.os = w.os ∧ w1.tape = w.tape ∧ w1.output = w.output ∧ w.drawn ≤ w1.drawn := by
  rcases h with rfl | rfl
  · exact ⟨rfl, rfl, rfl, rfl, Nat.le_refl _⟩
  · exact ⟨rfl, rfl, rfl, rfl, Nat.le_succ _⟩

theorem get_slot {N : Nat} {F : Keep} {S : Nat → Prop} {m : Mp} {st : St} {a : Act} {w : World} (h : Sim N F S m st a w) {t : Nat} {x : Value} (he : st.get t = .one (.lit x)) : a.tmps.getD t undef = x := by
  have h1 := h.env t
  rw [he] at h1
  have h2 : RepC S w m (.lit x) (a.tmps.getD t undef) := h1
  generalize a.tmps.getD t undef = y at h2
  cases h2
  rfl

theorem putd {a : Act} {d : Nat} {x : Value} (h : d < a.tmps.size) : (a.put (some d) x).tmps.getD d undef = x := by
  simp only [Act.put, Array.getD_eq_getD_getElem?]
  rw [Array.getElem?_setIfInBounds_self_of_lt h]
  rfl

theorem entry_of {S : Nat → Prop} {w : World} {l : List (Value × V)} {es : List MapEntry} {clock : Nat} (h : RepE S w l es clock) {e : MapEntry} (he : e ∈ es) : ∃ p ∈ l, e.key = p.1 ∧ RepV S w none' p.2 e.val := by
  obtain ⟨j, hj⟩ := List.getElem?_of_mem he
  have hlt : j < l.length := by
    have := (List.getElem?_eq_some_iff.1 hj).1
    have := h.len
    omega
  obtain ⟨h1, h2, h3⟩ := h.at_ j l[j] e (List.getElem?_eq_getElem hlt) hj
  exact ⟨l[j], List.getElem_mem hlt, h1, h3⟩
theorem of_entry {S : Nat → Prop} {w : World} {l : List (Value × V)} {es : List MapEntry} {clock : Nat} (h : RepE S w l es clock) {p : Value × V} (hp : p ∈ l) : ∃ e ∈ es, e.key = p.1 := by
  obtain ⟨j, hj⟩ := List.getElem?_of_mem hp
  have hlt : j < es.length := by
    have := (List.getElem?_eq_some_iff.1 hj).1
    have := h.len
    omega
  obtain ⟨h1, h2, h3⟩ := h.at_ j p es[j] hj (List.getElem?_eq_getElem hlt)
  exact ⟨es[j], List.getElem_mem hlt, h1⟩

/-- What stays from round to round. -/
structure RgC (F : Keep) (S0 : Nat → Prop) (w00 : World) (bm bit : Nat) (es : Array MapEntry) (clock : Nat) (fit : Value → Bool) (seen : Array Nat) (S1 : Nat → Prop) (w1 : Start) : Prop where
  fr : w1.F = hid F bm bit
  hb : w1.w.heap[bm]? = some (.map es clock)
  hi : w1.w.heap[bit]? = some (.mapIter (some bm) clock seen clock)
  link : Goes F.no S0 S1 w00 w1.w
  s1 : ¬ S1 bm
  s2 : ¬ S1 bit
  no : ∀ x ∈ es.toList, seen.contains x.born = true → fit x.key = false

section
variable {P : Program} {T : Tab} {N : Nat} {S0 : Nat → Prop} {w0 : Start} {Q : Exit → Act → World → Prop} {k : List It} {st : St}
  {src t21 it id t23 t24 t25 bid b4 r9 r10 : Nat} {ops9 ops10 : Array Oper} {oN oX oE : Oper} {rest10 : List Oper} {B11 : Code} {kt ty : TypeId} {l : List (Value × V)} {fit : Value → Bool}

theorem good_rounds (hT : TabOk P T) (hE : Ends Q)
    (hsrc : st.get src = .one (.mp id)) (hl : hget st.heap id = some (.map kt l)) (hjit : st.get it = .one .junk) (hj23 : st.get t23 = .one .junk) (hj24 : st.get t24 = .one .junk) (hj25 : st.get t25 = .one .junk)
    (hq : ∀ t, t ≠ src → (st.get t).says id = false) (hqh : ∀ id' l, id' ≠ id → hget st.heap id' = some (.box l) → l.any (C.says id) = false) (hpi : id < pinBase)
    (hne : src ≠ it ∧ src ≠ t23 ∧ src ≠ t24 ∧ src ≠ t25 ∧ it ≠ t23 ∧ it ≠ t24 ∧ it ≠ t25 ∧ t23 ≠ t24 ∧ t24 ≠ t25) (hN : src < N ∧ it < N ∧ t23 < N ∧ t24 < N ∧ t25 < N)
    (h9 : ops9.toList = [oN, oX]) (hoN : oN.op = .next (.tmp it) false ∧ oN.dst = some t23 ∧ oN.guard = none) (hoX : oX.op = .extract (.tmp t23) 0 ∧ oX.dst = some t24 ∧ oX.guard = none)
    (h10 : ops10.toList = oE :: rest10) (hoE : oE.op = .entry (.tmp it) ∧ oE.dst = some t25 ∧ oE.guard = none)
    (hkey : ∀ p ∈ l, ∃ xs x, p.1 = .agg xs ∧ (∀ y ∈ xs.toList, y.oneCell' = true) ∧ p.2 = .one (.lit x))
    {bm bit : Nat} {es : Array MapEntry} {clock : Nat} {Se : Nat → Prop} {we : World} (hRE : RepE Se we l es.toList clock) (hD : Dense kt es.toList clock)
    (hFm : ¬ w0.F.no bm) (hFb : ¬ w0.F.no bit) (hLb : ¬ w0.F.pin.L bit) (hLF : ∀ b, w0.F.pin.L b → w0.F.no b)
    (body : Code) (hbody : body = .seq (.region r9 ops9 false) (.seq (.cond (.tmp t24) .skip (.exit bid)) (.block b4 (.seq (.region r10 ops10 false) B11))))
    (hcont : (∀ p ∈ l, fit p.1 = false) → Good P N S0 w0 Q k st)
    (hyes : ∀ p ∈ l, fit p.1 = true → ∀ S1 w1, w1.F = hid w0.F bm bit → Goes w0.F.no S0 S1 w0.w w1.w → ∃ st' obl ra, runOps P N T ops10 ra 1 rest10 (rgSt st src it id bm bit t24 t25 p) = some (st', obl) ∧ (∀ q ∈ obl, q) ∧ Good P N S1 w1 Q (.code B11 :: .endB b4 :: .endL body :: .endB bid :: k) st')
    (hno : ∀ p ∈ l, fit p.1 = false → ∀ S1 w1, Good P N S1 w1 Q (.endL body :: .endB bid :: k) (hidSt st src it id bm bit) → ∃ st' obl ra, runOps P N T ops10 ra 1 rest10 (rgSt st src it id bm bit t24 t25 p) = some (st', obl) ∧ (∀ q ∈ obl, q) ∧ Good P N S1 w1 Q (.code B11 :: .endB b4 :: .endL body :: .endB bid :: k) st') :
    ∀ (n : Nat) (seen : Array Nat) (S1 : Nat → Prop) (w1 : Start), RgC w0.F S0 w0.w bm bit es clock fit seen S1 w1 → (leftOf es seen).size = n → Good P N S1 w1 Q (.code (.loop body) :: .endB bid :: k) (hidSt st src it id bm bit) := by
  intro n
  induction n using Nat.strongRecOn with
  | _ n ih =>
  intro seen S1 w1 hC hn
  obtain ⟨e1, e2, e3, e4, e5, e6, e7, e8, e9⟩ := hne
  obtain ⟨n1, n2, n3, n4, n5⟩ := hN
  refine good_loop hE ?_
  suffices hgo : Good P N S1 w1 Q (.code (.seq (.region r9 ops9 false) (.seq (.cond (.tmp t24) .skip (.exit bid)) (.block b4 (.seq (.region r10 ops10 false) B11)))) :: .endL body :: .endB bid :: k) (hidSt st src it id bm bit) by
    rw [← hbody] at hgo
    exact hgo
  refine good_seq fun a w hsh => ?_
  obtain ⟨S, m, hs, hg⟩ := hsh
  have hbw : w.heap[bm]? = some (.map es clock) := by rw [hg.below.block bm (by rw [hC.fr]; exact .inr (.inl rfl))]; exact hC.hb
  have hiw : w.heap[bit]? = some (.mapIter (some bm) clock seen clock) := by rw [hg.below.block bit (by rw [hC.fr]; exact .inr (.inr rfl))]; exact hC.hi
  have hbb : bm ≠ bit := fun e => by rw [e, hiw] at hbw; cases hbw
  have hSm : ¬ S bm := fun h => (hg.sup bm h).elim hC.s1 fun h => h (by rw [hC.fr]; exact .inr (.inl rfl))
  have hSb : ¬ S bit := fun h => (hg.sup bit h).elim hC.s2 fun h => h (by rw [hC.fr]; exact .inr (.inr rfl))
  have hmL : m.L = w0.F.pin.L := by rw [hs.len.1, hC.fr]; rfl
  have hold : ∀ x ∈ es.toList, x.born < clock := fun x hx => by
    obtain ⟨j, hj⟩ := List.getElem?_of_mem hx
    have hlt : j < l.length := by
      have := (List.getElem?_eq_some_iff.1 hj).1
      have := hRE.len
      omega
    exact (hRE.at_ j l[j] x (List.getElem?_eq_getElem hlt) hj).2.1
  have hitv : a.tmps.getD it undef = .pointer (some ⟨bit, 0, none⟩) := get_slot hs (by rw [hidSt_get, if_neg e1, if_pos rfl]; rfl)
  have hg23 : ∀ bm bit, (hidSt st src it id bm bit).get t23 = .one .junk := fun bm bit => by rw [hidSt_get, if_neg e2, if_neg e5]; exact hj23
  have hlink : Goes w0.F.no S0 S w0.w w := ⟨hC.link.below.trans (hg.below.mono fun k hk => by rw [hC.fr]; exact .inl hk), fun b hb => hg.sub b (hC.link.sub b hb), fun b hb => (hg.sup b hb).elim (hC.link.sup b) fun h => .inr fun hF => h (by rw [hC.fr]; exact .inl hF)⟩
  show (Code.region r9 ops9 false).wp P (contK P Q (.code (.seq (.cond (.tmp t24) .skip (.exit bid)) (.block b4 (.seq (.region r10 ops10 false) B11))) :: .endL body :: .endB bid :: k)) a w
  refine wp_region_list ?_
  rw [h9]
  rcases next_at (P := P) w oN.type bm bit seen es clock hbw hiw hold with ⟨h0, hrun⟩ | ⟨e, he, w2, hw2, hrun⟩
  · refine op_val hoN.2.2 (w' := w) (x := .tuple #[.bool false]) ?_ ?_
    · unfold execOp
      simp only [hoN.1]
      rw [show a.eval (.tmp it) = _ from hitv]
      simp [hrun]
    refine op_val hoX.2.2 (w' := w) (x := .bool false) ?_ ?_
    · unfold execOp
      simp only [hoX.1]
      rw [hoN.2.1, show (a.put (some t23) (.tuple #[.bool false])).eval (.tmp t23) = _ from putd (by rw [hs.size]; exact n3)]
      rfl
    rw [hoN.2.1, hoX.2.1]
    have hs2 := (hs.junked (hg23 bm bit) n3 (.tuple #[.bool false])).put (v := .one (.lit (.bool false))) (x := .bool false) RepC.lit n4
    refine good_seq (S0 := S1) (w0 := w1) (good_cond (b := false) (e := false) (by simp only [evo]; rw [St.get_put, if_pos rfl]) rfl (good_exit (k' := k) ?_ ?_)) _ _ ⟨S, m, hs2, hg⟩
    · simp only [exitK, Nat.beq_refl]
    intro a' w' hsh'
    obtain ⟨S', m', hs', hg'⟩ := hsh'
    have hbw' : w'.heap[bm]? = some (.map es clock) := by rw [hg'.below.block bm (by rw [hC.fr]; exact .inr (.inl rfl))]; exact hC.hb
    have hSm' : ¬ S' bm := fun h => (hg'.sup bm h).elim hC.s1 fun h => h (by rw [hC.fr]; exact .inr (.inl rfl))
    have hlink' : Goes w0.F.no S0 S' w0.w w' := ⟨hC.link.below.trans (hg'.below.mono fun k hk => by rw [hC.fr]; exact .inl hk), fun b hb => hg'.sub b (hC.link.sub b hb), fun b hb => (hg'.sup b hb).elim (hC.link.sup b) fun h => .inr fun hF => h (by rw [hC.fr]; exact .inl hF)⟩
    have hRE' : RepE S' w' l es.toList clock := ⟨hRE.len, fun j p e h1 h2 => by
      obtain ⟨q1, q2, q3⟩ := hRE.at_ j p e h1 h2
      obtain ⟨xs, x, _, _, hx⟩ := hkey p (List.mem_of_getElem? h1)
      rw [hx] at q3 ⊢
      have q4 : RepC Se we none' (.lit x) e.val := q3
      refine ⟨q1, q2, ?_⟩
      generalize e.val = y at q4
      cases q4
      exact RepC.lit, hRE.keys, hRE.born⟩
    rw [hC.fr] at hs'
    refine hcont (fun p hp => ?_) a' w' ⟨S', _, hs'.unhide (src := src) (it := it) (id := id) (fun t => ?_) rfl hsrc hjit hq hqh hpi hl hbw' hRE' hD hSm' hFm hLF, hlink'⟩
    · obtain ⟨x, hx, hxk⟩ := of_entry hRE hp
      rw [← hxk]
      exact hC.no x hx (all_seen es seen h0 x hx)
    · rw [St.get_put]
      split
      · rename_i ht; subst ht; exact .inl hj24
      · exact .inr rfl
  · obtain ⟨d1, d2, d3, d4, d5⟩ := drew_or hw2
    obtain ⟨hes, hsn⟩ := mem_left he
    obtain ⟨p, hp, hpk, hpv⟩ := entry_of hRE hes
    obtain ⟨xs, x, hpx, hone, hpx2⟩ := hkey p hp
    refine op_val hoN.2.2 (w' := putObj w2 bit (.mapIter (some bm) clock (seen.push e.born) clock)) (x := .tuple #[.bool true, e.key, e.val]) ?_ ?_
    · unfold execOp
      simp only [hoN.1]
      rw [show a.eval (.tmp it) = _ from hitv]
      simp [hrun]
    generalize hw3 : putObj w2 bit (.mapIter (some bm) clock (seen.push e.born) clock) = w3
    refine op_val hoX.2.2 (w' := w3) (x := .bool true) ?_ ?_
    · unfold execOp
      simp only [hoX.1]
      rw [hoN.2.1, show (a.put (some t23) (.tuple #[.bool true, e.key, e.val])).eval (.tmp t23) = _ from putd (by rw [hs.size]; exact n3)]
      rfl
    rw [hoN.2.1, hoX.2.1]
    have hsz3 : w3.heap.size = w.heap.size := by rw [← hw3]; simp [putObj, d1]
    have hoth3 : ∀ k, k ≠ bit → w3.heap[k]? = w.heap[k]? := fun k hk => by rw [← hw3]; simp only [putObj]; rw [Array.getElem?_setIfInBounds_ne (Ne.symm hk), d1]
    have hlt3 : bit < w.heap.size := by
      rcases Nat.lt_or_ge bit w.heap.size with h | h
      · exact h
      · simp [Array.getElem?_eq_none h] at hiw
    have hi3 : w3.heap[bit]? = some (.mapIter (some bm) clock (seen.push e.born) clock) := by rw [← hw3]; simp [putObj, d1, hlt3]
    have hs3 : Sim N w1.F S m (hidSt st src it id bm bit) a w3 := hs.but bit hsz3 hoth3 hSb (by rw [hmL]; exact hLb) fun i b hb hk => (hs.own i b hb bit hk).2.1 (by rw [hC.fr]; exact .inr (.inr rfl))
    have hs4 := (hs3.junked (hg23 bm bit) n3 (.tuple #[.bool true, e.key, e.val])).put (v := .one (.lit (.bool true))) (x := .bool true) RepC.lit n4
    have hbel : Bel w0.F.no w w3 := ⟨by rw [← hw3]; exact d2, by rw [← hw3]; exact d3, by rw [← hw3]; exact d4, by omega, fun k hk => hoth3 k fun e => hFb (e ▸ hk), by rw [← hw3]; exact d5⟩
    have hlink3 : Goes w0.F.no S0 S w0.w w3 := hlink.step hbel (fun _ h => h) fun _ h => .inl h
    have hb3 : w3.heap[bm]? = some (.map es clock) := by rw [hoth3 bm hbb]; exact hbw
    refine good_seq (S0 := S) (w0 := ⟨w3, w1.F⟩) (good_cond (b := true) (e := true) (by simp only [evo]; rw [St.get_put, if_pos rfl]) rfl (good_skip (good_block (good_seq ?_)))) _ _ ⟨S, m, hs4, Goes.refl _ _ _⟩
    intro a5 w5 hsh5
    obtain ⟨S5, m5, hs5, hg5⟩ := hsh5
    have hb5 : w5.heap[bm]? = some (.map es clock) := by rw [hg5.below.block bm (by show w1.F.no bm; rw [hC.fr]; exact .inr (.inl rfl))]; exact hb3
    have hi5 : w5.heap[bit]? = some (.mapIter (some bm) clock (seen.push e.born) clock) := by rw [hg5.below.block bit (by show w1.F.no bit; rw [hC.fr]; exact .inr (.inr rfl))]; exact hi3
    have hit5 : a5.tmps.getD it undef = .pointer (some ⟨bit, 0, none⟩) := get_slot hs5 (by rw [St.get_put, if_neg (Ne.symm e6), hidSt_get, if_neg e1, if_pos rfl]; rfl)
    show (Code.region r10 ops10 false).wp P (contK P Q (.code B11 :: .endB b4 :: .endL body :: .endB bid :: k)) a5 w5
    refine wp_region_list ?_
    rw [h10]
    refine op_val hoE.2.2 (w' := w5) (x := .tuple #[e.key, e.val]) ?_ ?_
    · unfold execOp
      simp only [hoE.1]
      rw [show a5.eval (.tmp it) = _ from hit5]
      simp [entry_at (P := P) w5 bm bit seen es clock e hb5 hi5 hes hRE.born]
    rw [hoE.2.1]
    have hs6 := hs5.put (d := t25) (v := .tup [(true, kcs p.1), (false, cvs p.2)]) (x := .tuple #[e.key, e.val]) ⟨#[e.key, e.val], rfl, rfl, fun j q hj => by
      rw [hpx, hpx2] at hj
      rw [hpx2] at hpv
      have q4 : RepC Se we none' (.lit x) e.val := hpv
      match j, hj with
      | 0, hj =>
        cases hj
        exact ⟨e.key, rfl, xs, by rw [hpk, hpx], kcs_rep hone⟩
      | 1, hj =>
        cases hj
        refine ⟨e.val, rfl, ?_⟩
        show RepC S5 w5 m5 (.lit x) e.val
        generalize e.val = y at q4
        cases q4
        exact RepC.lit
      | _ + 2, hj => simp at hj⟩ n5
    have hgood : ∃ st' obl ra, runOps P N T ops10 ra 1 rest10 (rgSt st src it id bm bit t24 t25 p) = some (st', obl) ∧ (∀ q ∈ obl, q) ∧ Good P N S ⟨w3, w1.F⟩ Q (.code B11 :: .endB b4 :: .endL body :: .endB bid :: k) st' := by
      cases hf : fit p.1 with
      | true => exact hyes p hp hf S ⟨w3, w1.F⟩ hC.fr hlink3
      | false =>
        refine hno p hp hf S ⟨w3, w1.F⟩ (good_endL (ih _ ?_ (seen.push e.born) S ⟨w3, w1.F⟩ ⟨hC.fr, hb3, hi3, hlink3, hSm, hSb, fun y hy hc => ?_⟩ rfl))
        · rw [← hn]
          exact left_shrinks es seen e he
        · rw [contains_push] at hc
          rcases Bool.or_eq_true _ _ ▸ hc with h1 | h1
          · exact hC.no y hy h1
          · have hye : y = e := born_inj hRE.born hy hes (beq_iff_eq.1 h1)
            rw [hye, hpk]
            exact hf
    obtain ⟨st', obl, ra, hr, ho, hgd⟩ := hgood
    exact runOps_wp hT ⟨S5, m5, hs6, hg5⟩ hr ho hgd

/-- The whole: the iterator is made, and the loop. -/
theorem good_range (hT : TabOk P T) (hE : Ends Q) {r8 : Nat} {ops8 : Array Oper} {oM oR : Oper} {kk vv : TypeId}
    (hsrc : st.get src = .one (.mp id)) (hl : hget st.heap id = some (.map kt l)) (hj21 : st.get t21 = .one .junk) (hjit : st.get it = .one .junk) (hj23 : st.get t23 = .one .junk) (hj24 : st.get t24 = .one .junk) (hj25 : st.get t25 = .one .junk)
    (hq : ∀ t, t ≠ src → (st.get t).says id = false) (hqh : ∀ id' l, id' ≠ id → hget st.heap id' = some (.box l) → l.any (C.says id) = false) (hpi : id < pinBase)
    (hne : src ≠ it ∧ src ≠ t23 ∧ src ≠ t24 ∧ src ≠ t25 ∧ it ≠ t23 ∧ it ≠ t24 ∧ it ≠ t25 ∧ t23 ≠ t24 ∧ t24 ≠ t25) (hne2 : src ≠ t21 ∧ t21 ≠ it) (hN : src < N ∧ it < N ∧ t23 < N ∧ t24 < N ∧ t25 < N) (hN2 : t21 < N)
    (h8 : ops8.toList = [oM, oR]) (hoM : oM.op = .move (.tmp src) ∧ oM.dst = some t21 ∧ oM.guard = none) (hoR : oR.op = .range ty (.tmp t21) ∧ oR.dst = some it ∧ oR.guard = none) (hut : P.underlying ty = some (.map kk vv))
    (h9 : ops9.toList = [oN, oX]) (hoN : oN.op = .next (.tmp it) false ∧ oN.dst = some t23 ∧ oN.guard = none) (hoX : oX.op = .extract (.tmp t23) 0 ∧ oX.dst = some t24 ∧ oX.guard = none)
    (h10 : ops10.toList = oE :: rest10) (hoE : oE.op = .entry (.tmp it) ∧ oE.dst = some t25 ∧ oE.guard = none)
    (hkey : ∀ p ∈ l, ∃ xs x, p.1 = .agg xs ∧ (∀ y ∈ xs.toList, y.oneCell' = true) ∧ p.2 = .one (.lit x))
    (body : Code) (hbody : body = .seq (.region r9 ops9 false) (.seq (.cond (.tmp t24) .skip (.exit bid)) (.block b4 (.seq (.region r10 ops10 false) B11))))
    (hcont : (∀ p ∈ l, fit p.1 = false) → Good P N S0 w0 Q k st)
    (hyes : ∀ p ∈ l, fit p.1 = true → ∀ bm bit S1 w1, w1.F = hid w0.F bm bit → Goes w0.F.no S0 S1 w0.w w1.w → ∃ st' obl ra, runOps P N T ops10 ra 1 rest10 (rgSt st src it id bm bit t24 t25 p) = some (st', obl) ∧ (∀ q ∈ obl, q) ∧ Good P N S1 w1 Q (.code B11 :: .endB b4 :: .endL body :: .endB bid :: k) st')
    (hno : ∀ p ∈ l, fit p.1 = false → ∀ bm bit S1 w1, Good P N S1 w1 Q (.endL body :: .endB bid :: k) (hidSt st src it id bm bit) → ∃ st' obl ra, runOps P N T ops10 ra 1 rest10 (rgSt st src it id bm bit t24 t25 p) = some (st', obl) ∧ (∀ q ∈ obl, q) ∧ Good P N S1 w1 Q (.code B11 :: .endB b4 :: .endL body :: .endB bid :: k) st') :
    Good P N S0 w0 Q (.code (.seq (.region r8 ops8 false) (.block bid (.loop body))) :: k) st := by
  refine good_seq fun a w hsh => ?_
  obtain ⟨S, m, hs, hg⟩ := hsh
  obtain ⟨bm, es, clock, hm, hb, hRE, hD⟩ := hs.mapBlock hl
  have hv : a.tmps.getD src undef = .map (some bm) := by
    have h1 := hs.env src
    rw [hsrc] at h1
    have h2 : RepC S w m (.mp id) (a.tmps.getD src undef) := h1
    generalize a.tmps.getD src undef = y at h2
    cases h2 with
    | mp hq =>
      rw [hm] at hq
      exact hq.symm
  obtain ⟨o1, o2, o3⟩ := hs.own id _ hl bm (by rw [hm]; rfl)
  show (Code.region r8 ops8 false).wp P (contK P Q (.code (.block bid (.loop body)) :: k)) a w
  refine wp_region_list ?_
  rw [h8]
  refine op_val hoM.2.2 (w' := w) (x := .map (some bm)) ?_ ?_
  · unfold execOp
    simp only [hoM.1]
    rw [show a.eval (.tmp src) = _ from hv]
    simp
  rw [hoM.2.1]
  refine op_val hoR.2.2 (w' := w.alloc (.mapIter (some bm) clock #[] clock)) (x := .pointer (some ⟨w.heap.size, 0, none⟩)) ?_ ?_
  · unfold execOp
    simp only [hoR.1]
    rw [show (a.put (some t21) (.map (some bm))).eval (.tmp t21) = _ from putd (by rw [hs.size]; exact hN2)]
    simp [run_range_map w ty kk vv bm es clock hut hb]
  rw [hoR.2.1]
  have hs1 := (hs.junked hj21 hN2 (.map (some bm))).junked hjit hN.2.1 (.pointer (some ⟨w.heap.size, 0, none⟩))
  have hs2 : Sim N w0.F S m st _ (w.alloc (.mapIter (some bm) clock #[] clock)) := hs1.grow (S' := S) (by simp) (fun k hk => Below.heap_alloc w _ k hk) (fun _ h => h) fun _ h => .inl h
  have hsrc2 : ((a.put (some t21) (.map (some bm))).put (some it) (.pointer (some ⟨w.heap.size, 0, none⟩))).tmps.getD src undef = .map (some bm) := by
    have h1 := hs2.env src
    rw [hsrc] at h1
    have h2 : RepC S (w.alloc (.mapIter (some bm) clock #[] clock)) m (.mp id) (((a.put (some t21) (.map (some bm))).put (some it) (.pointer (some ⟨w.heap.size, 0, none⟩))).tmps.getD src undef) := h1
    generalize ((a.put (some t21) (.map (some bm))).put (some it) (.pointer (some ⟨w.heap.size, 0, none⟩))).tmps.getD src undef = y at h2
    cases h2 with
    | mp hq =>
      rw [hm] at hq
      exact hq.symm
  have hit2 : ((a.put (some t21) (.map (some bm))).put (some it) (.pointer (some ⟨w.heap.size, 0, none⟩))).tmps.getD it undef = .pointer (some ⟨w.heap.size, 0, none⟩) := putd (by have := hs.size; simp [Act.put]; omega)
  have hs3 := hs2.hide (src := src) (it := it) (bit := w.heap.size) hl hm hsrc2 hit2 hN.1 hN.2.1 (by simp) fun i b hi hk => by
    have := (hs.own i b hi _ hk).2.2
    omega
  have hg3 : Goes w0.F.no S0 S w0.w (w.alloc (.mapIter (some bm) clock #[] clock)) := hg.alloc hs.base_le _
  refine good_block (S0 := S) (w0 := ⟨w.alloc (.mapIter (some bm) clock #[] clock), hid w0.F bm w.heap.size⟩) (good_rounds (l := l) hT hE hsrc hl hjit hj23 hj24 hj25 hq hqh hpi hne hN h9 hoN hoX h10 hoE hkey hRE hD o2 (fun h => Nat.lt_irrefl _ (hs.base_le _ h)) (fun h => Nat.lt_irrefl _ (hs.base_le _ (hs.len.2 _ (hs.len.1 ▸ h)))) (fun b hb' => hs.len.2 b (hs.len.1 ▸ hb')) body hbody hcont
    (fun p hp hf => hyes p hp hf bm w.heap.size) (fun p hp hf => hno p hp hf bm w.heap.size) _ #[] S ⟨w.alloc (.mapIter (some bm) clock #[] clock), hid w0.F bm w.heap.size⟩
    ⟨rfl, by rw [heap_alloc_old w _ o3]; exact hb, heap_alloc_new _ _, hg3, o1, fun h => Nat.lt_irrefl _ (hs.dom _ h), fun x hx h => by simp at h⟩ rfl) _ _ ⟨S, m, hs3, Goes.refl _ _ _⟩
end

/-! ### From a later beginning to an earlier one -/
theorem contK_mono {P : Program} {Q Q' : Exit → Act → World → Prop} (hq : ∀ e a w, Q e a w → Q' e a w) : ∀ (k : List It) (e : Exit) (a : Act) (w : World), contK P Q k e a w → contK P Q' k e a w
  | [], e, a, w, h => hq e a w h
  | .code c :: k, e, a, w, h => by
    cases e with
    | normal => exact wp_mono (show c.wp P (contK P Q k) a w from h) (contK_mono hq k)
    | exit i => exact contK_mono hq k _ a w h
    | goto i => exact contK_mono hq k _ a w h
    | ret => exact contK_mono hq k _ a w h
    | panic i => exact contK_mono hq k _ a w h
    | outgrown => exact contK_mono hq k _ a w h
  | .endB id :: k, e, a, w, h => by
    cases e with
    | exit i =>
      simp only [contK] at h ⊢
      split at h
      · rename_i hi; rw [if_pos hi]; exact contK_mono hq k _ a w h
      · rename_i hi; rw [if_neg hi]; exact contK_mono hq k _ a w h
    | normal => exact contK_mono hq k _ a w h
    | goto i => exact contK_mono hq k _ a w h
    | ret => exact contK_mono hq k _ a w h
    | panic i => exact contK_mono hq k _ a w h
    | outgrown => exact contK_mono hq k _ a w h
  | .endL b :: k, e, a, w, h => by
    cases e with
    | normal => exact wp_mono (show (Code.loop b).wp P (contK P Q k) a w from h) (contK_mono hq k)
    | exit i => exact contK_mono hq k _ a w h
    | goto i => exact contK_mono hq k _ a w h
    | ret => exact contK_mono hq k _ a w h
    | panic i => exact contK_mono hq k _ a w h
    | outgrown => exact contK_mono hq k _ a w h

theorem Post.back {S0 S1 : Nat → Prop} {w0 w1 : Start} {bm bit : Nat} (hF : w1.F = hid w0.F bm bit) (hg : Goes w0.F.no S0 S1 w0.w w1.w) {v : V} {e : Ending} {w : World} (h : Post S1 w1 v e w) : Post S0 w0 v e w := by
  obtain ⟨x, S', h1, h2, h3, h4⟩ := h
  rw [hF] at h2
  exact ⟨x, S', h1, ⟨hg.below.trans (h2.below.mono fun k hk => .inl hk), fun b hb => h2.sub b (hg.sub b hb), fun b hb => (h2.sup b hb).elim (hg.sup b) fun h => .inr fun hF => h (.inl hF)⟩, h3, h4⟩

theorem qS_back {R : Type} {P : Program} {fn : Func} {S0 S1 : Nat → Prop} {w0 w1 : Start} {bm bit : Nat} (hF : w1.F = hid w0.F bm bit) (hg : Goes w0.F.no S0 S1 w0.w w1.w) {vr : R → V} {r : R} (e : Exit) (a : Act) (w : World) (h : qS P fn ⟨S1, w1⟩ vr r e a w) : qS P fn ⟨S0, w0⟩ vr r e a w := by
  cases e with
  | normal => obtain ⟨q1, v, q2, q3⟩ := h; exact ⟨q1, v, q2, q3.back hF hg⟩
  | ret => obtain ⟨q1, v, q2, q3⟩ := h; exact ⟨q1, v, q2, q3.back hF hg⟩
  | panic c => obtain ⟨q1, q3⟩ := h; exact ⟨q1, q3.back hF hg⟩
  | outgrown => exact Post.back hF hg h
  | exit i => exact h
  | goto i => exact h

def sayFree (src id : Nat) : List (Nat × V) → Bool
  | [] => true
  | (k, v) :: r => (Nat.beq k src || !(v.says id)) && sayFree src id r
theorem look_free {src id t : Nat} (ht : t ≠ src) : ∀ {l : List (Nat × V)}, sayFree src id l = true → (look (.one .junk) l t).says id = false
  | [], _ => rfl
  | (k, v) :: r, h => by
    simp only [sayFree, Bool.and_eq_true, Bool.or_eq_true] at h
    rw [look_cons]
    split
    · rename_i e
      rcases h.1 with h1 | h1
      · exact absurd (e.symm.trans (Nat.eq_of_beq_eq_true h1)) ht
      · simpa using h1
    · exact look_free ht h.2
def sayFreeH (id : Nat) : List (Nat × B) → Bool
  | [] => true
  | (k, .box l) :: r => (Nat.beq k id || !(l.any (C.says id))) && sayFreeH id r
  | _ :: r => sayFreeH id r
theorem hget_free {id i : Nat} (hi : i ≠ id) : ∀ {h : List (Nat × B)} {l : List C}, sayFreeH id h = true → hget h i = some (.box l) → l.any (C.says id) = false
  | [], l, _, hl => by cases hl
  | (k, b) :: r, l, h, hl => by
    rw [hget_cons] at hl
    cases b with
    | box l' =>
      simp only [sayFreeH, Bool.and_eq_true, Bool.or_eq_true] at h
      split at hl
      · rename_i e
        cases hl
        rcases h.1 with h1 | h1
        · exact absurd (e.symm.trans (Nat.eq_of_beq_eq_true h1)) hi
        · simpa using h1
      · exact hget_free hi h.2 hl
    | rows e sz len c =>
      split at hl
      · cases hl
      · exact hget_free hi (show sayFreeH id r = true from h) hl
    | map kt l' =>
      split at hl
      · cases hl
      · exact hget_free hi (show sayFreeH id r = true from h) hl

/-! ### A map of which nobody need know that nothing was deleted -/
def looseH (id : Nat) : List (Nat × B) → List (Nat × B)
  | [] => []
  | (k, .map kt l) :: r => match Nat.beq k id with
    | true => (k, .map (loose kt) l) :: r
    | false => (k, .map kt l) :: looseH id r
  | p :: r => p :: looseH id r

theorem hget_looseH {id i : Nat} {b : B} : ∀ {h : List (Nat × B)}, hget (looseH id h) i = some b → hget h i = some b ∨ ∃ kt l, b = .map (loose kt) l ∧ hget h i = some (.map kt l)
  | [], h => by cases h
  | (k, c) :: r, h => by
    cases c with
    | map kt l =>
      simp only [looseH] at h
      split at h
      · rw [hget_cons] at h ⊢
        split at h
        · rename_i e
          rw [if_pos e]
          cases h
          exact .inr ⟨kt, l, rfl, rfl⟩
        · rename_i e
          rw [if_neg e]
          exact .inl h
      · rw [hget_cons] at h ⊢
        split at h
        · rename_i e
          rw [if_pos e]
          exact .inl h
        · rename_i e
          rw [if_neg e]
          exact hget_looseH h
    | box l =>
      simp only [looseH] at h
      rw [hget_cons] at h ⊢
      split at h
      · rename_i e; rw [if_pos e]; exact .inl h
      · rename_i e; rw [if_neg e]; exact hget_looseH h
    | rows e sz len c =>
      simp only [looseH] at h
      rw [hget_cons] at h ⊢
      split at h
      · rename_i e; rw [if_pos e]; exact .inl h
      · rename_i e; rw [if_neg e]; exact hget_looseH h

theorem Sim.loosed {N : Nat} {F : Keep} {S : Nat → Prop} {m : Mp} {st : St} {a : Act} {w : World} (h : Sim N F S m st a w) (id : Nat) : Sim N F S m ⟨st.env, looseH id st.heap⟩ a w := by
  have hh : ∀ {i b}, hget (looseH id st.heap) i = some b → ∃ b0, hget st.heap i = some b0 := fun hb => by
    rcases hget_looseH hb with h1 | ⟨kt, l, _, h1⟩
    · exact ⟨_, h1⟩
    · exact ⟨_, h1⟩
  refine ⟨h.size, h.env, h.far, fun i b hb => ?_, fun i b hb k hk => ?_, fun i j b b' hne h1 h2 => ?_, h.dom, h.defers, h.base_le, h.pin, h.len⟩
  · rcases hget_looseH hb with h1 | ⟨kt, l, rfl, h1⟩
    · exact h.heap i b h1
    · obtain ⟨b, es, clock, q1, q2, q3, _⟩ := h.heap i _ h1
      exact ⟨b, es, clock, q1, q2, q3, dense_del _ _ _⟩
  · obtain ⟨b0, hb0⟩ := hh hb
    exact h.own i b0 hb0 k hk
  · obtain ⟨b0, hb0⟩ := hh h1
    obtain ⟨b1, hb1⟩ := hh h2
    exact h.inj i j b0 b1 hne hb0 hb1

theorem kF {P : Program} {N : Nat} {z : Zw} {R : Type} {Q : R → Exit → Act → World → Prop} {items : List It} {st : St} {o : Option R} (id : Nat) (h : Chk P N z Q items ⟨st.env, looseH id st.heap⟩ [] o) : Chk P N z Q items st [] o := fun ha r hr a w hs => by
  obtain ⟨S, m, hs1, hg⟩ := hs
  exact h ha r hr a w ⟨S, m, hs1.loosed id, hg⟩
end Go.Proofs.Ytgedafbejcpioaa
