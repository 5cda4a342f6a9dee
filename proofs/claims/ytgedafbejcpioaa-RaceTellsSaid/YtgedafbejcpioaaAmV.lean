/-
  AN EVALUATOR OF WALKS, over whatever program: calls that write blocks that the caller lends, or that give blocks of their own.
-/
import Derived.Test.YtgedafbejcpioaaAmL
namespace Go.Proofs.Ytgedafbejcpioaa
open Go.RowKit
set_option linter.unusedSimpArgs false
set_option linter.unusedVariables false

/-- Blocks that nobody else has, told by a list; m says which they are. -/
structure HeapRep (no S : Nat → Prop) (m : Mp) (h : List (Nat × B)) (w : World) : Prop where
  rep : ∀ id b, hget h id = some b → RepB S w m (m id) b
  own : ∀ id b, hget h id = some b → ∀ k, blk (m id) = some k → ¬ S k ∧ ¬ no k ∧ k < w.heap.size
  inj : ∀ id id' b b', id ≠ id' → hget h id = some b → hget h id' = some b' → ∀ k, blk (m id) = some k → blk (m id') ≠ some k
  lno : ∀ b, m.L b → no b

/-- The caller's numbers, and what is lent to be looked at, stay. -/
structure Pins (m' m : Mp) : Prop where
  pin : ∀ id, pinBase ≤ id → m' id = m id
  L : m'.L = m.L

def RepAm (S : Nat → Prop) (w : World) (m : Mp) (args : List V) (vs : List Value) : Prop :=
  vs.length = args.length ∧ ∀ (j : Nat) (v : V), args[j]? = some v → ∃ x, vs[j]? = some x ∧ RepV S w m v x

/-- THE CONTRACT OF A FUNCTION that is lent blocks (h0), and that leaves those of h1: theirs are the numbers from pinBase on. -/
def HCall (P : Program) (f : FuncId) (h0 : List (Nat × B)) (args : List V) (h1 : List (Nat × B)) (res : V) : Prop :=
  FnOk P f ∧ ∀ (no S : Nat → Prop) (m : Mp) (w : World) (vs : List Value), (∀ b, S b → b < w.heap.size) → (∀ k, no k → k < w.heap.size) → HeapRep no S m h0 w → RepAm S w m args vs →
    Calls P f vs.toArray w fun e w' => ∃ x S' m', e = .returned x ∧ Goes no S S' w w' ∧ (∀ b, S' b → b < w'.heap.size) ∧ HeapRep no S' m' h1 w' ∧ RepV S' w' m' res x ∧ Pins m' m

/-! ### Other numbers -/
def nlook : List (Nat × Nat) → Nat → Option Nat
  | [], _ => none
  | (k, v) :: r, t => match Nat.beq k t with
    | true => some v
    | false => nlook r t

theorem nlook_mem : ∀ {l : List (Nat × Nat)} {t v : Nat}, nlook l t = some v → (t, v) ∈ l
  | (k, v') :: r, t, v, h => by
    simp only [nlook] at h
    split at h
    · rename_i hb
      cases h
      rw [eq_of_beq' hb]
      exact List.mem_cons_self
    · exact List.mem_cons_of_mem _ (nlook_mem h)

def bwd (l : List (Nat × Nat)) (t : Nat) : Option Nat := nlook (l.map fun p => (p.2, p.1)) t

theorem bwd_mem {l : List (Nat × Nat)} {t v : Nat} (h : bwd l t = some v) : (v, t) ∈ l := by
  have := nlook_mem h
  simp only [List.mem_map] at this
  obtain ⟨p, h1, h2⟩ := this
  cases h2
  exact h1

def isO : Option Nat → Nat → Bool
  | some a, b => Nat.beq a b
  | none, _ => false
theorem isO_eq : ∀ {o : Option Nat} {b : Nat}, isO o b = true → o = some b
  | some a, b, h => by rw [eq_of_beq' h]

/-- Each number stands for one. -/
def biB (l : List (Nat × Nat)) : Bool := l.all fun p => isO (nlook l p.1) p.2 && isO (bwd l p.2) p.1
theorem biB_mem {l : List (Nat × Nat)} (h : biB l = true) {a b : Nat} (hm : (a, b) ∈ l) : nlook l a = some b ∧ bwd l b = some a := by
  have := List.all_eq_true.1 h _ hm
  simp only [Bool.and_eq_true] at this
  exact ⟨isO_eq this.1, isO_eq this.2⟩
theorem biB_nlook {l : List (Nat × Nat)} (h : biB l = true) {a b : Nat} : nlook l a = some b ↔ bwd l b = some a :=
  ⟨fun h1 => (biB_mem h (nlook_mem h1)).2, fun h1 => (biB_mem h (bwd_mem h1)).1⟩

def renC0 (g : Nat → Option Nat) : C → Option C
  | .osl k n => match g k with
    | some k' => some (.osl k' n)
    | none => none
  | .ptr k off => match g k with
    | some k' => some (.ptr k' off)
    | none => none
  | .eptr k sz i off => match g k with
    | some k' => some (.eptr k' sz i off)
    | none => none
  | .mp k => match g k with
    | some k' => some (.mp k')
    | none => none
  | .ifc t (.ptr k off) => match g k with
    | some k' => some (.ifc t (.ptr k' off))
    | none => none
  | .lsl sz n c => some (.lsl sz n c)
  | .lrp n c => some (.lrp n c)
  | c => match c.pure with
    | true => some c
    | false => none

/-- The values of the numbers, told by others. -/
structure Rn (g : Nat → Option Nat) (m m' : Mp) : Prop where
  at_ : ∀ k k', g k = some k' → m' k' = m k
  L : ∀ b, m.L b → m'.L b

theorem renC0_rep {g : Nat → Option Nat} {S : Nat → Prop} {w : World} {m m' : Mp} (hg : Rn g m m') {c c' : C} {x : Value} (h : RepC S w m c x) (hr : renC0 g c = some c') : RepC S w m' c' x := by
  unfold renC0 at hr
  split at hr
  · split at hr
    · rename_i h1; cases hr
      cases h with
      | osl hm h0 hle => exact .osl (by rw [hg.at_ _ _ h1]; exact hm) h0 hle
    · cases hr
  · split at hr
    · rename_i h1; cases hr
      cases h with
      | ptr hm => exact .ptr (by rw [hg.at_ _ _ h1]; exact hm)
    · cases hr
  · split at hr
    · rename_i h1; cases hr
      cases h with
      | eptr hm => exact .eptr (by rw [hg.at_ _ _ h1]; exact hm)
    · cases hr
  · split at hr
    · rename_i h1; cases hr
      cases h with
      | mp hm => exact .mp (by rw [hg.at_ _ _ h1]; exact hm)
    · cases hr
  · split at hr
    · rename_i h1; cases hr
      cases h with
      | ifc hm =>
        cases hm with
        | ptr hm => exact .ifc (.ptr (by rw [hg.at_ _ _ h1]; exact hm))
    · cases hr
  · cases hr
    cases h with
    | lsl b off vals hcap ha hc h1 hr => exact .lsl b off vals hcap (fun hl => ⟨(ha hl).1, hg.L _ (ha hl).2⟩) hc h1 hr
  · cases hr
    cases h with
    | lrp b off vals ha hc h1 hr => exact .lrp b off vals (hg.L _ ha) hc h1 hr
  · split at hr
    · rename_i hp; cases hr
      exact h.anyM m' hp
    · cases hr

def renCs0 (g : Nat → Option Nat) : List C → Option (List C)
  | [] => some []
  | c :: l => match renC0 g c, renCs0 g l with
    | some c', some l' => some (c' :: l')
    | _, _ => none

theorem renCs0_spec {g : Nat → Option Nat} : ∀ {l l' : List C}, renCs0 g l = some l' → l'.length = l.length ∧ ∀ (j : Nat) c', l'[j]? = some c' → ∃ c, l[j]? = some c ∧ renC0 g c = some c'
  | [], l', h => by cases h; exact ⟨rfl, fun j c' hc => by simp at hc⟩
  | c :: l, l', h => by
    simp only [renCs0] at h
    split at h
    · rename_i c1 l1 h1 h2
      cases h
      obtain ⟨h3, h4⟩ := renCs0_spec h2
      refine ⟨by simp [h3], fun j c' hc => ?_⟩
      cases j with
      | zero => simp at hc; exact ⟨c, rfl, hc ▸ h1⟩
      | succ j => simpa using h4 j c' (by simpa using hc)
    · cases h

def renC (g : Nat → Option Nat) : C → Option C
  | .clo fn na nb a b => match (C.clo fn na nb a b).pure with
    | true => some (.clo fn na nb a b)
    | false => match renCs0 g (cellsOf na a), renCs0 g (cellsOf nb b) with
      | some xs, some ys => some (.clo fn na nb (fun i => xs.getD i .junk) fun i => ys.getD i .junk)
      | _, _ => none
  | c => renC0 g c

theorem renC_rep {g : Nat → Option Nat} {S : Nat → Prop} {w : World} {m m' : Mp} (hg : Rn g m m') {c c' : C} {x : Value} (h : RepC S w m c x) (hr : renC g c = some c') : RepC S w m' c' x := by
  unfold renC at hr
  split at hr
  · rename_i fn na nb a b
    split at hr
    · rename_i hp; cases hr; exact h.anyM m' hp
    · split at hr
      · rename_i xs ys h1 h2
        cases hr
        obtain ⟨e1, e2⟩ := renCs0_spec h1
        obtain ⟨e3, e4⟩ := renCs0_spec h2
        cases h with
        | clo vs us ha hb =>
          refine .clo vs us (fun i hi => ?_) fun i hi => ?_
          · have hl : i < xs.length := by rw [e1]; simpa [cellsOf] using hi
            obtain ⟨c, f1, f2⟩ := e2 i (xs.getD i .junk) (by simp [List.getD_eq_getElem?_getD, hl])
            obtain ⟨_, rfl⟩ := cellsOf_get f1
            exact renC0_rep hg (ha i hi) f2
          · have hl : i < ys.length := by rw [e3]; simpa [cellsOf] using hi
            obtain ⟨c, f1, f2⟩ := e4 i (ys.getD i .junk) (by simp [List.getD_eq_getElem?_getD, hl])
            obtain ⟨_, rfl⟩ := cellsOf_get f1
            exact renC0_rep hg (hb i hi) f2
      · cases hr
  · exact renC0_rep hg h hr

def renCs (g : Nat → Option Nat) : List C → Option (List C)
  | [] => some []
  | c :: l => match renC g c, renCs g l with
    | some c', some l' => some (c' :: l')
    | _, _ => none

theorem renCs_spec {g : Nat → Option Nat} : ∀ {l l' : List C}, renCs g l = some l' → l'.length = l.length ∧ ∀ (j : Nat) c', l'[j]? = some c' → ∃ c, l[j]? = some c ∧ renC g c = some c'
  | [], l', h => by cases h; exact ⟨rfl, fun j c' hc => by simp at hc⟩
  | c :: l, l', h => by
    simp only [renCs] at h
    split at h
    · rename_i c1 l1 h1 h2
      cases h
      obtain ⟨h3, h4⟩ := renCs_spec h2
      refine ⟨by simp [h3], fun j c' hc => ?_⟩
      cases j with
      | zero => simp at hc; exact ⟨c, rfl, hc ▸ h1⟩
      | succ j => simpa using h4 j c' (by simpa using hc)
    · cases h

theorem renCs_rep {g : Nat → Option Nat} {S : Nat → Prop} {w : World} {m m' : Mp} (hg : Rn g m m') {l l' : List C} {xs : List Value} (h : RepL S w m l xs) (hr : renCs g l = some l') : RepL S w m' l' xs := by
  obtain ⟨h1, h2⟩ := renCs_spec hr
  refine ⟨by rw [h1]; exact h.1, fun j c' hc => ?_, h.2.2⟩
  obtain ⟨c, h3, h4⟩ := h2 j c' hc
  obtain ⟨x, h5, h6⟩ := h.2.1 j c h3
  exact ⟨x, h5, renC_rep hg h6 h4⟩

def renP (g : Nat → Option Nat) : List (Bool × List C) → Option (List (Bool × List C))
  | [] => some []
  | (b, c) :: l => match renCs g c, renP g l with
    | some c', some l' => some ((b, c') :: l')
    | _, _ => none

theorem renP_spec {g : Nat → Option Nat} : ∀ {l l' : List (Bool × List C)}, renP g l = some l' → l'.length = l.length ∧ ∀ (j : Nat) (p' : Bool × List C), l'[j]? = some p' → ∃ p : Bool × List C, l[j]? = some p ∧ p'.1 = p.1 ∧ renCs g p.2 = some p'.2
  | [], l', h => by cases h; exact ⟨rfl, fun j c' hc => by simp at hc⟩
  | (b, c) :: l, l', h => by
    simp only [renP] at h
    split at h
    · rename_i c1 l1 h1 h2
      cases h
      obtain ⟨h3, h4⟩ := renP_spec h2
      refine ⟨by simp [h3], fun j c' hc => ?_⟩
      cases j with
      | zero => simp at hc; subst hc; exact ⟨_, rfl, rfl, h1⟩
      | succ j => simpa using h4 j c' (by simpa using hc)
    · cases h

def renV (g : Nat → Option Nat) : V → Option V
  | .one c => (renC g c).map .one
  | .agg l => (renCs g l).map .agg
  | .tup l => (renP g l).map .tup

theorem renV_rep {g : Nat → Option Nat} {S : Nat → Prop} {w : World} {m m' : Mp} (hg : Rn g m m') {v v' : V} {x : Value} (h : RepV S w m v x) (hr : renV g v = some v') : RepV S w m' v' x := by
  cases v with
  | one c =>
    simp only [renV, Option.map_eq_some_iff] at hr
    obtain ⟨c', h1, rfl⟩ := hr
    exact renC_rep hg h h1
  | agg l =>
    simp only [renV, Option.map_eq_some_iff] at hr
    obtain ⟨c', h1, rfl⟩ := hr
    obtain ⟨xs, h2, h3⟩ := h
    exact ⟨xs, h2, renCs_rep hg h3 h1⟩
  | tup l =>
    simp only [renV, Option.map_eq_some_iff] at hr
    obtain ⟨l', h1, rfl⟩ := hr
    obtain ⟨xs, h2, h3, h4⟩ := h
    obtain ⟨h5, h6⟩ := renP_spec h1
    refine ⟨xs, h2, by omega, fun j p' hp => ?_⟩
    obtain ⟨p, h7, h8, h9⟩ := h6 j p' hp
    obtain ⟨y, h10, h11⟩ := h4 j p h7
    refine ⟨y, h10, ?_⟩
    obtain ⟨b, cs⟩ := p
    obtain ⟨b', cs'⟩ := p'
    simp only at h8 h9
    subst h8
    cases b' with
    | true => obtain ⟨ys, h12, h13⟩ := h11; exact ⟨ys, h12, renCs_rep hg h13 h9⟩
    | false =>
      match cs, cs', h9, h11 with
      | [c], cs', h9, h11 =>
        simp only [renCs] at h9
        split at h9
        · rename_i c1 l1 e1 e2
          cases e2
          cases h9
          exact renC_rep hg h11 e1
        · cases h9
      | [], cs', h9, h11 => simp only [renCs] at h9; cases h9; trivial
      | a :: b :: r, cs', h9, h11 =>
        have := (renCs_spec h9).1
        match cs', this with
        | x :: y :: z, _ => trivial

def renVs (g : Nat → Option Nat) : List V → Option (List V)
  | [] => some []
  | v :: l => match renV g v, renVs g l with
    | some v', some l' => some (v' :: l')
    | _, _ => none

theorem renVs_spec {g : Nat → Option Nat} : ∀ {l l' : List V}, renVs g l = some l' → l'.length = l.length ∧ ∀ (j : Nat) c', l'[j]? = some c' → ∃ c, l[j]? = some c ∧ renV g c = some c'
  | [], l', h => by cases h; exact ⟨rfl, fun j c' hc => by simp at hc⟩
  | c :: l, l', h => by
    simp only [renVs] at h
    split at h
    · rename_i c1 l1 h1 h2
      cases h
      obtain ⟨h3, h4⟩ := renVs_spec h2
      refine ⟨by simp [h3], fun j c' hc => ?_⟩
      cases j with
      | zero => simp at hc; exact ⟨c, rfl, hc ▸ h1⟩
      | succ j => simpa using h4 j c' (by simpa using hc)
    · cases h

def renB (g : Nat → Option Nat) : B → Option B
  | .box l => (renCs g l).map .box
  | .rows e sz len c => some (.rows e sz len c)
  | .map kt l => some (.map kt l)
  | .hole _ _ _ _ _ => none

theorem renB_rep {g : Nat → Option Nat} {S : Nat → Prop} {w : World} {m m' : Mp} (hg : Rn g m m') {b b' : B} {x : Value} (h : RepB S w m x b) (hr : renB g b = some b') : RepB S w m' x b' := by
  cases b with
  | box l =>
    simp only [renB, Option.map_eq_some_iff] at hr
    obtain ⟨l', h1, rfl⟩ := hr
    obtain ⟨b, arr, t, h2, h3, h4⟩ := h
    exact ⟨b, arr, t, h2, h3, renCs_rep hg h4 h1⟩
  | rows e sz len c => cases hr; exact h
  | map kt l => cases hr; exact h
  | hole _ _ _ _ _ => cases hr

/-- Each block under its other number. -/
def renHp (g : Nat → Option Nat) : List (Nat × B) → Option (List (Nat × B))
  | [] => some []
  | (j, b) :: l => match g j, renB g b, renHp g l with
    | some i, some b', some l' => some ((i, b') :: l')
    | _, _, _ => none

theorem renHp_get {g : Nat → Option Nat} : ∀ {l l' : List (Nat × B)}, renHp g l = some l' → ∀ i b', hget l' i = some b' → ∃ j b, g j = some i ∧ hget l j = some b ∧ renB g b = some b'
  | [], l', h => by cases h; exact fun i b' hb => by cases hb
  | (j, b) :: l, l', h => by
    simp only [renHp] at h
    split at h
    · rename_i i0 b0 l0 h1 h2 h3
      cases h
      intro i b' hb
      rw [hget_cons] at hb
      split at hb
      · rename_i e
        cases hb
        exact ⟨j, b, e ▸ h1, by rw [hget_cons, if_pos rfl], h2⟩
      · rename_i e
        obtain ⟨j2, b2, h4, h5, h6⟩ := renHp_get h3 i b' hb
        refine ⟨j2, b2, h4, ?_, h6⟩
        rw [hget_cons, if_neg ?_]
        · exact h5
        · rintro rfl
          rw [h1] at h4
          exact e (Option.some.inj h4)
    · cases h

/-- The blocks that are lent, under the contract's numbers. -/
def hIn (g : Nat → Option Nat) (h : List (Nat × B)) : List (Nat × Nat) → Option (List (Nat × B))
  | [] => some []
  | (c, i) :: l => match hget h i with
    | some b => match renB g b, hIn g h l with
      | some b', some l' => some ((c, b') :: l')
      | _, _ => none
    | none => none

theorem hIn_get {g : Nat → Option Nat} {h : List (Nat × B)} : ∀ {l : List (Nat × Nat)} {r : List (Nat × B)}, hIn g h l = some r → (∀ c b', hget r c = some b' → ∃ i b, (c, i) ∈ l ∧ hget h i = some b ∧ renB g b = some b') ∧ ∀ c i, (c, i) ∈ l → ∃ b, hget h i = some b
  | [], r, e => by cases e; exact ⟨fun c b' hb => (by cases hb), fun c i hm => by cases hm⟩
  | (c0, i0) :: l, r, e => by
    simp only [hIn] at e
    split at e
    · rename_i b hb
      split at e
      · rename_i b0 l0 h1 h2
        cases e
        obtain ⟨h3, h4⟩ := hIn_get h2
        refine ⟨fun c b' hb' => ?_, fun c i hm => ?_⟩
        · rw [hget_cons] at hb'
          split at hb'
          · rename_i e
            cases hb'
            subst e
            exact ⟨i0, b, List.mem_cons_self, hb, h1⟩
          · obtain ⟨i, b2, h5, h6, h7⟩ := h3 c b' hb'
            exact ⟨i, b2, List.mem_cons_of_mem _ h5, h6, h7⟩
        · rcases List.mem_cons.1 hm with hm | hm
          · cases hm; exact ⟨b, hb⟩
          · exact h4 c i hm
      · cases e
    · cases e

def delAll (h : List (Nat × B)) : List (Nat × Nat) → List (Nat × B)
  | [] => h
  | (_, i) :: l => hdel (delAll h l) i

theorem hget_delAll (h : List (Nat × B)) : ∀ (l : List (Nat × Nat)) (t : Nat) (b : B), hget (delAll h l) t = some b → hget h t = some b ∧ ∀ c, (c, t) ∉ l
  | [], t, b, e => ⟨e, fun c hm => by cases hm⟩
  | (c0, i) :: l, t, b, e => by
    simp only [delAll, hget_hdel] at e
    split at e
    · cases e
    · rename_i hne
      obtain ⟨h1, h2⟩ := hget_delAll h l t b e
      refine ⟨h1, fun c hm => ?_⟩
      rcases List.mem_cons.1 hm with hm | hm
      · cases hm; exact hne rfl
      · exact h2 c hm

def insAll : List (Nat × B) → List (Nat × B) → List (Nat × B)
  | [], h => h
  | (d, b) :: r, h => hins (insAll r h) d b

theorem hget_insAll (k : List (Nat × B)) (t : Nat) (b : B) : ∀ (h : List (Nat × B)), hget (insAll h k) t = some b → hget h t = some b ∨ hget k t = some b
  | [], e => .inr e
  | (d, c) :: r, e => by
    simp only [insAll, hget_hins] at e
    rw [hget_cons]
    split at e
    · rename_i h1; rw [if_pos h1]; exact .inl e
    · rename_i h1; rw [if_neg h1]; exact hget_insAll k t b r e

/-- Some numbers are new. -/
theorem RepV.others {S : Nat → Prop} {w : World} {v : V} {x : Value} : ∀ {l : List Nat} {m m' : Mp}, RepV S w m v x → (∀ i ∈ l, v.says i = false) → (∀ k, k ∉ l → m' k = m k) → m'.L = m.L → RepV S w m' v x
  | [], m, m', h, _, hm, hL => by
    have : m' = m := Mp.ext' (fun k => hm k (by simp)) hL
    rw [this]; exact h
  | i :: l, m, m', h, hs, hm, hL =>
    RepV.others (m := upd m i (m' i)) (h.other _ i (upd_other m i _) rfl (hs i List.mem_cons_self)) (fun k hk => hs k (List.mem_cons_of_mem _ hk)) (fun k hk => by
      by_cases e : k = i
      · rw [e, upd_same]
      · rw [upd_other _ _ _ _ e]; exact hm k (by simp [e, hk])) hL

theorem RepB.others {S : Nat → Prop} {w : World} {v : B} {x : Value} : ∀ {l : List Nat} {m m' : Mp}, RepB S w m x v → (∀ i ∈ l, v.says i = false) → (∀ k, k ∉ l → m' k = m k) → m'.L = m.L → RepB S w m' x v
  | [], m, m', h, _, hm, hL => by
    have : m' = m := Mp.ext' (fun k => hm k (by simp)) hL
    rw [this]; exact h
  | i :: l, m, m', h, hs, hm, hL =>
    RepB.others (m := upd m i (m' i)) (h.other (upd_other m i _) rfl (hs i List.mem_cons_self)) (fun k hk => hs k (List.mem_cons_of_mem _ hk)) (fun k hk => by
      by_cases e : k = i
      · rw [e, upd_same]
      · rw [upd_other _ _ _ _ e]; exact hm k (by simp [e, hk])) hL

/-! ### The call -/
structure HA where
  lend : List (Nat × Nat)
  new : List (Nat × Nat)
  h1 : List (Nat × B)
  res : V

def gOut (ha : HA) (j : Nat) : Option Nat := match nlook ha.lend j with
  | some i => some i
  | none => nlook ha.new j

def okHA (N : Nat) (st : St) (ha : HA) : Bool := match biB ha.lend, biB ha.new, ha.lend.all (fun p => Nat.ble pinBase p.1), ha.new.all (fun p => quiet N p.2 st) with
  | true, true, true, true => true
  | _, _, _, _ => false

/-- Which function is called, with what ahead and behind, and what is owed for it. -/
def calleeX (P : Program) (st : St) (c : Callee) (an : Option Ans) : Option (FuncId × List C × List C × List Prop) := match c with
  | .value f => match calleeOf st f with
    | some (g, a, b) => some (g, a, b, [])
    | none => none
  | .invoke r name => match evo st r, an with
    | .one (.ifc t c), some (.id g) => some (g, [c], [], [MethOk P t name g])
    | _, _ => none
  | .builtin _ => none

/-- Blocks that are lent and come back stay where they stand. -/
def hrep : List (Nat × B) → Nat → B → List (Nat × B)
  | [], _, _ => []
  | (k, v) :: r, d, b => match Nat.beq k d with
    | true => (d, b) :: r
    | false => (k, v) :: hrep r d b

theorem hget_hrep (d : Nat) (b : B) (t : Nat) : ∀ (h : List (Nat × B)), hget (hrep h d b) t = if d = t then (hget h t).map (fun _ => b) else hget h t
  | [] => by simp [hrep, hget]
  | (k, v) :: r => by
    simp only [hrep]
    split
    · rename_i e
      have e := Nat.eq_of_beq_eq_true e
      subst e
      simp only [hget_cons]
      split <;> rfl
    · rename_i e
      have e := Nat.ne_of_beq_eq_false e
      simp only [hget_cons, hget_hrep d b t r]
      by_cases h1 : k = t
      · rw [if_pos h1, if_pos h1, if_neg (by omega)]
      · rw [if_neg h1, if_neg h1]

def repAll : List (Nat × B) → List (Nat × B) → List (Nat × B)
  | [], h => h
  | (d, b) :: r, h => hrep (repAll r h) d b

def sameIds : List (Nat × B) → List (Nat × Nat) → Bool
  | [], [] => true
  | (d, _) :: r, (_, i) :: l => match Nat.beq d i with
    | true => sameIds r l
    | false => false
  | _, _ => false

def putAll (hp : List (Nat × B)) (lend : List (Nat × Nat)) (h : List (Nat × B)) : List (Nat × B) := match sameIds hp lend with
  | true => repAll hp h
  | false => insAll hp (delAll h lend)

theorem hget_insAll_congr {X Y : List (Nat × B)} {t : Nat} (e : hget X t = hget Y t) : ∀ r : List (Nat × B), hget (insAll r X) t = hget (insAll r Y) t
  | [] => e
  | (d, b) :: r => by simp only [insAll, hget_hins, hget_insAll_congr e r]

theorem hget_repAll {h : List (Nat × B)} {t : Nat} {b : B} : ∀ {hp : List (Nat × B)} {l : List (Nat × Nat)}, sameIds hp l = true → hget (repAll hp h) t = some b → hget (insAll hp (delAll h l)) t = some b
  | [], [], _, e => e
  | [], _ :: _, hs, _ => by cases hs
  | _ :: _, [], hs, _ => by cases hs
  | (d, b0) :: r, (c, i) :: l, hs, e => by
    simp only [sameIds] at hs
    split at hs
    rotate_left
    · cases hs
    rename_i hd
    obtain rfl := Nat.eq_of_beq_eq_true hd
    simp only [repAll, hget_hrep] at e
    simp only [insAll, delAll, hget_hins]
    by_cases h1 : d = t
    · rw [if_pos h1] at e ⊢
      cases hq : hget (repAll r h) t with
      | none => rw [hq] at e; cases e
      | some b1 => rw [hq] at e; exact e
    · rw [if_neg h1] at e ⊢
      rw [hget_insAll_congr (Y := delAll h l) (by rw [hget_hdel, if_neg h1])]
      exact hget_repAll hs e

theorem hget_putAll {hp h : List (Nat × B)} {l : List (Nat × Nat)} {t : Nat} {b : B} (e : hget (putAll hp l h) t = some b) : hget (insAll hp (delAll h l)) t = some b := by
  unfold putAll at e
  split at e
  · rename_i hs; exact hget_repAll hs e
  · exact e

theorem Sim.less {N : Nat} {F : Keep} {S : Nat → Prop} {m : Mp} {e : List (Nat × V)} {h h' : List (Nat × B)} {a : Act} {w : World} (hs : Sim N F S m ⟨e, h⟩ a w) (hl : ∀ id b, hget h' id = some b → hget h id = some b) : Sim N F S m ⟨e, h'⟩ a w :=
  ⟨hs.size, hs.env, hs.far, fun id b hb => hs.heap id b (hl id b hb), fun id b hb => hs.own id b (hl id b hb), fun i j b b' hne h1 h2 => hs.inj i j b b' hne (hl i b h1) (hl j b' h2), hs.dom, hs.defers, hs.base_le, hs.pin, hs.len⟩

def evHCall (P : Program) (N : Nat) (st : St) (c : Callee) (args : List Operand) (ha : HA) (an : Option Ans) : Option (V × List Prop × St) := match calleeX P st c an with
  | some (g, a, b, om) => match okHA N st ha, hIn (bwd ha.lend) st.heap ha.lend, renVs (bwd ha.lend) (callArgs st args a b), renHp (gOut ha) ha.h1, renV (gOut ha) ha.res with
    | true, some h0, some vs, some hp, some r => some (r, HCall P g h0 vs ha.h1 ha.res :: om, ⟨st.env, putAll hp ha.lend st.heap⟩)
    | _, _, _, _, _ => none
  | none => none

theorem Sim.lent {N : Nat} {F : Keep} {S : Nat → Prop} {m : Mp} {st : St} {a : Act} {w : World} (hs : Sim N F S m st a w) {ha : HA} (hok : okHA N st ha = true) {h0 : List (Nat × B)} (hi : hIn (bwd ha.lend) st.heap ha.lend = some h0) {hp : List (Nat × B)} (hr : renHp (gOut ha) ha.h1 = some hp) :
    ∃ (no : Nat → Prop) (m0 : Mp), (∀ k, no k → k < w.heap.size) ∧ (∀ k, F.no k → no k) ∧ ((∀ b, S b → no b) ∧ ∀ id b, hget (delAll st.heap ha.lend) id = some b → ∀ k, blk (m id) = some k → no k) ∧ Rn (bwd ha.lend) m m0 ∧ HeapRep no S m0 h0 w ∧
      ∀ (w' : World) (S' : Nat → Prop) (m' : Mp), Goes no S S' w w' → (∀ b, S' b → b < w'.heap.size) → HeapRep no S' m' ha.h1 w' → Pins m' m0 →
        ∃ m'', Sim N F S' m'' ⟨st.env, insAll hp (delAll st.heap ha.lend)⟩ a w' ∧ Rn (gOut ha) m' m'' := by
  unfold okHA at hok
  split at hok
  rotate_left
  · cases hok
  rename_i b1 b2 b3 b4
  have hbi := @biB_nlook _ b1
  have hbn := @biB_nlook _ b2
  have hpin : ∀ c i, (c, i) ∈ ha.lend → pinBase ≤ c := fun c i hm => Nat.le_of_ble_eq_true (List.all_eq_true.1 b3 _ hm)
  have hqu : ∀ c i, (c, i) ∈ ha.new → quiet N i st = true := fun c i hm => List.all_eq_true.1 b4 _ hm
  obtain ⟨i1, i2⟩ := hIn_get hi
  let no : Nat → Prop := fun k => k < w.heap.size ∧ ∀ c i, (c, i) ∈ ha.lend → blk (m i) ≠ some k
  let m0 : Mp := ⟨fun j => match nlook ha.lend j with
    | some i => m i
    | none => m j, m.L⟩
  have hm0 : ∀ c i, nlook ha.lend c = some i → m0 c = m i := fun c i h => by show (match nlook ha.lend c with | some i => m i | none => m c) = m i; rw [h]
  have hF : ∀ k, F.no k → no k := fun k hk => ⟨hs.base_le k hk, fun c i hm e => by
    obtain ⟨b, hb⟩ := i2 c i hm
    exact (hs.own i b hb k e).2.1 hk⟩
  have hg0 : Rn (bwd ha.lend) m m0 := ⟨fun k k' h => hm0 k' k (hbi.2 h), fun _ h => h⟩
  have hS : ∀ b, S b → no b := fun b hb => ⟨hs.dom b hb, fun c i hm e => by
    obtain ⟨b0, hb0⟩ := i2 c i hm
    exact (hs.own i b0 hb0 b e).1 hb⟩
  have hO : ∀ id b, hget (delAll st.heap ha.lend) id = some b → ∀ k, blk (m id) = some k → no k := fun id b hb k hk => by
    obtain ⟨q1, q2⟩ := hget_delAll _ _ _ _ hb
    refine ⟨(hs.own id b q1 k hk).2.2, fun c i hm e => ?_⟩
    obtain ⟨b0, hb0⟩ := i2 c i hm
    refine hs.inj id i _ _ ?_ q1 hb0 k hk e
    rintro rfl
    exact q2 c hm
  refine ⟨no, m0, fun k hk => hk.1, hF, ⟨hS, hO⟩, hg0, ⟨fun c b' hb' => ?_, fun c b' hb' k hk => ?_, fun c c' b b' hne h1 h2 k hk hk2 => ?_, fun b hb => hF b (hs.len.2 b hb)⟩, fun w' S' m' hgo hdom hrep hpm => ?_⟩
  · obtain ⟨i, b, h1, h2, h3⟩ := i1 c b' hb'
    rw [hm0 c i (biB_mem b1 h1).1]
    exact renB_rep hg0 (hs.heap i b h2) h3
  · obtain ⟨i, b, h1, h2, h3⟩ := i1 c b' hb'
    rw [hm0 c i (biB_mem b1 h1).1] at hk
    obtain ⟨h4, h5, h6⟩ := hs.own i b h2 k hk
    exact ⟨h4, fun hn => hn.2 c i h1 hk, h6⟩
  · obtain ⟨i, b, h3, h4, h5⟩ := i1 c b h1
    obtain ⟨i', b', h6, h7, h8⟩ := i1 c' b' h2
    rw [hm0 c i (biB_mem b1 h3).1] at hk
    rw [hm0 c' i' (biB_mem b1 h6).1] at hk2
    refine hs.inj i i' _ _ ?_ h4 h7 k hk hk2
    rintro rfl
    have e1 := (biB_mem b1 h3).2
    rw [(biB_mem b1 h6).2] at e1
    exact hne (Option.some.inj e1).symm
  · let m'' : Mp := ⟨fun i => match bwd ha.new i with
      | some j => m' j
      | none => m i, m.L⟩
    have hnew : ∀ i, bwd ha.new i ≠ none → quiet N i st = true := fun i h => by
      cases e : bwd ha.new i with
      | none => exact absurd e h
      | some j => exact hqu j i (bwd_mem e)
    have hold : ∀ i b, hget st.heap i = some b → bwd ha.new i = none := fun i b hb => by
      cases e : bwd ha.new i with
      | none => rfl
      | some j =>
        have := (hs.quieted (hqu j i (bwd_mem e))).2.1
        rw [this] at hb
        cases hb
    have hm2 : ∀ i, bwd ha.new i = none → m'' i = m i := fun i h => by show (match bwd ha.new i with | some j => m' j | none => m i) = m i; rw [h]
    have hg : Rn (gOut ha) m' m'' := by
      refine ⟨fun k k' h => ?_, fun b hb => by rw [hpm.L] at hb; exact hb⟩
      unfold gOut at h
      split at h
      · rename_i i hl
        cases h
        obtain ⟨b, hb⟩ := i2 k k' (nlook_mem hl)
        rw [hm2 k' (hold k' b hb), hpm.pin k (hpin k k' (nlook_mem hl)), hm0 k k' hl]
      · show (match bwd ha.new k' with | some j => m' j | none => m k') = m' k
        rw [hbn.1 h]
    have hag : Agree S w w' := fun b hb => hgo.below.block b ⟨hs.dom b hb, fun c i hm e => by
      obtain ⟨b0, hb0⟩ := i2 c i hm
      exact (hs.own i b0 hb0 b e).1 hb⟩
    have hagL : Agree m.L w w' := fun b hb => hgo.below.block b (hF b (hs.len.2 b hb))
    let news := ha.new.map fun p => p.2
    have hnews : ∀ k, k ∉ news → m'' k = m k := fun k hk => hm2 k (by
      cases e : bwd ha.new k with
      | none => rfl
      | some j => exact absurd (List.mem_map.2 ⟨_, bwd_mem e, rfl⟩) hk)
    have hqn : ∀ i, i ∈ news → quiet N i st = true := fun i hi => by
      obtain ⟨p, h1, rfl⟩ := List.mem_map.1 hi
      exact hqu p.1 p.2 h1
    -- a block that is not lent
    have hrest : ∀ id b, hget (delAll st.heap ha.lend) id = some b → hget st.heap id = some b ∧ m'' id = m id ∧ ∀ k, blk (m id) = some k → no k ∧ ¬ S k ∧ ¬ F.no k := by
      intro id b hb
      obtain ⟨h1, h2⟩ := hget_delAll _ _ _ _ hb
      refine ⟨h1, hm2 id (hold id b h1), fun k hk => ?_⟩
      obtain ⟨h3, h4, h5⟩ := hs.own id b h1 k hk
      refine ⟨⟨h5, fun c i hm e => ?_⟩, h3, h4⟩
      obtain ⟨b0, hb0⟩ := i2 c i hm
      refine hs.inj i id _ _ ?_ hb0 h1 k e hk
      rintro rfl
      exact h2 c hm
    have hout : ∀ id b, hget hp id = some b → ∃ j b0, gOut ha j = some id ∧ m'' id = m' j ∧ hget ha.h1 j = some b0 ∧ renB (gOut ha) b0 = some b := by
      intro id b hb
      obtain ⟨j, b0, h1, h2, h3⟩ := renHp_get hr id b hb
      exact ⟨j, b0, h1, hg.at_ j id h1, h2, h3⟩
    refine ⟨m'', ⟨hs.size, fun t => ?_, hs.far, fun id b hb => ?_, fun id b hb k hk => ?_, fun i1' i2' c1 c2 hne h1 h2 k hk1 hk2 => ?_, hdom, hs.defers, fun k hk => Nat.lt_of_lt_of_le (hs.base_le k hk) hgo.below.size, fun id hid => ?_, hs.len⟩, hg⟩
    · exact ((hs.env t).keepL hag hgo.sub hagL).others (l := news) (fun i hi => (hs.quieted (hqn i hi)).1 t) hnews rfl
    · rcases hget_insAll _ _ _ _ hb with hb | hb
      · obtain ⟨j, b0, h1, h2, h3, h4⟩ := hout id b hb
        rw [h2]
        exact renB_rep hg (hrep.rep j b0 h3) h4
      · obtain ⟨h1, h2, h3⟩ := hrest id b hb
        rw [h2]
        exact ((hs.heap id b h1).keepL hag hgo.sub hagL fun k hk => hgo.below.block k (h3 k hk).1).others (l := news) (fun i hi => (hs.quieted (hqn i hi)).2.2 id b h1) hnews rfl
    · rcases hget_insAll _ _ _ _ hb with hb | hb
      · obtain ⟨j, b0, h1, h2, h3, h4⟩ := hout id b hb
        rw [h2] at hk
        obtain ⟨h5, h6, h7⟩ := hrep.own j b0 h3 k hk
        exact ⟨h5, fun hn => h6 (hF k hn), h7⟩
      · obtain ⟨h1, h2, h3⟩ := hrest id b hb
        rw [h2] at hk
        obtain ⟨h4, h5, h6⟩ := h3 k hk
        refine ⟨fun hS => ?_, h6, Nat.lt_of_lt_of_le h4.1 hgo.below.size⟩
        rcases hgo.sup k hS with h | h
        · exact h5 h
        · exact h h4
    · rcases hget_insAll _ _ _ _ h1 with h1 | h1 <;> rcases hget_insAll _ _ _ _ h2 with h2 | h2
      · obtain ⟨j1, b1', e1, e2, e3, e4⟩ := hout _ _ h1
        obtain ⟨j2, b2', e5, e6, e7, e8⟩ := hout _ _ h2
        rw [e2] at hk1
        rw [e6] at hk2
        refine hrep.inj j1 j2 _ _ ?_ e3 e7 k hk1 hk2
        rintro rfl
        rw [e1] at e5
        exact hne (Option.some.inj e5)
      · obtain ⟨j1, b1', e1, e2, e3, e4⟩ := hout _ _ h1
        obtain ⟨e5, e6, e7⟩ := hrest _ _ h2
        rw [e2] at hk1
        rw [e6] at hk2
        exact (hrep.own j1 _ e3 k hk1).2.1 (e7 k hk2).1
      · obtain ⟨j1, b1', e1, e2, e3, e4⟩ := hout _ _ h2
        obtain ⟨e5, e6, e7⟩ := hrest _ _ h1
        rw [e2] at hk2
        rw [e6] at hk1
        exact (hrep.own j1 _ e3 k hk2).2.1 (e7 k hk1).1
      · obtain ⟨e1, e2, e3⟩ := hrest _ _ h1
        obtain ⟨e5, e6, e7⟩ := hrest _ _ h2
        rw [e2] at hk1
        rw [e6] at hk2
        exact hs.inj i1' i2' _ _ hne e1 e5 k hk1 hk2
    · rw [hm2 id (by
        cases e : bwd ha.new id with
        | none => rfl
        | some j => have := quiet_low (hqu j id (bwd_mem e)); omega)]
      exact hs.pin id hid

theorem call_enter {P : Program} {N : Nat} {F : Keep} {st : St} {a : Act} {w : World} {S : Nat → Prop} {m : Mp} (hs : Sim N F S m st a w)
    {o : Oper} {f : Operand} {args : Array Operand} {tys : Array TypeId} (ho : o.op = .call { callee := .value f, args := args, argTypes := tys }) {g : FuncId} {ca cb : List C} (hc : calleeOf st f = some (g, ca, cb)) :
    ∃ vs : Array Value, RepAm S w m (callArgs st args.toList ca cb) vs.toList ∧ (FnOk P g → (execOp a.eval o).run P w = .ok (.enter g vs) w) := by
  -- the call's values
  have hval : ∃ xs ys : Array Value, (resolve a.eval { callee := .value f, args := args, argTypes := tys } o.type).run P w = .ok { target := .fn (.func g) ys, args := xs ++ args.map a.eval } w ∧
      ((xs ++ args.map a.eval ++ ys).toList.length = (callArgs st args.toList ca cb).length) ∧ ∀ (j : Nat) (v : V), (callArgs st args.toList ca cb)[j]? = some v → ∃ x, (xs ++ args.map a.eval ++ ys).toList[j]? = some x ∧ RepV S w m v x := by
    have hf := hs.evo f
    unfold calleeOf at hc
    have hmid : ∀ (j : Nat) (v : V), (args.toList.map (evo st))[j]? = some v → ∃ x, (args.map a.eval).toList[j]? = some x ∧ RepV S w m v x := by
      intro j v hj
      simp only [List.getElem?_map, Option.map_eq_some_iff, Array.getElem?_toList] at hj
      obtain ⟨y, h1, rfl⟩ := hj
      exact ⟨a.eval y, by simp [h1], hs.evo y⟩
    split at hc
    · rename_i g' xa xb hv
      split at hc
      · rename_i h1 h2
        cases hc
        obtain rfl : xa = #[] := Array.eq_empty_of_size_eq_zero h1
        obtain rfl : xb = #[] := Array.eq_empty_of_size_eq_zero h2
        rw [hv] at hf
        have hf' : a.eval f = .func (.func g) #[] #[] := by
          generalize a.eval f = q at hf
          cases hf
          rfl
        refine ⟨#[], #[], by simp [resolve, hf', Deferred.ofValue], by simp [callArgs], ?_⟩
        simpa [callArgs] using hmid
      · cases hc
    · rename_i g' na nb fa fb hv
      cases hc
      rw [hv] at hf
      obtain ⟨xs, ys, hf', e1, e2, h1, h2⟩ : ∃ xs ys : Array Value, a.eval f = .func (.func g) xs ys ∧ xs.size = na ∧ ys.size = nb ∧ (∀ i, i < xs.size → RepC S w m (fa i) (xs.getD i undef)) ∧ ∀ i, i < ys.size → RepC S w m (fb i) (ys.getD i undef) := by
        generalize hq : a.eval f = q at hf
        cases hf with
        | clo xs ys ha hb => exact ⟨xs, ys, rfl, rfl, rfl, ha, hb⟩
      subst e1
      subst e2
      refine ⟨xs, ys, by simp [resolve, hf', Deferred.ofValue], by simp [callArgs, cellsOf], ?_⟩
      intro j v hj
      unfold callArgs at hj
      by_cases hj1 : j < xs.size
      · rw [List.append_assoc, List.getElem?_append_left (by simp [cellsOf]; exact hj1)] at hj
        simp only [List.getElem?_map, Option.map_eq_some_iff] at hj
        obtain ⟨c, h3, rfl⟩ := hj
        obtain ⟨h4, rfl⟩ := cellsOf_get h3
        refine ⟨xs.getD j undef, ?_, (h1 j hj1).toV⟩
        simp [Array.getD_eq_getD_getElem?, List.getElem?_append_left, hj1, Array.getElem?_append, show j < xs.size + args.size by omega]
      · by_cases hj2 : j < xs.size + args.size
        · rw [List.append_assoc, List.getElem?_append_right (by simp [cellsOf]; omega), List.getElem?_append_left (by simp [cellsOf]; omega)] at hj
          obtain ⟨x, h3, h4⟩ := hmid _ v hj
          refine ⟨x, ?_, h4⟩
          simp only [List.length_map, cellsOf_length] at h3
          simp only [Array.toList_append, List.append_assoc]
          rw [List.getElem?_append_right (by simp; omega), List.getElem?_append_left (by simp; omega), ← h3]
          simp
        · rw [List.getElem?_append_right (by simp [cellsOf]; omega)] at hj
          simp only [List.getElem?_map, Option.map_eq_some_iff, List.length_append, List.length_map, cellsOf_length, Array.length_toList] at hj
          obtain ⟨c, h3, rfl⟩ := hj
          obtain ⟨h4, rfl⟩ := cellsOf_get h3
          refine ⟨ys.getD (j - (xs.size + args.size)) undef, ?_, (h2 _ h4).toV⟩
          simp only [Array.toList_append]
          rw [List.getElem?_append_right (by simp; omega)]
          simp [Array.getD_eq_getD_getElem?, h4]
    · cases hc
  obtain ⟨xs, ys, hres, hlen, hrep⟩ := hval
  have hex : FnOk P g → (execOp a.eval o).run P w = .ok (.enter g (xs ++ args.map a.eval ++ ys)) w := by
    intro hfn
    unfold execOp
    simp only [ho, Sem.run_bind, hres, Result.andThen_ok, invoke, run_callFunc hfn]
  exact ⟨_, ⟨hlen, hrep⟩, hex⟩

theorem callX_enter {P : Program} {N : Nat} {F : Keep} {st : St} {a : Act} {w : World} {S : Nat → Prop} {m : Mp} (hs : Sim N F S m st a w)
    {o : Oper} {c : Callee} {args : Array Operand} {tys : Array TypeId} (ho : o.op = .call { callee := c, args := args, argTypes := tys }) {an : Option Ans} {g : FuncId} {ca cb : List C} {om : List Prop} (hc : calleeX P st c an = some (g, ca, cb, om)) (hom : ∀ q ∈ om, q) :
    ∃ vs : Array Value, RepAm S w m (callArgs st args.toList ca cb) vs.toList ∧ (FnOk P g → (execOp a.eval o).run P w = .ok (.enter g vs) w) := by
  cases c with
  | builtin b => cases hc
  | value f =>
    simp only [calleeX] at hc
    split at hc
    · rename_i g' a' b' h1
      cases hc
      exact call_enter hs ho h1
    · cases hc
  | invoke r name =>
    simp only [calleeX] at hc
    split at hc
    · rename_i t c' g' hv
      cases hc
      have hr := hs.evo r
      rw [hv] at hr
      obtain ⟨x, hx1, hx2⟩ : ∃ x, a.eval r = .iface t x ∧ RepC S w m c' x := by
        generalize hq : a.eval r = q at hr
        cases hr with
        | ifc h => exact ⟨_, rfl, h⟩
      refine ⟨#[x] ++ args.map a.eval, ⟨by simp [callArgs], fun j v hj => ?_⟩, fun hfn => ?_⟩
      · unfold callArgs at hj
        simp only [List.map_cons, List.map_nil, List.append_nil] at hj
        cases j with
        | zero =>
          simp at hj
          subst hj
          exact ⟨x, by simp, hx2.toV⟩
        | succ j =>
          simp only [List.singleton_append, List.getElem?_cons_succ, List.getElem?_map, Option.map_eq_some_iff, Array.getElem?_toList] at hj
          obtain ⟨y, h1, rfl⟩ := hj
          exact ⟨a.eval y, by simp [h1], hs.evo y⟩
      · have hm := hom _ (List.mem_singleton.2 rfl) x w
        unfold execOp
        simp only [ho, Sem.run_bind, resolve, Sem.run_pure, Result.andThen_ok, invoke]
        have e0 : (#[a.eval r] ++ args.map a.eval)[0]? = some (.iface t x) := by rw [hx1, Array.getElem?_append_left (by simp)]; rfl
        have e1 : (#[a.eval r] ++ args.map a.eval).extract 1 (#[a.eval r] ++ args.map a.eval).size = args.map a.eval := by
          apply Array.ext'
          simp [List.take_of_length_le]
        rw [e0, e1]
        simp [callMethod, Sem.run_bind, hm, run_callFunc hfn]
    · cases hc

theorem evHCall_wp {P : Program} {N : Nat} {S0 : Nat → Prop} {w0 : Start} {st st' : St} {a : Act} {w : World} {S : Nat → Prop} {m : Mp} (hs : Sim N w0.F S m st a w) (hg : Goes w0.F.no S0 S w0.w w)
    {o : Oper} {c : Callee} {args : Array Operand} {tys : Array TypeId} (ho : o.op = .call { callee := c, args := args, argTypes := tys }) {ha : HA} {an : Option Ans} {v : V} {obl : List Prop} (h : evHCall P N st c args.toList ha an = some (v, obl, st')) (hob : ∀ q ∈ obl, q) {K : Act → World → Prop} {Q : Exit → Act → World → Prop}
    (hk : ∀ x w' S' m', Sim N w0.F S' m' st' a w' → Goes w0.F.no S0 S' w0.w w' → RepV S' w' m' v x → K (a.put o.dst x) w') : o.wp P a w K Q := by
  unfold evHCall at h
  split at h
  rotate_left
  · cases h
  rename_i g ca cb om hc
  split at h
  rotate_left
  · cases h
  rename_i h0 vs hp r hok hin hvs hr hres
  cases h
  have hsc : HCall P g h0 vs ha.h1 ha.res := hob _ (by simp)
  obtain ⟨xs, hra, hex⟩ := callX_enter (P := P) hs ho hc fun q hq => hob q (by simp [hq])
  obtain ⟨no, m0, hno, hF, _, hm0, hrep, hback⟩ := hs.lent hok hin hr
  have hra0 : RepAm S w m0 vs xs.toList := by
    obtain ⟨e1, e2⟩ := renVs_spec hvs
    refine ⟨by rw [e1]; exact hra.1, fun j v' hv' => ?_⟩
    obtain ⟨v0, h3, h4⟩ := e2 j v' hv'
    obtain ⟨x, h5, h6⟩ := hra.2 j v0 h3
    exact ⟨x, h5, renV_rep hm0 h6 h4⟩
  unfold Oper.wp
  rw [hex hsc.1]
  have := hsc.2 no S m0 w _ hs.dom hno hrep hra0
  rw [Array.toArray_toList] at this
  refine Calls.mono this ?_
  rintro e w' ⟨x, S', m', rfl, h1, h2, h3, h4, h5⟩
  obtain ⟨m'', hs', hg'⟩ := hback w' S' m' h1 h2 h3 h5
  exact hk x w' S' m'' (hs'.less fun _ _ hb => hget_putAll hb) (hg.step (h1.below.mono hF) h1.sub fun b hb => (h1.sup b hb).imp id fun h hF' => h (hF b hF')) (renV_rep hg' h4 hres)

/-! ### Calls that look at own blocks for the time of the call, and give a row of their own, which holds nothing but words -/
def litRows : List (Nat × B) → Option (List Prop)
  | [] => some []
  | (_, .rows _ sz n c) :: l => match litRows l with
    | some ps => some ((∀ i j, i < n → j < sz → ∃ x, c i j = .lit x) :: ps)
    | none => none
  | _ => none

/-- The cells of a closure, of a pointer, of a slice, looked at for the time of the call. -/
def borK (st : St) : List C → Option (List C)
  | [] => some []
  | c :: l => match borC st c, borK st l with
    | some c', some l' => some (c' :: l')
    | _, _ => none

def borX (st : St) (v : V) : Option V := match v with
  | .one (.clo fn na nb a b) => match borK st (cellsOf na a), borK st (cellsOf nb b) with
    | some la, some lb => some (.one (.clo fn na nb (fun i => la.getD i .junk) fun i => lb.getD i .junk))
    | _, _ => none
  | v => borV st v

/-- What is lent goes by its number, all else is looked at. -/
def borW (st : St) (g : Nat → Option Nat) : List V → Option (List V)
  | [] => some []
  | v :: l => match (match v with
      | .one (.osl id n) => match g id with
        | some k => some (V.one (.osl k n))
        | none => borX st v
      | v => borX st v), borW st g l with
    | some v', some l' => some (v' :: l')
    | _, _ => none

theorem borC_repS {S S' : Nat → Prop} {w : World} {m : Mp} {st : St} (hS : ∀ b, S b → S' b) (hO : ∀ id b, hget st.heap id = some b → RepB S w m (m id) b ∧ ∀ k, blk (m id) = some k → S' k) {c c' : C} {x : Value} (hc : RepC S w m c x) (h : borC st c = some c') : RepC S' w none' c' x := by
  unfold borC at h
  split at h
  · rename_i id n
    split at h
    · rename_i e sz len cc hl
      cases h
      cases hc with
      | osl hm h00 =>
        obtain ⟨hB, hb⟩ := hO id _ hl
        rw [hm] at hB
        obtain ⟨rfl, h2⟩ := RepC.of_rows (m' := none') hB ⟨_, _, rfl⟩ hS fun k hk => hb k (by rw [hm]; exact hk)
        exact h2
    · cases h
  · rename_i id off
    split at h
    · rename_i l hl
      split at h
      · rename_i hp
        cases h
        cases hc with
        | ptr hm =>
          obtain ⟨hB, hb⟩ := hO id _ hl
          rw [hm] at hB
          exact RepC.of_box hB hp hS (hb _ (by rw [hm]; rfl))
      · cases h
    · cases h
  · split at h
    · rename_i hp
      cases h
      exact (hc.anyM none' hp).keep (fun _ _ => rfl) hS
    · cases h

theorem borK_spec {st : St} : ∀ {l l' : List C}, borK st l = some l' → l'.length = l.length ∧ ∀ (j : Nat) c, l[j]? = some c → borC st c = some (l'.getD j .junk)
  | [], l', h => by cases h; exact ⟨rfl, fun j c hc => by simp at hc⟩
  | c :: l, l', h => by
    simp only [borK] at h
    split at h
    · rename_i c1 l1 h1 h2
      cases h
      obtain ⟨e1, e2⟩ := borK_spec h2
      refine ⟨by simp [e1], fun j c2 hj => ?_⟩
      cases j with
      | zero => simp at hj; subst hj; simpa using h1
      | succ j => simpa using e2 j c2 (by simpa using hj)
    · cases h

theorem borL_repS {S S' : Nat → Prop} {w : World} {m : Mp} {st : St} (hS : ∀ b, S b → S' b) (hO : ∀ id b, hget st.heap id = some b → RepB S w m (m id) b ∧ ∀ k, blk (m id) = some k → S' k) : ∀ {l l' : List C} {xs : List Value}, RepL S w m l xs → borL st l = some l' → RepL S' w none' l' xs
  | [], l', xs, hl, h => by cases h; exact ⟨hl.1, fun j c h => by simp at h, hl.2.2⟩
  | c :: l, l', xs, hl, h => by
    simp only [borL] at h
    split at h
    · rename_i c1 l1 h1 h2
      cases h
      obtain ⟨e1, e2, e3⟩ := hl
      cases xs with
      | nil => simp at e1
      | cons x xs =>
        have ht := borL_repS (xs := xs) hS hO ⟨by simpa using e1, fun j c hj => by have := e2 (j + 1) c (by simpa using hj); simpa using this, fun y hy => e3 y (by simp [hy])⟩ h2
        obtain ⟨x', h3, h4⟩ := e2 0 c rfl
        cases h3
        refine ⟨by simp [ht.1], fun j c hj => ?_, e3⟩
        cases j with
        | zero => simp only [List.getElem?_cons_zero, Option.some.injEq] at hj; subst hj; exact ⟨x, rfl, borC_repS hS hO h4 h1⟩
        | succ j => simpa using ht.2.1 j c (by simpa using hj)
    · cases h

theorem borV_repS {S S' : Nat → Prop} {w : World} {m : Mp} {st : St} (hS : ∀ b, S b → S' b) (hO : ∀ id b, hget st.heap id = some b → RepB S w m (m id) b ∧ ∀ k, blk (m id) = some k → S' k) {v v' : V} {x : Value} (hv : RepV S w m v x) (h : borX st v = some v') : RepV S' w none' v' x := by
  unfold borX at h
  split at h
  · rename_i fn na nb a b
    split at h
    · rename_i la lb h1 h2
      cases h
      obtain ⟨e1, e2⟩ := borK_spec h1
      obtain ⟨e3, e4⟩ := borK_spec h2
      cases hv with
      | clo xs ys ha hb =>
        refine RepC.clo xs ys (fun i hi => ?_) (fun i hi => ?_)
        · exact borC_repS hS hO (ha i hi) (e2 i _ (by simp [cellsOf, hi]))
        · exact borC_repS hS hO (hb i hi) (e4 i _ (by simp [cellsOf, hi]))
    · cases h
  · unfold borV at h
    split at h
    · rename_i hp
      cases h
      exact (hv.anyM none' hp).keep (fun _ _ => rfl) hS
    · split at h
      · rename_i c hx
        split at h
        · rename_i c' hc
          cases h
          exact borC_repS hS hO hv hc
        · cases h
      · rename_i l hx
        split at h
        · rename_i l' hl
          cases h
          obtain ⟨xs, rfl, q⟩ := hv
          exact ⟨xs, rfl, borL_repS hS hO q hl⟩
        · cases h
      · cases h

theorem borW_rep {S S' : Nat → Prop} {w : World} {m m0 : Mp} {st : St} {g : Nat → Option Nat} (hg : Rn g m m0) (hS : ∀ b, S b → S' b) (hO : ∀ id b, hget st.heap id = some b → RepB S w m (m id) b ∧ ∀ k, blk (m id) = some k → S' k) :
    ∀ {vs vs' : List V} {xs : List Value}, RepAm S w m vs xs → borW st g vs = some vs' → RepAm S' w m0 vs' xs
  | [], vs', xs, hl, h => by cases h; exact ⟨hl.1, fun j v h => by simp at h⟩
  | v :: vs, vs', xs, hl, h => by
    simp only [borW] at h
    split at h
    · rename_i v1 l1 h1 h2
      cases h
      obtain ⟨e1, e2⟩ := hl
      cases xs with
      | nil => simp at e1
      | cons x xs =>
        have ht := borW_rep (xs := xs) hg hS hO ⟨by simpa using e1, fun j v hj => by have := e2 (j + 1) v (by simpa using hj); simpa using this⟩ h2
        obtain ⟨x', h3, h4⟩ := e2 0 v rfl
        cases h3
        have h5 : RepV S' w m0 v1 x := by
          split at h1
          · rename_i id n
            split at h1
            · rename_i k hk
              cases h1
              cases h4 with
              | osl hm h0 hle => exact RepC.osl (by rw [hg.at_ _ _ hk]; exact hm) h0 hle
            · exact (borV_repS hS hO h4 h1).keepM
          · exact (borV_repS hS hO h4 h1).keepM
        refine ⟨by simp [ht.1], fun j c hj => ?_⟩
        cases j with
        | zero => simp only [List.getElem?_cons_zero, Option.some.injEq] at hj; subst hj; exact ⟨x, rfl, h5⟩
        | succ j => simpa using ht.2 j c (by simpa using hj)
    · cases h

def evHCallB (P : Program) (N : Nat) (st : St) (c : Callee) (args : List Operand) (ha : HA) (an : Option Ans) : Option (V × List Prop × St) := match ha.lend, ha.res with
  | [], .one (.osl k n) => match calleeX P st c an with
    | some (g, a, b, om) => match okHA N st ha, borA st (callArgs st args a b), renHp (gOut ha) ha.h1, renV (gOut ha) ha.res, litRows ha.h1 with
      | true, some vs, some hp, some r, some ps => some (r, HCall P g [] vs ha.h1 ha.res :: (ps ++ om), ⟨st.env, insAll hp (delAll st.heap ha.lend)⟩)
      | _, _, _, _, _ => none
    | none => none
  | _, _ => none

def evHCallW (P : Program) (N : Nat) (st : St) (c : Callee) (args : List Operand) (ha : HA) (an : Option Ans) : Option (V × List Prop × St) := match ha.res with
  | .one (.osl k n) => match calleeX P st c an with
    | some (g, a, b, om) => match okHA N st ha, hIn (bwd ha.lend) st.heap ha.lend, borW ⟨st.env, delAll st.heap ha.lend⟩ (bwd ha.lend) (callArgs st args a b), renHp (gOut ha) ha.h1, renV (gOut ha) ha.res, litRows ha.h1 with
      | true, some h0, some vs, some hp, some r, some ps => some (r, HCall P g h0 vs ha.h1 ha.res :: (ps ++ om), ⟨st.env, insAll hp (delAll st.heap ha.lend)⟩)
      | _, _, _, _, _, _ => none
    | none => none
  | _ => none

theorem litRows_mem : ∀ {h : List (Nat × B)} {ps : List Prop}, litRows h = some ps → ∀ id b, hget h id = some b → ∃ e sz n c, b = .rows e sz n c ∧ (∀ i j, i < n → j < sz → ∃ x, c i j = C.lit x) ∈ ps
  | [], ps, hl, id, b, hb => by cases hb
  | (k, b0) :: l, ps, hl, id, b, hb => by
    cases b0 <;> simp only [litRows] at hl <;> try (cases hl; done)
    rename_i e sz n c
    split at hl
    · rename_i ps' hps
      cases hl
      rw [hget_cons] at hb
      split at hb
      · cases hb
        exact ⟨e, sz, n, c, rfl, List.mem_cons_self⟩
      · obtain ⟨e', sz', n', c', h1, h2⟩ := litRows_mem hps id b hb
        exact ⟨e', sz', n', c', h1, List.mem_cons_of_mem _ h2⟩
    · cases hl

theorem evHCallW_wp {P : Program} {N : Nat} {S0 : Nat → Prop} {w0 : Start} {st st' : St} {a : Act} {w : World} {S : Nat → Prop} {m : Mp} (hs : Sim N w0.F S m st a w) (hg : Goes w0.F.no S0 S w0.w w)
    {o : Oper} {c : Callee} {args : Array Operand} {tys : Array TypeId} (ho : o.op = .call { callee := c, args := args, argTypes := tys }) {ha : HA} {an : Option Ans} {v : V} {obl : List Prop} (h : evHCallW P N st c args.toList ha an = some (v, obl, st')) (hob : ∀ q ∈ obl, q) {K : Act → World → Prop} {Q : Exit → Act → World → Prop}
    (hk : ∀ x w' S' m', Sim N w0.F S' m' st' a w' → Goes w0.F.no S0 S' w0.w w' → RepV S' w' m' v x → K (a.put o.dst x) w') : o.wp P a w K Q := by
  unfold evHCallW at h
  split at h
  rotate_left
  · cases h
  rename_i k n hres0
  split at h
  rotate_left
  · cases h
  rename_i g ca cb om hc
  split at h
  rotate_left
  · cases h
  rename_i h0 vs hp r ps hok hin hvs hr hres hps
  cases h
  have hsc : HCall P g h0 vs ha.h1 ha.res := hob _ (by simp)
  obtain ⟨xs, hra, hex⟩ := callX_enter (P := P) hs ho hc fun q hq => hob q (by simp [hq])
  obtain ⟨no, m0, hno, hF, ⟨hSn, hOn⟩, hm0, hrep, hback⟩ := hs.lent hok hin hr
  have hra0 : RepAm no w m0 vs xs.toList := borW_rep hm0 hSn (fun id b hb => ⟨hs.heap id b (hget_delAll _ _ _ _ hb).1, hOn id b hb⟩) hra hvs
  unfold Oper.wp
  rw [hex hsc.1]
  have := hsc.2 no no m0 w _ hno hno ⟨fun id b hb => (hrep.rep id b hb).keepL (fun _ _ => rfl) hSn (fun _ _ => rfl) fun _ _ => rfl, fun id b hb k hk => ⟨(hrep.own id b hb k hk).2.1, (hrep.own id b hb k hk).2⟩, hrep.inj, hrep.lno⟩ hra0
  rw [Array.toArray_toList] at this
  refine Calls.mono this ?_
  rintro e w' ⟨x, S', m', rfl, h1, h2, h3, h4, h5⟩
  have hgoS : Goes no S S w w' := ⟨h1.below, fun _ h => h, fun _ h => .inl h⟩
  have hlit : ∀ id b, hget ha.h1 id = some b → RepB S w' m' (m' id) b := fun id b hb => by
    obtain ⟨e, sz, n', c', rfl, hmem⟩ := litRows_mem hps id b hb
    obtain ⟨ys, q1, q2, q3⟩ := h3.rep id _ hb
    refine ⟨ys, q1, fun i j hi hj => ?_, q3⟩
    obtain ⟨y, r1, r2⟩ := q2 i j hi hj
    have hq : ∀ i j, i < n' → j < sz → ∃ x, c' i j = C.lit x := hob _ (List.mem_cons_of_mem _ (List.mem_append.2 (.inl hmem)))
    obtain ⟨z, hz⟩ := hq i j hi hj
    refine ⟨y, r1, ?_⟩
    rw [hz] at r2 ⊢
    cases r2
    exact .lit
  have hown : ∀ id b, hget ha.h1 id = some b → ∀ k, blk (m' id) = some k → ¬ S k ∧ ¬ no k ∧ k < w'.heap.size := fun id b hb k hk => by
    obtain ⟨q1, q2, q3⟩ := h3.own id b hb k hk
    exact ⟨fun hS => q2 (hSn k hS), fun hn => q2 hn, q3⟩
  obtain ⟨m'', hs', hg'⟩ := hback w' S m' hgoS (fun b hb => Nat.lt_of_lt_of_le (hs.dom b hb) h1.below.size) ⟨hlit, hown, h3.inj, fun b hb => hrep.lno b (by rw [← h5.L]; exact hb)⟩ h5
  have h4' : RepV S w' m' ha.res x := by
    rw [hres0] at h4 ⊢
    cases h4 with
    | osl hm h0 hle => exact RepC.osl hm h0 hle
  exact hk x w' S m'' hs' (hg.step (h1.below.mono fun k hk => hF k hk) (fun _ h => h) fun _ h => .inl h) (renV_rep hg' h4' hres)

theorem evHCallB_wp {P : Program} {N : Nat} {S0 : Nat → Prop} {w0 : Start} {st st' : St} {a : Act} {w : World} {S : Nat → Prop} {m : Mp} (hs : Sim N w0.F S m st a w) (hg : Goes w0.F.no S0 S w0.w w)
    {o : Oper} {c : Callee} {args : Array Operand} {tys : Array TypeId} (ho : o.op = .call { callee := c, args := args, argTypes := tys }) {ha : HA} {an : Option Ans} {v : V} {obl : List Prop} (h : evHCallB P N st c args.toList ha an = some (v, obl, st')) (hob : ∀ q ∈ obl, q) {K : Act → World → Prop} {Q : Exit → Act → World → Prop}
    (hk : ∀ x w' S' m', Sim N w0.F S' m' st' a w' → Goes w0.F.no S0 S' w0.w w' → RepV S' w' m' v x → K (a.put o.dst x) w') : o.wp P a w K Q := by
  unfold evHCallB at h
  split at h
  rotate_left
  · cases h
  rename_i k n hlend hres0
  split at h
  rotate_left
  · cases h
  rename_i g ca cb om hc
  split at h
  rotate_left
  · cases h
  rename_i vs hp r ps hok hvs hr hres hps
  cases h
  have hsc : HCall P g [] vs ha.h1 ha.res := hob _ (by simp)
  obtain ⟨xs, hra, hex⟩ := callX_enter (P := P) hs ho hc fun q hq => hob q (by simp [hq])
  have hin : hIn (bwd ha.lend) st.heap ha.lend = some [] := by rw [hlend]; rfl
  obtain ⟨no, m0, hno, hF, _, hm0, hrep, hback⟩ := hs.lent hok hin hr
  have hra0 : RepAm (fun b => b < w.heap.size) w m0 vs xs.toList := by
    obtain ⟨e1, e2⟩ := borA_rep hs hra.1 hra.2 hvs
    exact ⟨e1, fun j v hj => by obtain ⟨x, h3, h4⟩ := e2 j v hj; exact ⟨x, h3, h4.keepM⟩⟩
  unfold Oper.wp
  rw [hex hsc.1]
  have := hsc.2 (fun k => k < w.heap.size) (fun b => b < w.heap.size) m0 w _ (fun _ h => h) (fun _ h => h) ⟨fun id b hb => (by cases hb), fun id b hb => (by cases hb), fun i j b b' hne hb => (by cases hb), fun b hb => hno b (hrep.lno b hb)⟩ hra0
  rw [Array.toArray_toList] at this
  refine Calls.mono this ?_
  rintro e w' ⟨x, S', m', rfl, h1, h2, h3, h4, h5⟩
  have hgoS : Goes no S S w w' := ⟨h1.below.mono hno, fun _ h => h, fun _ h => .inl h⟩
  have hlit : ∀ id b, hget ha.h1 id = some b → RepB S w' m' (m' id) b := fun id b hb => by
    obtain ⟨e, sz, n', c', rfl, hmem⟩ := litRows_mem hps id b hb
    obtain ⟨ys, q1, q2, q3⟩ := h3.rep id _ hb
    refine ⟨ys, q1, fun i j hi hj => ?_, q3⟩
    obtain ⟨y, r1, r2⟩ := q2 i j hi hj
    have hq : ∀ i j, i < n' → j < sz → ∃ x, c' i j = C.lit x := hob _ (List.mem_cons_of_mem _ (List.mem_append.2 (.inl hmem)))
    obtain ⟨z, hz⟩ := hq i j hi hj
    refine ⟨y, r1, ?_⟩
    rw [hz] at r2 ⊢
    cases r2
    exact .lit
  have hown : ∀ id b, hget ha.h1 id = some b → ∀ k, blk (m' id) = some k → ¬ S k ∧ ¬ no k ∧ k < w'.heap.size := fun id b hb k hk => by
    obtain ⟨q1, q2, q3⟩ := h3.own id b hb k hk
    exact ⟨fun hS => q2 (hs.dom k hS), fun hn => q2 (hno k hn), q3⟩
  obtain ⟨m'', hs', hg'⟩ := hback w' S m' hgoS (fun b hb => Nat.lt_of_lt_of_le (hs.dom b hb) h1.below.size) ⟨hlit, hown, h3.inj, fun b hb => hrep.lno b (by rw [← h5.L]; exact hb)⟩ h5
  have h4' : RepV S w' m' ha.res x := by
    rw [hres0] at h4 ⊢
    cases h4 with
    | osl hm h0 hle => exact RepC.osl hm h0 hle
  exact hk x w' S m'' hs' (hg.step (h1.below.mono fun k hk => hs.base_le k hk) (fun _ h => h) fun _ h => .inl h) (renV_rep hg' h4' hres)

/-- With rows that are lent, or without. -/
def evHCallBW (P : Program) (N : Nat) (st : St) (c : Callee) (args : List Operand) (ha : HA) (an : Option Ans) : Option (V × List Prop × St) := match ha.lend with
  | [] => evHCallB P N st c args ha an
  | _ :: _ => evHCallW P N st c args ha an

theorem evHCallBW_nil {P : Program} {N : Nat} {st : St} {c : Callee} {args : List Operand} {ha : HA} {an : Option Ans} (h : ha.lend = []) : evHCallBW P N st c args ha an = evHCallB P N st c args ha an := by
  unfold evHCallBW
  rw [h]

/-! ### Calls that are lent slices, to be looked at for the time of the call -/
/-- THE CONTRACT OF A FUNCTION that is lent slices (lsl), and whose result does not speak of them. -/
def LCall (P : Program) (f : FuncId) (args : List V) (res : V) : Prop :=
  FnOk P f ∧ ∀ (no S : Nat → Prop) (m : Mp) (w : World) (vs : List Value), (∀ b, S b → b < w.heap.size) → (∀ k, no k → k < w.heap.size) → (∀ b, m.L b → no b) → RepAm S w m args vs →
    Calls P f vs.toArray w fun e w' => ∃ x S', e = .returned x ∧ Goes no S S' w w' ∧ (∀ b, S' b → b < w'.heap.size) ∧ RepV S' w' none' res x

theorem LCall.scall {P : Program} {f : FuncId} {args : List V} {res : V} (h : LCall P f args res) : SCall P f args res :=
  ⟨h.1, fun S w vs hS hra => h.2 (fun k => k < w.heap.size) S none' w vs hS (fun _ h => h) (fun _ h => h.elim) hra⟩

def lenV (st : St) (v : V) : Option V := match v with
  | .one (.osl id n) => match hget st.heap id with
    | some (.rows _ sz len cc) => some (.one (.lsl sz len cc))
    | _ => none
  | .one (.sl sz n c) => some (.one (.lsl sz n c))
  | v => match v.pure with
    | true => some v
    | false => none

def lenA (st : St) : List V → Option (List V)
  | [] => some []
  | v :: l => match lenV st v, lenA st l with
    | some v', some l' => some (v' :: l')
    | _, _ => none

theorem RepC.lend {S : Nat → Prop} {w : World} {m : Mp} {sz n : Nat} {c : Nat → Nat → C} {x : Value} (h : RepC S w m (.sl sz n c) x) {S' : Nat → Prop} {m' : Mp} (hL : ∀ b, S b → m'.L b) (hr' : ∀ c x, RepC S w none' c x → RepC S' w none' c x) : RepC S' w m' (.lsl sz n c) x := by
  cases h with
  | sl b off vals hcap ha hc h1 hr => exact .lsl b off vals hcap (fun hl => ⟨(ha hl).1, hL _ (ha hl).2⟩) hc h1 fun i j hi hj => hr' _ _ (hr i j hi hj)

/-- An own slice, lent. -/
theorem RepC.lend_rows {S : Nat → Prop} {w : World} {e : TypeId} {sz len : Nat} {c : Nat → Nat → C} {m m' : Mp} {a : Option Addr} {n cap : Nat} (h : RepB S w m (.slice a n cap) (.rows e sz len c)) (hb : ∀ k, blk (.slice a n cap) = some k → m'.L k) :
    RepC S w m' (.lsl sz len c) (.slice a n cap) := by
  obtain ⟨rfl, h2, h3, h4⟩ := rows_slice h
  rcases h4 with ⟨rfl, rfl, rfl⟩ | ⟨b, rfl⟩
  · exact .lsl 0 0 (fun _ _ => undef) (Nat.le_refl _) (fun h => absurd h (by omega)) (fun i j h => absurd h (by omega)) (fun i j h => absurd h (by omega)) (fun i j h => absurd h (by omega))
  · obtain ⟨_, _, _, _, _, hc⟩ := rows_cells h
    have key : ∀ i j, ∃ x, i < n → j < sz → w.cell? ⟨b, i * sz + j, none⟩ = some x ∧ x.oneCell' = true ∧ RepC S w none' (c i j) x := by
      intro i j
      by_cases hi : i < n ∧ j < sz
      · obtain ⟨x, hx⟩ := hc i j hi.1 hi.2
        exact ⟨x, fun _ _ => hx⟩
      · exact ⟨undef, fun h1 h2 => absurd ⟨h1, h2⟩ hi⟩
    let vals : Nat → Nat → Value := fun i j => (key i j).choose
    have hv : ∀ i j, i < n → j < sz → w.cell? ⟨b, i * sz + j, none⟩ = some (vals i j) ∧ (vals i j).oneCell' = true ∧ RepC S w none' (c i j) (vals i j) := fun i j => (key i j).choose_spec
    exact .lsl b 0 vals h2 (fun _ => ⟨rfl, hb b rfl⟩) (fun i j hi hj => by rw [Nat.zero_add]; exact (hv i j hi hj).1) (fun i j hi hj => (hv i j hi hj).2.1) (fun i j hi hj => (hv i j hi hj).2.2)

theorem lenV_rep {N : Nat} {F : Keep} {S : Nat → Prop} {m : Mp} {st : St} {a : Act} {w : World} (hs : Sim N F S m st a w) {v v' : V} {x : Value} (hv : RepV S w m v x) (h : lenV st v = some v') : RepV S w ⟨none'.f, fun k => k < w.heap.size⟩ v' x := by
  unfold lenV at h
  split at h
  · rename_i id n
    split at h
    · rename_i e sz len cc hl
      cases h
      cases hv with
      | osl hm h00 =>
        have hB := hs.heap id _ hl
        rw [hm] at hB
        exact RepC.lend_rows (m' := ⟨none'.f, fun k => k < w.heap.size⟩) hB fun k hk => (hs.own id _ hl k (by rw [hm]; exact hk)).2.2
    · cases h
  · cases h
    exact RepC.lend hv hs.dom fun _ _ h => h
  · split at h
    · rename_i hp
      cases h
      exact hv.anyM _ hp
    · cases h

theorem lenA_rep {N : Nat} {F : Keep} {S : Nat → Prop} {m : Mp} {st : St} {a : Act} {w : World} (hs : Sim N F S m st a w) : ∀ {vs vs' : List V} {xs : List Value}, RepAm S w m vs xs → lenA st vs = some vs' → RepAm S w ⟨none'.f, fun k => k < w.heap.size⟩ vs' xs
  | [], vs', xs, hl, h => by cases h; exact ⟨hl.1, fun j v h => by simp at h⟩
  | v :: vs, vs', xs, hl, h => by
    simp only [lenA] at h
    split at h
    · rename_i v1 l1 h1 h2
      cases h
      obtain ⟨e1, e2⟩ := hl
      cases xs with
      | nil => simp at e1
      | cons x xs =>
        have ht := lenA_rep (xs := xs) hs ⟨by simpa using e1, fun j v hj => by have := e2 (j + 1) v (by simpa using hj); simpa using this⟩ h2
        obtain ⟨x', h3, h4⟩ := e2 0 v rfl
        cases h3
        refine ⟨by simp [ht.1], fun j c hj => ?_⟩
        cases j with
        | zero => simp only [List.getElem?_cons_zero, Option.some.injEq] at hj; subst hj; exact ⟨x, rfl, lenV_rep hs h4 h1⟩
        | succ j => simpa using ht.2 j c (by simpa using hj)
    · cases h

def evHCallL (P : Program) (st : St) (c : Callee) (args : List Operand) (ha : HA) (an : Option Ans) : Option (V × List Prop × St) := match calleeX P st c an with
  | some (g, a, b, om) => match lenA st (callArgs st args a b), ha.res.pure with
    | some vs, true => some (ha.res, LCall P g vs ha.res :: om, st)
    | _, _ => none
  | none => none

theorem evHCallL_wp {P : Program} {N : Nat} {S0 : Nat → Prop} {w0 : Start} {st st' : St} {a : Act} {w : World} {S : Nat → Prop} {m : Mp} (hs : Sim N w0.F S m st a w) (hg : Goes w0.F.no S0 S w0.w w)
    {o : Oper} {c : Callee} {args : Array Operand} {tys : Array TypeId} (ho : o.op = .call { callee := c, args := args, argTypes := tys }) {ha : HA} {an : Option Ans} {v : V} {obl : List Prop} (h : evHCallL P st c args.toList ha an = some (v, obl, st')) (hob : ∀ q ∈ obl, q) {K : Act → World → Prop} {Q : Exit → Act → World → Prop}
    (hk : ∀ x w' S' m', Sim N w0.F S' m' st' a w' → Goes w0.F.no S0 S' w0.w w' → RepV S' w' m' v x → K (a.put o.dst x) w') : o.wp P a w K Q := by
  unfold evHCallL at h
  split at h
  rotate_left
  · cases h
  rename_i g ca cb om hc
  split at h
  rotate_left
  · cases h
  rename_i vs hvs hp
  cases h
  have hsc : LCall P g vs ha.res := hob _ (by simp)
  obtain ⟨xs, hra, hex⟩ := callX_enter (P := P) hs ho hc fun q hq => hob q (by simp [hq])
  have hra0 := lenA_rep hs hra hvs
  unfold Oper.wp
  rw [hex hsc.1]
  have := hsc.2 (fun k => k < w.heap.size) S ⟨none'.f, fun k => k < w.heap.size⟩ w _ hs.dom (fun _ h => h) (fun _ h => h) hra0
  rw [Array.toArray_toList] at this
  refine Calls.mono this ?_
  rintro e w' ⟨x, S', rfl, h1, h2, h3⟩
  have hs' := hs.grow (S' := S') h1.below.size h1.below.block h1.sub fun b hb => (h1.sup b hb).imp id fun h => ⟨Nat.le_of_not_lt h, h2 b hb⟩
  exact hk x w' S' m hs' (hg.step (h1.below.mono hs.base_le) h1.sub fun b hb => (h1.sup b hb).imp id fun h hF => h (hs.base_le _ hF)) h3.keepM

def evHCallX (P : Program) (N : Nat) (st : St) (c : Callee) (args : List Operand) (ha : HA) (an : Option Ans) : Option (V × List Prop × St) := match evHCall P N st c args ha an with
  | some r => some r
  | none => evHCallBW P N st c args ha an

theorem evHCallX_of {P : Program} {N : Nat} {st : St} {c : Callee} {args : List Operand} {ha : HA} {an : Option Ans} {r : V × List Prop × St} (h : evHCall P N st c args ha an = some r) : evHCallX P N st c args ha an = some r := by
  unfold evHCallX
  rw [h]

theorem evHCallX_wp {P : Program} {N : Nat} {S0 : Nat → Prop} {w0 : Start} {st st' : St} {a : Act} {w : World} {S : Nat → Prop} {m : Mp} (hs : Sim N w0.F S m st a w) (hg : Goes w0.F.no S0 S w0.w w)
    {o : Oper} {c : Callee} {args : Array Operand} {tys : Array TypeId} (ho : o.op = .call { callee := c, args := args, argTypes := tys }) {ha : HA} {an : Option Ans} {v : V} {obl : List Prop} (h : evHCallX P N st c args.toList ha an = some (v, obl, st')) (hob : ∀ q ∈ obl, q) {K : Act → World → Prop} {Q : Exit → Act → World → Prop}
    (hk : ∀ x w' S' m', Sim N w0.F S' m' st' a w' → Goes w0.F.no S0 S' w0.w w' → RepV S' w' m' v x → K (a.put o.dst x) w') : o.wp P a w K Q := by
  unfold evHCallX at h
  split at h
  · rename_i r hr
    cases h
    exact evHCall_wp hs hg ho hr hob hk
  · unfold evHCallBW at h
    split at h
    · exact evHCallB_wp hs hg ho h hob hk
    · exact evHCallW_wp hs hg ho h hob hk

def evHCallY (P : Program) (N : Nat) (st : St) (c : Callee) (args : List Operand) (ha : HA) (an : Option Ans) : Option (V × List Prop × St) := match evHCallX P N st c args ha an with
  | some r => some r
  | none => evHCallL P st c args ha an

theorem evHCallY_of {P : Program} {N : Nat} {st : St} {c : Callee} {args : List Operand} {ha : HA} {an : Option Ans} {r : V × List Prop × St} (h : evHCallX P N st c args ha an = some r) : evHCallY P N st c args ha an = some r := by
  unfold evHCallY
  rw [h]

theorem evHCallY_wp {P : Program} {N : Nat} {S0 : Nat → Prop} {w0 : Start} {st st' : St} {a : Act} {w : World} {S : Nat → Prop} {m : Mp} (hs : Sim N w0.F S m st a w) (hg : Goes w0.F.no S0 S w0.w w)
    {o : Oper} {c : Callee} {args : Array Operand} {tys : Array TypeId} (ho : o.op = .call { callee := c, args := args, argTypes := tys }) {ha : HA} {an : Option Ans} {v : V} {obl : List Prop} (h : evHCallY P N st c args.toList ha an = some (v, obl, st')) (hob : ∀ q ∈ obl, q) {K : Act → World → Prop} {Q : Exit → Act → World → Prop}
    (hk : ∀ x w' S' m', Sim N w0.F S' m' st' a w' → Goes w0.F.no S0 S' w0.w w' → RepV S' w' m' v x → K (a.put o.dst x) w') : o.wp P a w K Q := by
  unfold evHCallY at h
  split at h
  · rename_i r hr
    cases h
    exact evHCallX_wp hs hg ho hr hob hk
  · exact evHCallL_wp hs hg ho h hob hk

/-! ### Calls that panic -/
/-- THE CONTRACT OF A FUNCTION that panics with that value. -/
def PCall (P : Program) (f : FuncId) (h0 : List (Nat × B)) (args : List V) (pv : V) : Prop :=
  FnOk P f ∧ ∀ (no S : Nat → Prop) (m : Mp) (w : World) (vs : List Value), (∀ b, S b → b < w.heap.size) → (∀ k, no k → k < w.heap.size) → HeapRep no S m h0 w → RepAm S w m args vs →
    Calls P f vs.toArray w fun e w' => ∃ x S', e = .panicked [{ v := x, recovered := false }] ∧ Goes no S S' w w' ∧ (∀ b, S' b → b < w'.heap.size) ∧ RepV S' w' none' pv x

structure PA where
  lend : List (Nat × Nat)
  pv : V

def evPCall (P : Program) (N : Nat) (st : St) (c : Callee) (args : List Operand) (pa : PA) (an : Option Ans) : Option (List Prop) := match calleeX P st c an with
  | some (g, a, b, om) => match okHA N st ⟨pa.lend, [], [], pa.pv⟩, hIn (bwd pa.lend) st.heap pa.lend, renVs (bwd pa.lend) (callArgs st args a b) with
    | true, some h0, some vs => some (PCall P g h0 vs pa.pv :: om)
    | _, _, _ => none
  | none => none

theorem evPCall_wp {P : Program} {N : Nat} {S0 : Nat → Prop} {w0 : Start} {st : St} {a : Act} {w : World} {S : Nat → Prop} {m : Mp} (hs : Sim N w0.F S m st a w) (hg : Goes w0.F.no S0 S w0.w w)
    {o : Oper} {c : Callee} {args : Array Operand} {tys : Array TypeId} (ho : o.op = .call { callee := c, args := args, argTypes := tys }) {pa : PA} {an : Option Ans} {obl : List Prop} (h : evPCall P N st c args.toList pa an = some obl) (hob : ∀ q ∈ obl, q) {K : Act → World → Prop} {Q : Exit → Act → World → Prop}
    (hk : ∀ x w' S', Goes w0.F.no S0 S' w0.w w' → (∀ b, S' b → b < w'.heap.size) → RepV S' w' none' pa.pv x → Q (.panic [{ v := x, recovered := false }]) a w') : o.wp P a w K Q := by
  unfold evPCall at h
  split at h
  rotate_left
  · cases h
  rename_i g ca cb om hc
  split at h
  rotate_left
  · cases h
  rename_i h0 vs hok hin hvs
  cases h
  have hsc : PCall P g h0 vs pa.pv := hob _ (by simp)
  obtain ⟨xs, hra, hex⟩ := callX_enter (P := P) hs ho hc fun q hq => hob q (by simp [hq])
  obtain ⟨no, m0, hno, hF, _, hm0, hrep, _⟩ := hs.lent (ha := ⟨pa.lend, [], [], pa.pv⟩) hok hin (hp := []) rfl
  have hra0 : RepAm S w m0 vs xs.toList := by
    obtain ⟨e1, e2⟩ := renVs_spec hvs
    refine ⟨by rw [e1]; exact hra.1, fun j v' hv' => ?_⟩
    obtain ⟨v0, h3, h4⟩ := e2 j v' hv'
    obtain ⟨x, h5, h6⟩ := hra.2 j v0 h3
    exact ⟨x, h5, renV_rep hm0 h6 h4⟩
  unfold Oper.wp
  rw [hex hsc.1]
  have := hsc.2 no S m0 w _ hs.dom hno hrep hra0
  rw [Array.toArray_toList] at this
  refine Calls.mono this ?_
  rintro e w' ⟨x, S', rfl, h1, h2, h3⟩
  exact hk x w' S' (hg.step (h1.below.mono hF) h1.sub fun b hb => (h1.sup b hb).imp id fun h hF' => h (hF b hF')) h2 h3

/-! ### A function that gives a row of its own, told as one that gives a slice -/
theorem HCall.pure {P : Program} {f : FuncId} {args : List V} {id : Nat} {e : TypeId} {sz n : Nat} {c : Nat → Nat → C} (h : HCall P f [] args [(id, .rows e sz n c)] (.one (.osl id n))) : SCall P f args (.one (.sl sz n c)) := by
  refine ⟨h.1, fun S w vs hS hra => ?_⟩
  refine Calls.mono (h.2 (fun k => k < w.heap.size) S none' w vs hS (fun _ h => h) ⟨fun id b hb => by simp [hget] at hb, fun id b hb => by simp [hget] at hb, fun i j b b' hne h1 => by simp [hget] at h1, fun b hb => hb.elim⟩ hra) ?_
  rintro e' w' ⟨x, S', m', rfl, h1, h2, h3, h4, h5⟩
  have hg : hget [(id, B.rows e sz n c)] id = some (.rows e sz n c) := by rw [hget_cons, if_pos rfl]
  have hrep := h3.rep id _ hg
  have hsl : ∃ a cap, m' id = .slice a n cap ∧ x = .slice a n cap := by
    cases h4 with
    | osl hm h0 => exact ⟨_, _, hm, rfl⟩
  obtain ⟨a, cap, e1, e2⟩ := hsl
  refine ⟨x, fun k => S' k ∨ blk (m' id) = some k, rfl, ⟨h1.below, fun b hb => .inl (h1.sub b hb), fun b hb => ?_⟩, fun b hb => ?_, ?_⟩
  · rcases hb with hb | hb
    · exact h1.sup b hb
    · exact .inr (h3.own id _ hg b hb).2.1
  · rcases hb with hb | hb
    · exact h2 b hb
    · exact (h3.own id _ hg b hb).2.2
  · have := (RepC.of_rows (m' := none') hrep ⟨a, cap, e1⟩ (fun b hb => (.inl hb : S' b ∨ blk (m' id) = some b)) fun k hk => .inr hk).2
    have e3 : m' id = x := by rw [e1, e2]
    rw [e3] at this ⊢
    exact this

/-! ### Blocks that stay where they stand, beside new ones -/
theorem hrep_hins {d e : Nat} (hne : d ≠ e) (b c : B) : ∀ (h : List (Nat × B)), hrep (hins h d b) e c = hins (hrep h e c) d b := by
  have f1 : ∀ {x y : Nat}, x ≠ y → Nat.beq x y = false := fun {x y} h => by
    cases hb : Nat.beq x y
    · rfl
    · exact absurd (Nat.eq_of_beq_eq_true hb) h
  intro h
  induction h with
  | nil => simp [hins, hrep, f1 hne]
  | cons p r ih =>
    obtain ⟨k, v⟩ := p
    by_cases hk : k = d
    · subst hk
      simp [hins, hrep, f1 hne]
    · by_cases he : k = e
      · subst he
        by_cases h1 : Nat.blt d k = true
        · simp [hins, hrep, f1 hk, h1, f1 hne]
        · simp [hins, hrep, f1 hk, h1]
      · by_cases h1 : Nat.blt d k = true
        · simp [hins, hrep, f1 hk, h1, f1 hne, f1 he]
        · simp [hins, hrep, f1 hk, h1, f1 he, ih]

theorem repAll_hins {d : Nat} (b : B) : ∀ {hp : List (Nat × B)} {h : List (Nat × B)}, (∀ p ∈ hp, p.1 ≠ d) → repAll hp (hins h d b) = hins (repAll hp h) d b
  | [], h, _ => rfl
  | (e, c) :: r, h, hd => by
    simp only [repAll]
    rw [repAll_hins b (fun p hp => hd p (List.mem_cons_of_mem _ hp)), hrep_hins (Ne.symm (hd _ List.mem_cons_self))]

theorem hget_repAll_far {t : Nat} : ∀ {hp : List (Nat × B)} {h : List (Nat × B)}, (∀ p ∈ hp, p.1 ≠ t) → hget (repAll hp h) t = hget h t
  | [], h, _ => rfl
  | (e, c) :: r, h, hd => by
    simp only [repAll, hget_hrep]
    rw [if_neg (hd _ List.mem_cons_self)]
    exact hget_repAll_far fun p hp => hd p (List.mem_cons_of_mem _ hp)

theorem hIn_congr {g : Nat → Option Nat} {h h' : List (Nat × B)} : ∀ {l : List (Nat × Nat)}, (∀ p ∈ l, hget h' p.2 = hget h p.2) → hIn g h' l = hIn g h l
  | [], _ => rfl
  | (c, i) :: l, e => by
    simp only [hIn]
    rw [e _ List.mem_cons_self, hIn_congr fun p hp => e p (List.mem_cons_of_mem _ hp)]

theorem sameIds_mem : ∀ {hp : List (Nat × B)} {l : List (Nat × Nat)}, sameIds hp l = true → ∀ p ∈ hp, ∃ q ∈ l, q.2 = p.1
  | [], _, _, p, hp => by cases hp
  | _ :: _, [], hs, _, _ => by cases hs
  | (d, b) :: r, (c, i) :: l, hs, p, hp => by
    simp only [sameIds] at hs
    split at hs
    · rename_i hd
      rcases List.mem_cons.1 hp with rfl | hp
      · exact ⟨(c, i), List.mem_cons_self, (Nat.eq_of_beq_eq_true hd).symm⟩
      · obtain ⟨q, h1, h2⟩ := sameIds_mem hs p hp
        exact ⟨q, List.mem_cons_of_mem _ h1, h2⟩
    · cases hs

/-- What speaks of no own block does not say one. -/
theorem C.pure_says {d : Nat} : ∀ {c : C}, c.pure = true → c.says d = false := by
  intro c
  induction c with
  | clo fn na nb a b iha ihb =>
    intro h
    simp only [C.pure, Bool.and_eq_true, List.all_eq_true, List.mem_range] at h
    simp only [C.says, Bool.or_eq_false_iff, List.any_eq_false, List.mem_range, Bool.not_eq_true]
    exact ⟨fun i hi => iha i (h.1 i hi), fun i hi => ihb i (h.2 i hi)⟩
  | ifc t c ih => exact fun h => ih h
  | ifa t n c ih =>
    intro h
    simp only [C.pure, List.all_eq_true, List.mem_range] at h
    simp only [C.says, List.any_eq_false, List.mem_range, Bool.not_eq_true]
    exact fun i hi => ih i (h i hi)
  | agv n c ih =>
    intro h
    simp only [C.pure, List.all_eq_true, List.mem_range] at h
    simp only [C.says, List.any_eq_false, List.mem_range, Bool.not_eq_true]
    exact fun i hi => ih i (h i hi)
  | _ => intro h; first | rfl | (simp [C.pure] at h)

theorem renC0_says {g : Nat → Option Nat} {d : Nat} (hg : g d = none) {c c' : C} (h : renC0 g c = some c') : c.says d = false := by
  have key : ∀ k k', g k = some k' → Nat.beq k d = false := fun k k' hk => by
    cases hb : Nat.beq k d
    · rfl
    · rw [Nat.eq_of_beq_eq_true hb, hg] at hk; cases hk
  unfold renC0 at h
  split at h
  all_goals first
    | rfl
    | (split at h
       · rename_i hk; exact key _ _ hk
       · cases h)
    | (split at h
       · rename_i hp; exact C.pure_says hp
       · cases h)

theorem renC0_img {g : Nat → Option Nat} {d : Nat} (hg : ∀ k, g k ≠ some d) {c c' : C} (h : renC0 g c = some c') : c'.says d = false := by
  have key : ∀ k k', g k = some k' → Nat.beq k' d = false := fun k k' hk => by
    cases hb : Nat.beq k' d
    · rfl
    · exact absurd (by rw [← Nat.eq_of_beq_eq_true hb]; exact hk) (hg k)
  unfold renC0 at h
  split at h
  all_goals first
    | (cases h; rfl)
    | (split at h
       · rename_i hk; cases h; exact key _ _ hk
       · cases h)
    | (split at h
       · rename_i hp; cases h; exact C.pure_says hp
       · cases h)

theorem renCs0_says {g : Nat → Option Nat} {d : Nat} (hg : g d = none) : ∀ {l l' : List C}, renCs0 g l = some l' → ∀ c ∈ l, c.says d = false
  | [], _, _, c, hc => by cases hc
  | x :: l, l', h, c, hc => by
    simp only [renCs0] at h
    split at h
    · rename_i c1 l1 h1 h2
      rcases List.mem_cons.1 hc with rfl | hc
      · exact renC0_says hg h1
      · exact renCs0_says hg h2 c hc
    · cases h

theorem renCs0_img {g : Nat → Option Nat} {d : Nat} (hg : ∀ k, g k ≠ some d) : ∀ {l l' : List C}, renCs0 g l = some l' → ∀ c ∈ l', c.says d = false
  | [], l', h, c, hc => by cases h; cases hc
  | x :: l, l', h, c, hc => by
    simp only [renCs0] at h
    split at h
    · rename_i c1 l1 h1 h2
      cases h
      rcases List.mem_cons.1 hc with rfl | hc
      · exact renC0_img hg h1
      · exact renCs0_img hg h2 c hc
    · cases h

theorem renC_says {g : Nat → Option Nat} {d : Nat} (hg : g d = none) {c c' : C} (h : renC g c = some c') : c.says d = false := by
  unfold renC at h
  split at h
  · rename_i fn na nb a b
    split at h
    · rename_i hp; exact C.pure_says hp
    · split at h
      · rename_i xs ys hx hy
        simp only [C.says, Bool.or_eq_false_iff, List.any_eq_false, List.mem_range, Bool.not_eq_true]
        refine ⟨fun i hi => renCs0_says hg hx _ (List.mem_map.2 ⟨i, List.mem_range.2 hi, rfl⟩), fun i hi => renCs0_says hg hy _ (List.mem_map.2 ⟨i, List.mem_range.2 hi, rfl⟩)⟩
      · cases h
  · exact renC0_says hg h

theorem renC_img {g : Nat → Option Nat} {d : Nat} (hg : ∀ k, g k ≠ some d) {c c' : C} (h : renC g c = some c') : c'.says d = false := by
  unfold renC at h
  split at h
  · rename_i fn na nb a b
    split at h
    · rename_i hp; cases h; exact C.pure_says hp
    · split at h
      · rename_i xs ys hx hy
        cases h
        have hj : ∀ (l : List C) (i : Nat), (∀ c ∈ l, c.says d = false) → (l.getD i .junk).says d = false := fun l i hl => by
          rw [List.getD_eq_getElem?_getD]
          cases hq : l[i]? with
          | none => rfl
          | some q => exact hl q (List.mem_of_getElem? hq)
        simp only [C.says, Bool.or_eq_false_iff, List.any_eq_false, List.mem_range, Bool.not_eq_true]
        exact ⟨fun i _ => hj xs i (renCs0_img hg hx), fun i _ => hj ys i (renCs0_img hg hy)⟩
      · cases h
  · exact renC0_img hg h

theorem renCs_says {g : Nat → Option Nat} {d : Nat} (hg : g d = none) : ∀ {l l' : List C}, renCs g l = some l' → l.any (C.says d) = false
  | [], _, _ => rfl
  | x :: l, l', h => by
    simp only [renCs] at h
    split at h
    · rename_i c1 l1 h1 h2
      rw [List.any_cons, renC_says hg h1, renCs_says hg h2]
      rfl
    · cases h

theorem renCs_img {g : Nat → Option Nat} {d : Nat} (hg : ∀ k, g k ≠ some d) : ∀ {l l' : List C}, renCs g l = some l' → l'.any (C.says d) = false
  | [], l', h => by cases h; rfl
  | x :: l, l', h => by
    simp only [renCs] at h
    split at h
    · rename_i c1 l1 h1 h2
      cases h
      rw [List.any_cons, renC_img hg h1, renCs_img hg h2]
      rfl
    · cases h

theorem renB_says {g : Nat → Option Nat} {d : Nat} (hg : g d = none) {b b' : B} (h : renB g b = some b') : b.says d = false := by
  cases b with
  | box l =>
    simp only [renB, Option.map_eq_some_iff] at h
    obtain ⟨l', h1, rfl⟩ := h
    exact renCs_says hg h1
  | rows e sz len c => rfl
  | map kt l => rfl
  | hole _ _ _ _ _ => cases h

theorem renB_img {g : Nat → Option Nat} {d : Nat} (hg : ∀ k, g k ≠ some d) {b b' : B} (h : renB g b = some b') : b'.says d = false := by
  cases b with
  | box l =>
    simp only [renB, Option.map_eq_some_iff] at h
    obtain ⟨l', h1, rfl⟩ := h
    exact renCs_img hg h1
  | rows e sz len c => cases h; rfl
  | map kt l => cases h; rfl
  | hole _ _ _ _ _ => cases h

theorem quietH_of_hrep {d e : Nat} {c : B} (hne : e ≠ d) : ∀ {h : List (Nat × B)}, (∀ b, hget h e = some b → b.says d = false) → quietH d (hrep h e c) = true → quietH d h = true
  | [], _, _ => rfl
  | (k, v) :: r, hb, hq => by
    simp only [hrep] at hq
    split at hq
    · rename_i hk
      obtain rfl := Nat.eq_of_beq_eq_true hk
      have hv := hb v (by rw [hget_cons, if_pos rfl])
      simp only [quietH] at hq ⊢
      rw [hv]
      split at hq
      · rename_i h1 _
        rw [h1]
        exact hq
      · cases hq
    · rename_i hk
      have hk := Nat.ne_of_beq_eq_false hk
      simp only [quietH] at hq ⊢
      split at hq
      · rename_i h1 h2
        exact quietH_of_hrep hne (fun b hb' => hb b (by rw [hget_cons, if_neg hk]; exact hb')) hq
      · cases hq

theorem quietH_hrep {d e : Nat} {c : B} (hc : c.says d = false) : ∀ {h : List (Nat × B)}, quietH d h = true → quietH d (hrep h e c) = true
  | [], _ => rfl
  | (k, v) :: r, hq => by
    simp only [quietH] at hq
    split at hq
    · rename_i h1 h2
      simp only [hrep]
      split
      · rename_i hk
        obtain rfl := Nat.eq_of_beq_eq_true hk
        simp only [quietH, h1, hc]
        exact hq
      · simp only [quietH, h1, h2]
        exact quietH_hrep hc hq
    · cases hq

end Go.Proofs.Ytgedafbejcpioaa
