/-
  Contracts of library functions, by the shelf.
-/
import Derived.Test.YtgmkffjkidgcnaaAmU
import Derived.Shelf.SlGeneric
import Derived.Ground.SlgnProg
import Derived.Shelf.SlicesE.Clone
namespace Go.Proofs.Ytgmkffjkidgcnaa
open Go.RowKit Go.Shelf
set_option linter.unusedSimpArgs false
set_option linter.unusedVariables false

/-- slices.Clone: a row of its own. -/
theorem clone_call {P : Program} {ρ : Ren} (L : SlLaysE0.n41 P ρ) {T : Tab} (hT : TabOk P T) (hf : FnOk P (ρ.f 41)) {ti : TI} (ht : tlook T (ρ.t 23) = some ti) (hp : 0 < ti.size) (n : Nat) (c : Nat → Nat → C) (hn : n ≤ maxLen) (hb : n * ti.bytes ≤ 140737488355328) {z : Value} (hz : ti.zero = some z) (hzs : z.cells.size = ti.size)
    (h0 : ∀ x cap, HCall P (ρ.f 41) [] [.one (.lit (.slice (some x) 0 cap))] [(99999, .rows (ρ.t 23) ti.size 0 c)] (.one (.osl 99999 0))) :
    HCall P (ρ.f 41) [] [.one (.sl ti.size n c)] [(99999, .rows (ρ.t 23) ti.size n c)] (.one (.osl 99999 n)) := by
  refine ⟨hf, fun no S m w vs hS hno hrep hra => ?_⟩
  obtain ⟨hl, hra⟩ := hra
  obtain ⟨v, hv, hr⟩ := hra 0 _ rfl
  have hvs : vs = [v] := by
    match vs, hl with
    | [y], _ => simpa using hv
  subst hvs
  have hget : ∀ {b : B} {id : Nat}, hget [(99999, B.rows (ρ.t 23) ti.size n c)] id = some b → id = 99999 ∧ b = .rows (ρ.t 23) ti.size n c := by
    intro b id h
    rw [hget_cons] at h
    split at h
    · rename_i e; cases h; exact ⟨e.symm, rfl⟩
    · cases h
  cases hr with
  | sl b off vals hcap ha hc h1 hr =>
    rename_i a cap
    rcases Nat.eq_zero_or_pos n with hn0 | hnp
    · subst hn0
      cases a with
      | some x0 => exact (h0 x0 cap).2 no S m w _ hS hno hrep ⟨rfl, fun j v hj => by
          match j, hj with
          | 0, hj => cases hj; exact ⟨_, rfl, RepC.lit⟩⟩
      | none =>
        refine Calls.mono (AnyE.slices_Clone_nil L 0 cap w) ?_
        rintro e w' ⟨rfl, rfl⟩
        refine ⟨_, S, fun id => if id = 99999 then .slice none 0 0 else m id, rfl, Goes.refl _ _ _, hS, ⟨fun id b' h => ?_, fun id b' h k hk => ?_, fun i j b1 b2 hne h1 h2 => ?_⟩, RepC.osl (by simp) (.inl rfl), fun id hid => by simp only [pinBase] at hid; show (if id = 99999 then _ else _) = _; rw [if_neg (by omega)]⟩
        · obtain ⟨rfl, rfl⟩ := hget h
          exact ⟨[], World.ownsRow_nil _ _ _ _, fun i j hi => absurd hi (by omega), by simp⟩
        · obtain ⟨rfl, rfl⟩ := hget h
          cases hk
        · exact absurd ((hget h1).1.trans (hget h2).1.symm) hne
    · obtain ⟨q, p, rfl⟩ : ∃ q p, a = some ⟨q, p, none⟩ := ⟨b, off, (ha hnp).1⟩
      obtain ⟨i0, hi, hi1, hi2, hi3⟩ := hT.info ht
      let news : List Value := (List.range (n * ti.size)).map fun k => vals (k / ti.size) (k % ti.size)
      have hnl : news.length = n * ti.size := by simp [news]
      have hng : ∀ k, k < n * ti.size → news[k]? = some (vals (k / ti.size) (k % ti.size)) := fun k hk => by simp [news, hk]
      have hdiv : ∀ k, k < n * ti.size → k / ti.size < n ∧ k % ti.size < ti.size := fun k hk => ⟨Nat.div_lt_of_lt_mul (by rw [Nat.mul_comm]; exact hk), Nat.mod_lt _ hp⟩
      have hcell : ∀ k u, news[k]? = some u → w.cell? ⟨q, p + k, none⟩ = some u := by
        intro k u hk
        have hlt : k < n * ti.size := by rw [← hnl]; exact (List.getElem?_eq_some_iff.1 hk).1
        rw [hng k hlt] at hk
        cases hk
        obtain ⟨h2, h3⟩ := hdiv k hlt
        obtain ⟨h4, h5⟩ := ha (Nat.lt_of_le_of_lt (Nat.zero_le _) h2)
        simp only [Option.some.injEq, Addr.mk.injEq, and_true] at h4
        obtain ⟨rfl, rfl⟩ := h4
        rw [← hc _ _ h2 h3]
        congr 2
        have := Nat.div_add_mod k ti.size
        rw [Nat.mul_comm] at this
        omega
      have hone : ∀ u ∈ news, u.oneCell' = true := by
        intro u hu
        obtain ⟨k, hk⟩ := List.getElem?_of_mem hu
        have hlt : k < n * ti.size := by rw [← hnl]; exact (List.getElem?_eq_some_iff.1 hk).1
        rw [hng k hlt] at hk
        cases hk
        obtain ⟨h2, h3⟩ := hdiv k hlt
        exact h1 _ _ h2 h3
      refine Calls.mono (AnyE.slices_Clone L i0 z ti.size ti.bytes hi (hi3.trans hz) hi1 hi2 hzs hp (fun w => hT.size ht w) q p n cap news w hnl hn hb hcell hone) ?_
      rintro e w' ⟨v', rfl, hown, hne, hbel⟩
      have hlt := hown.lt
      obtain ⟨hblk, av, cv, rfl, hle⟩ : v'.ownBlock = blk v' ∧ ∃ a c, v' = .slice a n c ∧ n ≤ c := by
        rcases hown.2 with ⟨rfl, rfl⟩ | ⟨g, cap, cur, rfl, _, _, h1, _⟩
        · exact ⟨rfl, _, _, rfl, Nat.le_refl _⟩
        · exact ⟨rfl, _, _, rfl, h1⟩
      have hv0 : n = 0 ∨ ∃ b, av = some ⟨b, 0, none⟩ := by
        rcases hown.2 with ⟨h3, h4⟩ | ⟨g, cap', cur, h3, _⟩
        · exact .inl h4
        · cases h3; exact .inr ⟨g, rfl⟩
      have hown0 : w'.ownsRow 0 (ρ.t 23) ti.size (.slice av n cv) n news := by
        refine ⟨hown.1, hown.2.imp id ?_⟩
        rintro ⟨g, cap, cur, h3, h4, h5⟩
        exact ⟨g, cap, cur, h3, Nat.zero_le _, h5⟩
      have hsz : w.heap.size ≤ w'.heap.size := hbel.size
      refine ⟨_, S, fun id => if id = 99999 then .slice av n cv else m id, rfl, ⟨⟨hbel.os, hbel.tape, hbel.output, hsz, fun k hk => hbel.block k (hno k hk)⟩, fun _ h => h, fun _ h => .inl h⟩, fun b hb => Nat.lt_of_lt_of_le (hS b hb) hsz, ⟨fun id b' h => ?_, fun id b' h k hk => ?_, fun i j b1 b2 hne h1 h2 => ?_⟩, RepC.osl (by simp) hv0, fun id hid => by simp only [pinBase] at hid; show (if id = 99999 then _ else _) = _; rw [if_neg (by omega)]⟩
      · obtain ⟨rfl, rfl⟩ := hget h
        refine ⟨news, hown0, fun i j hi hj => ?_, hone⟩
        have hk : i * ti.size + j < n * ti.size := by
          have : (i + 1) * ti.size ≤ n * ti.size := Nat.mul_le_mul_right _ (by omega)
          rw [Nat.add_mul] at this
          omega
        refine ⟨vals i j, ?_, (hr i j hi hj).keep (fun b hb => hbel.block b (hS b hb)) fun _ h => h⟩
        rw [hng _ hk]
        congr 2
        · rw [Nat.mul_comm, Nat.mul_add_div hp, Nat.div_eq_of_lt hj, Nat.add_zero]
        · rw [Nat.mul_comm, Nat.mul_add_mod, Nat.mod_eq_of_lt hj]
      · obtain ⟨rfl, rfl⟩ := hget h
        have h2 := hlt k (by rw [hblk]; exact hk)
        exact ⟨fun hs => by have := hS k hs; omega, fun hs => by have := hno k hs; omega, h2.2⟩
      · exact absurd ((hget h1).1.trans (hget h2).1.symm) hne

/-! ### nil slices that are handed on as such -/
inductive WkC : C → C → Prop
  | refl (c : C) : WkC c c
  | nul (sz : Nat) (cell : Nat → Nat → C) : WkC (.sl sz 0 cell) (.lit (.slice none 0 0))
inductive WkL : List C → List C → Prop
  | nil : WkL [] []
  | cons {c c' : C} {l l' : List C} : WkC c c' → WkL l l' → WkL (c :: l) (c' :: l')
inductive WkV : V → V → Prop
  | refl (v : V) : WkV v v
  | one {c c' : C} : WkC c c' → WkV (.one c) (.one c')
  | agg {l l' : List C} : WkL l l' → WkV (.agg l) (.agg l')
inductive WkA : List V → List V → Prop
  | nil : WkA [] []
  | cons {v v' : V} {l l' : List V} : WkV v v' → WkA l l' → WkA (v :: l) (v' :: l')

theorem WkC.rep {c c' : C} (h : WkC c c') {S : Nat → Prop} {w : World} {m : Nat → Value} {x : Value} (hx : RepC S w m c' x) : RepC S w m c x := by
  cases h with
  | refl => exact hx
  | nul sz cell =>
    cases hx
    exact .sl 0 0 (fun _ _ => undef) (Nat.le_refl _) (fun h => absurd h (by simp)) (fun i j h => absurd h (by simp)) (fun i j h => absurd h (by simp)) (fun i j h => absurd h (by simp))

theorem WkL.len {l l' : List C} (h : WkL l l') : l.length = l'.length := by
  induction h with
  | nil => rfl
  | cons _ _ ih => simp [ih]

theorem WkL.get {l l' : List C} (h : WkL l l') : ∀ (j : Nat) (c : C), l[j]? = some c → ∃ c', l'[j]? = some c' ∧ WkC c c' := by
  induction h with
  | nil => intro j c h; simp at h
  | cons hc _ ih =>
    intro j c h
    cases j with
    | zero => cases h; exact ⟨_, rfl, hc⟩
    | succ j => simpa using ih j c (by simpa using h)

theorem WkV.rep {v v' : V} (h : WkV v v') {S : Nat → Prop} {w : World} {m : Nat → Value} {x : Value} (hx : RepV S w m v' x) : RepV S w m v x := by
  cases h with
  | refl => exact hx
  | one hc => exact hc.rep (show RepC S w m _ x from hx)
  | agg hl =>
    obtain ⟨xs, rfl, h1, h2, h3⟩ := hx
    refine ⟨xs, rfl, by rw [h1, hl.len], fun j c hc => ?_, h3⟩
    obtain ⟨c', hc', hw⟩ := hl.get j c hc
    obtain ⟨y, hy, hr⟩ := h2 j c' hc'
    exact ⟨y, hy, hw.rep hr⟩

theorem WkA.len {l l' : List V} (h : WkA l l') : l.length = l'.length := by
  induction h with
  | nil => rfl
  | cons _ _ ih => simp [ih]

theorem WkA.get {l l' : List V} (h : WkA l l') : ∀ (j : Nat) (c : V), l[j]? = some c → ∃ c', l'[j]? = some c' ∧ WkV c c' := by
  induction h with
  | nil => intro j c h; simp at h
  | cons hc _ ih =>
    intro j c h
    cases j with
    | zero => cases h; exact ⟨_, rfl, hc⟩
    | succ j => simpa using ih j c (by simpa using h)

theorem SCall.weak {P : Program} {f : FuncId} {args args' : List V} {res : V} (h : SCall P f args res) (hw : WkA args args') : SCall P f args' res :=
  ⟨h.1, fun S w vs hS hr => h.2 S w vs hS ⟨by rw [hr.1, hw.len], fun j v hj => by
    obtain ⟨v', h1, h2⟩ := hw.get j v hj
    obtain ⟨x, h3, h4⟩ := hr.2 j v' h1
    exact ⟨x, h3, h2.rep h4⟩⟩⟩

theorem HCall.weak {P : Program} {f : FuncId} {h0 h1 : List (Nat × B)} {args args' : List V} {res : V} (h : HCall P f h0 args h1 res) (hw : WkA args args') : HCall P f h0 args' h1 res :=
  ⟨h.1, fun no S m w vs hS hno hrep hr => h.2 no S m w vs hS hno hrep ⟨by rw [hr.1, hw.len], fun j v hj => by
    obtain ⟨v', h1, h2⟩ := hw.get j v hj
    obtain ⟨x, h3, h4⟩ := hr.2 j v' h1
    exact ⟨x, h3, h2.rep h4⟩⟩⟩

end Go.Proofs.Ytgmkffjkidgcnaa
