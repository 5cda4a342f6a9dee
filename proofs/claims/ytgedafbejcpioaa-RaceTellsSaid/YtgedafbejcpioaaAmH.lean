/-
  AN EVALUATOR OF WALKS, over whatever program: append, make.
-/
import Derived.Test.YtgedafbejcpioaaAmG
namespace Go.Proofs.Ytgedafbejcpioaa
open Go.RowKit
set_option linter.unusedSimpArgs false
set_option linter.unusedVariables false

/-- Append to a slice of the call's own, AND WHERE THE NEW ONE LIES: in the old block, or in a new one. -/
theorem am_append_own {P : Program} (w : World) (t ty e : TypeId) (i : TypeInfo) (z : Value) (size bytes : Nat) (ht : P.underlying t = some (.slice e)) (hi : P.info? e = some i) (hz : i.zero = some z)
    (hsize : i.size = size) (hby : i.bytes = bytes) (hzs : z.cells.size = size) (hsz : 0 < size)
    (v : Value) (n : Nat) (xs : List Value) (hown : w.ownsRow 0 e size v n xs)
    (a : Addr) (m c : Nat) (news : List Value) (hl : news.length = m * size) (hnews : ∀ j u, news[j]? = some u → w.cell? (a.add j) = some u) (h1 : ∀ u ∈ news, u.oneCell' = true)
    (h63 : n + m ≤ maxLen) (hbytes : (n + m) * bytes ≤ 140737488355328) :
    ∃ v' w', (Builtin.append_ #[t, t] ty #[v, .slice (some a) m c]).run P w = .ok v' w' ∧ w'.ownsRow 0 e size v' (n + m) (xs ++ news) ∧ w.grownBy w' v.ownBlock ∧
      (v'.ownBlock = v.ownBlock ∨ ∀ k, v'.ownBlock = some k → w.heap.size ≤ k) ∧ w.drawn ≤ w'.drawn := by
  obtain ⟨v', w', hr, h2, h3, _⟩ := run_append_own (P := P) w 0 t ty e i z size bytes ht hi hz hsize hby hzs hsz v n xs hown a m c news hl hnews h1 h63 hbytes (Nat.zero_le _)
  refine ⟨v', w', hr, h2, h3, ?_⟩
  subst hsize
  subst hby
  have hsmall : n + m ≤ 9223372036854775807 := by simp only [maxLen] at h63; omega
  rcases hown.2 with ⟨rfl, rfl⟩ | ⟨g, cap, cur, rfl, hbg, hg, hnc, hcm, hcs, htake⟩
  · have hx : xs = [] := List.eq_nil_of_length_eq_zero (by simpa using hown.1)
    subst hx
    by_cases hm : m = 0
    · subst hm
      rcases h2.2 with ⟨rfl, _⟩ | ⟨g, cap, cur, rfl, _, _, _, _, _, _⟩
      · have hr2 : (Builtin.append_ #[t, t] ty #[.slice none 0 0, .slice (some a) 0 c]).run P w = .ok (.slice none 0 0) w := by
          simp [Builtin.append_, run_underlying ht, sizeOf, typeInfo, hi, Builtin.lenOf, Builtin.firstCells, loadCells, loadCellsFrom]
        have := hr.symm.trans hr2
        simp only [Result.ok.injEq] at this
        exact ⟨.inl rfl, by rw [this.2]; exact Nat.le_refl _⟩
      · have hn : news = [] := List.eq_nil_of_length_eq_zero (by simpa using hl)
        subst hn
        have hr2 : (Builtin.append_ #[t, t] ty #[.slice none 0 0, .slice (some a) 0 c]).run P w = .ok (.slice none 0 0) w := by
          simp [Builtin.append_, run_underlying ht, sizeOf, typeInfo, hi, Builtin.lenOf, Builtin.firstCells, loadCells, loadCellsFrom]
        have := hr.symm.trans hr2
        simp at this
    · have hr2 := run_append_nil (P := P) w t ty e i z ht hi hz a m c news hl hnews (by omega) (by omega) (by have hb := hbytes; simp only [Nat.zero_add] at hb; omega)
      have := hr.symm.trans hr2
      simp only [Result.ok.injEq] at this
      rw [this.1, this.2]
      exact ⟨.inr fun k hk => by simp [Value.ownBlock] at hk; omega, Nat.le_succ _⟩
  · by_cases hroom : n + m ≤ cap
    · have hfit : n * i.size + news.length ≤ cur.size := by rw [hl, hcs, ← Nat.add_mul]; exact Nat.mul_le_mul_right _ hroom
      have hr2 := run_append_room (P := P) w t ty e i ht hi g n cap cur hg a m c news hl hnews h1 hroom hfit
      have := hr.symm.trans hr2
      simp only [Result.ok.injEq] at this
      rw [this.1, this.2]
      exact ⟨.inl rfl, by simp [World.setRow]⟩
    · have holds : ∀ j u, xs[j]? = some u → w.cell? ((⟨g, 0, none⟩ : Addr).add j) = some u := hown.cells (g := g) rfl
      have hr2 := run_append_grow (P := P) w t ty e i z ht hi hz ⟨g, 0, none⟩ n cap xs hown.1 holds a m c news hl hnews (by omega) (by omega) (growslice_fits (by omega) hbytes)
      have := hr.symm.trans hr2
      simp only [Result.ok.injEq] at this
      rw [this.1, this.2]
      exact ⟨.inr fun k hk => by simp [Value.ownBlock] at hk; omega, Nat.le_succ _⟩


theorem am_append_none {P : Program} (w : World) (t ty e : TypeId) (i : TypeInfo) (ht : P.underlying t = some (.slice e)) (hi : P.info? e = some i) (a : Option Addr) (n cap c : Nat) (h : n ≤ cap) :
    (Builtin.append_ #[t, t] ty #[.slice a n cap, .slice none 0 c]).run P w = .ok (.slice a n cap) w := by
  cases a <;> simp [Builtin.append_, run_underlying ht, sizeOf, typeInfo, hi, Builtin.lenOf, Builtin.firstCells, h, storeCells]

theorem blk_own (a : Option Addr) (n c : Nat) : blk (.slice a n c) = (Value.slice a n c).ownBlock := by cases a <;> rfl

/-- The rows c', of number n, are those of c, and k more. -/
structure Ext (sz len k : Nat) (c cx : Nat → Nat → C) (n : Nat) (c' : Nat → Nat → C) : Prop where
  num : n = len + k
  old : ∀ i j, i < len → j < sz → c' i j = c i j
  new : ∀ i j, i < k → j < sz → c' (len + i) j = cx i j

def srcOf (st : St) (size : Nat) : V → Option (Nat × (Nat → Nat → C))
  | .one (.sl sz k c) => match Nat.beq sz size with
    | true => some (k, c)
    | false => none
  | .one (.osl id k) => match hget st.heap id with
    | some (.rows _ sz len c) => match Nat.beq sz size with
      | true => some (len, c)
      | false => none
    | _ => none
  | .one (.lit (.slice none 0 _)) => some (0, fun _ _ => .junk)
  | .one (.lit (.slice (some _) 0 _)) => some (0, fun _ _ => .junk)
  | _ => none

/-- What is appended: nothing at all, or cells that lie in a row. -/
theorem srcOf_rep {N : Nat} {F : Keep} {S : Nat → Prop} {m : Mp} {st : St} {a : Act} {w : World} (hs : Sim N F S m st a w) {size : Nat} {x : V} {px : Value} {k : Nat} {c : Nat → Nat → C} (hsz : 0 < size) (hx : RepV S w m x px) (h : srcOf st size x = some (k, c)) :
    (∃ cap, px = .slice none 0 cap ∧ k = 0) ∨ ∃ (ad : Addr) (cap : Nat) (news : List Value), px = .slice (some ad) k cap ∧ news.length = k * size ∧ (∀ (j : Nat) (u : Value), news[j]? = some u → w.cell? (ad.add j) = some u) ∧ (∀ u ∈ news, u.oneCell' = true) ∧
      ∀ i j, i < k → j < size → ∃ y, news[i * size + j]? = some y ∧ RepC S w none' (c i j) y := by
  have main : ∀ {len : Nat} {cell : Nat → Nat → C} {pv : Value}, RepC S w m (.sl size len cell) pv → ∃ a cap, pv = .slice a len cap ∧ ((a = none ∧ len = 0) ∨ ∃ (ad : Addr) (news : List Value), a = some ad ∧ news.length = len * size ∧ (∀ (j : Nat) (u : Value), news[j]? = some u → w.cell? (ad.add j) = some u) ∧ (∀ u ∈ news, u.oneCell' = true) ∧
      ∀ i j, i < len → j < size → ∃ y, news[i * size + j]? = some y ∧ RepC S w none' (cell i j) y) := by
    intro len cell pv hr
    cases hr with
    | sl b off vals hcap ha hc h1 hr =>
      rename_i a cap
      refine ⟨a, cap, rfl, ?_⟩
      by_cases hl : 0 < len
      · obtain ⟨rfl, hb⟩ := ha hl
        have idx : ∀ q, q < len * size → q / size < len ∧ q % size < size ∧ q / size * size + q % size = q := by
          intro q hq
          refine ⟨(Nat.div_lt_iff_lt_mul hsz).2 hq, Nat.mod_lt _ hsz, ?_⟩
          rw [Nat.mul_comm]; exact Nat.div_add_mod _ _
        refine .inr ⟨⟨b, off, none⟩, (List.range (len * size)).map fun q => vals (q / size) (q % size), rfl, by simp, fun j u hu => ?_, fun u hu => ?_, fun i j hi hj => ?_⟩
        · simp only [List.getElem?_map, Option.map_eq_some_iff] at hu
          obtain ⟨q, hq, rfl⟩ := hu
          obtain ⟨hq1, hq2⟩ := List.getElem?_eq_some_iff.1 hq
          simp at hq1 hq2
          subst hq2
          obtain ⟨e1, e2, e3⟩ := idx j hq1
          rw [addr_off, ← hc _ _ e1 e2]
          congr 2
          omega
        · simp only [List.mem_map, List.mem_range] at hu
          obtain ⟨q, hq, rfl⟩ := hu
          obtain ⟨e1, e2, e3⟩ := idx q hq
          exact h1 _ _ e1 e2
        · refine ⟨vals i j, ?_, hr i j hi hj⟩
          have hlt : i * size + j < len * size := by
            have : (i + 1) * size ≤ len * size := Nat.mul_le_mul_right _ (by omega)
            rw [Nat.add_mul] at this
            omega
          have e1 : (i * size + j) / size = i := by rw [Nat.mul_comm, Nat.mul_add_div hsz, Nat.div_eq_of_lt hj, Nat.add_zero]
          have e2 : (i * size + j) % size = j := by rw [Nat.mul_comm, Nat.mul_add_mod, Nat.mod_eq_of_lt hj]
          simp [hlt, e1, e2]
      · have : len = 0 := by omega
        subst this
        cases a with
        | none => exact .inl ⟨rfl, rfl⟩
        | some ad => exact .inr ⟨ad, [], rfl, by simp, fun j u h => by simp at h, fun u h => by simp at h, fun i j h => absurd h (by omega)⟩
  unfold srcOf at h
  split at h
  · rename_i sz k' c'
    split at h
    · rename_i hb
      obtain rfl := eq_of_beq' hb
      simp only [Option.some.injEq, Prod.mk.injEq] at h
      obtain ⟨rfl, rfl⟩ := h
      obtain ⟨a', cap, rfl, h2 | ⟨ad, news, rfl, h3⟩⟩ := main hx
      · obtain ⟨rfl, rfl⟩ := h2
        exact .inl ⟨cap, rfl, rfl⟩
      · exact .inr ⟨ad, cap, news, rfl, h3⟩
    · cases h
  · rename_i id k'
    split at h
    · rename_i e sz len c' hl
      split at h
      · rename_i hb1
        obtain rfl := eq_of_beq' hb1
        simp only [Option.some.injEq, Prod.mk.injEq] at h
        obtain ⟨rfl, rfl⟩ := h
        cases hx with
        | osl hm h00 =>
          have hB := hs.heap id _ hl
          rw [hm] at hB
          rename_i a0 cp
          obtain ⟨rfl, _, _, h4⟩ := rows_slice hB
          rcases h4 with ⟨rfl, rfl, rfl⟩ | ⟨b, rfl⟩
          · exact .inl ⟨0, rfl, rfl⟩
          · obtain ⟨xs, ⟨hlen, hor⟩, hc, h1c⟩ := hB
            rcases hor with ⟨hor, _⟩ | ⟨g, cap, cur, hv', hbase, hgk, hn', hm', hcs', htk⟩
            · cases hor
            simp only [Value.slice.injEq, Option.some.injEq, Addr.mk.injEq, and_true] at hv'
            obtain ⟨rfl, _, rfl⟩ := hv'
            refine .inr ⟨_, _, xs, rfl, hlen, fun j u hu => ?_, h1c, hc⟩
            rw [addr_off, Nat.zero_add, cell_of_heap hgk]
            rw [← htk, List.getElem?_take] at hu
            split at hu
            · simpa using hu
            · simp at hu
      · cases h
    · cases h
  · simp only [Option.some.injEq, Prod.mk.injEq] at h
    obtain ⟨rfl, rfl⟩ := h
    cases hx
    exact .inl ⟨_, rfl, rfl⟩
  · rename_i ad cap
    simp only [Option.some.injEq, Prod.mk.injEq] at h
    obtain ⟨rfl, rfl⟩ := h
    cases hx
    exact .inr ⟨ad, cap, [], rfl, by simp, fun j u h => by simp at h, fun u h => by simp at h, fun i j h => absurd h (by omega)⟩
  · cases h

def evAppend (N : Nat) (T : Tab) (st : St) (d t : Nat) (s x : V) (an : Option Ans) : Option (V × List Prop × St) := match tlook T t with
  | some ti => match ti.k with
    | .slice e => match tlook T e with
      | some te => match Nat.ble 1 te.size, zeroC te, srcOf st te.size x, an, quiet N d st with
        | true, some z, some (k, cx), some (.c n c'), true => match Nat.beq z.length te.size with
          | true => match s with
            | .one (.osl id l) => match hget st.heap id with
              | some (.rows e' sz len c) => match Nat.beq e' e, Nat.beq sz te.size with
                | true, true => some (.one (.osl d n), [Ext sz len k c cx n c', n * te.bytes ≤ 140737488355328, n ≤ maxLen], { st with heap := (d, .rows e sz n c') :: hdel st.heap id })
                | _, _ => none
              | _ => none
            | .one (.lit (.slice none 0 0)) => some (.one (.osl d n), [Ext te.size 0 k (fun _ _ => .junk) cx n c', n * te.bytes ≤ 140737488355328, n ≤ maxLen], st.new d (.rows e te.size n c'))
            | _ => none
          | false => none
        | _, _, _, _, _ => none
      | none => none
    | _ => none
  | none => none

theorem own_blk {e : TypeId} {sz : Nat} {v : Value} {n : Nat} {xs : List Value} {w : World} (h : w.ownsRow 0 e sz v n xs) : v.ownBlock = blk v ∧ ∃ a c, v = .slice a n c ∧ n ≤ c := by
  rcases h.2 with ⟨rfl, rfl⟩ | ⟨g, cap, cur, rfl, _, _, h1, _⟩
  · exact ⟨rfl, _, _, rfl, Nat.le_refl _⟩
  · exact ⟨rfl, _, _, rfl, h1⟩

theorem append_rows {P : Program} {N : Nat} {S0 : Nat → Prop} {w0 : Start} {st : St} {a : Act} {w : World} {S : Nat → Prop} {m : Mp} (hs : Sim N w0.F S m st a w) (hg : Goes w0.F.no S0 S w0.w w) {t ty e : TypeId} {i : TypeInfo} {z : Value} (ht : P.underlying t = some (.slice e)) (hi : P.info? e = some i) (hz : i.zero = some z)
    (hzs : z.cells.size = i.size) (hsz : 0 < i.size) (d : Nat) (hq : quiet N d st = true) (old : Option Nat) (v : Value) (len : Nat) (c : Nat → Nat → C) (xs : List Value) (hown : w.ownsRow 0 e i.size v len xs) (hc : ∀ i' j, i' < len → j < i.size → ∃ x, xs[i' * i.size + j]? = some x ∧ RepC S w none' (c i' j) x) (h1c : ∀ x ∈ xs, x.oneCell' = true)
    (hrow : (old = none ∧ blk v = none) ∨ ∃ id b0, old = some id ∧ hget st.heap id = some b0 ∧ blk v = blk (m id)) {k n : Nat} {cx c' : Nat → Nat → C} {x : V} {px : Value} (hx : RepV S w m x px) (hsrc : srcOf st i.size x = some (k, cx)) (hext : Ext i.size len k c cx n c') (hb : n * i.bytes ≤ 140737488355328) (hn : n ≤ maxLen) :
    ∃ v' w', (Builtin.append_ #[t, t] ty #[v, px]).run P w = .ok v' w' ∧ Sim N w0.F S (upd m d v') { st with heap := (d, .rows e i.size n c') :: oldHeap st.heap old } a w' ∧ Goes w0.F.no S0 S w0.w w' ∧ RepV S w' (upd m d v') (.one (.osl d n)) v' := by
  obtain rfl := hext.num
  obtain ⟨hblk, av, cv, rfl, hle⟩ := own_blk hown
  have hnF : ∀ k, blk (.slice av len cv) = some k → ¬ w0.F.no k := by
    intro k hk
    rcases hrow with ⟨_, h3⟩ | ⟨id, b0, h3, h4, h5⟩
    · rw [h3] at hk; cases hk
    · exact (hs.own id b0 h4 k (h5 ▸ hk)).2.1
  rcases srcOf_rep hs hsz hx hsrc with ⟨cap, rfl, rfl⟩ | ⟨ad, cap, news, rfl, hl, hnews, h1, hcx⟩
  · have hv0 : len = 0 ∨ ∃ b, av = some ⟨b, 0, none⟩ := by
      rcases hown.2 with ⟨h3, h4⟩ | ⟨g, cap', cur, h3, _⟩
      · exact .inl h4
      · cases h3; exact .inr ⟨g, rfl⟩
    refine ⟨_, w, am_append_none w t ty e i ht hi av len cv cap hle, ?_, hg, RepC.osl (upd_same _ _ _) hv0 hle⟩
    refine hs.renew d hq _ _ old (Nat.le_refl _) (fun _ _ _ => rfl) (fun k hk => ?_) ⟨xs, by rw [Nat.add_zero]; exact hown, fun i' j hi' hj => ?_, h1c⟩
    · have h2 := hown.lt k (by rw [hblk]; exact hk)
      refine ⟨hnF k hk, h2.2, .inl ?_⟩
      rcases hrow with ⟨_, h3⟩ | ⟨id, b0, h3, h4, h5⟩
      · rw [h3] at hk; cases hk
      · exact ⟨id, b0, h3, h4, h5 ▸ hk⟩
    · obtain ⟨y, h3, h4⟩ := hc i' j (by omega) hj
      exact ⟨y, h3, by rw [hext.old i' j (by omega) hj]; exact h4⟩
  · obtain ⟨v', w', hr, hown', hgr, hmv, hdr⟩ := am_append_own (P := P) w t ty e i z i.size i.bytes ht hi hz rfl rfl hzs hsz _ len xs hown ad k cap news hl hnews h1 hn hb
    obtain ⟨hblk', av', cv', rfl, hle'⟩ := own_blk hown'
    have hgr' : w.grownBy w' (blk (.slice av len cv)) := by rw [← hblk]; exact hgr
    have hag : Agree S w w' := fun q hq => hgr'.block q (hs.dom q hq) (by
      intro e'
      rcases hrow with ⟨_, h3⟩ | ⟨id, b0, _, hb0, h3⟩
      · rw [h3] at e'; cases e'
      · exact (hs.own id b0 hb0 q (by rw [← h3]; exact e'.symm)).1 hq)
    have hv0 : len + k = 0 ∨ ∃ b, av' = some ⟨b, 0, none⟩ := by
      rcases hown'.2 with ⟨h3, h4⟩ | ⟨g, cap', cur, h3, _⟩
      · exact .inl h4
      · cases h3; exact .inr ⟨g, rfl⟩
    refine ⟨_, w', hr, ?_, ?_, RepC.osl (upd_same _ _ _) hv0 hle'⟩
    · refine hs.renew d hq _ _ old hgr'.size (fun q hq' hne => hgr'.block q hq' (fun e' => ?_)) (fun q hq' => ?_) ⟨xs ++ news, hown', fun i' j hi' hj => ?_, fun y hy => ?_⟩
      · rcases hrow with ⟨_, h3⟩ | ⟨id, b0, h3, hb0, h4⟩
        · rw [h3] at e'; cases e'
        · exact hne id h3 ⟨b0, hb0⟩ (by rw [← h4]; exact e'.symm)
      · have h2 := hown'.lt q (by rw [hblk']; exact hq')
        rw [hblk', hblk] at hmv
        refine ⟨hmv.elim (fun h3 => hnF q (h3 ▸ hq')) (fun h3 hF => absurd (hs.base_le q hF) (Nat.not_lt.2 (h3 q hq'))), h2.2, ?_⟩
        rcases hmv with h3 | h3
        · rcases hrow with ⟨_, h4⟩ | ⟨id, b0, h5, hb0, h4⟩
          · rw [h4] at h3; rw [h3] at hq'; cases hq'
          · exact .inl ⟨id, b0, h5, hb0, by rw [← h4, ← h3]; exact hq'⟩
        · exact .inr (h3 q hq')
      · by_cases hlt : i' < len
        · obtain ⟨y, h3, h4⟩ := hc i' j hlt hj
          refine ⟨y, ?_, by rw [hext.old i' j hlt hj]; exact h4.keep hag fun _ h => h⟩
          rw [List.getElem?_append_left (List.getElem?_eq_some_iff.1 h3).1]
          exact h3
        · obtain ⟨y, h3, h4⟩ := hcx (i' - len) j (by omega) hj
          have e3 := hext.new (i' - len) j (by omega) hj
          rw [show len + (i' - len) = i' by omega] at e3
          refine ⟨y, ?_, by rw [e3]; exact h4.keep hag fun _ h => h⟩
          have e4 : i' * i.size = len * i.size + (i' - len) * i.size := by rw [← Nat.add_mul]; congr 1; omega
          rw [List.getElem?_append_right (by rw [hown.1]; omega), hown.1, ← h3]
          congr 1
          omega
      · rcases List.mem_append.1 hy with hy | hy
        · exact h1c y hy
        · exact h1 y hy
    · refine hg.step (Bel.grown hgr' hdr hs.base_le fun q hq => ?_) (fun _ h => h) (fun _ h => .inl h)
      exact fun e => hnF q e.symm hq

theorem evAppend_run {P : Program} {T : Tab} (hT : TabOk P T) {N : Nat} {S0 : Nat → Prop} {w0 : Start} {st : St} {a : Act} {w : World} {S : Nat → Prop} {m : Mp} (hs : Sim N w0.F S m st a w) (hg : Goes w0.F.no S0 S w0.w w)
    {d t ty : Nat} {s x v : V} {ps px : Value} {an : Option Ans} {obl : List Prop} {st' : St} (hps : RepV S w m s ps) (hpx : RepV S w m x px) (h : evAppend N T st d t s x an = some (v, obl, st')) (ho : ∀ q ∈ obl, q) :
    ∃ y w' m', (Builtin.append_ #[t, t] ty #[ps, px]).run P w = .ok y w' ∧ Sim N w0.F S m' st' a w' ∧ Goes w0.F.no S0 S w0.w w' ∧ RepV S w' m' v y := by
  unfold evAppend at h
  split at h
  · rename_i ti hti
    obtain ⟨dd, hu, hf⟩ := hT.under hti
    split at h
    · rename_i e hk
      rw [hk] at hf
      cases dd <;> simp only [TK.fits] at hf
      subst hf
      split at h
      · rename_i te hte
        obtain ⟨i, hi, hi1, hi2, hi3⟩ := hT.info hte
        split at h
        · rename_i z k cx n c' hb1 hz hsrc hq
          have hsz := Nat.le_of_ble_eq_true hb1
          split at h
          · rename_i hzl
            have hzl := eq_of_beq' hzl
            obtain ⟨zv, hzv, hzs⟩ : ∃ zv, i.zero = some zv ∧ zv.cells.size = i.size := by
              unfold zeroC at hz
              split at hz
              · rename_i zv hq
                have hr := V.cells_rep (S := S) (w := w) (m := m) (V.ofVal_rep zv) hz
                exact ⟨zv, by rw [hi3, hq], by have := hr.1; simp at this; omega⟩
              · cases hz
            split at h
            · rename_i id l
              split at h
              · rename_i e' sz len c hl
                split at h
                · rename_i he hsz'
                  obtain rfl := eq_of_beq' he
                  have hsz' := eq_of_beq' hsz'
                  simp only [Option.some.injEq, Prod.mk.injEq] at h
                  obtain ⟨rfl, rfl, rfl⟩ := h
                  subst hsz'
                  rw [← hi1] at *
                  rw [← hi2] at *
                  cases hps with
                  | osl hm h00 =>
                    have hB := hs.heap id _ hl
                    rw [hm] at hB
                    obtain ⟨rfl, _⟩ := rows_slice hB
                    obtain ⟨xs, hown, hc, h1c⟩ := hB
                    have o1 : Ext i.size l k c cx n c' := ho _ (by simp)
                    have o2 : n * i.bytes ≤ 140737488355328 := ho _ (by simp)
                    have o3 : n ≤ maxLen := ho _ (by simp)
                    obtain ⟨v', w', h2, h3, h4, h5⟩ := append_rows (ty := ty) hs hg hu hi hzv hzs (by omega) d hq (some id) _ l c xs hown hc h1c (.inr ⟨id, _, rfl, hl, by rw [hm]⟩) hpx hsrc o1 o2 o3
                    exact ⟨v', w', _, h2, h3, h4, h5⟩
                · cases h
              · cases h
            · simp only [Option.some.injEq, Prod.mk.injEq] at h
              obtain ⟨rfl, rfl, rfl⟩ := h
              rw [← hi1] at *
              rw [← hi2] at *
              cases hps
              have o1 : Ext i.size 0 k (fun _ _ => .junk) cx n c' := ho _ (by simp)
              have o2 : n * i.bytes ≤ 140737488355328 := ho _ (by simp)
              have o3 : n ≤ maxLen := ho _ (by simp)
              obtain ⟨v', w', h2, h3, h4, h5⟩ := append_rows (ty := ty) hs hg hu hi hzv hzs (by omega) d hq none _ 0 _ [] (World.ownsRow_nil _ _ _ _) (fun i' j h => absurd h (by omega)) (by simp) (.inl ⟨rfl, rfl⟩) hpx hsrc o1 o2 o3
              exact ⟨v', w', _, h2, Sim.reheap h3 (fun id b hb => by rw [hget_hins] at hb; simpa only [oldHeap, hget_cons] using hb), h4, h5⟩
            · cases h
          · cases h
        · cases h
      · cases h
    · cases h
  · cases h

end Go.Proofs.Ytgedafbejcpioaa
