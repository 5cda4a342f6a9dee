/-
  Laws for rows of many cells: copy.
-/
import Derived.Test.YtgedafbejcpioaaAmY
import Derived.Lib.AppendZerosOnto
import Derived.Lib.Overlaps
import Derived.Laws.IdiomCopy
import Derived.Laws.Externs
import Derived.WalkKit
namespace Go.Proofs.Ytgedafbejcpioaa
open Go.RowKit Go.Lib
set_option linter.unusedSimpArgs false
set_option linter.unusedVariables false

/-- copy, of rows of whatever size, into a block of plain memory: all is read ahead of the writing. -/
theorem run_copy_rowK {P : Program} (w : World) (dT sT ty elem : TypeId) (size g o dLen dCap : Nat) (a : Addr) (sLen sCap : Nat) (cur : Array Value) (t : TypeId) (cs : List Value)
    (hu : P.underlying dT = some (.slice elem)) (hs : (P.info? elem).map (·.size) = some size) (hn : cs.length = Nat.min sLen dLen * size)
    (hsrc : ∀ j v, cs[j]? = some v → w.cell? (a.add j) = some v) (hg : w.heap[g]? = some (.cells cur t (0, 0))) (hfit : o + cs.length ≤ cur.size) (h1 : ∀ v ∈ cs, v.oneCell' = true) :
    (Builtin.copy_ #[dT, sT] ty #[.slice (some ⟨g, o, none⟩) dLen dCap, .slice (some a) sLen sCap]).run P w = .ok (goInt (Nat.min sLen dLen)) (w.setRow g (splice cur.toList o cs).toArray) := by
  have hl := run_loadCells_list (P := P) w a cs hsrc
  have hst := run_storeCells_at P g o t cs 0 cur w hg (by simpa using hfit) h1
  cases hq : P.info? elem with
  | none => simp [hq] at hs
  | some i =>
    have hi : i.size = size := by simpa [hq] using hs
    simp [Builtin.copy_, run_underlying hu, Builtin.lenOf, Builtin.firstCells, sizeOf, typeInfo, hq, hi, ← hn, hl, hst, splice]

theorem idx_lt {i j n K : Nat} (hi : i < n) (hj : j < K) : i * K + j < n * K := by
  have : (i + 1) * K ≤ n * K := Nat.mul_le_mul_right _ hi
  rw [Nat.add_mul] at this
  omega

/-- The rows of a list, cell by cell. -/
def RowsAt {α : Type} (S : Nat → Prop) (w : World) (K : Nat) (enc : α → List C) (d : α) (l : List α) (xs : List Value) : Prop :=
  xs.length = l.length * K ∧ (∀ i j, i < l.length → j < K → ∃ x, xs[i * K + j]? = some x ∧ RepC S w none' (rowsOf enc d l i j) x) ∧ ∀ x ∈ xs, x.oneCell' = true

theorem RowsAt.app {α : Type} {S : Nat → Prop} {w : World} {K : Nat} {enc : α → List C} {d : α} {l l' : List α} {xs xs' : List Value} (h : RowsAt S w K enc d l xs) (h' : RowsAt S w K enc d l' xs') : RowsAt S w K enc d (l ++ l') (xs ++ xs') := by
  obtain ⟨a, b, c⟩ := h
  obtain ⟨a', b', c'⟩ := h'
  refine ⟨by simp [a, a', Nat.add_mul], fun i j hi hj => ?_, fun x hx => ?_⟩
  · simp only [rowsOf]
    by_cases h : i < l.length
    · obtain ⟨x, h1, h2⟩ := b i j h hj
      have := idx_lt h hj
      refine ⟨x, by rw [List.getElem?_append_left (by omega)]; exact h1, ?_⟩
      simp only [rowsOf] at h2
      rw [show (l ++ l').getD i d = l.getD i d by simp only [List.getD_eq_getElem?_getD]; rw [List.getElem?_append_left h]]
      exact h2
    · simp only [List.length_append] at hi
      obtain ⟨x, h1, h2⟩ := b' (i - l.length) j (by omega) hj
      have h3 : l.length * K ≤ i * K := Nat.mul_le_mul_right _ (by omega)
      refine ⟨x, by rw [List.getElem?_append_right (by omega), a, ← h1]; congr 1; rw [Nat.sub_mul]; omega, ?_⟩
      simp only [rowsOf] at h2
      rw [show (l ++ l').getD i d = l'.getD (i - l.length) d by simp only [List.getD_eq_getElem?_getD]; rw [List.getElem?_append_right (by omega)]]
      exact h2
  · rcases List.mem_append.1 hx with h | h
    · exact c x h
    · exact c' x h

theorem RowsAt.take {α : Type} {S : Nat → Prop} {w : World} {K : Nat} {enc : α → List C} {d : α} {l : List α} {xs : List Value} (h : RowsAt S w K enc d l xs) {n : Nat} (hn : n ≤ l.length) : RowsAt S w K enc d (l.take n) (xs.take (n * K)) := by
  obtain ⟨a, b, c⟩ := h
  have hm : n * K ≤ l.length * K := Nat.mul_le_mul_right _ hn
  refine ⟨by simp [a, Nat.min_eq_left hn, Nat.min_eq_left hm], fun i j hi hj => ?_, fun x hx => c x (List.mem_of_mem_take hx)⟩
  simp only [List.length_take] at hi
  obtain ⟨x, h1, h2⟩ := b i j (by omega) hj
  have := idx_lt (show i < n by omega) hj
  refine ⟨x, by rw [List.getElem?_take, if_pos this]; exact h1, ?_⟩
  simp only [rowsOf] at h2 ⊢
  rw [show (l.take n).getD i d = l.getD i d by simp only [List.getD_eq_getElem?_getD]; rw [List.getElem?_take, if_pos (by omega)]]
  exact h2

theorem RowsAt.drop {α : Type} {S : Nat → Prop} {w : World} {K : Nat} {enc : α → List C} {d : α} {l : List α} {xs : List Value} (h : RowsAt S w K enc d l xs) {n : Nat} (hn : n ≤ l.length) : RowsAt S w K enc d (l.drop n) (xs.drop (n * K)) := by
  obtain ⟨a, b, c⟩ := h
  refine ⟨by simp [a, Nat.sub_mul], fun i j hi hj => ?_, fun x hx => c x (List.mem_of_mem_drop hx)⟩
  simp only [List.length_drop] at hi
  obtain ⟨x, h1, h2⟩ := b (n + i) j (by omega) hj
  refine ⟨x, by rw [List.getElem?_drop, ← h1]; congr 1; rw [Nat.add_mul]; omega, ?_⟩
  simp only [rowsOf] at h2 ⊢
  rw [show (l.drop n).getD i d = l.getD (n + i) d by simp only [List.getD_eq_getElem?_getD]; rw [List.getElem?_drop]]
  exact h2

theorem RowsAt.keep {α : Type} {S : Nat → Prop} {w w' : World} {K : Nat} {enc : α → List C} {d : α} {l : List α} {xs : List Value} (h : RowsAt S w K enc d l xs) (hw : Agree S w w') : RowsAt S w' K enc d l xs :=
  ⟨h.1, fun i j hi hj => by obtain ⟨x, h1, h2⟩ := h.2.1 i j hi hj; exact ⟨x, h1, h2.keep hw fun _ h => h⟩, h.2.2⟩

theorem RowsAt.of {α : Type} {S : Nat → Prop} {w : World} {m : Mp} {mb : Value} {E : TypeId} {K : Nat} {enc : α → List C} {d : α} {l : List α} (h : RepB S w m mb (.rows E K l.length (rowsOf enc d l))) :
    ∃ xs, w.ownsRow 0 E K mb l.length xs ∧ RowsAt S w K enc d l xs := by
  obtain ⟨xs, h1, h2, h3⟩ := h
  exact ⟨xs, h1, h1.1, h2, h3⟩

/-- A call that gives a row of its own. -/
theorem gives_rows {α : Type} {no S : Nat → Prop} {m : Mp} {w w' : World} {E : TypeId} {K : Nat} {enc : α → List C} {d : α} {l : List α} {xs : List Value} {v : Value} (hS : ∀ b, S b → b < w.heap.size) (hno : ∀ k, no k → k < w.heap.size)
    (hown : w'.ownsRow 0 E K v l.length xs) (hrow : RowsAt S w K enc d l xs) (hb : Bel no w w') (hag : Agree S w w') (hfree : ∀ k, v.ownBlock = some k → ¬ S k ∧ ¬ no k ∧ k < w'.heap.size) (hL : ∀ b, m.L b → no b) :
    ∃ x S' m', Ending.returned v = .returned x ∧ Goes no S S' w w' ∧ (∀ b, S' b → b < w'.heap.size) ∧ HeapRep no S' m' [(99999, .rows E K l.length (rowsOf enc d l))] w' ∧ RepV S' w' m' (.one (.osl 99999 l.length)) x ∧ Pins m' m := by
  have hget : ∀ {b : B} {id : Nat}, hget [(99999, B.rows E K l.length (rowsOf enc d l))] id = some b → id = 99999 ∧ b = .rows E K l.length (rowsOf enc d l) := by
    intro b id h
    rw [hget_cons] at h
    split at h
    · rename_i e; cases h; exact ⟨e.symm, rfl⟩
    · cases h
  obtain ⟨hblk, av, cv, rfl, hle⟩ := own_blk hown
  have hv0 : l.length = 0 ∨ ∃ b, av = some ⟨b, 0, none⟩ := by
    rcases hown.2 with ⟨h3, h4⟩ | ⟨g, cap', cur, h3, _⟩
    · exact .inl h4
    · cases h3; exact .inr ⟨g, rfl⟩
  refine ⟨_, S, ⟨fun id => if id = 99999 then .slice av l.length cv else m id, m.L⟩, rfl, ⟨hb, fun _ h => h, fun _ h => .inl h⟩, fun b h => Nat.lt_of_lt_of_le (hS b h) hb.size, ⟨fun id b' h => ?_, fun id b' h k hk => ?_, fun i j b1 b2 hne h1 h2 => ?_, hL⟩, RepC.osl (by simp) hv0 hle, fun id hid => by simp only [pinBase] at hid; show (if id = 99999 then _ else _) = _; rw [if_neg (by omega)], rfl⟩
  · obtain ⟨rfl, rfl⟩ := hget h
    exact ⟨xs, hown, fun i j hi hj => (hrow.keep hag).2.1 i j hi hj, hrow.2.2⟩
  · obtain ⟨rfl, rfl⟩ := hget h
    exact hfree k (by rw [hblk]; exact hk)
  · exact absurd ((hget h1).1.trans (hget h2).1.symm) hne

theorem osl_val {S : Nat → Prop} {w : World} {m : Mp} {id n : Nat} {x : Value} (h : RepC S w m (.osl id n) x) : x = m id ∧ ∃ a c, x = .slice a n c := by
  cases h with
  | osl h h0 _ => exact ⟨h.symm, _, _, rfl⟩

/-- slices.Insert(s, i, v..), of its four roads. -/
theorem insert_call {α : Type} {P : Program} {F : FuncId} {S E : TypeId} {K BY : Nat} {i0 : TypeInfo} {z : Value} (hf : FnOk P F) (hu : P.underlying S = some (.slice E)) (hi0 : P.info? E = some i0) (hz : i0.zero = some z) (hsz : i0.size = K) (hby : i0.bytes = BY) (hzs : z.cells.size = K) (hK : 0 < K)
    (shift : ∀ (b n c i vb m vc : Nat) (cur vcur : Array Value) (w : World), i < n → 0 < m → n + m ≤ c → c ≤ maxLen → vb ≠ b → w.heap[b]? = some (.cells cur E (0, 0)) → cur.size = c * K → w.heap[vb]? = some (.cells vcur E (0, 0)) → m ≤ vc → vcur.size = vc * K →
      (∀ v ∈ cur.toList.take (n * K), v.oneCell' = true) → (∀ v ∈ vcur.toList.take (m * K), v.oneCell' = true) →
      Calls P F #[.slice (some ⟨b, 0, none⟩) n c, .int .i64 i, .slice (some ⟨vb, 0, none⟩) m vc] w fun e w' =>
        ∃ R : Array Value, e = .returned (.slice (some ⟨b, 0, none⟩) (n + m) c) ∧ w.drawn ≤ w'.drawn ∧ w.grownBy w' (some b) ∧ w'.heap[b]? = some (.cells R E (0, 0)) ∧ R.size = c * K ∧
          R.toList.take ((n + m) * K) = cur.toList.take (i * K) ++ vcur.toList.take (m * K) ++ (cur.toList.drop (i * K)).take ((n - i) * K))
    (grow : ∀ (b n c i vb m vc : Nat) (cur vcur : Array Value) (w : World), i < n → 0 < m → n ≤ c → c < n + m → (n + m) * BY ≤ 140737488355328 → w.heap[b]? = some (.cells cur E (0, 0)) → cur.size = c * K → w.heap[vb]? = some (.cells vcur E (0, 0)) → m ≤ vc → vcur.size = vc * K →
      (∀ v ∈ cur.toList.take (n * K), v.oneCell' = true) → (∀ v ∈ vcur.toList.take (m * K), v.oneCell' = true) →
      Calls P F #[.slice (some ⟨b, 0, none⟩) n c, .int .i64 i, .slice (some ⟨vb, 0, none⟩) m vc] w fun e w' =>
        ∃ (G : Nat) (R : Array Value), e = .returned (.slice (some ⟨w.heap.size, 0, none⟩) (n + m) G) ∧ w.drawn ≤ w'.drawn ∧ Below w.heap.size w w' ∧ w'.heap[w.heap.size]? = some (.cells R E (0, 0)) ∧ n + m ≤ G ∧ G ≤ maxLen ∧ R.size = G * K ∧
          R.toList.take ((n + m) * K) = cur.toList.take (i * K) ++ vcur.toList.take (m * K) ++ (cur.toList.drop (i * K)).take ((n - i) * K))
    (fin : ∀ (base : Option Addr) (n c vb m vc : Nat) (w w' : World) (v' : Value), n ≤ c → c ≤ maxLen → 0 < m → (base = none → n = 0) → m ≤ maxLen →
      (∀ ty, (Builtin.append_ #[S, S] ty #[.slice base n c, .slice (some ⟨vb, 0, none⟩) m vc]).run P w = .ok v' w') →
      Calls P F #[.slice base n c, .int .i64 n, .slice (some ⟨vb, 0, none⟩) m vc] w fun e w1 => e = .returned v' ∧ w' = w1)
    {enc : α → List C} {d : α} (l v : List α) (i : Nat) (hi : i ≤ l.length) (hv : 0 < v.length) (hb : (l.length + v.length) * BY ≤ 140737488355328) (h63 : l.length + v.length ≤ maxLen) :
    HCall P F [(100000, .rows E K l.length (rowsOf enc d l)), (100001, .rows E K v.length (rowsOf enc d v))] [.one (.osl 100000 l.length), .one (.lit (.int .i64 (i : Int))), .one (.osl 100001 v.length)]
      [(99999, .rows E K (l.take i ++ v ++ l.drop i).length (rowsOf enc d (l.take i ++ v ++ l.drop i)))] (.one (.osl 99999 (l.take i ++ v ++ l.drop i).length)) := by
  refine ⟨hf, fun no S' m w vs hS hno hrep hra => ?_⟩
  obtain ⟨hl, hra⟩ := hra
  obtain ⟨x0, hx0, hr0⟩ := hra 0 _ rfl
  obtain ⟨x1, hx1, hr1⟩ := hra 1 _ rfl
  obtain ⟨x2, hx2, hr2⟩ := hra 2 _ rfl
  have hvs : vs = [x0, x1, x2] := by
    match vs, hl with
    | [a, b, c], _ => simp at hx0 hx1 hx2; rw [hx0, hx1, hx2]
  subst hvs
  have e1 : x1 = .int .i64 (i : Int) := by cases hr1; rfl
  subst e1
  obtain ⟨e0, a0, c0, q0⟩ := osl_val hr0
  obtain ⟨e2, a2, c2, q2⟩ := osl_val hr2
  have g0 : hget [(100000, B.rows E K l.length (rowsOf enc d l)), (100001, B.rows E K v.length (rowsOf enc d v))] 100000 = some (.rows E K l.length (rowsOf enc d l)) := rfl
  have g2 : hget [(100000, B.rows E K l.length (rowsOf enc d l)), (100001, B.rows E K v.length (rowsOf enc d v))] 100001 = some (.rows E K v.length (rowsOf enc d v)) := rfl
  obtain ⟨xs, own0, row0⟩ := RowsAt.of (hrep.rep _ _ g0)
  obtain ⟨ys, own2, row2⟩ := RowsAt.of (hrep.rep _ _ g2)
  have free0 := hrep.own _ _ g0
  have free2 := hrep.own _ _ g2
  have apart := hrep.inj _ _ _ _ (by decide) g0 g2
  rw [← e0] at own0 free0 apart
  rw [← e2] at own2 free2 apart
  have hxl := own0.1
  have hyl := own2.1
  have hLl : (l.take i ++ v ++ l.drop i).length = l.length + v.length := by simp; omega
  have hrows : RowsAt S' w K enc d (l.take i ++ v ++ l.drop i) (xs.take (i * K) ++ ys ++ xs.drop (i * K)) := ((row0.take hi).app row2).app (row0.drop hi)
  -- the literal's block
  obtain ⟨vb, vc, vcur, h1, hgv, hvc, hvm, hvs, hyt⟩ : ∃ vb vc vcur, x2 = .slice (some ⟨vb, 0, none⟩) v.length vc ∧ w.heap[vb]? = some (.cells vcur E (0, 0)) ∧ v.length ≤ vc ∧ vc ≤ maxLen ∧ vcur.size = vc * K ∧ vcur.toList.take (v.length * K) = ys := by
    rcases own2.2 with ⟨_, h⟩ | ⟨g, cap, cur, h1, _, h2, h3, h4, h5, h6⟩
    · omega
    · exact ⟨g, cap, cur, h1, h2, h3, h4, h5, h6⟩
  subst h1
  have hone2 : ∀ u ∈ vcur.toList.take (v.length * K), u.oneCell' = true := by rw [hyt]; exact row2.2.2
  by_cases hend : i = l.length
  · -- at the end
    subst hend
    have happ : ∀ ty, ∃ v' w', (Builtin.append_ #[S, S] ty #[x0, .slice (some ⟨vb, 0, none⟩) v.length vc]).run P w = .ok v' w' ∧ w'.ownsRow 0 E K v' (l.length + v.length) (xs ++ ys) ∧ w.grownBy w' x0.ownBlock ∧ (v'.ownBlock = x0.ownBlock ∨ ∀ k, v'.ownBlock = some k → w.heap.size ≤ k) ∧ w.drawn ≤ w'.drawn := fun ty =>
      am_append_own w S ty E i0 z K BY hu hi0 hz hsz hby hzs hK x0 l.length xs own0 ⟨vb, 0, none⟩ v.length vc ys hyl (fun j u hj => own2.cells (g := vb) rfl j u hj) row2.2.2 h63 hb
    obtain ⟨v', w', hrun, hown', hgr, hwhere, hdr⟩ := happ 0
    have hrunall : ∀ ty, (Builtin.append_ #[S, S] ty #[x0, .slice (some ⟨vb, 0, none⟩) v.length vc]).run P w = .ok v' w' := fun ty => hrun
    have hlt' := hown'.lt
    have hcall : Calls P F #[x0, .int .i64 (l.length : Int), .slice (some ⟨vb, 0, none⟩) v.length vc] w fun e w1 => e = .returned v' ∧ w' = w1 := by
      subst q0
      refine fin a0 l.length c0 vb v.length vc w w' v' ?_ ?_ hv ?_ (Nat.le_trans hvc hvm) hrunall
      · rcases own0.2 with ⟨h, h0⟩ | ⟨g, cap, cur, h1, _, h2, h3, h4, _⟩
        · injection h with _ _ h5; omega
        · cases h1; exact h3
      · rcases own0.2 with ⟨h, h0⟩ | ⟨g, cap, cur, h1, _, h2, h3, h4, _⟩
        · injection h with _ _ h5; rw [h5]; simp [maxLen]
        · cases h1; exact h4
      · rintro rfl
        rcases own0.2 with ⟨h, h0⟩ | ⟨g, cap, cur, h1, _⟩
        · exact h0
        · cases h1
    refine hcall.mono ?_
    rintro e w1 ⟨rfl, rfl⟩
    have hxt : xs.take (l.length * K) ++ ys ++ xs.drop (l.length * K) = xs ++ ys := by rw [← hxl]; simp
    have hne : ∀ k, x0.ownBlock = some k → ¬ S' k ∧ ¬ no k ∧ k < w.heap.size := by
      intro k hk
      exact free0 k (by subst q0; cases a0 <;> simp [Value.ownBlock] at hk <;> simp [blk, hk])
    refine gives_rows (hL := hrep.lno) hS hno (by rw [hLl]; exact hown') (by rw [hxt] at hrows; exact hrows) ⟨hgr.os, hgr.tape, hgr.output, hgr.size, fun k hk => hgr.block k (hno k hk) (fun h => (hne k h.symm).2.1 hk), hdr⟩ (fun k hk => hgr.block k (hS k hk) (fun h => (hne k h.symm).1 hk)) ?_
    intro k hk
    rcases hwhere with h | h
    · rw [h] at hk
      exact ⟨(hne k hk).1, (hne k hk).2.1, Nat.lt_of_lt_of_le (hne k hk).2.2 hgr.size⟩
    · have h2 := h k hk
      exact ⟨fun hs => by have := hS k hs; omega, fun hs => by have := hno k hs; omega, (hlt' k hk).2⟩
  · have hil : i < l.length := by omega
    obtain ⟨b, c, cur, h1, hgc, hnc, hcm, hcs, hxt⟩ : ∃ b c cur, x0 = .slice (some ⟨b, 0, none⟩) l.length c ∧ w.heap[b]? = some (.cells cur E (0, 0)) ∧ l.length ≤ c ∧ c ≤ maxLen ∧ cur.size = c * K ∧ cur.toList.take (l.length * K) = xs := by
      rcases own0.2 with ⟨_, h⟩ | ⟨g, cap, cur, h1, _, h2, h3, h4, h5, h6⟩
      · omega
      · exact ⟨g, cap, cur, h1, h2, h3, h4, h5, h6⟩
    subst h1
    have hone0 : ∀ u ∈ cur.toList.take (l.length * K), u.oneCell' = true := by rw [hxt]; exact row0.2.2
    have hbv : vb ≠ b := fun h => apart b rfl (by rw [h]; rfl)
    have hfb := free0 b rfl
    have hik : i * K ≤ l.length * K := Nat.mul_le_mul_right _ hi
    have hparts : cur.toList.take (i * K) ++ vcur.toList.take (v.length * K) ++ (cur.toList.drop (i * K)).take ((l.length - i) * K) = xs.take (i * K) ++ ys ++ xs.drop (i * K) := by
      rw [hyt, ← hxt, List.take_take, Nat.min_eq_left hik, List.drop_take, Nat.sub_mul]
    by_cases hroom : l.length + v.length ≤ c
    · refine (shift b l.length c i vb v.length vc cur vcur w hil hv hroom hcm hbv hgc hcs hgv hvc hvs hone0 hone2).mono ?_
      rintro e w' ⟨R, rfl, hdr, hgr, hat, hRs, hRt⟩
      rw [hparts] at hRt
      refine gives_rows (hL := hrep.lno) hS hno (by rw [hLl]; exact ⟨by rw [hrows.1, hLl], .inr ⟨b, c, R, rfl, Nat.zero_le _, hat, hroom, hcm, hRs, hRt⟩⟩) hrows ⟨hgr.os, hgr.tape, hgr.output, hgr.size, fun k hk => hgr.block k (hno k hk) (fun h => hfb.2.1 (by cases h; exact hk)), hdr⟩ (fun k hk => hgr.block k (hS k hk) (fun h => hfb.1 (by cases h; exact hk))) ?_
      intro k hk
      cases hk
      exact ⟨hfb.1, hfb.2.1, Nat.lt_of_lt_of_le hfb.2.2 hgr.size⟩
    · refine (grow b l.length c i vb v.length vc cur vcur w hil hv hnc (by omega) hb hgc hcs hgv hvc hvs hone0 hone2).mono ?_
      rintro e w' ⟨G, R, rfl, hdr, hbl, hat, hGn, hGm, hRs, hRt⟩
      rw [hparts] at hRt
      refine gives_rows (hL := hrep.lno) hS hno (by rw [hLl]; exact ⟨by rw [hrows.1, hLl], .inr ⟨w.heap.size, G, R, rfl, Nat.zero_le _, hat, hGn, hGm, hRs, hRt⟩⟩) hrows ⟨hbl.os, hbl.tape, hbl.output, hbl.size, fun k hk => hbl.block k (hno k hk), hdr⟩ (fun k hk => hbl.block k (hS k hk)) ?_
      intro k hk
      obtain rfl : w.heap.size = k := Option.some.inj hk
      exact ⟨fun hs => Nat.lt_irrefl _ (hS _ hs), fun hs => Nat.lt_irrefl _ (hno _ hs), (Array.getElem?_eq_some_iff.1 hat).1⟩

/-- slices.Grow(nil, n). -/
theorem grow_call {α : Type} {P : Program} {F : FuncId} {E : TypeId} {K : Nat} (hf : FnOk P F) (n : Nat)
    (room : n = 0 → ∀ w, Calls P F #[.slice none 0 0, .int .i64 (n : Int)] w fun e w' => e = .returned (.slice none 0 0) ∧ w' = w)
    (grow : 0 < n → ∀ w, Calls P F #[.slice none 0 0, .int .i64 (n : Int)] w fun e w' => ∃ (G : Nat) (cs : Array Value), e = .returned (.slice (some ⟨w.heap.size, 0, none⟩) 0 G) ∧ w' = w.drew.alloc (.cells cs E) ∧ cs.size = G * K ∧ G ≤ maxLen)
    {enc : α → List C} {d : α} : HCall P F [] [.one (.lit (.slice none 0 0)), .one (.lit (.int .i64 (n : Int)))] [(99999, .rows E K ([] : List α).length (rowsOf enc d ([] : List α)))] (.one (.osl 99999 ([] : List α).length)) := by
  refine ⟨hf, fun no S' m w vs hS hno hrep hra => ?_⟩
  obtain ⟨hl, hra⟩ := hra
  obtain ⟨x0, hx0, hr0⟩ := hra 0 _ rfl
  obtain ⟨x1, hx1, hr1⟩ := hra 1 _ rfl
  have hvs : vs = [x0, x1] := by
    match vs, hl with
    | [a, b], _ => cases hx0; cases hx1; rfl
  subst hvs
  cases hr0
  cases hr1
  have hz : ∀ w, RowsAt S' w K enc d ([] : List α) [] := fun w => ⟨by simp, fun i j hi => absurd hi (by simp), by simp⟩
  rcases Nat.eq_zero_or_pos n with h0 | h0
  · refine (room h0 w).mono ?_
    rintro e w' ⟨rfl, rfl⟩
    exact gives_rows (hL := hrep.lno) hS hno ⟨by simp, .inl ⟨rfl, rfl⟩⟩ (hz _) ⟨rfl, rfl, rfl, Nat.le_refl _, fun _ _ => rfl, Nat.le_refl _⟩ (fun _ _ => rfl) (fun k hk => by cases hk)
  · refine (grow h0 w).mono ?_
    rintro e w' ⟨G, cs, rfl, rfl, h1, h2⟩
    have hold : ∀ k, k < w.heap.size → (w.drew.alloc (.cells cs E)).heap[k]? = w.heap[k]? := fun k hk => by
      show (w.heap.push (.cells cs E))[k]? = w.heap[k]?
      rw [Array.getElem?_push, if_neg (by omega)]
    have hnew : (w.drew.alloc (.cells cs E)).heap[w.heap.size]? = some (.cells cs E) := by
      show (w.heap.push (.cells cs E))[w.heap.size]? = _
      simp
    refine gives_rows (hL := hrep.lno) hS hno (xs := []) ⟨by simp, .inr ⟨w.heap.size, G, cs, rfl, Nat.zero_le _, hnew, Nat.zero_le _, h2, h1, by simp⟩⟩ (hz _) ⟨rfl, rfl, rfl, by show w.heap.size ≤ (w.heap.push _).size; simp, fun k hk => hold k (hno k hk), Nat.le_succ _⟩ (fun k hk => hold k (hS k hk)) ?_
    intro k hk
    obtain rfl : w.heap.size = k := Option.some.inj hk
    exact ⟨fun hs => Nat.lt_irrefl _ (hS _ hs), fun hs => Nat.lt_irrefl _ (hno _ hs), (Array.getElem?_eq_some_iff.1 hnew).1⟩

end Go.Proofs.Ytgedafbejcpioaa
