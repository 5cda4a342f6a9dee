/-
  HOW ARGUMENTS ARE OPENED, over whatever program: whatever reads as data is a Lean value, told as a tree.
-/
import Derived.Test.YtgedafbejcpioaaAmW
import Derived.OpenShut
import Derived.Deep.Slices
import Derived.WideShapes
namespace Go.Proofs.Ytgedafbejcpioaa
open Go.RowKit
set_option linter.unusedSimpArgs false
set_option linter.unusedVariables false

/-- Whatever reads as data at type t is a Lean value that is right. -/
structure Opn (P : Program) (t : TypeId) {α : Type} (enc : α → List C) (ok : α → Prop) : Prop where
  get : ∀ {H : Type} (en : TypeId × Value → H) (w : World) (base : Nat) (spare : Nat → Bool) (held : Bool) (fuel : Nat) (cs : List Value) (x : DataW H × List MemPlace),
    DataW.trod en P w base spare held fuel t cs = some x → ∃ a : α, RepL (fun b => b < w.heap.size) w none' (enc a) cs ∧ ok a

def okI (k : IntKind) (n : Int) : Prop := (Lit.int k n).wf = true
theorem okI_i64 {n : Int} (h : okI .i64 n) : -9223372036854775808 ≤ n ∧ n ≤ 9223372036854775807 := bounds_i64 h
theorem okI_u64 {n : Int} (h : okI .u64 n) : 0 ≤ n ∧ n ≤ 18446744073709551615 := bounds_u64 h
def okB (_ : Bool) : Prop := True
def okS (s : ByteArray) : Prop := s.size ≤ maxLen
def okL {α : Type} (ok : α → Prop) (l : List α) : Prop := l.length ≤ maxLen ∧ ∀ a ∈ l, ok a
def okP {α β : Type} (ok : α → Prop) (ok' : β → Prop) (p : α × β) : Prop := ok p.1 ∧ ok' p.2

theorem repL1 {S : Nat → Prop} {w : World} {m : Mp} {c : C} {x : Value} (h : RepC S w m c x) (h1 : x.oneCell' = true) : RepL S w m [c] [x] := by
  refine ⟨rfl, fun j c' hc => ?_, fun y hy => by rw [List.mem_singleton.1 hy]; exact h1⟩
  cases j with
  | zero => cases hc; exact ⟨x, rfl, h⟩
  | succ j => simp at hc

theorem repL_app {S : Nat → Prop} {w : World} {m : Mp} {l l' : List C} {xs xs' : List Value} (h : RepL S w m l xs) (h' : RepL S w m l' xs') : RepL S w m (l ++ l') (xs ++ xs') := by
  obtain ⟨a, b, c⟩ := h
  obtain ⟨a', b', c'⟩ := h'
  refine ⟨by simp [a, a'], fun j q hq => ?_, fun y hy => ?_⟩
  · by_cases hj : j < l.length
    · rw [List.getElem?_append_left hj] at hq
      obtain ⟨x, h1, h2⟩ := b j q hq
      exact ⟨x, by rw [List.getElem?_append_left (by omega)]; exact h1, h2⟩
    · rw [List.getElem?_append_right (by omega)] at hq
      obtain ⟨x, h1, h2⟩ := b' _ q hq
      exact ⟨x, by rw [List.getElem?_append_right (by omega), a]; exact h1, h2⟩
  · rcases List.mem_append.1 hy with h | h
    · exact c y h
    · exact c' y h

theorem repL_nil {S : Nat → Prop} {w : World} {m : Mp} : RepL S w m [] [] := ⟨rfl, fun j c h => by simp at h, fun y h => by simp at h⟩

theorem opn_int {P : Program} {t : TypeId} {k : IntKind} (ht : P.underlying t = some (.int k)) : Opn P t (cI k) (okI k) := by
  refine ⟨?_⟩
  intro H en w base spare held fuel cs x h
  obtain ⟨n, rfl, _, hw⟩ := DataW.trod_int ht h
  exact ⟨n, repL1 .lit rfl, hw⟩

theorem opn_bool {P : Program} {t : TypeId} (ht : P.underlying t = some .bool) : Opn P t cB okB := by
  refine ⟨?_⟩
  intro H en w base spare held fuel cs x h
  obtain ⟨b, rfl, _⟩ := DataW.trod_bool ht h
  exact ⟨b, repL1 .lit rfl, trivial⟩

theorem opn_list {α : Type} {p : Nat → α → Prop} : ∀ (n : Nat), (∀ i, i < n → ∃ y, p i y) → ∃ Y : List α, Y.length = n ∧ ∀ i (h : i < Y.length), p i Y[i]
  | 0, _ => ⟨[], rfl, fun i h => absurd h (by simp)⟩
  | k + 1, hy => by
    obtain ⟨Y, hl, hY⟩ := opn_list k (fun i hi => hy i (by omega))
    obtain ⟨y, hy1⟩ := hy k (by omega)
    refine ⟨Y ++ [y], by simp [hl], fun i hi => ?_⟩
    by_cases hik : i < Y.length
    · rw [List.getElem_append_left hik]
      exact hY i hik
    · have : i = k := by simp at hi; omega
      subst this
      rw [List.getElem_append_right (by omega)]
      simpa using hy1

theorem addr_addY (b o k : Nat) : (⟨b, o, none⟩ : Addr).add k = ⟨b, o + k, none⟩ := by
  unfold Addr.add
  by_cases h : k = 0
  · subst h; simp
  · simp [h]

theorem opn_slice {P : Program} {t e : TypeId} {α : Type} {enc : α → List C} {ok : α → Prop} {sz : Nat} {d : α} (ht : P.underlying t = some (.slice e)) (hc : P.cellsOf e = sz) (hz : 0 < sz) (hl : ∀ a, (enc a).length = sz) (he : Opn P e enc ok) :
    Opn P t (cLs sz enc d) (okL ok) := by
  refine ⟨?_⟩
  intro H en w base spare held fuel cs x h
  rcases Go.Deep.open_slice ht h with ⟨rfl, _⟩ | ⟨a, len, cap, m, n, D, Pl, rfl, _, hlc, hm, hmm, _, hx⟩
  · exact ⟨[], repL1 (.sl 0 0 (fun _ _ => undef) (Nat.le_refl _) (fun h => absurd h (by simp)) (fun i j h => absurd h (by simp)) (fun i j h => absurd h (by simp)) (fun i j h => absurd h (by simp))) rfl, by simp [maxLen], fun a h => absurd h (by simp)⟩
  · have hlm : len ≤ m := by rw [hmm]; split <;> omega
    have hy : ∀ i, i < len → ∃ y : α × List Value, w.cells? base (a.add (i * sz)) sz = some y.2 ∧ RepL (fun b => b < w.heap.size) w none' (enc y.1) y.2 ∧ ok y.1 := by
      intro i hi
      obtain ⟨cs', h1, h2⟩ := hx i (by omega)
      obtain ⟨y, h3, h4⟩ := he.get _ _ _ _ _ _ _ _ h2
      rw [hc] at h1
      exact ⟨(y, cs'), h1, h3, h4⟩
    obtain ⟨Y, hlen, hY⟩ := opn_list len hy
    refine ⟨Y.map (·.1), repL1 ?_ rfl, by simp [hlen]; omega, fun y hy => ?_⟩
    · show RepC _ _ _ (.sl sz (Y.map (·.1)).length (rowsOf enc d (Y.map (·.1)))) _
      have hll : (Y.map (·.1)).length = len := by simp [hlen]
      rw [hll]
      by_cases h0 : len = 0
      · subst h0
        exact .sl 0 0 (fun _ _ => undef) (by omega) (fun h => absurd h (by simp)) (fun i j h => absurd h (by simp)) (fun i j h => absurd h (by simp)) (fun i j h => absurd h (by simp))
      have hp : 0 < Y.length := by omega
      obtain ⟨h1, h2, _⟩ := hY 0 hp
      have hc0 : ∀ i (hi : i < Y.length) j, j < sz → w.cell? ((a.add (i * sz)).add j) = some ((Y[i].2).getD j undef) := by
        intro i hi j hj
        obtain ⟨k1, k2, k3⟩ := hY i hi
        obtain ⟨_, _, q⟩ := World.cells?_some k1
        have hlj : j < Y[i].2.length := by rw [k2.1, hl]; exact hj
        rw [q j (by first | exact hlj | exact hj)]
        simp [List.getElem?_eq_getElem hlj]
      have hsp : a.spot = none := by
        have h3 := hc0 0 hp 0 hz
        simpa [Addr.add] using World.cell?_spot h3
      obtain ⟨b, off, sp⟩ := a
      simp only at hsp
      subst hsp
      have hcell : ∀ i j, i < len → j < sz → w.cell? ⟨b, off + i * sz + j, none⟩ = some (((Y.getD i (d, [])).2).getD j undef) := by
        intro i j hi hj
        have := hc0 i (by omega) j hj
        rw [addr_addY, addr_addY] at this
        have hi' : i < Y.length := by omega
        have e : Y.getD i (d, []) = Y[i] := by simp [List.getD_eq_getElem?_getD, List.getElem?_eq_getElem hi']
        rw [e]
        exact this
      refine .sl b off (fun i j => ((Y.getD i (d, [])).2).getD j undef) (by omega) (fun _ => ⟨rfl, ?_⟩) hcell (fun i j hi hj => ?_) (fun i j hi hj => ?_)
      · show b < w.heap.size
        exact block_lt_of_cell (hcell 0 0 (by omega) hz)
      · have hi' : i < Y.length := by omega
        obtain ⟨_, k2, _⟩ := hY i hi'
        have hlj : j < Y[i].2.length := by rw [k2.1, hl]; exact hj
        simp only [List.getD_eq_getElem?_getD, List.getElem?_eq_getElem hi', Option.getD_some, List.getElem?_eq_getElem hlj]
        exact k2.2.2 _ (List.getElem_mem hlj)
      · have hi' : i < Y.length := by omega
        obtain ⟨_, k2, _⟩ := hY i hi'
        have hlj : j < Y[i].2.length := by rw [k2.1, hl]; exact hj
        have hle : j < (enc Y[i].1).length := by rw [hl]; exact hj
        simp only [rowsOf, List.getD_eq_getElem?_getD, List.getElem?_map, List.getElem?_eq_getElem hi', Option.map_some, Option.getD_some, List.getElem?_eq_getElem hlj, List.getElem?_eq_getElem hle]
        obtain ⟨x, hx1, hx2⟩ := k2.2.1 j _ (List.getElem?_eq_getElem hle)
        rw [List.getElem?_eq_getElem hlj] at hx1
        cases hx1
        exact hx2
    · obtain ⟨q, hq, rfl⟩ := List.mem_map.1 hy
      obtain ⟨i, hi, rfl⟩ := List.getElem_of_mem hq
      exact (hY i hi).2.2

/-- The fields of a struct from the k-th on, whose cells begin at o, read as α. -/
structure Tail (P : Program) (fs : Array Field) (N k o : Nat) {α : Type} (enc : α → List C) (ok : α → Prop) : Prop where
  get : ∀ {H : Type} (en : TypeId × Value → H) (w : World) (base : Nat) (spare : Nat → Bool) (held : Bool) (n : Nat) (cs : List Value) (xs : List (DataW H × List MemPlace)), cs.length = N → xs.length = fs.size →
    (∀ (i : Nat) (f : Field), fs[i]? = some f → DataW.trod en P w base spare held n f.type ((cs.drop f.offset).take (P.cellsOf f.type)) = xs[i]?) → ∃ a : α, RepL (fun b => b < w.heap.size) w none' (enc a) (cs.drop o) ∧ ok a

def cU (_ : Unit) : List C := []
def okU (_ : Unit) : Prop := True

theorem tail_nil {P : Program} {fs : Array Field} {N k : Nat} : Tail P fs N k N cU okU := by
  refine ⟨?_⟩
  intro H en w base spare held n cs xs hN hl hf
  exact ⟨(), by rw [List.drop_of_length_le (by omega)]; exact repL_nil, trivial⟩

theorem tail_cons {P : Program} {fs : Array Field} {N k o sz : Nat} {α β : Type} {ea : α → List C} {eb : β → List C} {oa : α → Prop} {ob : β → Prop} {f : Field} (hk : fs[k]? = some f) (ho : f.offset = o) (hs : P.cellsOf f.type = sz)
    (ha : Opn P f.type ea oa) (hr : Tail P fs N (k + 1) (o + sz) eb ob) : Tail P fs N k o (cP ea eb) (okP oa ob) := by
  refine ⟨?_⟩
  intro H en w base spare held n cs xs hN hl hf
  obtain ⟨b, hb1, hb2⟩ := hr.get en w base spare held n cs xs hN hl hf
  have h := hf k f hk
  have hlt : k < xs.length := by
    have := (Array.getElem?_eq_some_iff.1 hk).1
    omega
  rw [List.getElem?_eq_getElem hlt] at h
  obtain ⟨a, ha1, ha2⟩ := ha.get _ _ _ _ _ _ _ _ h
  refine ⟨(a, b), ?_, ha2, hb2⟩
  have := repL_app ha1 hb1
  rw [ho, hs, ← List.drop_drop, List.take_append_drop] at this
  exact this

theorem opn_struct {P : Program} {t : TypeId} {fs : Array Field} {N : Nat} {α β : Type} {ea : α → List C} {oa : α → Prop} {eb : β → List C} {ob : β → Prop} (ht : P.underlying t = some (.struct fs)) (hN : P.cellsOf t = N) (h : Tail P fs N 0 0 ea oa)
    (mk : α → β) (hc : ∀ a, eb (mk a) = ea a) (hd : ∀ a, oa a → ob (mk a)) : Opn P t eb ob := by
  refine ⟨?_⟩
  intro H en w base spare held fuel cs x hx
  obtain ⟨xs, n, _, _, hl, hlen, hf⟩ := DataW.trod_struct ht hx
  obtain ⟨a, h1, h2⟩ := h.get en w base spare held n cs xs (hl.trans hN) hlen hf
  exact ⟨mk a, by rw [hc]; exact h1, hd a h2⟩

/-- The elements of an array from the k-th on read as α. -/
structure ATail (P : Program) (e : TypeId) (sz n k : Nat) {α : Type} (enc : α → List C) (ok : α → Prop) : Prop where
  get : ∀ {H : Type} (en : TypeId × Value → H) (w : World) (base : Nat) (spare : Nat → Bool) (held : Bool) (m : Nat) (cs : List Value) (xs : List (DataW H × List MemPlace)), cs.length = n * sz → xs.length = n →
    (∀ (i : Nat), i < n → DataW.trod en P w base spare held m e ((cs.drop (i * sz)).take sz) = xs[i]?) → ∃ a : α, RepL (fun b => b < w.heap.size) w none' (enc a) (cs.drop (k * sz)) ∧ ok a

theorem atail_at {P : Program} {e : TypeId} {sz n k : Nat} {α : Type} {enc : α → List C} {ok : α → Prop} (hk : k < n) (ha : Opn P e enc ok)
    {H : Type} {en : TypeId × Value → H} {w : World} {base : Nat} {spare : Nat → Bool} {held : Bool} {m : Nat} {cs : List Value} {xs : List (DataW H × List MemPlace)} (hl : xs.length = n)
    (hf : ∀ (i : Nat), i < n → DataW.trod en P w base spare held m e ((cs.drop (i * sz)).take sz) = xs[i]?) : ∃ a : α, RepL (fun b => b < w.heap.size) w none' (enc a) ((cs.drop (k * sz)).take sz) ∧ ok a := by
  have h := hf k hk
  rw [List.getElem?_eq_getElem (by omega)] at h
  exact ha.get _ _ _ _ _ _ _ _ h

theorem atail_one {P : Program} {e : TypeId} {sz n k : Nat} {α : Type} {enc : α → List C} {ok : α → Prop} (hk : k + 1 = n) (ha : Opn P e enc ok) : ATail P e sz n k enc ok := by
  refine ⟨?_⟩
  intro H en w base spare held m cs xs hN hl hf
  obtain ⟨a, h1, h2⟩ := atail_at (k := k) (by omega) ha hl hf
  rw [List.take_of_length_le (by rw [List.length_drop, hN, ← hk, Nat.succ_mul]; omega)] at h1
  exact ⟨a, h1, h2⟩

theorem atail_cons {P : Program} {e : TypeId} {sz n k : Nat} {α β : Type} {ea : α → List C} {eb : β → List C} {oa : α → Prop} {ob : β → Prop} (hk : k < n) (ha : Opn P e ea oa) (hr : ATail P e sz n (k + 1) eb ob) : ATail P e sz n k (cP ea eb) (okP oa ob) := by
  refine ⟨?_⟩
  intro H en w base spare held m cs xs hN hl hf
  obtain ⟨b, hb1, hb2⟩ := hr.get en w base spare held m cs xs hN hl hf
  obtain ⟨a, ha1, ha2⟩ := atail_at (k := k) hk ha hl hf
  refine ⟨(a, b), ?_, ha2, hb2⟩
  have := repL_app ha1 hb1
  rw [Nat.succ_mul, ← List.drop_drop, List.take_append_drop] at this
  exact this

theorem opn_arr {P : Program} {t e : TypeId} {sz n : Nat} {α : Type} {enc : α → List C} {ok : α → Prop} (ht : P.underlying t = some (.array n e)) (hc : P.cellsOf e = sz) (hN : P.cellsOf t = n * sz) (h : ATail P e sz n 0 enc ok) : Opn P t enc ok := by
  refine ⟨?_⟩
  intro H en w base spare held fuel cs x hx
  obtain ⟨xs, m, _, _, hl, hlen, hf⟩ := DataW.trod_array ht hx
  rw [hc] at hf
  have := h.get en w base spare held m cs xs (hl.trans hN) hlen hf
  rwa [Nat.zero_mul, List.drop_zero] at this

/-! ### The law's own call -/
theorem repA_nil {S : Nat → Prop} {w : World} : RepA S w [] [] := ⟨rfl, fun j v h => by simp at h⟩
theorem repA_cons {S : Nat → Prop} {w : World} {v : V} {x : Value} {l : List V} {xs : List Value} (h : RepV S w none' v x) (hr : RepA S w l xs) : RepA S w (v :: l) (x :: xs) := by
  refine ⟨by simp [hr.1], fun j u hj => ?_⟩
  cases j with
  | zero => cases hj; exact ⟨x, rfl, h⟩
  | succ j => exact hr.2 j u (by simpa using hj)
theorem repV_one {S : Nat → Prop} {w : World} {l : List C} {x : Value} {c : C} (h : RepL S w none' l [x]) (hl : l = [c]) : RepV S w none' (.one c) x := by
  subst hl
  obtain ⟨y, hy, h2⟩ := h.2.1 0 c rfl
  cases hy
  exact h2
theorem repV_agg {S : Nat → Prop} {w : World} {l : List C} {c : Array Value} (h : RepL S w none' l c.toList) : RepV S w none' (.agg l) (.agg c) := ⟨c, rfl, h⟩

/-- A law whose walk says that it returns true: what its row asks. -/
theorem SCall.law {P : Program} {f : FuncId} {args : List V} (h : SCall P f args (.one (.lit (.bool true)))) {W : World} {vs : List Value} (hr : RepA (fun b => b < W.heap.size) W args vs) :
    Calls P f vs.toArray W fun e w' => e = .returned (.bool true) ∧ Below W.heap.size W w' := by
  refine (h.2 _ W vs (fun _ h => h) hr).mono ?_
  rintro e w' ⟨x, S', rfl, hg, _, hx⟩
  cases hx
  exact ⟨rfl, ⟨hg.below.os, hg.below.tape, hg.below.output, hg.below.size, fun k hk => hg.below.block k hk⟩⟩

end Go.Proofs.Ytgedafbejcpioaa
