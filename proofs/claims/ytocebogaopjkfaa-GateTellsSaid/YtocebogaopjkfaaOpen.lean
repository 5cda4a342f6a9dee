/-
  How arguments of package api's types are opened: whatever reads as data is such a Lean value. WRITTEN BY A PROGRAM OF MY OWN (wip/gen_api.py).
-/
import Derived.Test.YtocebogaopjkfaaProg
import Derived.Test.YtocebogaopjkfaaApi
import Derived.KernelRfl
import Derived.OpenShut
namespace Go.Proofs.Ytocebogaopjkfaa
open Go.RowKit

/-- Whatever reads as data at type t is the cells of an α that lies in memory. -/
structure Opens (P : Program) (t : TypeId) (α : Type) [Cells α] : Prop where
  get : ∀ {H : Type} (enc : TypeId × Value → H) (w : World) (base : Nat) (spare : Nat → Bool) (held : Bool) (fuel : Nat) (cs : List Value) (x : DataW H × List MemPlace),
    DataW.trod enc P w base spare held fuel t cs = some x → ∃ a : α, cs = Cells.cells a ∧ Cells.deep w a

theorem opens_int {P : Program} {t : TypeId} (ht : P.underlying t = some (.int .i64)) : Opens P t Int := by
  refine ⟨?_⟩
  intro H enc w base spare held fuel cs x h
  obtain ⟨n, rfl, _, hw⟩ := DataW.trod_int ht h
  exact ⟨n, rfl, bounds_i64 hw⟩

theorem opens_u64 {P : Program} {t : TypeId} (ht : P.underlying t = some (.int .u64)) : Opens P t UInt64 := by
  refine ⟨?_⟩
  intro H enc w base spare held fuel cs x h
  obtain ⟨n, rfl, _, hw⟩ := DataW.trod_int ht h
  have hb := bounds_u64 hw
  refine ⟨UInt64.ofNat n.toNat, ?_, trivial⟩
  show [Value.int .u64 n] = [Value.int .u64 _]
  have : (UInt64.ofNat n.toNat).toNat = n.toNat := by
    rw [UInt64.toNat_ofNat']
    exact Nat.mod_eq_of_lt (by omega)
  rw [this, Int.toNat_of_nonneg hb.1]

theorem opens_bool {P : Program} {t : TypeId} (ht : P.underlying t = some .bool) : Opens P t Bool := by
  refine ⟨?_⟩
  intro H enc w base spare held fuel cs x h
  obtain ⟨b, rfl, _⟩ := DataW.trod_bool ht h
  exact ⟨b, rfl, trivial⟩

theorem list_of {α : Type} {p : Nat → α → Prop} : ∀ (n : Nat), (∀ i, i < n → ∃ y, p i y) → ∃ Y : List α, Y.length = n ∧ ∀ i (h : i < Y.length), p i Y[i]
  | 0, _ => ⟨[], rfl, fun i h => absurd h (by simp)⟩
  | k + 1, hy => by
    obtain ⟨Y, hl, hY⟩ := list_of k (fun i hi => hy i (by omega))
    obtain ⟨y, hy1⟩ := hy k (by omega)
    refine ⟨Y ++ [y], by simp [hl], fun i hi => ?_⟩
    by_cases hik : i < Y.length
    · rw [List.getElem_append_left hik]
      exact hY i hik
    · have : i = k := by simp at hi; omega
      subst this
      rw [List.getElem_append_right (by omega)]
      simpa using hy1

theorem opens_slice {P : Program} {t e : TypeId} {α : Type} [Cells α] (ht : P.underlying t = some (.slice e)) (hc : P.cellsOf e = Cells.sz α) (hz : 0 < Cells.sz α) (he : Opens P e α) : Opens P t (Sl α) := by
  refine ⟨?_⟩
  intro H enc w base spare held fuel cs x h
  rcases Go.Deep.open_slice ht h with ⟨rfl, _⟩ | ⟨a, len, cap, m, n, D, Pl, rfl, _, hl, hm, hmm, _, hx⟩
  · exact ⟨⟨none, 0, []⟩, rfl, Nat.le_refl _, by show 0 ≤ _; omega, fun _ => rfl, Rows.nil _ _, fun _ h => absurd h (by simp)⟩
  · have hlm : len ≤ m := by rw [hmm]; split <;> omega
    have hy : ∀ i, i < len → ∃ y : α, w.cells? base (a.add (i * Cells.sz α)) (Cells.sz α) = some (Cells.cells y) ∧ Cells.deep w y := by
      intro i hi
      obtain ⟨cs', h1, h2⟩ := hx i (by omega)
      obtain ⟨y, rfl, h3⟩ := he.get _ _ _ _ _ _ _ _ h2
      rw [hc] at h1
      exact ⟨y, h1, h3⟩
    obtain ⟨Y, hlen, hY⟩ := list_of (p := fun i y => w.cells? base (a.add (i * Cells.sz α)) (Cells.sz α) = some (Cells.cells y) ∧ Cells.deep w y) len hy
    refine ⟨⟨some a, cap, Y⟩, by simp [Cells.cells, Sl.val, hlen], by show Y.length ≤ cap; omega, by simpa [maxLen] using hm, (fun h => by cases h), ?_, ?_⟩
    · intro i hi
      have h1 := (hY i hi).1
      have hi : i < Y.length := hi
      have hp : 0 < Y.length := by omega
      have h0 := (hY 0 hp).1
      have hsp : a.spot = none := by
        obtain ⟨_, _, h2⟩ := World.cells?_some h0
        have h3 := h2 0 hz
        have hl0 : 0 < (Cells.cells Y[0]).length := by rw [Cells.size]; exact hz
        rw [List.getElem?_eq_getElem hl0] at h3
        simpa [Addr.add] using World.cell?_spot h3
      obtain ⟨b, off, sp⟩ := a
      simp only at hsp
      subst hsp
      obtain ⟨_, _, h2⟩ := World.cells?_some h1
      refine ⟨b, off, rfl, fun j hj => ?_⟩
      have := h2 j hj
      rwa [addr_add, addr_add] at this
    · intro y hy
      obtain ⟨i, hi, rfl⟩ := List.getElem_of_mem hy
      exact (hY i hi).2


/-- The fields of a struct from the k-th on, whose cells begin at o, read as α. -/
structure Tail (P : Program) (fs : Array Field) (N k o : Nat) (α : Type) [Cells α] : Prop where
  get : ∀ {H : Type} (enc : TypeId × Value → H) (w : World) (base : Nat) (spare : Nat → Bool) (held : Bool) (n : Nat) (cs : List Value) (xs : List (DataW H × List MemPlace)), cs.length = N → xs.length = fs.size →
    (∀ (i : Nat) (f : Field), fs[i]? = some f → DataW.trod enc P w base spare held n f.type ((cs.drop f.offset).take (P.cellsOf f.type)) = xs[i]?) → ∃ a : α, cs.drop o = Cells.cells a ∧ Cells.deep w a

instance : Cells Unit where
  sz := 0
  cells _ := []
  deep _ _ := True
  size _ := rfl
  one _ v h := by simp at h
  keep h _ := h

instance {α β : Type} [Cells α] [Cells β] : Cells (α × β) where
  sz := Cells.sz α + Cells.sz β
  cells x := Cells.cells x.1 ++ Cells.cells x.2
  deep w x := Cells.deep w x.1 ∧ Cells.deep w x.2
  size x := by simp only [List.length_append, Cells.size]
  one x v h := by
    simp only [List.mem_append] at h
    rcases h with h | h
    all_goals exact Cells.one _ v h
  keep h hb := ⟨Cells.keep h.1 hb, Cells.keep h.2 hb⟩

theorem tail_nil {P : Program} {fs : Array Field} {N k : Nat} : Tail P fs N k N Unit := by
  refine ⟨?_⟩
  intro H enc w base spare held n cs xs hN hl hf
  exact ⟨(), by rw [List.drop_of_length_le (by omega)]; rfl, trivial⟩

theorem tail_cons {P : Program} {fs : Array Field} {N k o : Nat} {α β : Type} [Cells α] [Cells β] {f : Field} (hk : fs[k]? = some f) (ho : f.offset = o) (hs : P.cellsOf f.type = Cells.sz α)
    (ha : Opens P f.type α) (hr : Tail P fs N (k + 1) (o + Cells.sz α) β) : Tail P fs N k o (α × β) := by
  refine ⟨?_⟩
  intro H enc w base spare held n cs xs hN hl hf
  obtain ⟨b, hb1, hb2⟩ := hr.get enc w base spare held n cs xs hN hl hf
  have h := hf k f hk
  have hlt : k < xs.length := by
    have := (Array.getElem?_eq_some_iff.1 hk).1
    omega
  rw [List.getElem?_eq_getElem hlt] at h
  obtain ⟨a, ha1, ha2⟩ := ha.get _ _ _ _ _ _ _ _ h
  refine ⟨(a, b), ?_, ha2, hb2⟩
  show _ = Cells.cells a ++ Cells.cells b
  rw [← ha1, ← hb1, ho, hs, ← List.drop_drop, List.take_append_drop]

theorem opens_struct {P : Program} {t : TypeId} {fs : Array Field} {N : Nat} {α β : Type} [Cells α] [Cells β] (ht : P.underlying t = some (.struct fs)) (hN : P.cellsOf t = N) (h : Tail P fs N 0 0 α)
    (mk : α → β) (hc : ∀ a, Cells.cells (mk a) = Cells.cells a) (hd : ∀ w a, Cells.deep w a → Cells.deep w (mk a)) : Opens P t β := by
  refine ⟨?_⟩
  intro H enc w base spare held fuel cs x hx
  obtain ⟨xs, n, _, _, hl, hlen, hf⟩ := DataW.trod_struct ht hx
  obtain ⟨a, h1, h2⟩ := h.get enc w base spare held n cs xs (hl.trans hN) hlen hf
  exact ⟨mk a, by rw [hc, ← h1]; rfl, hd w a h2⟩

theorem opens_AddrD : Opens Try.prog 57 AddrD := opens_struct (N := 3) Try.underlying57 (by kernel_rfl) (tail_cons rfl rfl (by kernel_rfl) (opens_bool Try.underlying4) (tail_cons rfl rfl (by kernel_rfl) (opens_u64 Try.underlying22) (tail_cons rfl rfl (by kernel_rfl) (opens_u64 Try.underlying22) (tail_nil)))) (fun (a : Bool × UInt64 × UInt64 × Unit) => (⟨a.1, a.2.1, a.2.2.1⟩ : AddrD)) (fun _ => rfl) (fun _ _ h => h)

theorem opens_NetD : Opens Try.prog 131 NetD := opens_struct (N := 4) Try.underlying131 (by kernel_rfl) (tail_cons rfl rfl (by kernel_rfl) (opens_AddrD) (tail_cons rfl rfl (by kernel_rfl) (opens_int Try.underlying3) (tail_nil))) (fun (a : AddrD × Int × Unit) => (⟨a.1, a.2.1⟩ : NetD)) (fun _ => rfl) (fun _ _ h => h)

theorem opens_EndD : Opens Try.prog 59 EndD := opens_struct (N := 4) Try.underlying59 (by kernel_rfl) (tail_cons rfl rfl (by kernel_rfl) (opens_AddrD) (tail_cons rfl rfl (by kernel_rfl) (opens_int Try.underlying3) (tail_nil))) (fun (a : AddrD × Int × Unit) => (⟨a.1, a.2.1⟩ : EndD)) (fun _ => rfl) (fun _ _ h => h)

theorem opens_BanD : Opens Try.prog 133 BanD := opens_struct (N := 5) Try.underlying133 (by kernel_rfl) (tail_cons rfl rfl (by kernel_rfl) (opens_NetD) (tail_cons rfl rfl (by kernel_rfl) (opens_int Try.underlying3) (tail_nil))) (fun (a : NetD × Int × Unit) => (⟨a.1, a.2.1⟩ : BanD)) (fun _ => rfl) (fun _ _ h => h)

theorem opens_ScoreD : Opens Try.prog 61 ScoreD := opens_struct (N := 2) Try.underlying61 (by kernel_rfl) (tail_cons rfl rfl (by kernel_rfl) (opens_int Try.underlying3) (tail_cons rfl rfl (by kernel_rfl) (opens_int Try.underlying3) (tail_nil))) (fun (a : Int × Int × Unit) => (⟨a.1, a.2.1⟩ : ScoreD)) (fun _ => rfl) (fun _ _ h => h)

theorem opens_PeerD : Opens Try.prog 63 PeerD := opens_struct (N := 10) Try.underlying63 (by kernel_rfl) (tail_cons rfl rfl (by kernel_rfl) (opens_EndD) (tail_cons rfl rfl (by kernel_rfl) (opens_bool Try.underlying4) (tail_cons rfl rfl (by kernel_rfl) (opens_int Try.underlying3) (tail_cons rfl rfl (by kernel_rfl) (opens_ScoreD) (tail_cons rfl rfl (by kernel_rfl) (opens_int Try.underlying3) (tail_cons rfl rfl (by kernel_rfl) (opens_int Try.underlying3) (tail_nil))))))) (fun (a : EndD × Bool × Int × ScoreD × Int × Int × Unit) => (⟨a.1, a.2.1, a.2.2.1, a.2.2.2.1, a.2.2.2.2.1, a.2.2.2.2.2.1⟩ : PeerD)) (fun _ => rfl) (fun _ _ h => h)

theorem opens_EntryD : Opens Try.prog 105 EntryD := opens_struct (N := 7) Try.underlying105 (by kernel_rfl) (tail_cons rfl rfl (by kernel_rfl) (opens_EndD) (tail_cons rfl rfl (by kernel_rfl) (opens_int Try.underlying3) (tail_cons rfl rfl (by kernel_rfl) (opens_int Try.underlying3) (tail_cons rfl rfl (by kernel_rfl) (opens_int Try.underlying3) (tail_nil))))) (fun (a : EndD × Int × Int × Int × Unit) => (⟨a.1, a.2.1, a.2.2.1, a.2.2.2.1⟩ : EntryD)) (fun _ => rfl) (fun _ _ h => h)

theorem opens_QuotaD : Opens Try.prog 24 QuotaD := opens_struct (N := 4) Try.underlying24 (by kernel_rfl) (tail_cons rfl rfl (by kernel_rfl) (opens_int Try.underlying3) (tail_cons rfl rfl (by kernel_rfl) (opens_int Try.underlying3) (tail_cons rfl rfl (by kernel_rfl) (opens_int Try.underlying3) (tail_cons rfl rfl (by kernel_rfl) (opens_int Try.underlying3) (tail_nil))))) (fun (a : Int × Int × Int × Int × Unit) => (⟨a.1, a.2.1, a.2.2.1, a.2.2.2.1⟩ : QuotaD)) (fun _ => rfl) (fun _ _ h => h)

theorem opens_ConfD : Opens Try.prog 26 ConfD := opens_struct (N := 16) Try.underlying26 (by kernel_rfl) (tail_cons rfl rfl (by kernel_rfl) (opens_int Try.underlying3) (tail_cons rfl rfl (by kernel_rfl) (opens_int Try.underlying3) (tail_cons rfl rfl (by kernel_rfl) (opens_int Try.underlying3) (tail_cons rfl rfl (by kernel_rfl) (opens_int Try.underlying3) (tail_cons rfl rfl (by kernel_rfl) (opens_int Try.underlying3) (tail_cons rfl rfl (by kernel_rfl) (opens_u64 Try.underlying22) (tail_cons rfl rfl (by kernel_rfl) (opens_QuotaD) (tail_cons rfl rfl (by kernel_rfl) (opens_int Try.underlying3) (tail_cons rfl rfl (by kernel_rfl) (opens_int Try.underlying3) (tail_cons rfl rfl (by kernel_rfl) (opens_int Try.underlying3) (tail_cons rfl rfl (by kernel_rfl) (opens_int Try.underlying3) (tail_cons rfl rfl (by kernel_rfl) (opens_int Try.underlying3) (tail_cons rfl rfl (by kernel_rfl) (opens_int Try.underlying3) (tail_nil)))))))))))))) (fun (a : Int × Int × Int × Int × Int × UInt64 × QuotaD × Int × Int × Int × Int × Int × Int × Unit) => (⟨a.1, a.2.1, a.2.2.1, a.2.2.2.1, a.2.2.2.2.1, a.2.2.2.2.2.1, a.2.2.2.2.2.2.1, a.2.2.2.2.2.2.2.1, a.2.2.2.2.2.2.2.2.1, a.2.2.2.2.2.2.2.2.2.1, a.2.2.2.2.2.2.2.2.2.2.1, a.2.2.2.2.2.2.2.2.2.2.2.1, a.2.2.2.2.2.2.2.2.2.2.2.2.1⟩ : ConfD)) (fun _ => rfl) (fun _ _ h => h)




theorem opens_LocD : Opens Try.prog 55 LocD := opens_struct (N := 3) Try.underlying55 (by kernel_rfl) (tail_cons rfl rfl (by kernel_rfl) (opens_int Try.underlying3) (tail_cons rfl rfl (by kernel_rfl) (opens_int Try.underlying3) (tail_cons rfl rfl (by kernel_rfl) (opens_int Try.underlying3) (tail_nil)))) (fun (a : Int × Int × Int × Unit) => (⟨a.1, a.2.1, a.2.2.1⟩ : LocD)) (fun _ => rfl) (fun _ _ h => h)

theorem opens_ValuD : Opens Try.prog 65 ValuD := opens_struct (N := 13) Try.underlying65 (by kernel_rfl) (tail_cons rfl rfl (by kernel_rfl) (opens_int Try.underlying3) (tail_cons rfl rfl (by kernel_rfl) (opens_PeerD) (tail_cons rfl rfl (by kernel_rfl) (opens_slice Try.underlying27 (by kernel_rfl) (by decide) (opens_BanD)) (tail_cons rfl rfl (by kernel_rfl) (opens_slice Try.underlying28 (by kernel_rfl) (by decide) (opens_EntryD)) (tail_nil))))) (fun (a : Int × PeerD × (Sl BanD) × (Sl EntryD) × Unit) => (⟨a.1, a.2.1, a.2.2.1, a.2.2.2.1⟩ : ValuD)) (fun _ => rfl) (fun _ _ h => h)

theorem opens_OpD : Opens Try.prog 67 OpD := opens_struct (N := 21) Try.underlying67 (by kernel_rfl) (tail_cons rfl rfl (by kernel_rfl) (opens_int Try.underlying3) (tail_cons rfl rfl (by kernel_rfl) (opens_int Try.underlying3) (tail_cons rfl rfl (by kernel_rfl) (opens_LocD) (tail_cons rfl rfl (by kernel_rfl) (opens_int Try.underlying3) (tail_cons rfl rfl (by kernel_rfl) (opens_int Try.underlying3) (tail_cons rfl rfl (by kernel_rfl) (opens_ValuD) (tail_cons rfl rfl (by kernel_rfl) (opens_bool Try.underlying4) (tail_nil)))))))) (fun (a : Int × Int × LocD × Int × Int × ValuD × Bool × Unit) => (⟨a.1, a.2.1, a.2.2.1, a.2.2.2.1, a.2.2.2.2.1, a.2.2.2.2.2.1, a.2.2.2.2.2.2.1⟩ : OpD)) (fun _ => rfl) (fun _ _ h => h)

theorem opens_ShardD : Opens Try.prog 35 ShardD := opens_struct (N := 2) Try.underlying35 (by kernel_rfl) (tail_cons rfl rfl (by kernel_rfl) (opens_int Try.underlying3) (tail_cons rfl rfl (by kernel_rfl) (opens_slice Try.underlying33 (by kernel_rfl) (by decide) (opens_PeerD)) (tail_nil))) (fun (a : Int × (Sl PeerD) × Unit) => (⟨a.1, a.2.1⟩ : ShardD)) (fun _ => rfl) (fun _ _ h => h)

theorem opens_LockD : Opens Try.prog 135 LockD := opens_struct (N := 2) Try.underlying135 (by kernel_rfl) (tail_cons rfl rfl (by kernel_rfl) (opens_int Try.underlying3) (tail_cons rfl rfl (by kernel_rfl) (opens_slice Try.underlying38 (by kernel_rfl) (by decide) (opens_int Try.underlying3)) (tail_nil))) (fun (a : Int × (Sl Int) × Unit) => (⟨a.1, a.2.1⟩ : LockD)) (fun _ => rfl) (fun _ _ h => h)

theorem opens_MemD : Opens Try.prog 32 MemD := opens_struct (N := 6) Try.underlying32 (by kernel_rfl) (tail_cons rfl rfl (by kernel_rfl) (opens_int Try.underlying3) (tail_cons rfl rfl (by kernel_rfl) (opens_int Try.underlying3) (tail_cons rfl rfl (by kernel_rfl) (opens_slice Try.underlying27 (by kernel_rfl) (by decide) (opens_BanD)) (tail_cons rfl rfl (by kernel_rfl) (opens_slice Try.underlying28 (by kernel_rfl) (by decide) (opens_EntryD)) (tail_cons rfl rfl (by kernel_rfl) (opens_slice Try.underlying29 (by kernel_rfl) (by decide) (opens_ShardD)) (tail_cons rfl rfl (by kernel_rfl) (opens_slice Try.underlying30 (by kernel_rfl) (by decide) (opens_LockD)) (tail_nil))))))) (fun (a : Int × Int × (Sl BanD) × (Sl EntryD) × (Sl ShardD) × (Sl LockD) × Unit) => (⟨a.1, a.2.1, a.2.2.1, a.2.2.2.1, a.2.2.2.2.1, a.2.2.2.2.2.1⟩ : MemD)) (fun _ => rfl) (fun _ _ h => h)


theorem opens_StepD : Opens Try.prog 69 StepD := opens_struct (N := 37) Try.underlying69 (by kernel_rfl) (tail_cons rfl rfl (by kernel_rfl) (opens_int Try.underlying3) (tail_cons rfl rfl (by kernel_rfl) (opens_int Try.underlying3) (tail_cons rfl rfl (by kernel_rfl) (opens_OpD) (tail_cons rfl rfl (by kernel_rfl) (opens_ValuD) (tail_cons rfl rfl (by kernel_rfl) (opens_bool Try.underlying4) (tail_nil)))))) (fun (a : Int × Int × OpD × ValuD × Bool × Unit) => (⟨a.1, a.2.1, a.2.2.1, a.2.2.2.1, a.2.2.2.2.1⟩ : StepD)) (fun _ => rfl) (fun _ _ h => h)



end Go.Proofs.Ytocebogaopjkfaa
