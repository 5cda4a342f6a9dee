/-
  WALKS of slices.Clone at peers, shard.Peers and the reference's Peers.
-/
import Derived.Test.YtocebogaopjkfaaOpen
import Derived.Outline
namespace Go.Proofs.Ytocebogaopjkfaa
open Go.RowKit

def zeroPeer : Value := .agg #[.bool false, .int .u64 0, .int .u64 0, .int .i64 0, .bool false, .int .i64 0, .int .i64 0, .int .i64 0, .int .i64 0, .int .i64 0]
theorem info_peer : (Try.prog.info? 63).map (fun i => (i.zero, i.size, i.bytes)) = some (some zeroPeer, 10, 80) := by kernel_rfl

set_option maxHeartbeats 400000 in
theorem clonePeers_any (s : Sl PeerD) (w : World) (hd : Cells.deep w s) (hn : s.l.length ≤ 1000000) :
    Calls Try.prog 57 #[s.val] w (Gives w s.l) := by
  obtain ⟨ao, cap, l⟩ := s
  obtain ⟨h1, h2, h3, h4, h5⟩ := hd
  simp only [Sl.val] at *
  have q1 := @Lib.run_eql_slice_nil Try.prog
  obtain ⟨i0, hi, hz0, hz1, hz2⟩ := info_parts info_peer
  cases ao with
  | none =>
    have hl : l = [] := List.eq_nil_of_length_eq_zero (by have := h3 rfl; omega)
    subst hl
    go_enter Try.func57, Try.ntmps57
    go_wp2_with fail
    go_ret
    exact ⟨⟨none, 0, []⟩, rfl, rfl, ⟨Nat.le_refl _, by show 0 ≤ _; omega, fun _ => rfl, Rows.nil _ _, fun _ h => absurd h (by simp)⟩, Below.refl _ _, fun a h => by cases h⟩
  | some a =>
    have hnews : ∀ j u, (l.flatMap Cells.cells)[j]? = some u → w.cell? (a.add j) = some u := by
      by_cases hl : l = []
      · subst hl; intro j u hu; simp at hu
      · obtain ⟨b, off, e, _⟩ := h4 0 (List.length_pos_iff.2 hl)
        obtain rfl := Option.some.inj e
        exact h4.news
    have hN : Hid (∀ j u, (l.flatMap Cells.cells)[j]? = some u → (w.alloc (.cells #[] 63)).cell? (a.add j) = some u) := by
      intro j u hu
      have := hnews j u hu
      have hb := block_lt_of_cell this
      rw [← this]
      exact (World.cell?_of_block (Below.heap_alloc _ _ _ hb))
    have HD := Lib.hid h5
    clear h3 h4 h5 hnews
    go_enter Try.func57, Try.ntmps57
    go_wp2_with (at_builtin; refine wpList_appN l [] (.slice (some ⟨w.heap.size, 0, none⟩) 0 0) (.tmp 5) (.tmp 6) 33 w.heap.size 63 i0 zeroPeer 80 rfl rfl Try.underlying33 hi hz0 hz1 hz2 rfl (by decide) a cap rfl rfl hN.out (Own.empty _ _) (by simp; omega) (by unfold maxLen; simp; omega) (by simp) ?_; intro v' w' hown hgrow _)
    go_ret
    exact Own.gives hown HD.out ((Below.refl _ _).alloc (Nat.le_refl _) _ |>.grown hgrow (by simp) (fun k hk => by
      have := (World.ownsRow.lt (Own.empty (α := PeerD) w 63) k hk).1
      omega)) (Nat.le_refl _)

/-- A part's peers: as many slots as its size says, of those that are there. -/
def peersOf (s : ShardD) : List PeerD := s.slots.l.take s.size.toNat

theorem peersOf_le (s : ShardD) : (peersOf s).length ≤ s.slots.l.length := by unfold peersOf; rw [List.length_take]; omega

theorem Rows.take {α : Type} [Cells α] {w : World} {ao : Option Addr} {l : List α} (h : Rows w ao l) (n : Nat) : Rows w ao (l.take n) := by
  intro i hi
  have hi' : i < l.length := by rw [List.length_take] at hi; omega
  obtain ⟨b, off, e, hc⟩ := h i hi'
  refine ⟨b, off, e, fun j hj => ?_⟩
  rw [hc j hj, List.getElem_take]

set_option maxHeartbeats 400000 in
theorem peers_any (s : ShardD) (w : World) (hd : Cells.deep w s) (hn : s.slots.l.length ≤ 1000000) :
    Calls Try.prog 37 #[.agg (Cells.cells s).toArray] w (Gives w (peersOf s)) := by
  obtain ⟨size, ao, cap, l⟩ := s
  obtain ⟨⟨hs1, hs2⟩, ⟨h1, h2, h3, h4, h5⟩, _⟩ := hd
  simp only [ShardD.cells_eq, Sl.val] at *
  have hdeep : ∀ (n : Nat) (o : Obj), Cells.deep (w.alloc o) (⟨ao, cap, l.take n⟩ : Sl PeerD) := fun n o =>
    Cells.keep (w := w) ⟨by show (l.take n).length ≤ cap; rw [List.length_take]; omega, h2, h3, h4.take n, fun x hx => h5 x (List.mem_of_mem_take hx)⟩ ((Below.refl _ _).alloc (Nat.le_refl _) o)
  have hcl := fun (n k : Nat) (o : Obj) (hk : (l.take n).length = k) => clonePeers_any ⟨ao, cap, l.take n⟩ (w.alloc o) (hdeep n o) (by rw [List.length_take]; omega)
  simp only [Sl.val] at hcl
  have HC : ∀ (n k : Nat) (o : Obj), (l.take n).length = k → Calls Try.prog 57 #[.slice ao k cap] (w.alloc o) (Gives (w.alloc o) (l.take n)) := fun n k o hk => by
    have := hcl n k o hk
    rwa [hk] at this
  have HK := Lib.hid HC
  have e0 := List.length_take (i := size.toNat) (l := l)
  have HE := Lib.hid e0
  clear e0 HC hcl hdeep h5 h4 h3
  rcases (show size < 0 ∨ (0 ≤ size ∧ size ≤ l.length) ∨ (0 ≤ size ∧ l.length < size) from by omega) with hz | ⟨hz, hz2⟩ | ⟨hz, hz2⟩
  all_goals
    go_enter Try.func37, Try.ntmps37
    go_wp2_with fail
    refine (HK.out size.toNat _ _ (by rw [HE.out]; omega)).mono ?_
    intro e w1 hg
    obtain ⟨s', rfl, hl, hd, hb, hfr⟩ := hg
    have HL := Lib.hid hl
    have HF := Lib.hid hfr
    clear hl hfr
    go_wp2_with fail
    go_ret
    exact ⟨s', rfl, HL.out, hd, ((Below.refl _ _).alloc (Nat.le_refl _) _).trans (hb.mono (by simp)), fun a ha => ⟨by have := (HF.out a ha).1; simp at this; omega, (HF.out a ha).2⟩⟩

end Go.Proofs.Ytocebogaopjkfaa
