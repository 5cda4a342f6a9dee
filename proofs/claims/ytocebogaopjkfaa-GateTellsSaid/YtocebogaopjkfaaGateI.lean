/-
  WALKS of the statement's own examples.
-/
import Derived.Test.YtocebogaopjkfaaGateH
namespace Go.Proofs.Ytocebogaopjkfaa
open Go.RowKit

def noSl {α : Type} : Sl α := ⟨none, 0, []⟩
theorem noSl_deep {α : Type} [Cells α] (w : World) : Cells.deep w (noSl : Sl α) := ⟨Nat.le_refl _, by show 0 ≤ _; omega, fun _ => rfl, Rows.nil _ _, fun _ h => absurd h (by simp [noSl])⟩
def noConf : ConfD := ⟨0, 0, 0, 0, 0, 0, ⟨0, 0, 0, 0⟩, 0, 0, 0, 0, 0, 0⟩
def oneMem : MemD := ⟨1, 0, noSl, noSl, noSl, noSl⟩
def aPeer : PeerD := ⟨⟨⟨false, 0, 0⟩, 0⟩, true, 0, ⟨0, 0⟩, 0, 0⟩

theorem zero_ok : -9223372036854775808 ≤ (0 : Int) ∧ (0 : Int) ≤ 9223372036854775807 := ⟨by omega, by omega⟩

theorem oneMem_deep (w : World) : Cells.deep w oneMem := ⟨⟨by show _ ≤ (1 : Int); omega, by show (1 : Int) ≤ _; omega⟩, zero_ok, noSl_deep w, noSl_deep w, noSl_deep w, noSl_deep w, trivial⟩
theorem aPeer_deep (w : World) : Cells.deep w aPeer := ⟨⟨⟨trivial, trivial, trivial, trivial⟩, zero_ok, trivial⟩, trivial, zero_ok, ⟨zero_ok, zero_ok, trivial⟩, zero_ok, zero_ok, trivial⟩

theorem broken_one (w : World) : Calls Try.prog 11 #[.agg (Cells.cells noConf).toArray, .agg (Cells.cells oneMem).toArray] w (Gives w ([1] : List Int)) := by
  have h := broken_any noConf oneMem w (oneMem_deep w) (by decide) (by decide) (fun s h => absurd h (by simp [oneMem, noSl]))
  have e : brokenK (ruleB noConf oneMem) 6 = ([1] : List Int) := by decide +kernel
  rwa [e] at h

/-- The example's memory: one part of two slots, of one end. -/
def exMem (n : Nat) : MemD := ⟨0, 0, noSl, noSl, ⟨some ⟨n + 1, 0, none⟩, 1, [⟨2, ⟨some ⟨n, 0, none⟩, 2, [aPeer, aPeer]⟩⟩]⟩, noSl⟩

def exWorld (w : World) : World := (w.alloc (.cells ([aPeer, aPeer].flatMap Cells.cells).toArray 63)).alloc (.cells (([⟨2, ⟨some ⟨w.heap.size, 0, none⟩, 2, [aPeer, aPeer]⟩⟩] : List ShardD).flatMap Cells.cells).toArray 35)

theorem exMem_deep (w : World) : Cells.deep (exWorld w) (exMem w.heap.size) := by
  have hb : Below (w.alloc (.cells ([aPeer, aPeer].flatMap Cells.cells).toArray 63)).heap.size (w.alloc (.cells ([aPeer, aPeer].flatMap Cells.cells).toArray 63)) (exWorld w) := (Below.refl _ _).alloc (Nat.le_refl _) _
  have h2 : Cells.deep (exWorld w) (⟨some ⟨w.heap.size, 0, none⟩, 2, [aPeer, aPeer]⟩ : Sl PeerD) := by
    refine ⟨Nat.le_refl _, by show 2 ≤ _; omega, (fun h => by cases h), (Rows.lit w _ _ _ rfl).keep hb, fun x hx => ?_⟩
    simp only [List.mem_cons, List.not_mem_nil, or_false, or_self] at hx
    rw [hx]
    exact aPeer_deep _
  refine ⟨zero_ok, zero_ok, noSl_deep _, noSl_deep _, ⟨Nat.le_refl _, by show 1 ≤ _; omega, (fun h => by cases h), Rows.lit _ _ _ _ (by simp), fun x hx => ?_⟩, noSl_deep _, trivial⟩
  simp only [exMem, List.mem_cons, List.not_mem_nil, or_false] at hx
  rw [hx]
  exact ⟨⟨by show _ ≤ (2 : Int); omega, by show (2 : Int) ≤ _; omega⟩, h2, trivial⟩

theorem taken_ex (w w' : World) (hb : Below (exWorld w).heap.size (exWorld w) w') :
    Calls Try.prog 13 #[.agg (Cells.cells (exMem w.heap.size)).toArray, .bool true] w' fun e w'' => e = .returned (.int .i64 1) ∧ Below w'.heap.size w' w'' := by
  refine (taken_any (exMem w.heap.size) true w' (Cells.keep (exMem_deep w) hb) (by show 1 ≤ 10; omega) (fun s hs => ?_)).mono ?_
  · simp only [exMem, List.mem_cons, List.not_mem_nil, or_false] at hs
    rw [hs]
    show 2 ≤ 1000000
    omega
  · rintro e w'' ⟨rfl, h⟩
    refine ⟨ret_int ?_, h⟩
    have : taken (exMem w.heap.size).shards.l true = 1 := by
      show taken [⟨2, ⟨some ⟨w.heap.size, 0, none⟩, 2, [aPeer, aPeer]⟩⟩] true = 1
      simp [taken, endsOf, endsIn, peersOf, addEnd, aPeer]
    rw [this]
    rfl

set_option maxRecDepth 100000 in
set_option maxHeartbeats 1600000 in
theorem awake51_any (w : World) : Calls Try.prog 9 #[] w fun e w' => e = .returned (.bool true) ∧ Below w.heap.size w w' := by
  go_enter Try.func9, Try.ntmps9
  go_wp2_with fail
  refine (broken_one _).mono ?_
  intro e w1 hg
  obtain ⟨s, rfl, hl, hd, hb, hfr⟩ := hg
  clear hfr
  obtain ⟨ao, cap, l⟩ := s
  simp only at hl
  subst hl
  obtain ⟨q1, q2, q3, q4, q5⟩ := hd
  obtain ⟨b, off, rfl, hc⟩ := q4.at 0 (by simp)
  have c0 : w1.cell? ⟨b, off, none⟩ = some (.int .i64 1) := by simpa using hc 0 _ rfl
  have hbl := block_lt_of_cell c0
  simp only at hbl
  have hbl1 : b < w1.heap.size + 1 := by omega
  have hbl2 : b < w1.heap.size + 1 + 1 := by omega
  have c3 : ∀ A B C, (((w1.alloc A).alloc B).alloc C).cell? ⟨b, off, none⟩ = some (.int .i64 1) := fun A B C => by
    rw [World.cell?_alloc_past _ _ _ (by simp; omega), World.cell?_alloc_past _ _ _ (by simp; omega), World.cell?_alloc_past _ _ _ hbl]
    exact c0
  clear q1 q2 q3 q4 q5 hc
  simp only [Sl.val]
  have hT := fun o => taken_ex w1 ((exWorld w1).alloc o) ((Below.refl _ _).alloc (Nat.le_refl _) o)
  have HT := Lib.hid hT
  clear hT
  go_wp2_with fail
  refine (HT.out _).mono ?_
  rintro e w2 ⟨rfl, hb2⟩
  have hs := hb.size
  have hfin : Below w.heap.size w w2 := (((hb.alloc hs _).alloc (by simp; omega) _).alloc (by simp; omega) _).trans (hb2.mono (by simp [exWorld]; omega))
  have HF := Lib.hid hfin
  clear hfin hb2 c3
  go_wp2_with fail
  go_ret
  exact ⟨rfl, HF.out⟩

end Go.Proofs.Ytocebogaopjkfaa
