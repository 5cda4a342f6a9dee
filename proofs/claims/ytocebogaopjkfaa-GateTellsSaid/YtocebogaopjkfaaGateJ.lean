/-
  WALK of the statement GateTells.
-/
import Derived.Test.YtocebogaopjkfaaGateG
import Derived.Test.YtocebogaopjkfaaGateI
namespace Go.Proofs.Ytocebogaopjkfaa
open Go.RowKit

set_option maxRecDepth 100000 in
set_option maxHeartbeats 12800000 in
theorem gate_any (c : ConfD) (m : MemD) (w : World) (hd : Cells.deep w m) :
    Calls Try.prog 3 #[.agg (Cells.cells c).toArray, .agg (Cells.cells m).toArray] w fun e w' => e = .returned (.bool true) ∧ Below w.heap.size w w' := by
  have HD := Lib.hid hd
  have HCM : Hid (∃ c' : ConfD, c' = c) := ⟨c, rfl⟩
  obtain ⟨Br, hBr⟩ : ∃ Br, Br = brokenK (ruleB c m) 6 := ⟨_, rfl⟩
  have HBr := Lib.hid hBr
  clear hBr HCM
  have H4 : Hid (Rows w m.shards.ao m.shards.l) := by obtain ⟨_, _, _, _, ⟨_, _, _, h, _⟩, _⟩ := hd; exact h
  have hcl : m.shards.l.length ≤ 9223372036854775807 ∧ m.bans.l.length ≤ 9223372036854775807 ∧ m.book.l.length ≤ 9223372036854775807 := by
    obtain ⟨_, _, ⟨a1, a2, _⟩, ⟨b1, b2, _⟩, ⟨c1, c2, _⟩, _⟩ := hd
    exact ⟨Nat.le_trans c1 c2, Nat.le_trans a1 a2, Nat.le_trans b1 b2⟩
  obtain ⟨hcl1, hcl2, hcl3⟩ := hcl
  obtain ⟨c0, c1, c2, c3, c4, c5, ⟨c6, c7, c8, c9⟩, c10, c11, c12, c13, c14, c15⟩ := c
  obtain ⟨m0, m1, ⟨ba, bc, bl⟩, ⟨ka, kc, kl⟩, ⟨sa, sc, sl⟩, ⟨la, lc, ll⟩⟩ := m
  simp only at H4 hcl1 hcl2 hcl3
  simp only [ConfD.cells_eq, MemD.cells_eq, Sl.val]
  clear hd
  obtain ⟨W0, hW0⟩ : ∃ W0 : World, W0 = (w.alloc (.cells (Cells.cells (⟨c0, c1, c2, c3, c4, c5, ⟨c6, c7, c8, c9⟩, c10, c11, c12, c13, c14, c15⟩ : ConfD)).toArray 26)).alloc (.cells (Cells.cells (⟨m0, m1, ⟨ba, bc, bl⟩, ⟨ka, kc, kl⟩, ⟨sa, sc, sl⟩, ⟨la, lc, ll⟩⟩ : MemD)).toArray 32) := ⟨_, rfl⟩
  have hz0 : W0.heap.size = w.heap.size + 2 := by rw [hW0]; simp
  have hb0 : Below w.heap.size w W0 := by
    rw [hW0]
    exact ((Below.refl _ _).alloc (Nat.le_refl _) _).alloc (by simp) _
  have hcc : ∀ j v, (Cells.cells (⟨c0, c1, c2, c3, c4, c5, ⟨c6, c7, c8, c9⟩, c10, c11, c12, c13, c14, c15⟩ : ConfD))[j]? = some v → W0.cell? ⟨w.heap.size, j, none⟩ = some v := by
    intro j v hj
    rw [hW0, World.cell?_alloc_past _ _ _ (by simp), World.cell?_alloc_at _ _ _ _ rfl]
    simpa using hj
  have hmc : ∀ j v, (Cells.cells (⟨m0, m1, ⟨ba, bc, bl⟩, ⟨ka, kc, kl⟩, ⟨sa, sc, sl⟩, ⟨la, lc, ll⟩⟩ : MemD))[j]? = some v → W0.cell? ⟨w.heap.size + 1, j, none⟩ = some v := by
    intro j v hj
    rw [hW0, World.cell?_alloc_at _ _ _ _ (by simp)]
    simpa using hj
  have g2 : W0.cell? ⟨w.heap.size + 1, 2, none⟩ = some (.slice ba bl.length bc) := hmc 2 _ rfl
  have g3 : W0.cell? ⟨w.heap.size + 1, 3, none⟩ = some (.slice ka kl.length kc) := hmc 3 _ rfl
  have g4 : W0.cell? ⟨w.heap.size + 1, 4, none⟩ = some (.slice sa sl.length sc) := hmc 4 _ rfl
  have HCC := Lib.hid (And.intro hcc hmc)
  have HW := hW0
  simp only [ConfD.cells_eq, MemD.cells_eq, Sl.val] at HW
  have HWH := Lib.hid HW
  clear hW0 HW hcc hmc
  go_enter Try.func3, Try.ntmps3
  go_upto_region 1 with (fail)
  rw [← HWH.out]
  go_wp2_with fail
  go_loop [5] (fun i => ∃ k : Nat, k ≤ sl.length ∧ k ≤ 10 ∧ i = .int .i64 k ∧ Hid (∀ j (_ : j < k) (h : j < sl.length), sl[j].slots.l.length ≤ 30)) (fun i => sl.length - (intOf i).toNat)
  case atStart => exact ⟨0, Nat.zero_le _, Nat.zero_le _, rfl, Lib.hid (fun j hj => absurd hj (by omega))⟩
  case round =>
    obtain ⟨k, hk, hk10, rfl, hsm⟩ := hrel
    by_cases hlt : k < sl.length ∧ k < 10
    · obtain ⟨hlt, hlt10⟩ := hlt
      obtain ⟨sb, off, rfl, hc⟩ := (H4.out.keep hb0).at k hlt
      have s1 := hc 1 _ rfl
      simp only [ShardD.sz_eq, Sl.val] at s1
      have hsl : sl[k].slots.l.length ≤ 9223372036854775807 := by
        obtain ⟨_, _, _, _, ⟨_, _, _, _, h⟩, _⟩ := HD.out
        obtain ⟨_, ⟨a, b, _⟩, _⟩ := h sl[k] (List.getElem_mem hlt)
        exact Nat.le_trans a b
      obtain ⟨n, hn⟩ : ∃ n, n = sl[k].slots.l.length := ⟨_, rfl⟩
      rw [← hn] at s1 hsl
      have HN := Lib.hid hn
      clear hc hn
      by_cases h30 : 30 < n
      · go_wp2_with fail
        refine (awake51_any _).mono ?_
        rintro e w1 ⟨rfl, hb1⟩
        go_wp2_with fail
        go_ret
        exact ⟨rfl, hb0.trans (hb1.mono (by omega))⟩
      · go_wp2_with fail
        go_round
        case rel =>
          refine ⟨k + 1, by omega, by omega, by go_num, Lib.hid (fun j hj hj' => ?_)⟩
          rcases (show j < k ∨ j = k from by omega) with h | rfl
          · exact hsm.out j h hj'
          · have := HN.out; omega
        case measure => simp [intOf]; omega
    · have hend : sl.length ≤ k ∨ ((k : Int) < sl.length ∧ 10 ≤ k) := by omega
      have HE := Lib.hid hend
      by_cases hL : 10 < sl.length
      · have hq : (k : Int) < sl.length := by omega
        have hq2 : 10 ≤ k := by omega
        clear hend hlt
        go_wp2_with fail
        refine (awake51_any _).mono ?_
        rintro e w1 ⟨rfl, hb1⟩
        go_wp2_with fail
        go_ret
        exact ⟨rfl, hb0.trans (hb1.mono (by omega))⟩
      have hke : sl.length ≤ k := by omega
      have HS : Hid (∀ s ∈ sl, s.slots.l.length ≤ 1000000) := by
        intro s hs
        obtain ⟨j, hj, rfl⟩ := List.getElem_of_mem hs
        have := hsm.out j (by omega) hj
        omega
      clear hend hlt
      by_cases hB : 60 < bl.length
      · go_wp2_with fail
        refine (awake51_any _).mono ?_
        rintro e w1 ⟨rfl, hb1⟩
        go_wp2_with fail
        go_ret
        exact ⟨rfl, hb0.trans (hb1.mono (by omega))⟩
      by_cases hK : 60 < kl.length
      · go_wp2_with fail
        refine (awake51_any _).mono ?_
        rintro e w1 ⟨rfl, hb1⟩
        go_wp2_with fail
        go_ret
        exact ⟨rfl, hb0.trans (hb1.mono (by omega))⟩
      go_upto_region 8 with (fail)
      have hn10 : sl.length ≤ 10 := by omega
      have hk60 : kl.length ≤ 60 := by omega
      have hmem : ∀ W, Below W0.heap.size W0 W → Cells.deep W (⟨m0, m1, ⟨ba, bc, bl⟩, ⟨ka, kc, kl⟩, ⟨sa, sc, sl⟩, ⟨la, lc, ll⟩⟩ : MemD) := fun W hb => Cells.keep HD.out (hb0.trans (hb.mono (by omega)))
      have HB1 : Hid (∀ W, Below W0.heap.size W0 W → Calls Try.prog 11 #[.agg #[.int .i64 c0, .int .i64 c1, .int .i64 c2, .int .i64 c3, .int .i64 c4, .int .u64 c5.toNat, .int .i64 c6, .int .i64 c7, .int .i64 c8, .int .i64 c9, .int .i64 c10, .int .i64 c11, .int .i64 c12, .int .i64 c13, .int .i64 c14, .int .i64 c15], .agg #[.int .i64 m0, .int .i64 m1, .slice ba bl.length bc, .slice ka kl.length kc, .slice sa sl.length sc, .slice la ll.length lc]] W fun e w' => ∃ s : Sl Int, e = .returned s.val ∧ s.l = Br ∧ Cells.deep w' s ∧ Below W.heap.size W w' ∧ Below W0.heap.size W0 w') := by
        intro W hb
        refine (broken_any (⟨c0, c1, c2, c3, c4, c5, ⟨c6, c7, c8, c9⟩, c10, c11, c12, c13, c14, c15⟩ : ConfD) (⟨m0, m1, ⟨ba, bc, bl⟩, ⟨ka, kc, kl⟩, ⟨sa, sc, sl⟩, ⟨la, lc, ll⟩⟩ : MemD) W (hmem W hb) hn10 hk60 HS.out).mono ?_
        intro e w' hg
        obtain ⟨s, h1, h2, h3, h4, _⟩ := hg
        exact ⟨s, h1, by rw [h2, HBr.out], h3, h4, hb.trans (h4.mono hb.size)⟩
      have HB2 : Hid (∀ W, Below W0.heap.size W0 W → Calls Try.prog 12 #[.agg #[.int .i64 c0, .int .i64 c1, .int .i64 c2, .int .i64 c3, .int .i64 c4, .int .u64 c5.toNat, .int .i64 c6, .int .i64 c7, .int .i64 c8, .int .i64 c9, .int .i64 c10, .int .i64 c11, .int .i64 c12, .int .i64 c13, .int .i64 c14, .int .i64 c15], .agg #[.int .i64 m0, .int .i64 m1, .slice ba bl.length bc, .slice ka kl.length kc, .slice sa sl.length sc, .slice la ll.length lc]] W fun e w' => ∃ s : Sl Int, e = .returned s.val ∧ s.l = Br ∧ Cells.deep w' s ∧ Below W.heap.size W w' ∧ Below W0.heap.size W0 w') := by
        intro W hb
        refine (rbroken_any (⟨c0, c1, c2, c3, c4, c5, ⟨c6, c7, c8, c9⟩, c10, c11, c12, c13, c14, c15⟩ : ConfD) (⟨m0, m1, ⟨ba, bc, bl⟩, ⟨ka, kc, kl⟩, ⟨sa, sc, sl⟩, ⟨la, lc, ll⟩⟩ : MemD) W (hmem W hb) hn10 hk60 HS.out).mono ?_
        intro e w' hg
        obtain ⟨s, h1, h2, h3, h4, _⟩ := hg
        exact ⟨s, h1, by rw [h2, HBr.out], h3, h4, hb.trans (h4.mono hb.size)⟩
      obtain ⟨X, hX⟩ : ∃ X : Bool → Nat, X = taken sl := ⟨_, rfl⟩
      have HT1 : Hid (∀ (b : Bool) W, Below W0.heap.size W0 W → Calls Try.prog 13 #[.agg #[.int .i64 m0, .int .i64 m1, .slice ba bl.length bc, .slice ka kl.length kc, .slice sa sl.length sc, .slice la ll.length lc], .bool b] W fun e w' => e = .returned (.int .i64 (X b)) ∧ Below W0.heap.size W0 w') := by
        intro b W hb
        refine (taken_any (⟨m0, m1, ⟨ba, bc, bl⟩, ⟨ka, kc, kl⟩, ⟨sa, sc, sl⟩, ⟨la, lc, ll⟩⟩ : MemD) b W (hmem W hb) hn10 HS.out).mono ?_
        rintro e w' ⟨rfl, h⟩
        exact ⟨ret_int (by rw [hX]), hb.trans (h.mono hb.size)⟩
      have HT2 : Hid (∀ (b : Bool) W, Below W0.heap.size W0 W → Calls Try.prog 14 #[.agg #[.int .i64 m0, .int .i64 m1, .slice ba bl.length bc, .slice ka kl.length kc, .slice sa sl.length sc, .slice la ll.length lc], .bool b] W fun e w' => e = .returned (.int .i64 (X b)) ∧ Below W0.heap.size W0 w') := by
        intro b W hb
        refine (rtaken_any (⟨m0, m1, ⟨ba, bc, bl⟩, ⟨ka, kc, kl⟩, ⟨sa, sc, sl⟩, ⟨la, lc, ll⟩⟩ : MemD) b W (hmem W hb) hn10 HS.out).mono ?_
        rintro e w' ⟨rfl, h⟩
        exact ⟨ret_int (by rw [hX]), hb.trans (h.mono hb.size)⟩
      have HA : Hid (∀ W, Below W0.heap.size W0 W → Calls Try.prog 9 #[] W fun e w' => e = .returned (.bool true) ∧ Below W0.heap.size W0 w') := by
        intro W hb
        refine (awake51_any W).mono ?_
        rintro e w' ⟨rfl, h⟩
        exact ⟨rfl, hb.trans (h.mono hb.size)⟩
      have HK : Hid (∀ w', Below W0.heap.size W0 w' → (fun w' => Below W0.heap.size W0 w' ∧ w'.cell? ⟨w.heap.size, 0, none⟩ = some (.int .i64 c0) ∧ w'.cell? ⟨w.heap.size, 1, none⟩ = some (.int .i64 c1) ∧ w'.cell? ⟨w.heap.size, 2, none⟩ = some (.int .i64 c2) ∧ w'.cell? ⟨w.heap.size, 3, none⟩ = some (.int .i64 c3) ∧ w'.cell? ⟨w.heap.size, 4, none⟩ = some (.int .i64 c4) ∧ w'.cell? ⟨w.heap.size, 5, none⟩ = some (.int .u64 c5.toNat) ∧ w'.cell? ⟨w.heap.size, 6, none⟩ = some (.int .i64 c6) ∧ w'.cell? ⟨w.heap.size, 7, none⟩ = some (.int .i64 c7) ∧ w'.cell? ⟨w.heap.size, 8, none⟩ = some (.int .i64 c8) ∧ w'.cell? ⟨w.heap.size, 9, none⟩ = some (.int .i64 c9) ∧ w'.cell? ⟨w.heap.size, 10, none⟩ = some (.int .i64 c10) ∧ w'.cell? ⟨w.heap.size, 11, none⟩ = some (.int .i64 c11) ∧ w'.cell? ⟨w.heap.size, 12, none⟩ = some (.int .i64 c12) ∧ w'.cell? ⟨w.heap.size, 13, none⟩ = some (.int .i64 c13) ∧ w'.cell? ⟨w.heap.size, 14, none⟩ = some (.int .i64 c14) ∧ w'.cell? ⟨w.heap.size, 15, none⟩ = some (.int .i64 c15) ∧ w'.cell? ⟨w.heap.size + 1, 0, none⟩ = some (.int .i64 m0) ∧ w'.cell? ⟨w.heap.size + 1, 1, none⟩ = some (.int .i64 m1) ∧ w'.cell? ⟨w.heap.size + 1, 2, none⟩ = some (.slice ba bl.length bc) ∧ w'.cell? ⟨w.heap.size + 1, 3, none⟩ = some (.slice ka kl.length kc) ∧ w'.cell? ⟨w.heap.size + 1, 4, none⟩ = some (.slice sa sl.length sc) ∧ w'.cell? ⟨w.heap.size + 1, 5, none⟩ = some (.slice la ll.length lc)) w') := by
        intro w' hb
        have hc := fun j v hj => (hb.cell (p := ⟨w.heap.size, j, none⟩) (by show w.heap.size < W0.heap.size; omega)).trans (HCC.out.1 j v hj)
        have hm := fun j v hj => (hb.cell (p := ⟨w.heap.size + 1, j, none⟩) (by show w.heap.size + 1 < W0.heap.size; omega)).trans (HCC.out.2 j v hj)
        exact ⟨hb, hc 0 _ rfl, hc 1 _ rfl, hc 2 _ rfl, hc 3 _ rfl, hc 4 _ rfl, hc 5 _ rfl, hc 6 _ rfl, hc 7 _ rfl, hc 8 _ rfl, hc 9 _ rfl, hc 10 _ rfl, hc 11 _ rfl, hc 12 _ rfl, hc 13 _ rfl, hc 14 _ rfl, hc 15 _ rfl, hm 0 _ rfl, hm 1 _ rfl, hm 2 _ rfl, hm 3 _ rfl, hm 4 _ rfl, hm 5 _ rfl⟩
      have hxt : (((X true : Nat) : Int) == (X true : Int)) = true := beq_self_eq_true _
      have hxf : (((X false : Nat) : Int) == (X false : Int)) = true := beq_self_eq_true _
      have hq1 : (k : Int) ≤ 10 := by omega
      clear hX hmem g2 g3 g4 hcl1 hcl2 hcl3
      go_region_held3 (fun w' => Below W0.heap.size W0 w' ∧ w'.cell? ⟨w.heap.size, 0, none⟩ = some (.int .i64 c0) ∧ w'.cell? ⟨w.heap.size, 1, none⟩ = some (.int .i64 c1) ∧ w'.cell? ⟨w.heap.size, 2, none⟩ = some (.int .i64 c2) ∧ w'.cell? ⟨w.heap.size, 3, none⟩ = some (.int .i64 c3) ∧ w'.cell? ⟨w.heap.size, 4, none⟩ = some (.int .i64 c4) ∧ w'.cell? ⟨w.heap.size, 5, none⟩ = some (.int .u64 c5.toNat) ∧ w'.cell? ⟨w.heap.size, 6, none⟩ = some (.int .i64 c6) ∧ w'.cell? ⟨w.heap.size, 7, none⟩ = some (.int .i64 c7) ∧ w'.cell? ⟨w.heap.size, 8, none⟩ = some (.int .i64 c8) ∧ w'.cell? ⟨w.heap.size, 9, none⟩ = some (.int .i64 c9) ∧ w'.cell? ⟨w.heap.size, 10, none⟩ = some (.int .i64 c10) ∧ w'.cell? ⟨w.heap.size, 11, none⟩ = some (.int .i64 c11) ∧ w'.cell? ⟨w.heap.size, 12, none⟩ = some (.int .i64 c12) ∧ w'.cell? ⟨w.heap.size, 13, none⟩ = some (.int .i64 c13) ∧ w'.cell? ⟨w.heap.size, 14, none⟩ = some (.int .i64 c14) ∧ w'.cell? ⟨w.heap.size, 15, none⟩ = some (.int .i64 c15) ∧ w'.cell? ⟨w.heap.size + 1, 0, none⟩ = some (.int .i64 m0) ∧ w'.cell? ⟨w.heap.size + 1, 1, none⟩ = some (.int .i64 m1) ∧ w'.cell? ⟨w.heap.size + 1, 2, none⟩ = some (.slice ba bl.length bc) ∧ w'.cell? ⟨w.heap.size + 1, 3, none⟩ = some (.slice ka kl.length kc) ∧ w'.cell? ⟨w.heap.size + 1, 4, none⟩ = some (.slice sa sl.length sc) ∧ w'.cell? ⟨w.heap.size + 1, 5, none⟩ = some (.slice la ll.length lc))
        ((refine HK.out _ ?_; first | assumption | exact Below.refl _ _ | exact Below.drew (Below.refl _ _) | exact And.left (by assumption) | exact Below.drew (And.left (by assumption))))
        (first
          | (go_at_call 11; refine (HB1.out _ ?_).mono ?_; (first | assumption | exact And.left (by assumption)); rintro e w1 ⟨s1, rfl, hl1, hd1, hx1, hy1⟩; have HL1 := Lib.hid hl1; clear hl1)
          | (go_at_call 12; refine (HB2.out _ ?_).mono ?_; (first | assumption | exact And.left (by assumption)); rintro e w2 ⟨s2, rfl, hl2, hd2, hx2, hy2⟩; have HL2 := Lib.hid hl2; have hd3 := Cells.keep hd1 hx2; clear hl2)
          | (go_at_call 10; refine (ints_any s1 s2 _ hd3 hd2 (HL1.out.trans HL2.out.symm)).mono ?_; rintro e w3 ⟨rfl, hx3⟩; have hy3 := hy2.trans (hx3.mono hy2.size))
          | (go_at_call_of 13 (Value.bool true); refine (HT1.out _ _ ?_).mono ?_; (first | assumption | exact And.left (by assumption)); rintro e w' ⟨rfl, hb'⟩)
          | (go_at_call_of 13 (Value.bool false); refine (HT1.out _ _ ?_).mono ?_; (first | assumption | exact And.left (by assumption)); rintro e w' ⟨rfl, hb'⟩)
          | (go_at_call_of 14 (Value.bool true); refine (HT2.out _ _ ?_).mono ?_; (first | assumption | exact And.left (by assumption)); rintro e w' ⟨rfl, hb'⟩)
          | (go_at_call_of 14 (Value.bool false); refine (HT2.out _ _ ?_).mono ?_; (first | assumption | exact And.left (by assumption)); rintro e w' ⟨rfl, hb'⟩)
          | (go_at_call 9; refine (HA.out _ ?_).mono ?_; (first | assumption | exact And.left (by assumption)); rintro e w9 ⟨rfl, hb9⟩))
      go_wp2_with fail
      go_ret
      exact ⟨ret_bool (by simp), hb0.trans (Below.mono (by assumption) (by omega))⟩

end Go.Proofs.Ytocebogaopjkfaa
