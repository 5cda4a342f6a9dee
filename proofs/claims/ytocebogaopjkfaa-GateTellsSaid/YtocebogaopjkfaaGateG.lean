/-
  WALK of the reference's Broken (layer 51): the rules that do not hold.
-/
import Derived.Test.YtocebogaopjkfaaGateF
namespace Go.Proofs.Ytocebogaopjkfaa
open Go.RowKit

/-- What has been gathered behind the first k rules. -/
def RelB (n : Nat) (W0 : World) (R : Nat → Bool) (k : Nat) (v : Value) (wx : World) : Prop :=
  ∃ (ao : Option Addr) (cap : Nat), v = .slice ao (brokenK R k).length cap ∧ Own wx (n + 2) 3 (.slice ao (brokenK R k).length cap) (brokenK R k) ∧ Below (n + 2) W0 wx

theorem brokenK_yes {R : Nat → Bool} {k : Nat} (h : R k = true) : brokenK R (k + 1) = brokenK R k := by simp [brokenK, h]
theorem brokenK_no {R : Nat → Bool} {k : Nat} (h : R k = false) : brokenK R (k + 1) = brokenK R k ++ [(k : Int) + 1] := by simp [brokenK, h]

set_option maxRecDepth 100000 in
set_option maxHeartbeats 12800000 in
theorem rbroken_any (c : ConfD) (m : MemD) (w : World) (hd : Cells.deep w m) (hn : m.shards.l.length ≤ 10) (hbl : m.book.l.length ≤ 60) (hs : ∀ s ∈ m.shards.l, s.slots.l.length ≤ 1000000) :
    Calls Try.prog 12 #[.agg (Cells.cells c).toArray, .agg (Cells.cells m).toArray] w (Gives w (brokenK (ruleB c m) 6)) := by
  have HD := Lib.hid hd
  have HN := Lib.hid (And.intro hn hs)
  have ht1 := taken_le m.shards.l true hn hs
  have ht2 := taken_le m.shards.l false hn hs
  have hcnt : countSt m.book.l 2 ≤ m.book.l.length := by unfold countSt; exact List.length_filter_le _ _
  obtain ⟨i0, hi, hz', hz1, hz2⟩ := info_parts info_int
  obtain ⟨R, hR⟩ : ∃ R, R = ruleB c m := ⟨_, rfl⟩
  have HR := Lib.hid hR
  rw [← hR]
  clear hR
  have hbk : Cells.deep w m.book := by obtain ⟨_, _, _, b, _⟩ := hd; exact b
  have HBK := Lib.hid hbk
  obtain ⟨c0, c1, c2, c3, c4, c5, ⟨c6, c7, c8, c9⟩, c10, c11, c12, c13, c14, c15⟩ := c
  obtain ⟨m0, m1, ⟨ba, bc, bl⟩, ⟨ka, kc, kl⟩, ⟨sa, sc, sl⟩, ⟨la, lc, ll⟩⟩ := m
  simp only [ConfD.cells_eq, MemD.cells_eq, Sl.val] at *
  clear hd hn hs hbk
  obtain ⟨T, hT⟩ : ∃ T, T = taken sl true := ⟨_, rfl⟩
  obtain ⟨F, hF⟩ : ∃ F, F = taken sl false := ⟨_, rfl⟩
  obtain ⟨C, hC⟩ : ∃ C, C = countSt kl 2 := ⟨_, rfl⟩
  rw [← hT] at ht1
  rw [← hF] at ht2
  rw [← hC] at hcnt
  have HTF := Lib.hid (And.intro hT (And.intro hF hC))
  have hwr : IntKind.i64.wrap ((F : Int) + (C : Int)) = (F : Int) + (C : Int) := IntWalk.i64_in _ (by omega)
  have R0 : Hid (R 0 = (decide (0 ≤ m0) && decide (m0 ≤ c0))) := by rw [HR.out]; rfl
  have R1 : Hid (R 1 = (decide (0 ≤ m1) && decide (m1 ≤ c1))) := by rw [HR.out]; rfl
  have R2 : Hid (R 2 = decide ((T : Int) ≤ m0)) := by rw [HR.out, hT]; rfl
  have R3 : Hid (R 3 = decide ((F : Int) + (C : Int) ≤ m1)) := by rw [HR.out, hF, hC]; rfl
  have R4 : Hid (R 4 = decide ((bl.length : Int) ≤ c3)) := by rw [HR.out]; rfl
  have R5 : Hid (R 5 = decide ((kl.length : Int) ≤ c4)) := by rw [HR.out]; rfl
  clear hT hF hC
  obtain ⟨W0, hW0⟩ : ∃ W0 : World, W0 = (w.alloc (.cells (Cells.cells (⟨c0, c1, c2, c3, c4, c5, ⟨c6, c7, c8, c9⟩, c10, c11, c12, c13, c14, c15⟩ : ConfD)).toArray 26)).alloc (.cells (Cells.cells (⟨m0, m1, ⟨ba, bc, bl⟩, ⟨ka, kc, kl⟩, ⟨sa, sc, sl⟩, ⟨la, lc, ll⟩⟩ : MemD)).toArray 32) := ⟨_, rfl⟩
  have hz0 : W0.heap.size = w.heap.size + 2 := by rw [hW0]; simp
  have hb0 : Below w.heap.size w W0 := by
    rw [hW0]
    exact ((Below.refl _ _).alloc (Nat.le_refl _) _).alloc (by simp) _
  have hcc : ∀ j v, (Cells.cells (⟨c0, c1, c2, c3, c4, c5, ⟨c6, c7, c8, c9⟩, c10, c11, c12, c13, c14, c15⟩ : ConfD))[j]? = some v → W0.cell? ⟨w.heap.size, j, none⟩ = some v := by
    intro j v hj
    rw [hW0, World.cell?_alloc_past _ _ _ (by simp), World.cell?_alloc_at _ _ _ _ rfl]
    simpa using hj
  have hmc : ∀ j v, (Cells.cells (⟨m0, m1, ⟨ba, bc, bl⟩, ⟨ka, kc, kl⟩, ⟨sa, sc, sl⟩, ⟨la, lc, ll⟩⟩ : MemD))[j]? = some v → W0.cell? ⟨w.heap.size + 1, j, none⟩ = some v := by
    intro j v hj
    rw [hW0, World.cell?_alloc_at _ _ _ _ (by simp)]
    simpa using hj
  have hmem : ∀ W, Below (w.heap.size + 2) W0 W → Cells.deep W (⟨m0, m1, ⟨ba, bc, bl⟩, ⟨ka, kc, kl⟩, ⟨sa, sc, sl⟩, ⟨la, lc, ll⟩⟩ : MemD) := fun W hb => Cells.keep HD.out (hb0.trans (hb.mono (by omega)))
  have HT : Hid (∀ (b : Bool) W, Below (w.heap.size + 2) W0 W → Calls Try.prog 14 #[.agg #[.int .i64 m0, .int .i64 m1, .slice ba bl.length bc, .slice ka kl.length kc, .slice sa sl.length sc, .slice la ll.length lc], .bool b] W fun e w' => e = .returned (.int .i64 (taken sl b)) ∧ Below W.heap.size W w') := fun b W hb =>
    rtaken_any (⟨m0, m1, ⟨ba, bc, bl⟩, ⟨ka, kc, kl⟩, ⟨sa, sc, sl⟩, ⟨la, lc, ll⟩⟩ : MemD) b W (hmem W hb) HN.out.1 HN.out.2
  have hc' : ∀ W, Below (w.heap.size + 2) W0 W → Calls Try.prog 36 #[.slice ka kl.length kc, .int .i64 2] W fun e w' => e = .returned (.int .i64 C) ∧ W = w' := by
    intro W hb
    refine (rcount_any ⟨ka, kc, kl⟩ 2 W (Cells.keep HBK.out (hb0.trans (hb.mono (by omega))))).mono ?_
    rintro e w' ⟨rfl, h⟩
    exact ⟨ret_int (by rw [HTF.out.2.2]), h⟩
  have HC := Lib.hid hc'
  have hS : HoldS w.heap.size W0 (Cells.cells (⟨c0, c1, c2, c3, c4, c5, ⟨c6, c7, c8, c9⟩, c10, c11, c12, c13, c14, c15⟩ : ConfD)) (Cells.cells (⟨m0, m1, ⟨ba, bc, bl⟩, ⟨ka, kc, kl⟩, ⟨sa, sc, sl⟩, ⟨la, lc, ll⟩⟩ : MemD)) W0 := ⟨Below.refl _ _, hcc, hmc⟩
  have HK := Lib.hid (fun (w' : World) (hb : Below (w.heap.size + 2) W0 w') => (show (fun w' => Below (w.heap.size + 2) W0 w' ∧ w'.cell? ⟨w.heap.size, 0, none⟩ = some (.int .i64 c0) ∧ w'.cell? ⟨w.heap.size, 1, none⟩ = some (.int .i64 c1) ∧ w'.cell? ⟨w.heap.size, 3, none⟩ = some (.int .i64 c3) ∧ w'.cell? ⟨w.heap.size, 4, none⟩ = some (.int .i64 c4) ∧
      w'.cell? ⟨w.heap.size + 1, 0, none⟩ = some (.int .i64 m0) ∧ w'.cell? ⟨w.heap.size + 1, 1, none⟩ = some (.int .i64 m1) ∧ w'.cell? ⟨w.heap.size + 1, 2, none⟩ = some (.slice ba bl.length bc) ∧ w'.cell? ⟨w.heap.size + 1, 3, none⟩ = some (.slice ka kl.length kc) ∧ w'.cell? ⟨w.heap.size + 1, 4, none⟩ = some (.slice sa sl.length sc) ∧ w'.cell? ⟨w.heap.size + 1, 5, none⟩ = some (.slice la ll.length lc)) w' from
    have h := hS.keep hb
    ⟨hb, h.2.1 0 _ rfl, h.2.1 1 _ rfl, h.2.1 3 _ rfl, h.2.1 4 _ rfl, h.2.2 0 _ rfl, h.2.2 1 _ rfl, h.2.2 2 _ rfl, h.2.2 3 _ rfl, h.2.2 4 _ rfl, h.2.2 5 _ rfl⟩))
  have HZ : Hid (w.heap.size + 2 ≤ W0.heap.size) := by show _ ≤ _; omega
  have HW := hW0
  simp only [ConfD.cells_eq, MemD.cells_eq, Sl.val] at HW
  have HWH := Lib.hid HW
  clear hmem hc' hcc hmc hW0 hS HW
  go_enter Try.func12, Try.ntmps12
  go_upto_region 2 with (fail)
  rw [← HWH.out, ← hz0]
  have hown : Own (α := Int) (W0.alloc (.cells #[] 3)) (w.heap.size + 2) 3 (.slice (some ⟨W0.heap.size, 0, none⟩) 0 0) [] := Own.made _ _ _ _ (by omega) rfl
  have hbel : Below (w.heap.size + 2) W0 (W0.alloc (.cells #[] 3)) := (Below.refl _ _).alloc (by omega) _
  obtain ⟨wx, hwx⟩ : ∃ wx, wx = W0.alloc (.cells #[] 3) := ⟨_, rfl⟩
  rw [← hwx] at hown hbel ⊢
  clear hwx
  rw [hz0] at hown ⊢
  obtain ⟨ao, hao⟩ : ∃ ao : Option Addr, ao = some ⟨w.heap.size + 2, 0, none⟩ := ⟨_, rfl⟩
  rw [← hao] at hown ⊢
  clear hao
  have hown : Own wx (w.heap.size + 2) 3 (.slice ao (brokenK R 0).length 0) (brokenK R 0) := hown
  -- rule 1
  have hs0 := hbel.size
  have HO0 := Lib.hid hown
  have HB := Lib.hid hbel
  obtain ⟨_, f0, f1, f3, f4, g0, g1, g2, g3, g4, g5⟩ := HK.out _ hbel
  have hl0 := brokenK_len R 0
  clear hown hbel
  go_cut [16] (fun v wy => v = .bool (!(R 0)) ∧ Below wx.heap.size wx wy)
  case first =>
    rcases (show (0 ≤ m0 ∧ m0 ≤ c0) ∨ (m0 < 0) ∨ (0 ≤ m0 ∧ c0 < m0) from by omega) with hq | hq | hq
    · have hRk : Hid (R 0 = true) := by show _ = _; rw [R0.out]; first | (simp; done) | (simp; omega)
      go_wp2_with fail
      go_meet
      exact ⟨by first | (rw [hRk.out]; done) | (rw [hRk.out]; simp; done) | (rw [hRk.out]; simp; omega), Below.refl _ _⟩
    · have hRk : Hid (R 0 = false) := by show _ = _; rw [R0.out]; first | (simp; done) | (simp; omega)
      go_wp2_with fail
      go_meet
      exact ⟨by first | (rw [hRk.out]; done) | (rw [hRk.out]; simp; done) | (rw [hRk.out]; simp; omega), Below.refl _ _⟩
    · have hRk : Hid (R 0 = false) := by show _ = _; rw [R0.out]; first | (simp; done) | (simp; omega)
      go_wp2_with fail
      go_meet
      exact ⟨by first | (rw [hRk.out]; done) | (rw [hRk.out]; simp; done) | (rw [hRk.out]; simp; omega), Below.refl _ _⟩
  case rest =>
  obtain ⟨rfl, hcb⟩ := hcut
  have hown := HO0.out.keep hcb
  have hbel := HB.out.trans (hcb.mono (by omega))
  have hs0 := hbel.size
  obtain ⟨wy, hwy⟩ : ∃ wy, wy = wc := ⟨_, rfl⟩
  subst hwy
  clear HO0 HB f0 f1 f3 f4 g0 g1 g2 g3 g4 g5 hcb
  have HO0 := Lib.hid hown
  have HB := Lib.hid hbel
  clear hown hbel
  go_upto_if 16 with (fail)
  go_cut [5] (fun v wz => RelB w.heap.size W0 R 1 v wz)
  case first =>
    obtain ⟨r, hr⟩ : ∃ r, r = R 0 := ⟨_, rfl⟩
    rw [← hr]
    have hRk : Hid (R 0 = r) := hr.symm
    clear hr
    cases r with
    | true =>
      go_wp2_with fail
      go_meet
      exact ⟨ao, 0, by rw [brokenK_yes hRk.out]; rfl, by rw [brokenK_yes hRk.out]; exact HO0.out, HB.out⟩
    | false =>
      go_wp2_with (at_builtin; refine wpList_app1 (1 : Int) wy (brokenK R 0) _ (.tmp 17) (.tmp 18) 38 (w.heap.size + 2) 3 i0 (.int .i64 0) 8 rfl rfl Try.underlying38 hi hz' hz1 hz2 rfl (by decide) 3 rfl rfl rfl HO0.out (by omega) (by unfold maxLen; omega) (by omega) ?_; intro v' w2 hown' hgrow _)
      obtain ⟨ao4, cap4, hv4, _, _, _, _, _⟩ := hown'.rows
      have hbel4 := HO0.out.below HB.out _ hgrow (Nat.le_refl _) (by omega)
      have hown3 := Lib.hid hown'
      rw [hv4] at hown3 ⊢
      clear hown' hgrow hv4
      go_wp2_with fail
      go_meet
      exact ⟨ao4, cap4, by rw [brokenK_no hRk.out]; rfl, by rw [brokenK_no hRk.out]; exact hown3.out, hbel4⟩
  case rest =>
  clear HO0 HB hs0 hl0
  obtain ⟨ao, cap, rfl, hown, hbel⟩ := hcut
  obtain ⟨wx, hwx⟩ : ∃ wx, wx = wc := ⟨_, rfl⟩
  subst hwx
  go_upto_region 4 with (fail)
  -- rule 2
  have hs1 := hbel.size
  have HO1 := Lib.hid hown
  have HB := Lib.hid hbel
  obtain ⟨_, f0, f1, f3, f4, g0, g1, g2, g3, g4, g5⟩ := HK.out _ hbel
  have hl1 := brokenK_len R 1
  clear hown hbel
  go_cut [29] (fun v wy => v = .bool (!(R 1)) ∧ Below wx.heap.size wx wy)
  case first =>
    rcases (show (0 ≤ m1 ∧ m1 ≤ c1) ∨ (m1 < 0) ∨ (0 ≤ m1 ∧ c1 < m1) from by omega) with hq | hq | hq
    · have hRk : Hid (R 1 = true) := by show _ = _; rw [R1.out]; first | (simp; done) | (simp; omega)
      go_wp2_with fail
      go_meet
      exact ⟨by first | (rw [hRk.out]; done) | (rw [hRk.out]; simp; done) | (rw [hRk.out]; simp; omega), Below.refl _ _⟩
    · have hRk : Hid (R 1 = false) := by show _ = _; rw [R1.out]; first | (simp; done) | (simp; omega)
      go_wp2_with fail
      go_meet
      exact ⟨by first | (rw [hRk.out]; done) | (rw [hRk.out]; simp; done) | (rw [hRk.out]; simp; omega), Below.refl _ _⟩
    · have hRk : Hid (R 1 = false) := by show _ = _; rw [R1.out]; first | (simp; done) | (simp; omega)
      go_wp2_with fail
      go_meet
      exact ⟨by first | (rw [hRk.out]; done) | (rw [hRk.out]; simp; done) | (rw [hRk.out]; simp; omega), Below.refl _ _⟩
  case rest =>
  obtain ⟨rfl, hcb⟩ := hcut
  have hown := HO1.out.keep hcb
  have hbel := HB.out.trans (hcb.mono (by omega))
  have hs1 := hbel.size
  obtain ⟨wy, hwy⟩ : ∃ wy, wy = wc := ⟨_, rfl⟩
  subst hwy
  clear HO1 HB f0 f1 f3 f4 g0 g1 g2 g3 g4 g5 hcb
  have HO1 := Lib.hid hown
  have HB := Lib.hid hbel
  clear hown hbel
  go_upto_if 29 with (fail)
  go_cut [5] (fun v wz => RelB w.heap.size W0 R 2 v wz)
  case first =>
    obtain ⟨r, hr⟩ : ∃ r, r = R 1 := ⟨_, rfl⟩
    rw [← hr]
    have hRk : Hid (R 1 = r) := hr.symm
    clear hr
    cases r with
    | true =>
      go_wp2_with fail
      go_meet
      exact ⟨ao, cap, by rw [brokenK_yes hRk.out], by rw [brokenK_yes hRk.out]; exact HO1.out, HB.out⟩
    | false =>
      go_wp2_with (at_builtin; refine wpList_app1 (2 : Int) wy (brokenK R 1) _ (.tmp 30) (.tmp 31) 38 (w.heap.size + 2) 3 i0 (.int .i64 0) 8 rfl rfl Try.underlying38 hi hz' hz1 hz2 rfl (by decide) 3 rfl rfl rfl HO1.out (by omega) (by unfold maxLen; omega) (by omega) ?_; intro v' w2 hown' hgrow _)
      obtain ⟨ao4, cap4, hv4, _, _, _, _, _⟩ := hown'.rows
      have hbel4 := HO1.out.below HB.out _ hgrow (Nat.le_refl _) (by omega)
      have hown3 := Lib.hid hown'
      rw [hv4] at hown3 ⊢
      clear hown' hgrow hv4
      go_wp2_with fail
      go_meet
      exact ⟨ao4, cap4, by rw [brokenK_no hRk.out]; rfl, by rw [brokenK_no hRk.out]; exact hown3.out, hbel4⟩
  case rest =>
  clear HO1 HB hs1 hl1
  obtain ⟨ao, cap, rfl, hown, hbel⟩ := hcut
  obtain ⟨wx, hwx⟩ : ∃ wx, wx = wc := ⟨_, rfl⟩
  subst hwx
  go_upto_region 6 with (fail)
  -- rule 3
  have hs2 := hbel.size
  have HO2 := Lib.hid hown
  have HB := Lib.hid hbel
  obtain ⟨_, f0, f1, f3, f4, g0, g1, g2, g3, g4, g5⟩ := HK.out _ hbel
  have hl2 := brokenK_len R 2
  clear hown hbel
  go_cut [37] (fun v wy => v = .bool (!(R 2)) ∧ Below wx.heap.size wx wy)
  case first =>
    have HK2 := Lib.hid (fun (w' : World) (hb : Below wx.heap.size wx w') => (show (fun w' => Below wx.heap.size wx w' ∧ w'.cell? ⟨w.heap.size, 0, none⟩ = some (.int .i64 c0) ∧ w'.cell? ⟨w.heap.size, 1, none⟩ = some (.int .i64 c1) ∧ w'.cell? ⟨w.heap.size, 3, none⟩ = some (.int .i64 c3) ∧ w'.cell? ⟨w.heap.size, 4, none⟩ = some (.int .i64 c4) ∧
      w'.cell? ⟨w.heap.size + 1, 0, none⟩ = some (.int .i64 m0) ∧ w'.cell? ⟨w.heap.size + 1, 1, none⟩ = some (.int .i64 m1) ∧ w'.cell? ⟨w.heap.size + 1, 2, none⟩ = some (.slice ba bl.length bc) ∧ w'.cell? ⟨w.heap.size + 1, 3, none⟩ = some (.slice ka kl.length kc) ∧ w'.cell? ⟨w.heap.size + 1, 4, none⟩ = some (.slice sa sl.length sc) ∧ w'.cell? ⟨w.heap.size + 1, 5, none⟩ = some (.slice la ll.length lc)) w' from
      have h := HK.out w' (HB.out.trans (hb.mono (by omega)))
      ⟨hb, h.2⟩))
    have HT1 : Hid (∀ W, Below wx.heap.size wx W → Calls Try.prog 14 #[.agg #[.int .i64 m0, .int .i64 m1, .slice ba bl.length bc, .slice ka kl.length kc, .slice sa sl.length sc, .slice la ll.length lc], .bool true] W fun e w' => e = .returned (.int .i64 T) ∧ Below wx.heap.size wx w') := by
      intro W hb
      refine (HT.out true W (HB.out.trans (hb.mono (by omega)))).mono ?_
      rintro e w' ⟨rfl, h⟩
      exact ⟨ret_int (by rw [HTF.out.1]), hb.trans (h.mono hb.size)⟩
    have HT2 : Hid (∀ W, Below wx.heap.size wx W → Calls Try.prog 14 #[.agg #[.int .i64 m0, .int .i64 m1, .slice ba bl.length bc, .slice ka kl.length kc, .slice sa sl.length sc, .slice la ll.length lc], .bool false] W fun e w' => e = .returned (.int .i64 F) ∧ Below wx.heap.size wx w') := by
      intro W hb
      refine (HT.out false W (HB.out.trans (hb.mono (by omega)))).mono ?_
      rintro e w' ⟨rfl, h⟩
      exact ⟨ret_int (by rw [HTF.out.2.1]), hb.trans (h.mono hb.size)⟩
    have HC2 : Hid (∀ W, Below wx.heap.size wx W → Calls Try.prog 36 #[.slice ka kl.length kc, .int .i64 2] W fun e w' => e = .returned (.int .i64 C) ∧ W = w') := fun W hb => HC.out W (HB.out.trans (hb.mono (by omega)))
    rcases (show ((T : Int) ≤ m0) ∨ (m0 < (T : Int)) from by omega) with hq | hq
    · have hRk : Hid (R 2 = true) := by show _ = _; rw [R2.out]; first | (simp; done) | (simp; omega)
      go_region_held3 (fun w' => Below wx.heap.size wx w' ∧ w'.cell? ⟨w.heap.size, 0, none⟩ = some (.int .i64 c0) ∧ w'.cell? ⟨w.heap.size, 1, none⟩ = some (.int .i64 c1) ∧ w'.cell? ⟨w.heap.size, 3, none⟩ = some (.int .i64 c3) ∧ w'.cell? ⟨w.heap.size, 4, none⟩ = some (.int .i64 c4) ∧
      w'.cell? ⟨w.heap.size + 1, 0, none⟩ = some (.int .i64 m0) ∧ w'.cell? ⟨w.heap.size + 1, 1, none⟩ = some (.int .i64 m1) ∧ w'.cell? ⟨w.heap.size + 1, 2, none⟩ = some (.slice ba bl.length bc) ∧ w'.cell? ⟨w.heap.size + 1, 3, none⟩ = some (.slice ka kl.length kc) ∧ w'.cell? ⟨w.heap.size + 1, 4, none⟩ = some (.slice sa sl.length sc) ∧ w'.cell? ⟨w.heap.size + 1, 5, none⟩ = some (.slice la ll.length lc))
        ((refine HK2.out _ ?_; first | assumption | exact Below.refl _ _ | exact Below.drew (Below.refl _ _) | exact And.left (by assumption) | exact Below.drew (And.left (by assumption))))
        (first | (go_at_call_of 14 (Value.bool true); refine (HT1.out _ ?_).mono ?_; (first | assumption | exact And.left (by assumption)); rintro e w' ⟨rfl, hb'⟩) | (go_at_call_of 14 (Value.bool false); refine (HT2.out _ ?_).mono ?_; (first | assumption | exact And.left (by assumption)); rintro e w' ⟨rfl, hb'⟩) | (go_at_call 36; refine (HC2.out _ ?_).mono ?_; (first | assumption | exact And.left (by assumption)); rintro e w' ⟨rfl, rfl⟩))
      have hbl2 : Below wx.heap.size wx w' := by first | assumption | exact And.left (by assumption)
      have HB2 := Lib.hid hbl2
      clear hbl2
      go_wp2_with fail
      go_meet
      exact ⟨by first | (rw [hRk.out]; done) | (rw [hRk.out]; simp; done) | (rw [hRk.out]; simp; omega), HB2.out⟩
    · have hRk : Hid (R 2 = false) := by show _ = _; rw [R2.out]; first | (simp; done) | (simp; omega)
      go_region_held3 (fun w' => Below wx.heap.size wx w' ∧ w'.cell? ⟨w.heap.size, 0, none⟩ = some (.int .i64 c0) ∧ w'.cell? ⟨w.heap.size, 1, none⟩ = some (.int .i64 c1) ∧ w'.cell? ⟨w.heap.size, 3, none⟩ = some (.int .i64 c3) ∧ w'.cell? ⟨w.heap.size, 4, none⟩ = some (.int .i64 c4) ∧
      w'.cell? ⟨w.heap.size + 1, 0, none⟩ = some (.int .i64 m0) ∧ w'.cell? ⟨w.heap.size + 1, 1, none⟩ = some (.int .i64 m1) ∧ w'.cell? ⟨w.heap.size + 1, 2, none⟩ = some (.slice ba bl.length bc) ∧ w'.cell? ⟨w.heap.size + 1, 3, none⟩ = some (.slice ka kl.length kc) ∧ w'.cell? ⟨w.heap.size + 1, 4, none⟩ = some (.slice sa sl.length sc) ∧ w'.cell? ⟨w.heap.size + 1, 5, none⟩ = some (.slice la ll.length lc))
        ((refine HK2.out _ ?_; first | assumption | exact Below.refl _ _ | exact Below.drew (Below.refl _ _) | exact And.left (by assumption) | exact Below.drew (And.left (by assumption))))
        (first | (go_at_call_of 14 (Value.bool true); refine (HT1.out _ ?_).mono ?_; (first | assumption | exact And.left (by assumption)); rintro e w' ⟨rfl, hb'⟩) | (go_at_call_of 14 (Value.bool false); refine (HT2.out _ ?_).mono ?_; (first | assumption | exact And.left (by assumption)); rintro e w' ⟨rfl, hb'⟩) | (go_at_call 36; refine (HC2.out _ ?_).mono ?_; (first | assumption | exact And.left (by assumption)); rintro e w' ⟨rfl, rfl⟩))
      have hbl2 : Below wx.heap.size wx w' := by first | assumption | exact And.left (by assumption)
      have HB2 := Lib.hid hbl2
      clear hbl2
      go_wp2_with fail
      go_meet
      exact ⟨by first | (rw [hRk.out]; done) | (rw [hRk.out]; simp; done) | (rw [hRk.out]; simp; omega), HB2.out⟩
  case rest =>
  obtain ⟨rfl, hcb⟩ := hcut
  have hown := HO2.out.keep hcb
  have hbel := HB.out.trans (hcb.mono (by omega))
  have hs2 := hbel.size
  obtain ⟨wy, hwy⟩ : ∃ wy, wy = wc := ⟨_, rfl⟩
  subst hwy
  clear HO2 HB f0 f1 f3 f4 g0 g1 g2 g3 g4 g5 hcb
  have HO2 := Lib.hid hown
  have HB := Lib.hid hbel
  clear hown hbel
  go_upto_if 37 with (fail)
  go_cut [5] (fun v wz => RelB w.heap.size W0 R 3 v wz)
  case first =>
    obtain ⟨r, hr⟩ : ∃ r, r = R 2 := ⟨_, rfl⟩
    rw [← hr]
    have hRk : Hid (R 2 = r) := hr.symm
    clear hr
    cases r with
    | true =>
      go_wp2_with fail
      go_meet
      exact ⟨ao, cap, by rw [brokenK_yes hRk.out], by rw [brokenK_yes hRk.out]; exact HO2.out, HB.out⟩
    | false =>
      go_wp2_with (at_builtin; refine wpList_app1 (3 : Int) wy (brokenK R 2) _ (.tmp 38) (.tmp 39) 38 (w.heap.size + 2) 3 i0 (.int .i64 0) 8 rfl rfl Try.underlying38 hi hz' hz1 hz2 rfl (by decide) 3 rfl rfl rfl HO2.out (by omega) (by unfold maxLen; omega) (by omega) ?_; intro v' w2 hown' hgrow _)
      obtain ⟨ao4, cap4, hv4, _, _, _, _, _⟩ := hown'.rows
      have hbel4 := HO2.out.below HB.out _ hgrow (Nat.le_refl _) (by omega)
      have hown3 := Lib.hid hown'
      rw [hv4] at hown3 ⊢
      clear hown' hgrow hv4
      go_wp2_with fail
      go_meet
      exact ⟨ao4, cap4, by rw [brokenK_no hRk.out]; rfl, by rw [brokenK_no hRk.out]; exact hown3.out, hbel4⟩
  case rest =>
  clear HO2 HB hs2 hl2
  obtain ⟨ao, cap, rfl, hown, hbel⟩ := hcut
  obtain ⟨wx, hwx⟩ : ∃ wx, wx = wc := ⟨_, rfl⟩
  subst hwx
  go_upto_region 8 with (fail)
  -- rule 4
  have hs3 := hbel.size
  have HO3 := Lib.hid hown
  have HB := Lib.hid hbel
  obtain ⟨_, f0, f1, f3, f4, g0, g1, g2, g3, g4, g5⟩ := HK.out _ hbel
  have hl3 := brokenK_len R 3
  clear hown hbel
  go_cut [49] (fun v wy => v = .bool (!(R 3)) ∧ Below wx.heap.size wx wy)
  case first =>
    have HK2 := Lib.hid (fun (w' : World) (hb : Below wx.heap.size wx w') => (show (fun w' => Below wx.heap.size wx w' ∧ w'.cell? ⟨w.heap.size, 0, none⟩ = some (.int .i64 c0) ∧ w'.cell? ⟨w.heap.size, 1, none⟩ = some (.int .i64 c1) ∧ w'.cell? ⟨w.heap.size, 3, none⟩ = some (.int .i64 c3) ∧ w'.cell? ⟨w.heap.size, 4, none⟩ = some (.int .i64 c4) ∧
      w'.cell? ⟨w.heap.size + 1, 0, none⟩ = some (.int .i64 m0) ∧ w'.cell? ⟨w.heap.size + 1, 1, none⟩ = some (.int .i64 m1) ∧ w'.cell? ⟨w.heap.size + 1, 2, none⟩ = some (.slice ba bl.length bc) ∧ w'.cell? ⟨w.heap.size + 1, 3, none⟩ = some (.slice ka kl.length kc) ∧ w'.cell? ⟨w.heap.size + 1, 4, none⟩ = some (.slice sa sl.length sc) ∧ w'.cell? ⟨w.heap.size + 1, 5, none⟩ = some (.slice la ll.length lc)) w' from
      have h := HK.out w' (HB.out.trans (hb.mono (by omega)))
      ⟨hb, h.2⟩))
    have HT1 : Hid (∀ W, Below wx.heap.size wx W → Calls Try.prog 14 #[.agg #[.int .i64 m0, .int .i64 m1, .slice ba bl.length bc, .slice ka kl.length kc, .slice sa sl.length sc, .slice la ll.length lc], .bool true] W fun e w' => e = .returned (.int .i64 T) ∧ Below wx.heap.size wx w') := by
      intro W hb
      refine (HT.out true W (HB.out.trans (hb.mono (by omega)))).mono ?_
      rintro e w' ⟨rfl, h⟩
      exact ⟨ret_int (by rw [HTF.out.1]), hb.trans (h.mono hb.size)⟩
    have HT2 : Hid (∀ W, Below wx.heap.size wx W → Calls Try.prog 14 #[.agg #[.int .i64 m0, .int .i64 m1, .slice ba bl.length bc, .slice ka kl.length kc, .slice sa sl.length sc, .slice la ll.length lc], .bool false] W fun e w' => e = .returned (.int .i64 F) ∧ Below wx.heap.size wx w') := by
      intro W hb
      refine (HT.out false W (HB.out.trans (hb.mono (by omega)))).mono ?_
      rintro e w' ⟨rfl, h⟩
      exact ⟨ret_int (by rw [HTF.out.2.1]), hb.trans (h.mono hb.size)⟩
    have HC2 : Hid (∀ W, Below wx.heap.size wx W → Calls Try.prog 36 #[.slice ka kl.length kc, .int .i64 2] W fun e w' => e = .returned (.int .i64 C) ∧ W = w') := fun W hb => HC.out W (HB.out.trans (hb.mono (by omega)))
    rcases (show ((F : Int) + (C : Int) ≤ m1) ∨ (m1 < (F : Int) + (C : Int)) from by omega) with hq | hq
    · have hRk : Hid (R 3 = true) := by show _ = _; rw [R3.out]; first | (simp; done) | (simp; omega)
      go_region_held3 (fun w' => Below wx.heap.size wx w' ∧ w'.cell? ⟨w.heap.size, 0, none⟩ = some (.int .i64 c0) ∧ w'.cell? ⟨w.heap.size, 1, none⟩ = some (.int .i64 c1) ∧ w'.cell? ⟨w.heap.size, 3, none⟩ = some (.int .i64 c3) ∧ w'.cell? ⟨w.heap.size, 4, none⟩ = some (.int .i64 c4) ∧
      w'.cell? ⟨w.heap.size + 1, 0, none⟩ = some (.int .i64 m0) ∧ w'.cell? ⟨w.heap.size + 1, 1, none⟩ = some (.int .i64 m1) ∧ w'.cell? ⟨w.heap.size + 1, 2, none⟩ = some (.slice ba bl.length bc) ∧ w'.cell? ⟨w.heap.size + 1, 3, none⟩ = some (.slice ka kl.length kc) ∧ w'.cell? ⟨w.heap.size + 1, 4, none⟩ = some (.slice sa sl.length sc) ∧ w'.cell? ⟨w.heap.size + 1, 5, none⟩ = some (.slice la ll.length lc))
        ((refine HK2.out _ ?_; first | assumption | exact Below.refl _ _ | exact Below.drew (Below.refl _ _) | exact And.left (by assumption) | exact Below.drew (And.left (by assumption))))
        (first | (go_at_call_of 14 (Value.bool true); refine (HT1.out _ ?_).mono ?_; (first | assumption | exact And.left (by assumption)); rintro e w' ⟨rfl, hb'⟩) | (go_at_call_of 14 (Value.bool false); refine (HT2.out _ ?_).mono ?_; (first | assumption | exact And.left (by assumption)); rintro e w' ⟨rfl, hb'⟩) | (go_at_call 36; refine (HC2.out _ ?_).mono ?_; (first | assumption | exact And.left (by assumption)); rintro e w' ⟨rfl, rfl⟩))
      have hbl2 : Below wx.heap.size wx w' := by first | assumption | exact And.left (by assumption)
      have HB2 := Lib.hid hbl2
      clear hbl2
      go_wp2_with fail
      go_meet
      exact ⟨by first | (rw [hRk.out]; done) | (rw [hRk.out]; simp; done) | (rw [hRk.out]; simp; omega), HB2.out⟩
    · have hRk : Hid (R 3 = false) := by show _ = _; rw [R3.out]; first | (simp; done) | (simp; omega)
      go_region_held3 (fun w' => Below wx.heap.size wx w' ∧ w'.cell? ⟨w.heap.size, 0, none⟩ = some (.int .i64 c0) ∧ w'.cell? ⟨w.heap.size, 1, none⟩ = some (.int .i64 c1) ∧ w'.cell? ⟨w.heap.size, 3, none⟩ = some (.int .i64 c3) ∧ w'.cell? ⟨w.heap.size, 4, none⟩ = some (.int .i64 c4) ∧
      w'.cell? ⟨w.heap.size + 1, 0, none⟩ = some (.int .i64 m0) ∧ w'.cell? ⟨w.heap.size + 1, 1, none⟩ = some (.int .i64 m1) ∧ w'.cell? ⟨w.heap.size + 1, 2, none⟩ = some (.slice ba bl.length bc) ∧ w'.cell? ⟨w.heap.size + 1, 3, none⟩ = some (.slice ka kl.length kc) ∧ w'.cell? ⟨w.heap.size + 1, 4, none⟩ = some (.slice sa sl.length sc) ∧ w'.cell? ⟨w.heap.size + 1, 5, none⟩ = some (.slice la ll.length lc))
        ((refine HK2.out _ ?_; first | assumption | exact Below.refl _ _ | exact Below.drew (Below.refl _ _) | exact And.left (by assumption) | exact Below.drew (And.left (by assumption))))
        (first | (go_at_call_of 14 (Value.bool true); refine (HT1.out _ ?_).mono ?_; (first | assumption | exact And.left (by assumption)); rintro e w' ⟨rfl, hb'⟩) | (go_at_call_of 14 (Value.bool false); refine (HT2.out _ ?_).mono ?_; (first | assumption | exact And.left (by assumption)); rintro e w' ⟨rfl, hb'⟩) | (go_at_call 36; refine (HC2.out _ ?_).mono ?_; (first | assumption | exact And.left (by assumption)); rintro e w' ⟨rfl, rfl⟩))
      have hbl2 : Below wx.heap.size wx w' := by first | assumption | exact And.left (by assumption)
      have HB2 := Lib.hid hbl2
      clear hbl2
      go_wp2_with fail
      go_meet
      exact ⟨by first | (rw [hRk.out]; done) | (rw [hRk.out]; simp; done) | (rw [hRk.out]; simp; omega), HB2.out⟩
  case rest =>
  obtain ⟨rfl, hcb⟩ := hcut
  have hown := HO3.out.keep hcb
  have hbel := HB.out.trans (hcb.mono (by omega))
  have hs3 := hbel.size
  obtain ⟨wy, hwy⟩ : ∃ wy, wy = wc := ⟨_, rfl⟩
  subst hwy
  clear HO3 HB f0 f1 f3 f4 g0 g1 g2 g3 g4 g5 hcb
  have HO3 := Lib.hid hown
  have HB := Lib.hid hbel
  clear hown hbel
  go_upto_if 49 with (fail)
  go_cut [5] (fun v wz => RelB w.heap.size W0 R 4 v wz)
  case first =>
    obtain ⟨r, hr⟩ : ∃ r, r = R 3 := ⟨_, rfl⟩
    rw [← hr]
    have hRk : Hid (R 3 = r) := hr.symm
    clear hr
    cases r with
    | true =>
      go_wp2_with fail
      go_meet
      exact ⟨ao, cap, by rw [brokenK_yes hRk.out], by rw [brokenK_yes hRk.out]; exact HO3.out, HB.out⟩
    | false =>
      go_wp2_with (at_builtin; refine wpList_app1 (4 : Int) wy (brokenK R 3) _ (.tmp 50) (.tmp 51) 38 (w.heap.size + 2) 3 i0 (.int .i64 0) 8 rfl rfl Try.underlying38 hi hz' hz1 hz2 rfl (by decide) 3 rfl rfl rfl HO3.out (by omega) (by unfold maxLen; omega) (by omega) ?_; intro v' w2 hown' hgrow _)
      obtain ⟨ao4, cap4, hv4, _, _, _, _, _⟩ := hown'.rows
      have hbel4 := HO3.out.below HB.out _ hgrow (Nat.le_refl _) (by omega)
      have hown3 := Lib.hid hown'
      rw [hv4] at hown3 ⊢
      clear hown' hgrow hv4
      go_wp2_with fail
      go_meet
      exact ⟨ao4, cap4, by rw [brokenK_no hRk.out]; rfl, by rw [brokenK_no hRk.out]; exact hown3.out, hbel4⟩
  case rest =>
  clear HO3 HB hs3 hl3
  obtain ⟨ao, cap, rfl, hown, hbel⟩ := hcut
  obtain ⟨wx, hwx⟩ : ∃ wx, wx = wc := ⟨_, rfl⟩
  subst hwx
  go_upto_region 10 with (fail)
  -- rule 5
  have hs4 := hbel.size
  have HO4 := Lib.hid hown
  have HB := Lib.hid hbel
  obtain ⟨_, f0, f1, f3, f4, g0, g1, g2, g3, g4, g5⟩ := HK.out _ hbel
  have hl4 := brokenK_len R 4
  clear hown hbel
  go_cut [58] (fun v wy => v = .bool (!(R 4)) ∧ Below wx.heap.size wx wy)
  case first =>
    rcases (show ((bl.length : Int) ≤ c3) ∨ (c3 < (bl.length : Int)) from by omega) with hq | hq
    · have hRk : Hid (R 4 = true) := by show _ = _; rw [R4.out]; first | (simp; done) | (simp; omega)
      go_wp2_with fail
      go_meet
      exact ⟨by first | (rw [hRk.out]; done) | (rw [hRk.out]; simp; done) | (rw [hRk.out]; simp; omega), Below.refl _ _⟩
    · have hRk : Hid (R 4 = false) := by show _ = _; rw [R4.out]; first | (simp; done) | (simp; omega)
      go_wp2_with fail
      go_meet
      exact ⟨by first | (rw [hRk.out]; done) | (rw [hRk.out]; simp; done) | (rw [hRk.out]; simp; omega), Below.refl _ _⟩
  case rest =>
  obtain ⟨rfl, hcb⟩ := hcut
  have hown := HO4.out.keep hcb
  have hbel := HB.out.trans (hcb.mono (by omega))
  have hs4 := hbel.size
  obtain ⟨wy, hwy⟩ : ∃ wy, wy = wc := ⟨_, rfl⟩
  subst hwy
  clear HO4 HB f0 f1 f3 f4 g0 g1 g2 g3 g4 g5 hcb
  have HO4 := Lib.hid hown
  have HB := Lib.hid hbel
  clear hown hbel
  go_upto_if 58 with (fail)
  go_cut [5] (fun v wz => RelB w.heap.size W0 R 5 v wz)
  case first =>
    obtain ⟨r, hr⟩ : ∃ r, r = R 4 := ⟨_, rfl⟩
    rw [← hr]
    have hRk : Hid (R 4 = r) := hr.symm
    clear hr
    cases r with
    | true =>
      go_wp2_with fail
      go_meet
      exact ⟨ao, cap, by rw [brokenK_yes hRk.out], by rw [brokenK_yes hRk.out]; exact HO4.out, HB.out⟩
    | false =>
      go_wp2_with (at_builtin; refine wpList_app1 (5 : Int) wy (brokenK R 4) _ (.tmp 59) (.tmp 60) 38 (w.heap.size + 2) 3 i0 (.int .i64 0) 8 rfl rfl Try.underlying38 hi hz' hz1 hz2 rfl (by decide) 3 rfl rfl rfl HO4.out (by omega) (by unfold maxLen; omega) (by omega) ?_; intro v' w2 hown' hgrow _)
      obtain ⟨ao4, cap4, hv4, _, _, _, _, _⟩ := hown'.rows
      have hbel4 := HO4.out.below HB.out _ hgrow (Nat.le_refl _) (by omega)
      have hown3 := Lib.hid hown'
      rw [hv4] at hown3 ⊢
      clear hown' hgrow hv4
      go_wp2_with fail
      go_meet
      exact ⟨ao4, cap4, by rw [brokenK_no hRk.out]; rfl, by rw [brokenK_no hRk.out]; exact hown3.out, hbel4⟩
  case rest =>
  clear HO4 HB hs4 hl4
  obtain ⟨ao, cap, rfl, hown, hbel⟩ := hcut
  obtain ⟨wx, hwx⟩ : ∃ wx, wx = wc := ⟨_, rfl⟩
  subst hwx
  go_upto_region 12 with (fail)
  -- rule 6
  have hs5 := hbel.size
  have HO5 := Lib.hid hown
  have HB := Lib.hid hbel
  obtain ⟨_, f0, f1, f3, f4, g0, g1, g2, g3, g4, g5⟩ := HK.out _ hbel
  have hl5 := brokenK_len R 5
  clear hown hbel
  go_cut [67] (fun v wy => v = .bool (!(R 5)) ∧ Below wx.heap.size wx wy)
  case first =>
    rcases (show ((kl.length : Int) ≤ c4) ∨ (c4 < (kl.length : Int)) from by omega) with hq | hq
    · have hRk : Hid (R 5 = true) := by show _ = _; rw [R5.out]; first | (simp; done) | (simp; omega)
      go_wp2_with fail
      go_meet
      exact ⟨by first | (rw [hRk.out]; done) | (rw [hRk.out]; simp; done) | (rw [hRk.out]; simp; omega), Below.refl _ _⟩
    · have hRk : Hid (R 5 = false) := by show _ = _; rw [R5.out]; first | (simp; done) | (simp; omega)
      go_wp2_with fail
      go_meet
      exact ⟨by first | (rw [hRk.out]; done) | (rw [hRk.out]; simp; done) | (rw [hRk.out]; simp; omega), Below.refl _ _⟩
  case rest =>
  obtain ⟨rfl, hcb⟩ := hcut
  have hown := HO5.out.keep hcb
  have hbel := HB.out.trans (hcb.mono (by omega))
  have hs5 := hbel.size
  obtain ⟨wy, hwy⟩ : ∃ wy, wy = wc := ⟨_, rfl⟩
  subst hwy
  clear HO5 HB f0 f1 f3 f4 g0 g1 g2 g3 g4 g5 hcb
  have HO5 := Lib.hid hown
  have HB := Lib.hid hbel
  clear hown hbel
  go_upto_if 67 with (fail)
  go_cut [5] (fun v wz => RelB w.heap.size W0 R 6 v wz)
  case first =>
    obtain ⟨r, hr⟩ : ∃ r, r = R 5 := ⟨_, rfl⟩
    rw [← hr]
    have hRk : Hid (R 5 = r) := hr.symm
    clear hr
    cases r with
    | true =>
      go_wp2_with fail
      go_meet
      exact ⟨ao, cap, by rw [brokenK_yes hRk.out], by rw [brokenK_yes hRk.out]; exact HO5.out, HB.out⟩
    | false =>
      go_wp2_with (at_builtin; refine wpList_app1 (6 : Int) wy (brokenK R 5) _ (.tmp 68) (.tmp 69) 38 (w.heap.size + 2) 3 i0 (.int .i64 0) 8 rfl rfl Try.underlying38 hi hz' hz1 hz2 rfl (by decide) 3 rfl rfl rfl HO5.out (by omega) (by unfold maxLen; omega) (by omega) ?_; intro v' w2 hown' hgrow _)
      obtain ⟨ao4, cap4, hv4, _, _, _, _, _⟩ := hown'.rows
      have hbel4 := HO5.out.below HB.out _ hgrow (Nat.le_refl _) (by omega)
      have hown3 := Lib.hid hown'
      rw [hv4] at hown3 ⊢
      clear hown' hgrow hv4
      go_wp2_with fail
      go_meet
      exact ⟨ao4, cap4, by rw [brokenK_no hRk.out]; rfl, by rw [brokenK_no hRk.out]; exact hown3.out, hbel4⟩
  case rest =>
  clear HO5 HB hs5 hl5
  obtain ⟨ao, cap, rfl, hown, hbel⟩ := hcut
  obtain ⟨wx, hwx⟩ : ∃ wx, wx = wc := ⟨_, rfl⟩
  subst hwx
  go_wp2_with fail
  go_ret
  exact Own.gives hown (fun x hx => by
    have := brokenK_mem R 6 x hx
    show -9223372036854775808 ≤ x ∧ x ≤ 9223372036854775807
    omega) (hb0.trans (hbel.mono (by omega))) (by omega)

end Go.Proofs.Ytocebogaopjkfaa
