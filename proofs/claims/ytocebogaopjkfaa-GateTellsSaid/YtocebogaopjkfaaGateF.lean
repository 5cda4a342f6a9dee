/-
  WALK of gate.Broken: the rules that do not hold.
-/
import Derived.Test.YtocebogaopjkfaaGateA
import Derived.Test.YtocebogaopjkfaaGateE
import Derived.Deep.RegionHeld3
import Derived.Deep.DeepCutAuto
import Derived.Outline
namespace Go.Proofs.Ytocebogaopjkfaa
open Go.RowKit

def within (n most : Int) : Bool := decide (0 ≤ n) && decide (n ≤ most)

theorem within_any (n most : Int) (w : World) :
    Calls Try.prog 35 #[.int .i64 n, .int .i64 most] w fun e w' => e = .returned (.bool (within n most)) ∧ w = w' := by
  by_cases h : 0 ≤ n
  · go_enter Try.func35, Try.ntmps35
    go_wp2
    go_ret
    exact ⟨ret_bool (by simp [within, h]), rfl⟩
  · go_enter Try.func35, Try.ntmps35
    go_wp2
    go_ret
    exact ⟨ret_bool (by simp [within]; omega), rfl⟩

/-- Which of the six rules hold. -/
def ruleB (c : ConfD) (m : MemD) : Nat → Bool
  | 0 => within m.inn c.maxIn
  | 1 => within m.out c.maxOut
  | 2 => decide ((taken m.shards.l true : Int) ≤ m.inn)
  | 3 => decide ((taken m.shards.l false : Int) + (countSt m.book.l 2 : Int) ≤ m.out)
  | 4 => decide ((m.bans.l.length : Int) ≤ c.maxBans)
  | _ => decide ((m.book.l.length : Int) ≤ c.maxBook)

/-- Of the first k rules those that do not hold. -/
def brokenK (f : Nat → Bool) : Nat → List Int
  | 0 => []
  | k + 1 => brokenK f k ++ if f k then [] else [(k : Int) + 1]

theorem brokenK_len (f : Nat → Bool) : ∀ k, (brokenK f k).length ≤ k
  | 0 => Nat.le_refl _
  | k + 1 => by
    have := brokenK_len f k
    simp only [brokenK, List.length_append]
    split <;> simp <;> omega

theorem brokenK_mem (f : Nat → Bool) : ∀ k, ∀ x ∈ brokenK f k, 1 ≤ x ∧ x ≤ (k : Int)
  | 0, x, h => by simp [brokenK] at h
  | k + 1, x, h => by
    simp only [brokenK, List.mem_append] at h
    rcases h with h | h
    · have := brokenK_mem f k x h
      omega
    · split at h
      · simp at h
      · simp at h
        omega

theorem info_int : (Try.prog.info? 3).map (fun i => (i.zero, i.size, i.bytes)) = some (some (.int .i64 0), 1, 8) := by kernel_rfl

theorem taken_le (l : List ShardD) (b : Bool) (hn : l.length ≤ 10) (hs : ∀ s ∈ l, s.slots.l.length ≤ 1000000) : taken l b ≤ 10000000 := by
  unfold taken
  have h1 := foldl_addEnd_le (endsOf l b) []
  have h2 : (endsOf l b).length ≤ l.length * 1000000 := by
    clear h1 hn
    induction l with
    | nil => simp [endsOf]
    | cons x l ih =>
      have := ih (fun s hx => hs s (by simp [hx]))
      have hx : (endsIn (peersOf x) b).length ≤ 1000000 := by
        unfold endsIn
        rw [List.length_map]
        exact Nat.le_trans (List.length_filter_le _ _) (Nat.le_trans (peersOf_le x) (hs x (by simp)))
      have e : endsOf (x :: l) b = endsIn (peersOf x) b ++ endsOf l b := by simp [endsOf]
      rw [e, List.length_append, List.length_cons, Nat.add_mul]
      omega
  have h3 : l.length * 1000000 ≤ 10 * 1000000 := Nat.mul_le_mul_right _ hn
  simp only [List.length_nil] at h1
  omega

/-- What the walk of the rules holds on to: the boxes of the arguments lie as they were laid. -/
def HoldS (n : Nat) (W0 : World) (cs ms : List Value) (w' : World) : Prop :=
  Below (n + 2) W0 w' ∧ (∀ j v, cs[j]? = some v → w'.cell? ⟨n, j, none⟩ = some v) ∧ (∀ j v, ms[j]? = some v → w'.cell? ⟨n + 1, j, none⟩ = some v)

theorem belowAlloc {n : Nat} {a w : World} (hn : n ≤ a.heap.size) (h : Below n a w) (o : Obj) : Below n a (w.alloc o) := h.alloc (Nat.le_trans hn h.size) o

theorem HoldS.keep {n : Nat} {W0 : World} {cs ms : List Value} {w' : World} (h : HoldS n W0 cs ms W0) (hb : Below (n + 2) W0 w') : HoldS n W0 cs ms w' :=
  ⟨hb, fun j v hj => (hb.cell (by show n < n + 2; omega)).trans (h.2.1 j v hj), fun j v hj => (hb.cell (by show n + 1 < n + 2; omega)).trans (h.2.2 j v hj)⟩

set_option maxRecDepth 100000 in
set_option maxHeartbeats 6400000 in
theorem broken_any (c : ConfD) (m : MemD) (w : World) (hd : Cells.deep w m) (hn : m.shards.l.length ≤ 10) (hbl : m.book.l.length ≤ 60) (hs : ∀ s ∈ m.shards.l, s.slots.l.length ≤ 1000000) :
    Calls Try.prog 11 #[.agg (Cells.cells c).toArray, .agg (Cells.cells m).toArray] w (Gives w (brokenK (ruleB c m) 6)) := by
  have HD := Lib.hid hd
  have HN := Lib.hid (And.intro hn hs)
  have ht1 := taken_le m.shards.l true hn hs
  have ht2 := taken_le m.shards.l false hn hs
  have hcnt : countSt m.book.l 2 ≤ m.book.l.length := by unfold countSt; exact List.length_filter_le _ _
  obtain ⟨i0, hi, hz', hz1, hz2⟩ := info_parts info_int
  obtain ⟨R, hR⟩ : ∃ R, R = ruleB c m := ⟨_, rfl⟩
  have HR := Lib.hid hR
  rw [← hR]
  clear hR
  have hbk : Cells.deep w m.book := by obtain ⟨_, _, _, b, _⟩ := hd; exact b
  have HBK := Lib.hid hbk
  obtain ⟨c0, c1, c2, c3, c4, c5, ⟨c6, c7, c8, c9⟩, c10, c11, c12, c13, c14, c15⟩ := c
  obtain ⟨m0, m1, ⟨ba, bc, bl⟩, ⟨ka, kc, kl⟩, ⟨sa, sc, sl⟩, ⟨la, lc, ll⟩⟩ := m
  simp only [ConfD.cells_eq, MemD.cells_eq, Sl.val] at *
  clear hd hn hs hbk
  obtain ⟨T, hT⟩ : ∃ T, T = taken sl true := ⟨_, rfl⟩
  obtain ⟨F, hF⟩ : ∃ F, F = taken sl false := ⟨_, rfl⟩
  obtain ⟨C, hC⟩ : ∃ C, C = countSt kl 2 := ⟨_, rfl⟩
  rw [← hT] at ht1
  rw [← hF] at ht2
  rw [← hC] at hcnt
  have HTF := Lib.hid (And.intro hT (And.intro hF hC))
  have hwr : IntKind.i64.wrap ((F : Int) + (C : Int)) = (F : Int) + (C : Int) := IntWalk.i64_in _ (by omega)
  have R0 : Hid (within m0 c0 = R 0) := by rw [HR.out]; rfl
  have R1 : Hid (within m1 c1 = R 1) := by rw [HR.out]; rfl
  have R2 : Hid (decide ((T : Int) ≤ m0) = R 2) := by rw [HR.out, hT]; rfl
  have R3 : Hid (decide ((F : Int) + (C : Int) ≤ m1) = R 3) := by rw [HR.out, hF, hC]; rfl
  have R4 : Hid (decide ((bl.length : Int) ≤ c3) = R 4) := by rw [HR.out]; rfl
  have R5 : Hid (decide ((kl.length : Int) ≤ c4) = R 5) := by rw [HR.out]; rfl
  clear hT hF hC
  go_enter Try.func11, Try.ntmps11
  go_wp2_with fail
  obtain ⟨W0, hW0⟩ : ∃ W0 : World, W0 = (w.alloc (.cells (Cells.cells (⟨c0, c1, c2, c3, c4, c5, ⟨c6, c7, c8, c9⟩, c10, c11, c12, c13, c14, c15⟩ : ConfD)).toArray 26)).alloc (.cells (Cells.cells (⟨m0, m1, ⟨ba, bc, bl⟩, ⟨ka, kc, kl⟩, ⟨sa, sc, sl⟩, ⟨la, lc, ll⟩⟩ : MemD)).toArray 32) := ⟨_, rfl⟩
  have hz0 : W0.heap.size = w.heap.size + 2 := by rw [hW0]; simp
  have hb0 : Below w.heap.size w W0 := by
    rw [hW0]
    exact ((Below.refl _ _).alloc (Nat.le_refl _) _).alloc (by simp) _
  have hcc : ∀ j v, (Cells.cells (⟨c0, c1, c2, c3, c4, c5, ⟨c6, c7, c8, c9⟩, c10, c11, c12, c13, c14, c15⟩ : ConfD))[j]? = some v → W0.cell? ⟨w.heap.size, j, none⟩ = some v := by
    intro j v hj
    rw [hW0, World.cell?_alloc_past _ _ _ (by simp), World.cell?_alloc_at _ _ _ _ rfl]
    simpa using hj
  have hmc : ∀ j v, (Cells.cells (⟨m0, m1, ⟨ba, bc, bl⟩, ⟨ka, kc, kl⟩, ⟨sa, sc, sl⟩, ⟨la, lc, ll⟩⟩ : MemD))[j]? = some v → W0.cell? ⟨w.heap.size + 1, j, none⟩ = some v := by
    intro j v hj
    rw [hW0, World.cell?_alloc_at _ _ _ _ (by simp)]
    simpa using hj
  have hcnt2 := count_any ⟨ka, kc, kl⟩ 2 W0 (Cells.keep HBK.out hb0)
  rw [hW0] at hcnt2
  simp only [ConfD.cells_eq, MemD.cells_eq, Sl.val] at hcnt2
  refine hcnt2.mono ?_
  rw [← HTF.out.2.2]
  rintro e w1 ⟨rfl, hb1⟩
  have e0 := hW0
  simp only [ConfD.cells_eq, MemD.cells_eq, Sl.val] at e0
  rw [← e0] at hb1
  have hbel : Below (w.heap.size + 2) W0 w1 := hb1.mono (by omega)
  have hmem : ∀ W, Below (w.heap.size + 2) W0 W → Cells.deep W (⟨m0, m1, ⟨ba, bc, bl⟩, ⟨ka, kc, kl⟩, ⟨sa, sc, sl⟩, ⟨la, lc, ll⟩⟩ : MemD) := fun W hb => Cells.keep HD.out (hb0.trans (hb.mono (by omega)))
  have ht1' : ∀ W, Below (w.heap.size + 2) W0 W → Calls Try.prog 13 #[.agg #[.int .i64 m0, .int .i64 m1, .slice ba bl.length bc, .slice ka kl.length kc, .slice sa sl.length sc, .slice la ll.length lc], .bool true] W fun e w' => e = .returned (.int .i64 T) ∧ Below (w.heap.size + 2) W0 w' := by
    intro W hb
    refine (taken_any ⟨m0, m1, ⟨ba, bc, bl⟩, ⟨ka, kc, kl⟩, ⟨sa, sc, sl⟩, ⟨la, lc, ll⟩⟩ true W (hmem W hb) HN.out.1 HN.out.2).mono ?_
    rintro e w' ⟨rfl, h⟩
    exact ⟨ret_int (by rw [HTF.out.1]), hb.trans (h.mono (by have := hb.size; omega))⟩
  have ht2' : ∀ W, Below (w.heap.size + 2) W0 W → Calls Try.prog 13 #[.agg #[.int .i64 m0, .int .i64 m1, .slice ba bl.length bc, .slice ka kl.length kc, .slice sa sl.length sc, .slice la ll.length lc], .bool false] W fun e w' => e = .returned (.int .i64 F) ∧ Below (w.heap.size + 2) W0 w' := by
    intro W hb
    refine (taken_any ⟨m0, m1, ⟨ba, bc, bl⟩, ⟨ka, kc, kl⟩, ⟨sa, sc, sl⟩, ⟨la, lc, ll⟩⟩ false W (hmem W hb) HN.out.1 HN.out.2).mono ?_
    rintro e w' ⟨rfl, h⟩
    exact ⟨ret_int (by rw [HTF.out.2.1]), hb.trans (h.mono (by have := hb.size; omega))⟩
  have HT1 := Lib.hid ht1'
  have HT2 := Lib.hid ht2'
  have hS : HoldS w.heap.size W0 (Cells.cells (⟨c0, c1, c2, c3, c4, c5, ⟨c6, c7, c8, c9⟩, c10, c11, c12, c13, c14, c15⟩ : ConfD)) (Cells.cells (⟨m0, m1, ⟨ba, bc, bl⟩, ⟨ka, kc, kl⟩, ⟨sa, sc, sl⟩, ⟨la, lc, ll⟩⟩ : MemD)) W0 := ⟨Below.refl _ _, hcc, hmc⟩
  have HK := Lib.hid (fun (w' : World) (hb : Below (w.heap.size + 2) W0 w') => (show Below (w.heap.size + 2) W0 w' ∧ w'.cell? ⟨w.heap.size, 0, none⟩ = some (.int .i64 c0) ∧ w'.cell? ⟨w.heap.size, 1, none⟩ = some (.int .i64 c1) ∧ w'.cell? ⟨w.heap.size, 3, none⟩ = some (.int .i64 c3) ∧ w'.cell? ⟨w.heap.size, 4, none⟩ = some (.int .i64 c4) ∧
      w'.cell? ⟨w.heap.size + 1, 0, none⟩ = some (.int .i64 m0) ∧ w'.cell? ⟨w.heap.size + 1, 1, none⟩ = some (.int .i64 m1) ∧ w'.cell? ⟨w.heap.size + 1, 2, none⟩ = some (.slice ba bl.length bc) ∧ w'.cell? ⟨w.heap.size + 1, 3, none⟩ = some (.slice ka kl.length kc) ∧ w'.cell? ⟨w.heap.size + 1, 4, none⟩ = some (.slice sa sl.length sc) ∧ w'.cell? ⟨w.heap.size + 1, 5, none⟩ = some (.slice la ll.length lc) from
    have h := hS.keep hb
    ⟨hb, h.2.1 0 _ rfl, h.2.1 1 _ rfl, h.2.1 3 _ rfl, h.2.1 4 _ rfl, h.2.2 0 _ rfl, h.2.2 1 _ rfl, h.2.2 2 _ rfl, h.2.2 3 _ rfl, h.2.2 4 _ rfl, h.2.2 5 _ rfl⟩))
  clear hcnt2 hb1 e0 hmem ht1' ht2' hcc hmc hW0 hS
  have hs1 := hbel.size
  have HB := Lib.hid hbel
  have HZ : Hid (w.heap.size + 2 ≤ W0.heap.size) := by show _ ≤ _; omega
  go_upto_region 3 with (fail)
  go_region_held3 (fun w' => Below (w.heap.size + 2) W0 w' ∧ w'.cell? ⟨w.heap.size, 0, none⟩ = some (.int .i64 c0) ∧ w'.cell? ⟨w.heap.size, 1, none⟩ = some (.int .i64 c1) ∧ w'.cell? ⟨w.heap.size, 3, none⟩ = some (.int .i64 c3) ∧ w'.cell? ⟨w.heap.size, 4, none⟩ = some (.int .i64 c4) ∧
      w'.cell? ⟨w.heap.size + 1, 0, none⟩ = some (.int .i64 m0) ∧ w'.cell? ⟨w.heap.size + 1, 1, none⟩ = some (.int .i64 m1) ∧ w'.cell? ⟨w.heap.size + 1, 2, none⟩ = some (.slice ba bl.length bc) ∧ w'.cell? ⟨w.heap.size + 1, 3, none⟩ = some (.slice ka kl.length kc) ∧ w'.cell? ⟨w.heap.size + 1, 4, none⟩ = some (.slice sa sl.length sc) ∧ w'.cell? ⟨w.heap.size + 1, 5, none⟩ = some (.slice la ll.length lc))
    ((refine HK.out _ ?_; first | assumption | exact HB.out | exact Below.drew HB.out | exact And.left (by assumption) | exact Below.drew (And.left (by assumption)) | exact belowAlloc HZ.out (by assumption) _ | exact belowAlloc HZ.out (And.left (by assumption)) _))
    (first | (go_at_call 35; refine (within_any _ _ _).mono ?_; rintro e w' ⟨rfl, rfl⟩) | (go_at_call_of 13 (Value.bool true); refine (HT1.out _ ?_).mono ?_; (first | assumption | exact And.left (by assumption)); rintro e w' ⟨rfl, hb'⟩) | (go_at_call_of 13 (Value.bool false); refine (HT2.out _ ?_).mono ?_; (first | assumption | exact And.left (by assumption)); rintro e w' ⟨rfl, hb'⟩))
  have hbl2 : Below (w.heap.size + 2) W0 w' := by first | assumption | exact And.left (by assumption)
  have HB2 := Lib.hid hbl2
  clear hbl2
  rw [R0.out, R1.out, R2.out, R3.out, R4.out, R5.out]
  go_wp2_with fail
  have HBW : Hid (Below w.heap.size w (w'.alloc (.cells #[.bool (R 0), .bool (R 1), .bool (R 2), .bool (R 3), .bool (R 4), .bool (R 5)] 4)) ∧ w.heap.size + 2 ≤ w'.heap.size) := by
    refine ⟨(hb0.trans (HB2.out.mono (by omega))).alloc ?_ _, ?_⟩ <;> (have := HB2.out.size; omega)
  have HCL : Hid (∀ k, k < 6 → (w'.alloc (.cells #[.bool (R 0), .bool (R 1), .bool (R 2), .bool (R 3), .bool (R 4), .bool (R 5)] 4)).cell? ⟨w'.heap.size, k, none⟩ = some (.bool (R k))) := by
    intro k hk
    rw [World.cell?_alloc_at _ _ _ _ rfl]
    match k, hk with
    | 0, _ => rfl
    | 1, _ => rfl
    | 2, _ => rfl
    | 3, _ => rfl
    | 4, _ => rfl
    | 5, _ => rfl
  go_loopw [6, 48] (fun v i wr => ∃ k : Nat, k ≤ 6 ∧ i = .int .i64 k ∧ ∃ (ao : Option Addr) (cap : Nat), v = .slice ao (brokenK R k).length cap ∧ Hid (Own wr (w'.heap.size + 1) 3 v (brokenK R k)) ∧ Below (w'.heap.size + 1) (w'.alloc (.cells #[.bool (R 0), .bool (R 1), .bool (R 2), .bool (R 3), .bool (R 4), .bool (R 5)] 4)) wr) (fun _ i _ => 6 - (intOf i).toNat)
  case atStart => exact ⟨0, Nat.zero_le _, rfl, none, 0, rfl, Lib.hid (Own.nil _ _ _), Below.refl _ _⟩
  case round =>
    obtain ⟨k, hk, rfl, ao, cap, rfl, hown, hbel3⟩ := hrel
    have hsz := hbel3.size
    simp only [World.size_alloc] at hsz
    by_cases hlt : k < 6
    · have cK : wr.cell? ⟨w'.heap.size, k, none⟩ = some (.bool (R k)) := (hbel3.cell (by show w'.heap.size < w'.heap.size + 1; omega)).trans (HCL.out k hlt)
      obtain ⟨r, hr⟩ : ∃ r, r = R k := ⟨_, rfl⟩
      rw [← hr] at cK
      have hlen := brokenK_len R k
      cases r with
      | true =>
        have HE : Hid (brokenK R (k + 1) = brokenK R k) := by show _ = _; simp [brokenK, ← hr]
        clear hr
        go_wp2_with fail
        go_roundw
        case rel => exact ⟨k + 1, by omega, by go_num, ao, cap, by rw [HE.out], by rw [HE.out]; exact hown, hbel3⟩
        case measure => simp [intOf]; omega
      | false =>
        have HE : Hid (brokenK R (k + 1) = brokenK R k ++ [(k : Int) + 1]) := by show _ = _; simp [brokenK, ← hr]
        clear hr
        go_wp2_with (at_builtin; refine wpList_app1 ((k : Int) + 1) wr (brokenK R k) _ (.tmp 55) (.tmp 58) 38 (w'.heap.size + 1) 3 i0 (.int .i64 0) 8 rfl rfl Try.underlying38 hi hz' hz1 hz2 rfl (by decide) 3 rfl rfl rfl hown.out (by omega) (by unfold maxLen; omega) (by omega) ?_; intro v' w2 hown' hgrow _)
        obtain ⟨ao4, cap4, hv4, _, _, _, _, _⟩ := hown'.rows
        have hbel4 := hown.out.below hbel3 _ hgrow (Nat.le_refl _) (by omega)
        have hown3 := Lib.hid hown'
        rw [hv4] at hown3 ⊢
        clear hown' hgrow hv4
        go_wp2_with fail
        go_roundw
        case rel => exact ⟨k + 1, by omega, by go_num, ao4, cap4, by rw [HE.out], by rw [HE.out]; exact hown3, hbel4⟩
        case measure => simp [intOf]; omega
    · have hk6 : k = 6 := by omega
      subst hk6
      have HG := Lib.hid (Own.gives (w := w) hown.out (fun x hx => by
        have := brokenK_mem R 6 x hx
        show -9223372036854775808 ≤ x ∧ x ≤ 9223372036854775807
        omega) (HBW.out.1.trans (hbel3.mono (by have := HBW.out.2; omega))) (by have := HBW.out.2; omega))
      clear hown hbel3
      go_wp2_with fail
      go_ret
      exact HG.out

end Go.Proofs.Ytocebogaopjkfaa
