/-
  WALKS of the functions of layer 2 (dec), of its reference and of its statements: what each call returns.
-/
import Derived.Test.YtocebogaopjkfaaDecB
namespace Go.Proofs.Ytocebogaopjkfaa
open Go.RowKit

def textOf (n : Int) : List UInt8 := if n < 0 then 45 :: digs n.natAbs else digs n.natAbs

set_option maxRecDepth 100000 in
theorem rtext_any (n : Int) (w : World) (h1 : -9223372036854775808 ≤ n) (h2 : n ≤ 9223372036854775807) :
    Calls Try.prog 23 #[.int .i64 n] w fun e w' => e = .returned (.string ⟨(textOf n).toArray⟩) ∧ Below w.heap.size w w' := by
  have hl := digsF_len 20 n.natAbs
  have H1 := Lib.hid (show n.natAbs < 18446744073709551616 by omega)
  have H2 := Lib.hid (show n.natAbs < 10 ^ (20 + 1) by omega)
  by_cases h : n < 0
  · go_enter Try.func23, Try.ntmps23
    go_wp2_with fail
    refine (size_any _ _ (by omega) (by omega)).mono ?_
    rintro e w' ⟨rfl, rfl⟩
    go_wp2_with fail
    refine (digits_any 20 _ _ H2 (by omega) H1).mono ?_
    rintro e w' ⟨rfl, hbel⟩
    go_wp2_with fail
    go_ret
    exact ⟨by unfold textOf; rw [if_pos h]; rfl, hbel⟩
  · go_enter Try.func23, Try.ntmps23
    go_wp2_with fail
    refine (size_any _ _ (by omega) (by omega)).mono ?_
    rintro e w' ⟨rfl, rfl⟩
    go_wp2_with fail
    refine (digits_any 20 _ _ H2 (by omega) H1).mono ?_
    rintro e w' ⟨rfl, hbel⟩
    go_wp2_with fail
    go_ret
    exact ⟨by unfold textOf; rw [if_neg (by omega)]; rfl, hbel⟩

/-- The cells of an array of digits: i of them still 0, behind them a text. -/
def txt (i : Nat) (l : List UInt8) : Array Value := ((List.replicate i (0 : Int) ++ l.map (fun b => (b.toNat : Int))).map (Value.int .u8)).toArray

theorem txt_size (i : Nat) (l : List UInt8) : (txt i l).size = i + l.length := by simp [txt]

theorem txt_zero (i j : Nat) (l : List UInt8) (h : j < i) : (txt i l)[j]? = some (.int .u8 0) := by
  simp only [txt, List.getElem?_toArray, List.getElem?_map]
  rw [List.getElem?_append_left (by simpa using h)]
  simp [h]

theorem txt_at (i j : Nat) (l : List UInt8) (h : j < l.length) : (txt i l)[i + j]? = some (.int .u8 (l[j].toNat)) := by
  simp only [txt, List.getElem?_toArray, List.getElem?_map]
  rw [List.getElem?_append_right (by simp)]
  simp [h]

theorem txt_set (i : Nat) (l : List UInt8) (b : UInt8) : (txt (i + 1) l).setIfInBounds i (.int .u8 b.toNat) = txt i (b :: l) := by
  simp only [txt, List.setIfInBounds_toArray]
  congr 1
  rw [List.replicate_succ', List.append_assoc, List.map_append, List.set_append_right _ _ (by simp)]
  simp

theorem txt_cell (w : World) (i j : Nat) (l : List UInt8) (T : TypeId) (h : j < i) : (w.alloc (.cells (txt i l) T)).cell? ⟨w.heap.size, j, none⟩ = some (.int .u8 0) := by
  rw [World.cell?_alloc_at _ _ _ _ rfl]
  exact txt_zero i j l h

theorem txt_store (w : World) (i : Nat) (l : List UInt8) (T : TypeId) (v : Int) (b : UInt8) (hv : v = b.toNat) :
    (w.alloc (.cells (txt (i + 1) l) T)).setCell ⟨w.heap.size, i, none⟩ (.int .u8 v) = w.alloc (.cells (txt i (b :: l)) T) := by
  subst hv
  rw [← txt_set, World.setCell_alloc_at _ _ _ _ _ rfl]

theorem neg_wrap (n : Int) (h : n < 0) (h1 : -9223372036854775808 ≤ n) : IntKind.u64.wrap (-IntKind.u64.wrap n) = n.natAbs := by
  have e1 : IntKind.u64.wrap n = n + 18446744073709551616 := by
    simp only [IntKind.wrap, IntKind.bits, IntKind.signed]
    simp
    omega
  rw [e1]
  simp only [IntKind.wrap, IntKind.bits, IntKind.signed]
  simp
  omega

theorem txt_str (w : World) (k c N : Nat) (l : List UInt8) (hN : N = l.length) :
    (convert 91 9 (Value.slice (some { block := w.heap.size, off := k }) N c)).run Try.prog (w.alloc (Obj.cells (txt k l) 89)) = .ok (.string ⟨l.toArray⟩) (w.alloc (Obj.cells (txt k l) 89)) := hN ▸
  run_convert_bytes_back (P := Try.prog) _ 91 9 5 ⟨w.heap.size, k, none⟩ c l Try.underlying91 Try.underlying5 Try.underlying9 (fun j hj => by
    have := txt_at k j l hj
    by_cases h0 : j = 0
    · subst h0
      simp only [Addr.add, if_true]
      rw [World.cell?_alloc_at _ _ _ _ rfl]
      exact this
    · simp only [Addr.add, if_neg h0]
      rw [World.cell?_alloc_at _ _ _ _ rfl]
      exact this)

theorem slice89 (B k N : Nat) (x : Int) (hx : x = k) (hN : k + N = 20) (h0 : 0 < N) (w : World) :
    (Instr.sliceAt 89 (.pointer (some { block := B, off := 0 })) (some (.int .i64 x)) none none).run Try.prog w = .ok (.slice (some { block := B, off := k }) N N) w := by
  subst hx
  obtain rfl : N = 20 - k := by omega
  have hal : Try.prog.arrayLen 89 = 20 := by kernel_rfl
  have hel : Try.prog.elem 89 = 5 := by kernel_rfl
  have hsz : (sizeOf 5).run Try.prog w = .ok 1 w := by kernel_rfl
  have h := run_sliceAt_array_l (P := Try.prog) w 89 { block := B, off := 0 } (by rw [hal, hel]; exact Try.underlying89) .i64 (k : Int) (by omega) (by rw [hal]; omega)
  rw [h, hal, hel, hsz]
  simp only [Result.andThen, slicedAt, Int.toNat_natCast, Nat.mul_one]
  rw [if_neg (by omega)]
  by_cases hk : k = 0
  · subst hk; rfl
  · simp [Addr.add, hk]

set_option maxRecDepth 100000 in
set_option maxHeartbeats 400000 in
theorem text_any (n : Int) (w : World) (h1 : -9223372036854775808 ≤ n) (h2 : n ≤ 9223372036854775807) :
    Calls Try.prog 22 #[.int .i64 n] w fun e w' => e = .returned (.string ⟨(textOf n).toArray⟩) ∧ Below w.heap.size w w' := by
  have hdl : (digs n.natAbs).length ≤ 19 := digs_len 18 _ (by omega) (by omega)
  by_cases h : n < 0
  · have hnw := neg_wrap n h h1
    go_enter Try.func22, Try.ntmps22
    go_wp2_with fail
    go_loopw [4, 5] (fun u i wr => ∃ (k m : Nat) (l : List UInt8), k + l.length = 20 ∧ i = .int .i64 k ∧ u = .int .u64 m ∧ Hid (digs n.natAbs = digs m ++ l) ∧ m ≤ n.natAbs ∧ (digs m).length + 1 ≤ k ∧ wr = w.alloc (.cells (txt k l) 89)) (fun _ i _ => (intOf i).toNat)
    case atStart => exact ⟨20, n.natAbs, [], rfl, rfl, rfl, by show _ = _; simp, Nat.le_refl _, by omega, rfl⟩
    case round =>
      obtain ⟨k, m, l, hkl, rfl, rfl, hd, hm, hlen, rfl⟩ := hrel
      by_cases h10 : 10 ≤ m
      · have HM := Lib.hid (show m < 18446744073709551616 by omega)
        have h2k := digs_two m h10 HM.out
        obtain ⟨k, rfl⟩ : ∃ j, k = j + 1 := ⟨k - 1, by omega⟩
        have hc := txt_cell w (k + 1) k l 89 (by omega)
        have hst := txt_store w k l 89 (48 + (m : Int) % 10) (dig8 m) (by rw [dig8_toNat]; omega)
        go_wp2_with fail
        go_roundw
        case rel =>
          have e := digs_step m h10 HM.out
          refine ⟨k, m / 10, dig8 m :: l, by simp; omega, rfl, by go_num, ?_, by omega, ?_, rfl⟩
          · show _ = _
            rw [hd.out, e]; simp
          · have := congrArg List.length e
            simp at this
            omega
        case measure => simp [intOf]
      · have h1k := List.length_pos_iff.2 (digs_ne m)
        have HE : Hid (digs n.natAbs = dig8 m :: l) := by
          show _ = _
          rw [hd.out, digs_small m (by omega)]; rfl
        obtain ⟨k, rfl⟩ : ∃ j, k = j + 2 := ⟨k - 2, by omega⟩
        have hc := txt_cell w (k + 2) (k + 1) l 89 (by omega)
        have hst := txt_store w (k + 1) l 89 (48 + (m : Int)) (dig8 m) (by rw [dig8_toNat]; omega)
        have hc2 := txt_cell w (k + 1) k (dig8 m :: l) 89 (by omega)
        have hst2 := txt_store w k (dig8 m :: l) 89 45 45 rfl
        have hstr := txt_str w k (20 - k) (20 - k) (45 :: dig8 m :: l) (by simp; omega)
        have hsl := slice89 w.heap.size k (20 - k) ((k : Int) + 2 - 1 - 1) (by omega) (by omega) (by omega)
        clear hd
        go_wp2_with fail
        go_ret
        exact ⟨ret_str (by unfold textOf; rw [if_pos h, HE.out]), (Below.refl _ _).alloc (Nat.le_refl _) _⟩
  · have hnw : IntKind.u64.wrap n = n.natAbs := by
      rw [IntWalk.u64_in _ (by omega)]
      omega
    go_enter Try.func22, Try.ntmps22
    go_wp2_with fail
    go_loopw [4, 5] (fun u i wr => ∃ (k m : Nat) (l : List UInt8), k + l.length = 20 ∧ i = .int .i64 k ∧ u = .int .u64 m ∧ Hid (digs n.natAbs = digs m ++ l) ∧ m ≤ n.natAbs ∧ (digs m).length + 1 ≤ k ∧ wr = w.alloc (.cells (txt k l) 89)) (fun _ i _ => (intOf i).toNat)
    case atStart => exact ⟨20, n.natAbs, [], rfl, rfl, by go_num, by show _ = _; simp, Nat.le_refl _, by omega, rfl⟩
    case round =>
      obtain ⟨k, m, l, hkl, rfl, rfl, hd, hm, hlen, rfl⟩ := hrel
      by_cases h10 : 10 ≤ m
      · have HM := Lib.hid (show m < 18446744073709551616 by omega)
        have h2k := digs_two m h10 HM.out
        obtain ⟨k, rfl⟩ : ∃ j, k = j + 1 := ⟨k - 1, by omega⟩
        have hc := txt_cell w (k + 1) k l 89 (by omega)
        have hst := txt_store w k l 89 (48 + (m : Int) % 10) (dig8 m) (by rw [dig8_toNat]; omega)
        go_wp2_with fail
        go_roundw
        case rel =>
          have e := digs_step m h10 HM.out
          refine ⟨k, m / 10, dig8 m :: l, by simp; omega, rfl, by go_num, ?_, by omega, ?_, rfl⟩
          · show _ = _
            rw [hd.out, e]; simp
          · have := congrArg List.length e
            simp at this
            omega
        case measure => simp [intOf]
      · have h1k := List.length_pos_iff.2 (digs_ne m)
        have HE : Hid (digs n.natAbs = dig8 m :: l) := by
          show _ = _
          rw [hd.out, digs_small m (by omega)]; rfl
        obtain ⟨k, rfl⟩ : ∃ j, k = j + 1 := ⟨k - 1, by omega⟩
        have hc := txt_cell w (k + 1) k l 89 (by omega)
        have hst := txt_store w k l 89 (48 + (m : Int)) (dig8 m) (by rw [dig8_toNat]; omega)
        have hstr := txt_str w k (20 - k) (20 - k) (dig8 m :: l) (by simp; omega)
        have hsl := slice89 w.heap.size k (20 - k) (k : Int) (by omega) (by omega) (by omega)
        clear hd
        go_wp2_with fail
        go_ret
        exact ⟨ret_str (by unfold textOf; rw [if_neg (by omega), HE.out]), (Below.refl _ _).alloc (Nat.le_refl _) _⟩
end Go.Proofs.Ytocebogaopjkfaa
