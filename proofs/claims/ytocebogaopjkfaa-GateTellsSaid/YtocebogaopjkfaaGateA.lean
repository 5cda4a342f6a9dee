/-
  WALKS of book.Count and the reference's Count: how many entries are in a state.
-/
import Derived.Test.YtocebogaopjkfaaOpen
import Derived.Outline
namespace Go.Proofs.Ytocebogaopjkfaa
open Go.RowKit

def countSt (l : List EntryD) (st : Int) : Nat := (l.filter fun e => e.state == st).length

theorem countSt_take (l : List EntryD) (st : Int) (k : Nat) (h : k < l.length) : countSt (l.take (k + 1)) st = countSt (l.take k) st + if l[k].state == st then 1 else 0 := by
  unfold countSt
  rw [List.take_succ_eq_append_getElem h, List.filter_append, List.length_append]
  by_cases hs : l[k].state == st <;> simp [hs]

theorem countSt_le (l : List EntryD) (st : Int) (k : Nat) : countSt (l.take k) st ≤ k := by
  unfold countSt
  exact Nat.le_trans (List.length_filter_le _ _) (by rw [List.length_take]; omega)

set_option maxHeartbeats 400000 in
theorem rcount_any (s : Sl EntryD) (st : Int) (w : World) (hd : Cells.deep w s) :
    Calls Try.prog 36 #[s.val, .int .i64 st] w fun e w' => e = .returned (.int .i64 (countSt s.l st)) ∧ w = w' := by
  obtain ⟨ao, cap, l⟩ := s
  obtain ⟨h1, h2, h3, h4, h5⟩ := hd
  simp only [Sl.val] at *
  go_enter Try.func36, Try.ntmps36
  go_wp2
  go_loop [5, 6] (fun n i => ∃ k : Nat, k ≤ l.length ∧ i = .int .i64 k ∧ n = .int .i64 (countSt (l.take k) st)) (fun _ i => l.length - (intOf i).toNat)
  case atStart => exact ⟨0, Nat.zero_le _, rfl, by simp [countSt]⟩
  case round =>
    obtain ⟨k, hk, rfl, rfl⟩ := hrel
    have hle := countSt_le l st k
    by_cases hlt : k < l.length
    · obtain ⟨b, off, rfl, hc⟩ := h4.at k hlt
      have hs := Lib.hid (countSt_take l st k hlt)
      have hcell : w.cell? ⟨b, off + k * 7 + 4, none⟩ = some (.int .i64 l[k].state) := hc 4 _ rfl
      clear h3 h4 h5 hc
      by_cases he : l[k].state = st
      · have hb : (l[k].state == st) = true := by simpa using he
        go_wp2
        go_round
        case rel => exact ⟨k + 1, by omega, by go_num, by rw [hs.out, if_pos hb]; go_num⟩
        case measure => simp [intOf]; omega
      · have hb : (l[k].state == st) = false := by simpa using he
        go_wp2
        go_round
        case rel => exact ⟨k + 1, by omega, by go_num, by rw [hs.out, hb]; rfl⟩
        case measure => simp [intOf]; omega
    · go_wp2
      go_ret
      exact ⟨ret_int (by rw [List.take_of_length_le (by omega)]), rfl⟩

set_option maxHeartbeats 800000 in
theorem count_any (s : Sl EntryD) (st : Int) (w : World) (hd : Cells.deep w s) :
    Calls Try.prog 34 #[s.val, .int .i64 st] w fun e w' => e = .returned (.int .i64 (countSt s.l st)) ∧ Below w.heap.size w w' := by
  obtain ⟨ao, cap, l⟩ := s
  obtain ⟨h1, h2, h3, h4, h5⟩ := hd
  simp only [Sl.val] at *
  go_enter Try.func34, Try.ntmps34
  go_wp2
  go_loopw [5, 10] (fun n i wr => ∃ k : Nat, k ≤ l.length ∧ i = .int .i64 k ∧ n = .int .i64 (countSt (l.take k) st) ∧ Below w.heap.size w wr) (fun _ i _ => l.length - (intOf i).toNat)
  case atStart => exact ⟨0, Nat.zero_le _, rfl, by simp [countSt], Below.refl _ _⟩
  case round =>
    obtain ⟨k, hk, rfl, rfl, hbel⟩ := hrel
    have hle := countSt_le l st k
    by_cases hlt : k < l.length
    · have hs := Lib.hid (countSt_take l st k hlt)
      obtain ⟨b, off, rfl, hc⟩ := (h4.keep hbel).at k hlt
      have c0 := hc 0 _ rfl
      have c1 := hc 1 _ rfl
      have c2 := hc 2 _ rfl
      have c3 := hc 3 _ rfl
      have c4 := hc 4 _ rfl
      have c5 := hc 5 _ rfl
      have c6 := hc 6 _ rfl
      simp only [EntryD.sz_eq, Nat.add_zero] at c0 c1 c2 c3 c4 c5 c6
      have hsz := hbel.size
      clear h3 h4 h5 hc
      by_cases he : l[k].state = st
      · have hb : (l[k].state == st) = true := by simpa using he
        go_wp2
        go_roundw
        case rel => exact ⟨k + 1, by omega, by go_num, by rw [hs.out, if_pos hb]; go_num, hbel.alloc hsz _⟩
        case measure => simp [intOf]; omega
      · have hb : (l[k].state == st) = false := by simpa using he
        go_wp2
        go_roundw
        case rel => exact ⟨k + 1, by omega, by go_num, by rw [hs.out, hb]; rfl, hbel.alloc hsz _⟩
        case measure => simp [intOf]; omega
    · go_wp2
      go_ret
      exact ⟨ret_int (by rw [List.take_of_length_le (by omega)]), hbel⟩

end Go.Proofs.Ytocebogaopjkfaa
