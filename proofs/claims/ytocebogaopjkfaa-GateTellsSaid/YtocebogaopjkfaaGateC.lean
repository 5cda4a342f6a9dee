/-
  WALKS of the reference's Peers (layer 31) and Index (layer 22).
-/
import Derived.Test.YtocebogaopjkfaaGateB
import Derived.Test.YtocebogaopjkfaaEqs
import Derived.Deep.QuietTactic
import Derived.BigQuiet
import Derived.Outline
namespace Go.Proofs.Ytocebogaopjkfaa
open Go.RowKit

set_option maxRecDepth 100000 in
set_option maxHeartbeats 1600000 in
theorem rpeers_any (s : ShardD) (w : World) (hd : Cells.deep w s) (hn : s.slots.l.length ≤ 1000000) :
    Calls Try.prog 38 #[.agg (Cells.cells s).toArray] w (Gives w (peersOf s)) := by
  obtain ⟨size, ao, cap, l⟩ := s
  obtain ⟨⟨hs1, hs2⟩, ⟨h1, h2, h3, h4, h5⟩, _⟩ := hd
  simp only [ShardD.cells_eq, Sl.val] at *
  obtain ⟨i0, hi, hz0, hz1, hz2⟩ := info_parts info_peer
  have H5 := Lib.hid h5
  have H4 := Lib.hid h4
  obtain ⟨N, hN⟩ : ∃ N, N = (l.take size.toNat).length := ⟨_, rfl⟩
  have hN2 := hN
  rw [List.length_take] at hN2
  have HN := Lib.hid hN
  clear h3 h4 h5 hN
  go_enter Try.func38, Try.ntmps38
  go_wp2_with fail
  go_loopw [3, 4] (fun v i wr => ∃ k : Nat, k ≤ N ∧ i = .int .i64 k ∧ Own wr (w.heap.size + 1) 63 v ((l.take size.toNat).take k) ∧ Below (w.heap.size + 1) (w.alloc (.cells #[.int .i64 size, .slice ao l.length cap] 35)) wr) (fun _ i _ => N - (intOf i).toNat)
  case atStart =>
    refine ⟨0, Nat.zero_le _, rfl, ?_, (Below.refl _ _).alloc (by simp) _⟩
    exact Own.made _ _ _ _ (by simp) (by simp)
  case round =>
    obtain ⟨k, hk, rfl, hown, hbel⟩ := hrel
    have cB0 : wr.cell? ⟨w.heap.size, 0, none⟩ = some (.int .i64 size) := (hbel.cell (by simp)).trans (by rw [World.cell?_alloc_at _ _ _ _ rfl]; rfl)
    have cB1 : wr.cell? ⟨w.heap.size, 1, none⟩ = some (.slice ao l.length cap) := (hbel.cell (by simp)).trans (by rw [World.cell?_alloc_at _ _ _ _ rfl]; rfl)
    have hsz := hbel.size
    simp only [World.size_alloc] at hsz
    by_cases hlt : k < N
    · have hkl : k < l.length := by omega
      obtain ⟨b, off, rfl, hc⟩ := (H4.out.keep (((Below.refl _ _).alloc (Nat.le_refl _) _).trans (hbel.mono (by omega)))).at k hkl
      have c0 := hc 0 _ rfl
      have c1 := hc 1 _ rfl
      have c2 := hc 2 _ rfl
      have c3 := hc 3 _ rfl
      have c4 := hc 4 _ rfl
      have c5 := hc 5 _ rfl
      have c6 := hc 6 _ rfl
      have c7 := hc 7 _ rfl
      have c8 := hc 8 _ rfl
      have c9 := hc 9 _ rfl
      simp only [PeerD.sz_eq, Nat.add_zero] at c0 c1 c2 c3 c4 c5 c6 c7 c8 c9
      have HO := Lib.hid hown
      have HB := Lib.hid hbel
      clear hc hown hbel
      go_wp2_with (at_builtin; refine wpList_app1 l[k] wr ((l.take size.toNat).take k) _ (.tmp 19) (.tmp 25) 33 (w.heap.size + 1) 63 i0 zeroPeer 80 rfl rfl Try.underlying33 hi hz0 hz1 hz2 rfl (by decide) 63 rfl rfl rfl HO.out (by simp; omega) (by unfold maxLen; simp; omega) (by omega) ?_; intro v' w' hown' hgrow _)
      go_roundw
      case rel =>
        have e : (l.take size.toNat).take (k + 1) = (l.take size.toNat).take k ++ [l[k]] := by
          rw [List.take_succ_eq_append_getElem (by rw [List.length_take]; omega), List.getElem_take]
        exact ⟨k + 1, by omega, by go_num, by rw [e]; exact hown', HO.out.below HB.out _ hgrow (Nat.le_refl _) (by omega)⟩
      case measure => simp [intOf]; omega
    · have HG := Lib.hid (Own.gives (w := w) hown (fun x hx => H5.out x (List.mem_of_mem_take (List.mem_of_mem_take hx))) (((Below.refl _ _).alloc (Nat.le_refl _) _).trans (hbel.mono (by omega))) (by omega))
      have hkN : k = N := by omega
      have HP : Hid (peersOf ⟨size, ⟨ao, cap, l⟩⟩ = (l.take size.toNat).take k) := by
        show l.take size.toNat = (l.take size.toNat).take k
        have := HN.out
        exact (List.take_of_length_le (l := l.take size.toNat) (by omega)).symm
      clear hkN hown hbel
      rcases (show size ≤ k ∨ ((k : Int) < size ∧ l.length ≤ k) from by omega) with hq | ⟨hq, hq2⟩
      · go_wp2_with fail
        go_ret
        rw [HP.out]
        exact HG.out
      · go_wp2_with fail
        go_ret
        rw [HP.out]
        exact HG.out

/-- Where the first peer of an end stands; -1: nowhere. -/
def indexEnd (l : List PeerD) (e : EndD) : Int := if (∃ p ∈ l, p.en = e) then (l.findIdx (fun p => p.en == e) : Int) else -1

theorem indexEnd_hit {l : List PeerD} {e : EndD} (k : Nat) (hk : k < l.length) (h : l[k].en = e) (hb : ∀ j (hj : j < k), (l[j]'(by omega)).en ≠ e) : indexEnd l e = k := by
  unfold indexEnd
  rw [if_pos ⟨l[k], List.getElem_mem hk, h⟩]
  congr 1
  rw [List.findIdx_eq hk]
  exact ⟨by simpa using h, fun j hj => by simpa using hb j hj⟩

theorem indexEnd_miss {l : List PeerD} {e : EndD} (hb : ∀ j (hj : j < l.length), l[j].en ≠ e) : indexEnd l e = -1 := by
  unfold indexEnd
  rw [if_neg]
  rintro ⟨p, hp, h⟩
  obtain ⟨j, hj, rfl⟩ := List.getElem_of_mem hp
  exact hb j hj h

set_option maxRecDepth 100000 in
set_option maxHeartbeats 800000 in
theorem index22_any (ao : Option Addr) (cap : Nat) (l : List PeerD) (e : EndD) (w : World) (h4 : Rows w ao l) (h2 : l.length ≤ 9223372036854775807) :
    Calls Try.prog 39 #[.slice ao l.length cap, .agg (Cells.cells e).toArray] w fun x w' => x = .returned (.int .i64 (indexEnd l e)) ∧ Below w.heap.size w w' := by
  simp only [EndD.cells_eq] at *
  have H4 := Lib.hid h4
  clear h4
  go_enter Try.func39, Try.ntmps39
  go_wp2_with fail
  go_loopw [5] (fun i wr => ∃ k : Nat, k ≤ l.length ∧ i = .int .i64 k ∧ Hid (∀ j (_ : j < k) (hj' : j < l.length), l[j].en ≠ e) ∧ ∃ q, wr = (w.alloc (.cells (Cells.cells e).toArray 59)).drewN q) (fun i _ => l.length - (intOf i).toNat)
  case atStart => exact ⟨0, Nat.zero_le _, rfl, Lib.hid (fun j hj => absurd hj (by omega)), 0, rfl⟩
  case round =>
    obtain ⟨k, hk, rfl, hnot, q, rfl⟩ := hrel
    rw [EndD.cells_eq]
    by_cases hlt : k < l.length
    · obtain ⟨b, off, rfl, hc⟩ := H4.out.at k hlt
      have c0 := hc 0 _ rfl
      have c1 := hc 1 _ rfl
      have c2 := hc 2 _ rfl
      have c3 := hc 3 _ rfl
      have hb := block_lt_of_cell c0
      simp only [PeerD.sz_eq, Nat.add_zero] at c0 c1 c2 c3
      have heq := fun w => eql_EndD l[k].en e w
      clear hc
      go_wp2_with fail
      go_quiet (fail)
      by_cases he : l[k].en = e
      · have hq : decide (l[k].en = e) = true := decide_eq_true he
        have HE := Lib.hid he
        clear he heq
        go_wp2_with fail
        go_ret
        exact ⟨ret_int (indexEnd_hit k hlt HE.out (fun j hj => hnot.out j hj (by omega))).symm, below_drewN (below_drewN ((Below.refl _ _).alloc (Nat.le_refl _) _) q) _⟩
      · have hq : decide (l[k].en = e) = false := decide_eq_false he
        have HE := Lib.hid he
        clear he heq
        go_wp2_with fail
        go_roundw
        case rel =>
          refine ⟨k + 1, by omega, by go_num, Lib.hid (fun j hj hj' => ?_), _, rfl⟩
          rcases (show j < k ∨ j = k from by omega) with h | rfl
          · exact hnot.out j h hj'
          · exact HE.out
        case measure => simp [intOf]; omega
    · go_wp2_with fail
      go_ret
      exact ⟨ret_int (indexEnd_miss (fun j hj => hnot.out j (by omega) hj)).symm, below_drewN ((Below.refl _ _).alloc (Nat.le_refl _) _) q⟩

end Go.Proofs.Ytocebogaopjkfaa
