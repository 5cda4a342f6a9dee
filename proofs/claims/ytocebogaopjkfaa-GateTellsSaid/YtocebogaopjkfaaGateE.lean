/-
  WALK of the reference's Taken (layer 51).
-/
import Derived.Test.YtocebogaopjkfaaGateD
import Derived.Outline
namespace Go.Proofs.Ytocebogaopjkfaa
open Go.RowKit

theorem indexEnd_neg (l : List PeerD) (e : EndD) : (indexEnd l e < 0 ↔ e ∉ l.map (·.en)) ∧ -1 ≤ indexEnd l e := by
  unfold indexEnd
  split
  · rename_i h
    obtain ⟨p, hp, he⟩ := h
    refine ⟨⟨fun h => by omega, fun h => absurd (List.mem_map.2 ⟨p, hp, he⟩) h⟩, by omega⟩
  · rename_i h
    refine ⟨⟨fun _ hm => ?_, fun _ => by omega⟩, by omega⟩
    obtain ⟨p, hp, he⟩ := List.mem_map.1 hm
    exact h ⟨p, hp, he⟩

set_option maxRecDepth 100000 in
set_option maxHeartbeats 3200000 in
theorem rtaken_any (m : MemD) (b : Bool) (w : World) (hd : Cells.deep w m) (hn : m.shards.l.length ≤ 10) (hs : ∀ s ∈ m.shards.l, s.slots.l.length ≤ 1000000) :
    Calls Try.prog 14 #[.agg (Cells.cells m).toArray, .bool b] w fun e w' => e = .returned (.int .i64 (taken m.shards.l b)) ∧ Below w.heap.size w w' := by
  obtain ⟨m0, m1, m2, m3, ⟨ao, cap, l⟩, m5⟩ := m
  obtain ⟨_, _, _, _, ⟨h1, h2, h3, h4, h5⟩, _, _⟩ := hd
  simp only [MemD.cells_eq, Sl.val] at *
  have H4 := Lib.hid h4
  have H5 := Lib.hid h5
  have HS := Lib.hid hs
  obtain ⟨i0, hi, hz0', hz1, hz2⟩ := info_parts info_peer
  clear h3 h4 h5 hs
  obtain ⟨W0, hW0⟩ : ∃ W0 : World, W0 = w.alloc (.cells (Cells.cells (⟨m0, m1, m2, m3, ⟨ao, cap, l⟩, m5⟩ : MemD)).toArray 32) := ⟨_, rfl⟩
  have hz0 : W0.heap.size = w.heap.size + 1 := by rw [hW0]; simp
  have HW := Lib.hid hW0
  have c4 : W0.cell? ⟨w.heap.size, 4, none⟩ = some (.slice ao l.length cap) := by rw [hW0, World.cell?_alloc_at _ _ _ _ rfl]; rfl
  clear hW0
  go_enter Try.func14, Try.ntmps14
  go_wp2_with fail
  go_loopw [5, 6] (fun v i wr => ∃ k : Nat, k ≤ l.length ∧ i = .int .i64 k ∧ ∃ L : List PeerD, Hid (Own wr (w.heap.size + 1) 63 v L) ∧ Hid (L.map (·.en) = (endsOf (l.take k) b).foldl addEnd []) ∧ L.length ≤ k * 1000000 ∧ Below (w.heap.size + 1) W0 wr) (fun _ i _ => l.length - (intOf i).toNat)
  case atStart =>
    have e := HW.out
    simp only [MemD.cells_eq, Sl.val] at e
    refine ⟨0, Nat.zero_le _, rfl, [], Lib.hid (Own.made _ _ _ _ (by simp) (by simp)), Lib.hid rfl, by simp, ?_⟩
    rw [← e]
    exact (Below.refl _ _).alloc (by omega) _
  case round =>
    obtain ⟨k, hk, rfl, L, hown, hL, hLl, hbel⟩ := hrel
    obtain ⟨ao2, cap2, rfl, r1, r2, r3, r4, r5⟩ := hown.out.rows
    have HR := Lib.hid (And.intro r4 r5)
    clear r3 r4 r5
    have cw : wr.cell? ⟨w.heap.size, 4, none⟩ = some (.slice ao l.length cap) := (hbel.cell (by simp)).trans c4
    have hbw : Below w.heap.size w wr := by
      refine Below.trans ?_ (hbel.mono (by omega))
      rw [HW.out]
      exact (Below.refl _ _).alloc (Nat.le_refl _) _
    have hsz := hbel.size
    by_cases hlt : k < l.length
    · obtain ⟨sb, off, rfl, hc⟩ := (H4.out.keep hbw).at k hlt
      have c0 := hc 0 _ rfl
      have c1 := hc 1 _ rfl
      simp only [ShardD.sz_eq, Nat.add_zero, Sl.val] at c0 c1
      have hdk := Lib.hid (Cells.keep (H5.out l[k] (List.getElem_mem hlt)) hbw)
      obtain ⟨wo, rfl⟩ : ∃ wo : World, wo = wr := ⟨_, rfl⟩
      clear hc
      go_wp2_with fail
      have hpc := rpeers_any l[k] wo hdk.out (HS.out _ (List.getElem_mem hlt))
      refine hpc.mono ?_
      intro e w1 hg
      obtain ⟨s', rfl, hl', hd', hb1, hfr⟩ := hg
      obtain ⟨ao', cap', l'⟩ := s'
      obtain ⟨q1, q2, q3, q4, q5⟩ := hd'
      simp only at hl' q1 q2 q4 q5
      have hq : l'.length ≤ 1000000 := by rw [hl']; exact Nat.le_trans (peersOf_le _) (HS.out _ (List.getElem_mem hlt))
      have hap : Apart ao' (.slice ao2 L.length cap2) := by
        intro a ha e
        have h1 := (hfr a ha).1
        have h2 := (World.ownsRow.lt hown.out _ e).2
        omega
      have hown1 := Lib.hid (hown.out.keep hb1)
      have hbel1 : Below (w.heap.size + 1) W0 w1 := hbel.trans (hb1.mono (by omega))
      have hs1 := hb1.size
      have HQ := Lib.hid (And.intro q4 (And.intro hap (fun a ha => (hfr a ha).2)))
      have HL := Lib.hid hl'
      have HD := Lib.hid q5
      clear q3 q4 q5 hl' hfr hap hb1 hdk hpc hown hbel HS c0 c1 HR cw
      simp only [Sl.val]
      go_wp2_with fail
      go_loopw [5, 8] (fun v i wr => ∃ j : Nat, j ≤ l'.length ∧ i = .int .i64 j ∧ ∃ (ao2 : Option Addr) (cap2 : Nat) (L : List PeerD), v = .slice ao2 L.length cap2 ∧ Hid (Own wr (w.heap.size + 1) 63 (.slice ao2 L.length cap2) L) ∧ Hid (L.map (·.en) = (endsOf (l.take k) b ++ endsIn (l'.take j) b).foldl addEnd []) ∧ L.length ≤ k * 1000000 + j ∧
          Hid (Rows wr ao' l' ∧ Apart ao' (.slice ao2 L.length cap2) ∧ ∀ a, ao' = some a → a.block < wr.heap.size) ∧ Below (w.heap.size + 1) W0 wr) (fun _ i _ => l'.length - (intOf i).toNat)
      case atStart => exact ⟨0, Nat.zero_le _, rfl, ao2, cap2, L, rfl, hown1, Lib.hid (by rw [hL.out]; simp [endsIn]), Nat.le_trans hLl (Nat.le_add_right _ _), HQ, hbel1⟩
      case round =>
        obtain ⟨j, hj, rfl, ao3, cap3, L, rfl, hown, hL, hLl, hQ, hbel⟩ := hrel
        have hsz := hbel.size
        by_cases hjt : j < l'.length
        · obtain ⟨pb, poff, rfl, hc⟩ := hQ.out.1.at j hjt
          have c0 := hc 0 _ rfl
          have c1 := hc 1 _ rfl
          have c2 := hc 2 _ rfl
          have c3 := hc 3 _ rfl
          have c4 := hc 4 _ rfl
          have c5 := hc 5 _ rfl
          have c6 := hc 6 _ rfl
          have c7 := hc 7 _ rfl
          have c8 := hc 8 _ rfl
          have c9 := hc 9 _ rfl
          simp only [PeerD.sz_eq, Nat.add_zero] at c0 c1 c2 c3 c4 c5 c6 c7 c8 c9
          clear hc
          by_cases hin : l'[j].inb = b
          · have hq1 : (l'[j].inb == b) = true := by simpa using hin
            have HIN := Lib.hid hin
            clear hin
            have hll : L.length ≤ 9223372036854775807 := by
              have : k * 1000000 ≤ 10 * 1000000 := Nat.mul_le_mul_right _ (by omega)
              omega
            have HLL := Lib.hid hll
            clear hll
            go_wp2_with fail
            refine (index22_any ao3 cap3 L l'[j].en wr (by obtain ⟨_, _, e, _, _, _, h, _⟩ := hown.out.rows; cases e; exact h) HLL.out).mono ?_
            obtain ⟨x, hx⟩ : ∃ x, x = indexEnd L l'[j].en := ⟨_, rfl⟩
            have hneg := indexEnd_neg L l'[j].en
            rw [← hx] at hneg ⊢
            rintro e w2 ⟨rfl, hb2⟩
            have HX := Lib.hid hneg.1
            have hx1 := hneg.2
            clear hneg hx
            have hs2 := hb2.size
            have hR2 := hQ.out.1.keep hb2
            obtain ⟨pb2, poff2, e2, hc2⟩ := hR2.at j hjt
            cases e2
            have d0 := hc2 0 _ rfl
            have d1 := hc2 1 _ rfl
            have d2 := hc2 2 _ rfl
            have d3 := hc2 3 _ rfl
            have d4 := hc2 4 _ rfl
            have d5 := hc2 5 _ rfl
            have d6 := hc2 6 _ rfl
            have d7 := hc2 7 _ rfl
            have d8 := hc2 8 _ rfl
            have d9 := hc2 9 _ rfl
            simp only [PeerD.sz_eq, Nat.add_zero] at d0 d1 d2 d3 d4 d5 d6 d7 d8 d9
            have hown2 := Lib.hid (hown.out.keep hb2)
            have hbel2 : Below (w.heap.size + 1) W0 w2 := hbel.trans (hb2.mono (by omega))
            have HR2 := Lib.hid hR2
            clear hc2 hR2 hb2 c0 c1 c2 c3 c4 c5 c6 c7 c8 c9 hbel hown
            have hkm : Hid (k * 1000000 ≤ 10000000) := by
              have : k * 1000000 ≤ 10 * 1000000 := Nat.mul_le_mul_right _ (by omega)
              show _ ≤ _
              omega
            by_cases hneg : x < 0
            · have hnot : Hid (l'[j].en ∉ L.map (·.en)) := HX.out.1 hneg
              have hLl2 : L.length ≤ 11000000 := by have := hkm.out; omega
              go_wp2_with (at_builtin; refine wpList_app1 l'[j] w2 L _ (.tmp 46) (.tmp 51) 33 (w.heap.size + 1) 63 i0 zeroPeer 80 rfl rfl Try.underlying33 hi hz0' hz1 hz2 rfl (by decide) 63 rfl rfl rfl hown2.out (by omega) (by unfold maxLen; omega) (by omega) ?_; intro v' w' hown' hgrow hmv)
              obtain ⟨ao4, cap4, hv4, _, _, _, _, _⟩ := hown'.rows
              have hfin : Hid (Rows w' (some ⟨pb, poff, none⟩) l' ∧ Apart (some ⟨pb, poff, none⟩) v' ∧ ∀ a, some (⟨pb, poff, none⟩ : Addr) = some a → a.block < w'.heap.size) := by
                refine ⟨(HR2.out.keep ((Below.refl _ _).alloc (Nat.le_refl _) _)).grown hQ.out.2.1 hgrow, hQ.out.2.1.moves hmv (fun a ha => ?_), fun a ha => ?_⟩
                · have := hQ.out.2.2 a ha
                  simp
                  omega
                · have h1 := hQ.out.2.2 a ha
                  have h2 := hgrow.size
                  simp at h2
                  omega
              have hbel3 := hown2.out.below hbel2 _ hgrow (Nat.le_refl _) (by omega)
              rw [hv4]
              rw [hv4] at hfin
              have hown3 := Lib.hid hown'
              rw [hv4] at hown3
              clear hown' hgrow hmv hv4
              go_wp2_with fail
              go_roundw
              case rel =>
                refine ⟨j + 1, by omega, by go_num, ao4, cap4, L ++ [l'[j]], rfl, hown3, Lib.hid ?_, by simp; omega, hfin, hbel3⟩
                rw [endsIn_take l' b j hjt, if_pos hq1, ← List.append_assoc, List.foldl_append, ← hL.out, List.map_append]
                simp only [List.map_cons, List.map_nil, List.foldl_cons, List.foldl_nil, addEnd]
                rw [if_neg hnot.out]
              case measure => simp [intOf]; omega
            · have hin2 : Hid (l'[j].en ∈ L.map (·.en)) := Classical.byContradiction fun h => hneg (HX.out.2 h)
              go_wp2_with fail
              go_roundw
              case rel =>
                refine ⟨j + 1, by omega, by go_num, ao3, cap3, L, rfl, hown2, Lib.hid ?_, by omega, Lib.hid ⟨HR2.out, hQ.out.2.1, fun a ha => Nat.lt_of_lt_of_le (hQ.out.2.2 a ha) hs2⟩, hbel2⟩
                rw [endsIn_take l' b j hjt, if_pos hq1, ← List.append_assoc, List.foldl_append, ← hL.out]
                simp only [List.foldl_cons, List.foldl_nil, addEnd]
                rw [if_pos hin2.out]
              case measure => simp [intOf]; omega
          · have hq1 : (l'[j].inb == b) = false := by simpa using hin
            have HIN := Lib.hid hin
            clear hin
            go_wp2_with fail
            go_roundw
            case rel =>
              refine ⟨j + 1, by omega, by go_num, ao3, cap3, L, rfl, hown, Lib.hid ?_, by omega, hQ, hbel⟩
              rw [hL.out, endsIn_take l' b j hjt, hq1]
              simp
            case measure => simp [intOf]; omega
        · have HK : Hid (L.map (·.en) = (endsOf (l.take (k + 1)) b).foldl addEnd []) := by
            show _ = _
            rw [hL.out, List.take_of_length_le (l := l') (i := j) (by omega), endsOf_take l b k hlt, ← HL.out]
          have hll : L.length ≤ (k + 1) * 1000000 := by rw [Nat.add_mul]; omega
          have HLL := Lib.hid hll
          clear hll
          go_wp2_with fail
          go_roundw
          case rel => exact ⟨k + 1, by omega, by go_num, L, hown, HK, HLL.out, hbel⟩
          case measure => simp [intOf]; omega
    · have HF : Hid (L.length = taken l b) := by
        show _ = _
        unfold taken
        have := congrArg List.length hL.out
        rw [List.length_map] at this
        rw [this, List.take_of_length_le (l := l) (i := k) (by omega)]
      go_wp2_with fail
      go_ret
      exact ⟨ret_int (by rw [HF.out]), hbw⟩

end Go.Proofs.Ytocebogaopjkfaa
