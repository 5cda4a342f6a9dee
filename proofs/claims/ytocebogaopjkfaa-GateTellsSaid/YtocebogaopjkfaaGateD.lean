/-
  WALK of gate.Taken: how many unlike ends came, or were dialled.
-/
import Derived.Test.YtocebogaopjkfaaGateC
import Derived.Test.YtocebogaopjkfaaMap
import Derived.Outline
namespace Go.Proofs.Ytocebogaopjkfaa
open Go.RowKit

/-- An end as a key. -/
def kvEnd (e : EndD) : Value := .agg #[.bool e.addr.v6, .int .u64 e.addr.hi.toNat, .int .u64 e.addr.lo.toNat, .int .i64 e.port]
def vvInt (n : Int) : Value := .int .i64 n

theorem checkEnd (e : Bool) (n : Nat) (k : EndD) (w : World) : (Instr.checkKey e (n + 3) 59 (kvEnd k)).run Try.prog w = .ok () w := by kernel_rfl

theorem keysEnd : KeyLaws kvEnd Try.prog 59 where
  check e k w := checkEnd e 9997 k w
  eql a b w := by
    simp only [Op.equal, Op.maxDepth]
    exact eqIn_EndD 9996 a b w
  slow := ⟨_, Try.underlying59, fun a b => rfl⟩
  same k := by
    simp [kvEnd, Instr.sameBits]

def addEnd (acc : List EndD) (e : EndD) : List EndD := if e ∈ acc then acc else acc ++ [e]
def endsIn (l : List PeerD) (b : Bool) : List EndD := (l.filter fun p => p.inb == b).map (·.en)
def endsOf (l : List ShardD) (b : Bool) : List EndD := l.flatMap fun s => endsIn (peersOf s) b
def taken (l : List ShardD) (b : Bool) : Nat := ((endsOf l b).foldl addEnd []).length

theorem endsIn_take (l : List PeerD) (b : Bool) (k : Nat) (h : k < l.length) : endsIn (l.take (k + 1)) b = endsIn (l.take k) b ++ if l[k].inb == b then [l[k].en] else [] := by
  unfold endsIn
  rw [List.take_succ_eq_append_getElem h, List.filter_append, List.map_append]
  by_cases hs : l[k].inb == b <;> simp [hs]

theorem endsOf_take (l : List ShardD) (b : Bool) (k : Nat) (h : k < l.length) : endsOf (l.take (k + 1)) b = endsOf (l.take k) b ++ endsIn (peersOf l[k]) b := by
  unfold endsOf
  rw [List.take_succ_eq_append_getElem h, List.flatMap_append]
  simp

theorem foldl_addEnd_le (l : List EndD) : ∀ acc : List EndD, (l.foldl addEnd acc).length ≤ acc.length + l.length := by
  induction l with
  | nil => intro acc; simp
  | cons e l ih =>
    intro acc
    have := ih (addEnd acc e)
    have h2 : (addEnd acc e).length ≤ acc.length + 1 := by unfold addEnd; split <;> simp
    simp only [List.foldl_cons, List.length_cons]
    omega

theorem zeroInt (w : World) : (zeroValue 3).run Try.prog w = .ok (vvInt 0) w := by kernel_rfl

theorem block_lt {w : World} {b : Nat} {o : Obj} (h : w.heap[b]? = some o) : b < w.heap.size := (Array.getElem?_eq_some_iff.1 h).1

set_option maxRecDepth 100000 in
set_option maxHeartbeats 3200000 in
theorem taken_any (m : MemD) (b : Bool) (w : World) (hd : Cells.deep w m) (hn : m.shards.l.length ≤ 10) (hs : ∀ s ∈ m.shards.l, s.slots.l.length ≤ 1000000) :
    Calls Try.prog 13 #[.agg (Cells.cells m).toArray, .bool b] w fun e w' => e = .returned (.int .i64 (taken m.shards.l b)) ∧ Below w.heap.size w w' := by
  obtain ⟨m0, m1, m2, m3, ⟨ao, cap, l⟩, m5⟩ := m
  obtain ⟨_, _, _, _, ⟨h1, h2, h3, h4, h5⟩, _, _⟩ := hd
  simp only [MemD.cells_eq, Sl.val] at *
  have H4 := Lib.hid h4
  have H5 := Lib.hid h5
  have HS := Lib.hid hs
  have hmm := @run_makeMap Try.prog
  clear h3 h4 h5 hs
  go_enter Try.func13, Try.ntmps13
  go_wp2_with fail
  obtain ⟨W0, hW0⟩ : ∃ W0 : World, W0 = w.alloc (.cells (Cells.cells (⟨m0, m1, m2, m3, ⟨ao, cap, l⟩, m5⟩ : MemD)).toArray 32) := ⟨_, rfl⟩
  have hz0 : W0.heap.size = w.heap.size + 1 := by rw [hW0]; simp
  have HW := Lib.hid hW0
  go_loopw [14] (fun i wr => ∃ k : Nat, k ≤ l.length ∧ i = .int .i64 k ∧ ∃ M : MapS EndD Int, Hid (M.Ok ∧ M.keys = (endsOf (l.take k) b).foldl addEnd []) ∧ Hid (wr.heap[w.heap.size + 1]? = some (M.obj kvEnd vvInt)) ∧ Below (w.heap.size + 1) W0 wr) (fun i _ => l.length - (intOf i).toNat)
  case atStart =>
    refine ⟨0, Nat.zero_le _, rfl, ⟨[], 0⟩, Lib.hid ⟨⟨by simp, by simp, by simp⟩, rfl⟩, Lib.hid ?_, ?_⟩
    · have e := HW.out
      simp only [MemD.cells_eq, Sl.val] at e
      rw [← e, ← hz0]
      exact heap_alloc_new _ _
    · have e := HW.out
      simp only [MemD.cells_eq, Sl.val] at e
      rw [← e]
      exact (Below.refl _ _).alloc (by omega) _
  case round =>
    obtain ⟨k, hk, rfl, M, hM, hMb, hbel⟩ := hrel
    clear hW0
    by_cases hlt : k < l.length
    · have hbw : Below w.heap.size w wr := by
        refine Below.trans ?_ (hbel.mono (by omega))
        rw [HW.out]
        exact (Below.refl _ _).alloc (Nat.le_refl _) _
      obtain ⟨sb, off, rfl, hc⟩ := (H4.out.keep hbw).at k hlt
      have c0 := hc 0 _ rfl
      have c1 := hc 1 _ rfl
      simp only [ShardD.sz_eq, Nat.add_zero, Sl.val] at c0 c1
      have hdk := Lib.hid (Cells.keep (H5.out l[k] (List.getElem_mem hlt)) hbw)
      have hsz := hbel.size
      obtain ⟨wo, rfl⟩ : ∃ wo : World, wo = wr := ⟨_, rfl⟩
      clear hc
      go_wp2_with fail
      obtain ⟨W1, hW1⟩ : ∃ W1 : World, W1 = wo.alloc (.cells (Cells.cells l[k]).toArray 35) := ⟨_, rfl⟩
      have hdk1 : Cells.deep W1 l[k] := by rw [hW1]; exact Cells.keep hdk.out ((Below.refl _ _).alloc (Nat.le_refl _) _)
      have hMb1 : W1.heap[w.heap.size + 1]? = some (M.obj kvEnd vvInt) := by
        rw [hW1, Below.heap_alloc wo _ (w.heap.size + 1) (block_lt hMb.out)]
        exact hMb.out
      have hbel1 : Below (w.heap.size + 1) W0 W1 := by rw [hW1]; exact hbel.alloc (by omega) _
      have hpc := peers_any l[k] W1 hdk1 (HS.out _ (List.getElem_mem hlt))
      rw [hW1] at hpc
      refine hpc.mono ?_
      rw [← hW1]
      intro e w1 hg
      obtain ⟨s', rfl, hl', hd', hb1, hfr⟩ := hg
      obtain ⟨ao', cap', l'⟩ := s'
      obtain ⟨q1, q2, q3, q4, q5⟩ := hd'
      simp only at hl' q1 q2 q4
      have hq : l'.length ≤ 1000000 := by rw [hl']; exact Nat.le_trans (peersOf_le _) (HS.out _ (List.getElem_mem hlt))
      have hMb2 : Hid (w1.heap[w.heap.size + 1]? = some (M.obj kvEnd vvInt)) := by
        show _ = _
        rw [hb1.block _ (block_lt hMb1)]
        exact hMb1
      have hbel2 : Below (w.heap.size + 1) W0 w1 := hbel1.trans (hb1.mono (by have := hbel1.size; omega))
      have HL := Lib.hid hl'
      have Q4 := Lib.hid q4
      clear hl' hfr q3 q4 q5 hb1 hpc hbel1 hMb1 hdk1 hW1 hdk hMb hbel hbw c0 c1 HS H5
      simp only [Sl.val]
      go_wp2_with fail
      go_loopw [21] (fun i wr => ∃ j : Nat, j ≤ l'.length ∧ i = .int .i64 j ∧ Hid (Rows wr ao' l') ∧ ∃ M : MapS EndD Int, Hid (M.Ok ∧ M.keys = (endsOf (l.take k) b ++ endsIn (l'.take j) b).foldl addEnd []) ∧ Hid (wr.heap[w.heap.size + 1]? = some (M.obj kvEnd vvInt)) ∧ Below (w.heap.size + 1) W0 wr) (fun i _ => l'.length - (intOf i).toNat)
      case atStart => exact ⟨0, Nat.zero_le _, rfl, Q4, M, by show _ ∧ _; simpa [endsIn] using hM.out, hMb2, hbel2⟩
      case round =>
        obtain ⟨j, hj, rfl, hR, M, hM, hMb, hbel⟩ := hrel
        have hsz := hbel.size
        by_cases hjt : j < l'.length
        · obtain ⟨pb, poff, rfl, hc⟩ := hR.out.at j hjt
          have c0 := hc 0 _ rfl
          have c1 := hc 1 _ rfl
          have c2 := hc 2 _ rfl
          have c3 := hc 3 _ rfl
          have c4 := hc 4 _ rfl
          have c5 := hc 5 _ rfl
          have c6 := hc 6 _ rfl
          have c7 := hc 7 _ rfl
          have c8 := hc 8 _ rfl
          have c9 := hc 9 _ rfl
          simp only [PeerD.sz_eq, Nat.add_zero] at c0 c1 c2 c3 c4 c5 c6 c7 c8 c9
          clear hc
          by_cases hin : l'[j].inb = b
          · have hq1 : (l'[j].inb == b) = true := by simpa using hin
            have HIN := Lib.hid hin
            clear hin
            have hMv : ((wr.alloc (.cells (Cells.cells l'[j]).toArray 63)).drew).heap[w.heap.size + 1]? = some (M.obj kvEnd vvInt) := by
              show (wr.alloc _).heap[w.heap.size + 1]? = _
              rw [Below.heap_alloc wr _ (w.heap.size + 1) (block_lt hMb.out)]
              exact hMb.out
            have hMv1 : (((wr.alloc (.cells (Cells.cells l'[j]).toArray 63)).drew).setObj (w.heap.size + 1) ((M.put l'[j].en (M.get l'[j].en 0)).obj kvEnd vvInt)).heap[w.heap.size + 1]? = some ((M.put l'[j].en (M.get l'[j].en 0)).obj kvEnd vvInt) := setObj_heap _ _ _ (block_lt hMv)
            have hin2 : l'[j].en ∈ (M.put l'[j].en (M.get l'[j].en 0)).keys := by
              rw [MapS.put_keys]; split
              · assumption
              · simp
            have e1 := run_lookup_map kvEnd vvInt keysEnd Try.underlying76 0 zeroInt M l'[j].en _ _ hMv
            have e2 := run_mapEntry_map kvEnd vvInt keysEnd Try.underlying76 0 zeroInt M hM.out.1 l'[j].en _ _ hMv
            have e1' := run_lookup_map kvEnd vvInt keysEnd Try.underlying76 0 zeroInt _ l'[j].en _ _ hMv1
            have e3 := fun v => run_entryStore_map kvEnd vvInt (P := Try.prog) 76 _ (hM.out.1.put l'[j].en (M.get l'[j].en 0)) l'[j].en v _ _ hin2 hMv1
            rw [MapS.get_put] at e1'
            simp only [setObj_setObj, MapS.put_put, MapS.stamp_put hM.out.1, goInt] at e3
            simp only [kvEnd, vvInt, PeerD.cells_eq] at e1 e2 e1' e3
            have hR2 : ∀ v, Rows (((wr.alloc (.cells (Cells.cells l'[j]).toArray 63)).drew).setObj (w.heap.size + 1) ((M.put l'[j].en v).obj kvEnd vvInt)) (some ⟨pb, poff, none⟩) l' := fun v =>
              Rows.setObj (hR.out.keep (((Below.refl _ _).alloc (Nat.le_refl _) _).drew)) hMv _
            have hM2 : ∀ v, (((wr.alloc (.cells (Cells.cells l'[j]).toArray 63)).drew).setObj (w.heap.size + 1) ((M.put l'[j].en v).obj kvEnd vvInt)).heap[w.heap.size + 1]? = some ((M.put l'[j].en v).obj kvEnd vvInt) := fun v => setObj_heap _ _ _ (block_lt hMv)
            have hB2 : ∀ v, Below (w.heap.size + 1) W0 (((wr.alloc (.cells (Cells.cells l'[j]).toArray 63)).drew).setObj (w.heap.size + 1) ((M.put l'[j].en v).obj kvEnd vvInt)) := fun v => Below_setObj (hbel.alloc (by omega) _).drew (Nat.le_refl _) _
            have hK2 : ∀ v, (M.put l'[j].en v).keys = (endsOf (l.take k) b ++ endsIn (l'.take (j + 1)) b).foldl addEnd [] := by
              intro v
              rw [MapS.put_keys, endsIn_take l' b j hjt, if_pos hq1, ← List.append_assoc, List.foldl_append, ← hM.out.2]
              rfl
            have HX := Lib.hid (And.intro hR2 (And.intro hM2 (And.intro hB2 hK2)))
            clear hMv hMv1 hin2 hR2 hM2 hB2 hK2
            go_wp2_with fail
            go_region
            go_wp2_with fail
            go_roundw
            case rel => exact ⟨j + 1, by omega, by go_num, Lib.hid (HX.out.1 _), M.put l'[j].en _, Lib.hid ⟨hM.out.1.put _ _, HX.out.2.2.2 _⟩, Lib.hid (HX.out.2.1 _), HX.out.2.2.1 _⟩
            case measure => simp [intOf]; omega
          · have hq1 : (l'[j].inb == b) = false := by simpa using hin
            have HIN := Lib.hid hin
            clear hin
            go_wp2_with fail
            go_roundw
            case rel =>
              refine ⟨j + 1, by omega, by go_num, Lib.hid (hR.out.keep ((Below.refl _ _).alloc (Nat.le_refl _) _)), M, Lib.hid ⟨hM.out.1, ?_⟩, Lib.hid ?_, hbel.alloc (by omega) _⟩
              · rw [hM.out.2, endsIn_take l' b j hjt, hq1]
                simp
              · rw [Below.heap_alloc wr _ (w.heap.size + 1) (block_lt hMb.out)]
                exact hMb.out
            case measure => simp [intOf]; omega
        · have hj2 : j = l'.length := by omega
          have HK : Hid (M.Ok ∧ M.keys = (endsOf (l.take (k + 1)) b).foldl addEnd []) := by
            refine ⟨hM.out.1, ?_⟩
            rw [hM.out.2, List.take_of_length_le (l := l') (i := j) (by omega), endsOf_take l b k hlt, ← HL.out]
          clear hj2
          go_wp2_with fail
          go_roundw
          case rel => exact ⟨k + 1, by omega, by go_num, M, HK, hMb, hbel⟩
          case measure => simp [intOf]; omega
    · have hlen := run_len_map kvEnd vvInt (P := Try.prog) (ty := 3) Try.underlying76 M (w.heap.size + 1) wr hMb.out
      have HF : Hid (M.keys.length = taken l b) := by
        show _ = _
        unfold taken
        rw [hM.out.2, List.take_of_length_le (l := l) (i := k) (by omega)]
      have hbw : Below w.heap.size w wr := by
        refine Below.trans ?_ (hbel.mono (by omega))
        rw [HW.out]
        exact (Below.refl _ _).alloc (Nat.le_refl _) _
      go_wp2_with fail
      go_ret
      exact ⟨ret_int (by rw [HF.out]), hbw⟩

end Go.Proofs.Ytocebogaopjkfaa
