import Derived.Test.YtdjfoojllbfcgaaGreatURuaA0
namespace Go.Proofs.YtdjfoojllbfcgaaGreat
open Go.RowKit Go.Lib Go.Shelf
set_option linter.unusedVariables false
set_option maxRecDepth 100000
set_option maxHeartbeats 4000000 in
set_option maxRecDepth 100000 in
theorem Zya (b n c i vb m vc : Nat) (cur aQ : Array Value) (w : World) (hi : i < n) (hm : 0 < m) (hroom : n + m <= c) (gu : c <= maxLen) (hvb : vb ≠ b)
    (dg:w.heap[b]? = some (.cells cur 146 (0,0))) (ez:cur.size = c * 5) (co:w.heap[vb]? = some (.cells aQ 146 (0,0))) (lH:m<=vc) (b9:aQ.size = vc * 5)
    (cl : ∀ v ∈ cur.toList.take (n * 5),v.oneCell' = true) (j0 : ∀ v ∈ aQ.toList.take (m * 5),v.oneCell' = true) :
    Calls Tryz.prog 350 #[.slice (some ⟨b,0,none⟩) n c,.int .i64 i,.slice (some ⟨vb,0,none⟩) m vc] w fun e w' =>
      ∃ R:Array Value,e = .returned (.slice (some ⟨b,0,none⟩) (n + m) c)/\w.drawn<=w'.drawn/\w.grownBy w' (some b)/\w'.heap[b]? = some (.cells R 146 (0,0))/\R.size = c * 5 /\
        R.toList.take ((n + m) * 5) = cur.toList.take (i * 5) ++ aQ.toList.take (m * 5) ++ (cur.toList.drop (i * 5)).take ((n - i) * 5):=by
  have hc63':=gu
  unfold maxLen at gu
  have hz1 : ¬ ((m:Int) = 0):=by omega
  have cN : ¬ ((i:Int) = (n:Int)):=by omega
  have kT:IntKind.i64.wrap ((i:Int) + (m:Int)) = (i:Int) + (m:Int):=by rw [IntKind.wrap_i64]; omega
  have hw2:IntKind.i64.wrap ((n:Int) + (m:Int)) = (n:Int) + (m:Int):=by rw [IntKind.wrap_i64]; omega
  have bJ:(0:Int)<=(i:Int) + (m:Int):=by omega
  have hin:i<=n:=by omega
  have htn:((i:Int) + (m:Int)).toNat = i + m:=by omega
  have bw : ¬ (c = i + m):=by omega
  have hb3:(i:Int)<=(n:Int) + (m:Int):=by omega
  have hb4 : ¬ (c = i):=by omega
  have hov : ∀ o lb cb,(callFunc 382 #[.slice (some ⟨vb,0,none⟩) m vc,.slice (some ⟨b,o,none⟩) lb cb]).run Tryz.prog w = .ok (.value (.bool false)) w:=fun o lb cb =>by
    rw [run_callFunc_extern Tryz.func382 (by kernel_rfl) (by kernel_rfl) (by kernel_rfl) (e:=Extern.SlicesOverlaps.overlaps #[45,45] #[4]) (by kernel_rfl),
      Lib.run_overlaps_apart w 45 4 146 Tryz.underlying45 5 Tryz.sizeOf146 ⟨vb,0,none⟩ ⟨b,o,none⟩ m vc lb cb hvb 146 146 aQ.size cur.size (by simp [World.shape?,co]) (by simp [World.shape?,dg]) (by omega) (by simp [World.frozen?,co]) (by simp [World.frozen?,co])]
    rfl
  have aR:(Tryz.prog.info? 146).map (·.size) = some 5:=by kernel_rfl
  obtain ⟨M1,kH⟩ : ∃ M1,M1 = Zhf cur.toList ((i + m) * 5) ((cur.toList.drop (i * 5)).take ((n - i) * 5)):=⟨_,rfl⟩
  have gw:M1.toArray.size = c * 5:=by
    rw [kH]; simp [Zhf]; omega
  have j4 : ∀ ty dc sc,(Builtin.copy_ #[45,45] ty #[.slice (some ⟨b,(i + m) * 5,none⟩) (n + m - (i + m)) dc,.slice (some ⟨b,i * 5,none⟩) (n + m - i) sc]).run Tryz.prog w.drew = .ok (goInt ((n - i:Nat):Int)) (w.drew.setRow b M1.toArray):=fun ty dc sc =>by
    have h:=Zlt (P:=Tryz.prog) w.drew 45 45 ty 146 5 b ((i + m) * 5) (n + m - (i + m)) dc ⟨b,i * 5,none⟩ (n + m - i) sc cur 146 ((cur.toList.drop (i * 5)).take ((n - i) * 5)) Tryz.underlying45 aR
      (by have : Nat.min (n + m - i) (n + m - (i + m)) = n - i := by simp only [Nat.min_def]; split <;> omega
          rw [this]; simp; omega)
      (fun j v hj =>by
        rw [Zfh]
        rw [List.getElem?_take] at hj
        split at hj
        · rw [List.getElem?_drop] at hj
          rw [show w.drew.cell? ⟨b,i * 5 + j,none⟩ = w.cell? ⟨b,i * 5 + j,none⟩ from rfl,cell_of_row w b _ cur 146 (0,0) dg]
          simpa using hj
        · cases hj)
      dg (by simp; omega) (fun v hv =>cl v (by
        obtain ⟨j,hj⟩:=List.getElem?_of_mem hv
        rw [List.getElem?_take] at hj
        split at hj
        · rw [List.getElem?_drop] at hj
          exact List.mem_of_getElem? (i:=i * 5 + j) (by rw [List.getElem?_take,if_pos (by omega)]; exact hj)
        · cases hj))
    rw [show Nat.min (n + m - i) (n + m - (i + m)) = n - i by simp only [Nat.min_def]; split <;> omega,<- kH] at h
    exact h
  obtain ⟨W1,d9⟩ : ∃ W1,W1 = w.drew.setRow b M1.toArray:=⟨_,rfl⟩
  have iJ:W1.heap[b]? = some (.cells M1.toArray 146 (0,0)):=by
    rw [d9]; exact setRow_heap _ _ _ _ _ _ dg
  have j5:W1.heap[vb]? = some (.cells aQ 146 (0,0)):=by
    rw [d9,setRow_other _ _ _ _ hvb]; exact co
  have j6 : ∀ (W:World),W.heap = W1.heap->∀ ty dc,(Builtin.copy_ #[45,45] ty #[.slice (some ⟨b,i * 5,none⟩) (n + m - i) dc,.slice (some ⟨vb,0,none⟩) m vc]).run Tryz.prog W = .ok (goInt (m:Int)) (W.setRow b (Zhf M1 (i * 5) (aQ.toList.take (m * 5))).toArray):=fun W j7 ty dc =>by
    have h:=Zlt (P:=Tryz.prog) W 45 45 ty 146 5 b (i * 5) (n + m - i) dc ⟨vb,0,none⟩ m vc M1.toArray 146 (aQ.toList.take (m * 5)) Tryz.underlying45 aR
      (by have : Nat.min m (n + m - i) = m := by simp only [Nat.min_def]; split <;> omega
          rw [this]; simp; omega)
      (fun j v hj =>by
        rw [Zfh,Nat.zero_add]
        rw [List.getElem?_take] at hj
        split at hj
        · rw [cell_of_row W vb _ aQ 146 (0,0) (by rw [j7]; exact j5)]
          simpa using hj
        · cases hj)
      (by rw [j7]; exact iJ) (by simp at gw ⊢; omega) j0
    rw [show Nat.min m (n + m - i) = m by simp only [Nat.min_def]; split <;> omega] at h
    exact h
  rw [<- d9] at j4
  obtain ⟨R3,hR3⟩ : ∃ R3,R3 = Zhf M1 (i * 5) (aQ.toList.take (m * 5)):=⟨_,rfl⟩
  rw [<- hR3] at j6
  have fA:R3.length = c * 5:=by
    rw [hR3]; simp at gw; simp [Zhf]; omega
  have bI:R3.take ((n + m) * 5) = cur.toList.take (i * 5) ++ aQ.toList.take (m * 5) ++ (cur.toList.drop (i * 5)).take ((n - i) * 5):=by
    have hM1l' : M1.length = c * 5:=by simpa using gw
    have fY:(aQ.toList.take (m * 5)).length = m * 5:=by simp; omega
    have l7:((cur.toList.drop (i * 5)).take ((n - i) * 5)).length = (n - i) * 5:=by simp; omega
    apply List.ext_getElem?
    intro k
    rw [List.getElem?_take]
    split
    · rename_i hk
      rw [hR3,Zks _ _ _ (by rw [fY]; omega),kH,Zks _ _ _ (by rw [l7]; simp; omega)]
      by_cases a:k < i * 5
      · rw [if_neg (by omega),if_neg (by omega),List.append_assoc,List.getElem?_append_left (by simp; omega),List.getElem?_take,if_pos a]
      · by_cases d:k < (i + m) * 5
        · rw [if_pos ⟨by omega,by rw [fY]; omega⟩,List.append_assoc,List.getElem?_append_right (by simp; omega),List.getElem?_append_left (by simp; omega)]
          congr 1; simp; omega
        · rw [if_neg (by rw [fY]; omega),if_pos ⟨by omega,by rw [l7]; omega⟩,List.getElem?_append_right (by rw [List.length_append,fY]; simp; omega)]
          congr 1; rw [List.length_append,fY]; simp; omega
    · rename_i hk
      rw [List.getElem?_eq_none (by rw [List.length_append,List.length_append,fY,l7]; simp; omega)]
  have hgb:w.grownBy (W1.setRow b R3.toArray) (some b):=by
    rw [d9]
    exact ⟨rfl,rfl,rfl,by simp,fun k _ hk =>by
      have hne:k ≠ b:=fun h =>hk (by rw [h])
      rw [setRow_other _ _ _ _ hne,setRow_other _ _ _ _ hne]
      rfl⟩
  have hat:=setRow_heap W1 b _ R3.toArray _ _ iJ
  have HF:=Lib.hid bI; clear bI
  have HL:=Lib.hid fA; clear fA
  have ej:w.drawn<=(W1.setRow b R3.toArray).drawn:=by rw [d9]; exact Nat.le_succ _
  have HG:=Lib.hid hgb; clear hgb
  have HD:=Lib.hid ej; clear ej
  have HA:=Lib.hid hat; clear hat
  clear gw iJ j5 cl j0 aR hR3
  clear d9
  clear kH
  have j8:Tryz.prog.follows .mixedOrders = true:=by kernel_rfl
  go_enter Tryz.func350,Tryz.ntmps350
  go_wp2_with (simp only [hov])
  go_region_law_o (refine step_copy_runI rfl _ _ 45 45 rfl _ _ (by simp [Act.eval,Act.put]) (by simp [Act.eval,Act.put]) (j4 _ _ _) ?_)
  go_wp2_with (at_builtin; refine wpList_copy_runI _ rfl _ _ 45 45 rfl _ _ rfl rfl (j6 _ rfl _ _) ?_)
  go_ret
  exact ⟨R3.toArray,rfl,HD.out,HG.out,HA.out,HL.out,HF.out⟩
set_option maxHeartbeats 4000000 in
set_option maxRecDepth 100000 in
theorem Zzp (b n c i vb m vc : Nat) (cur aQ : Array Value) (w : World) (hi : i < n) (hm : 0 < m) (km : n <= c) (hroom : c < n + m) (g7 : (n + m) * 40 <= 140737488355328)
    (dg:w.heap[b]? = some (.cells cur 146 (0,0))) (ez:cur.size = c * 5) (co:w.heap[vb]? = some (.cells aQ 146 (0,0))) (lH:m<=vc) (b9:aQ.size = vc * 5)
    (cl : ∀ v ∈ cur.toList.take (n * 5),v.oneCell' = true) (j0 : ∀ v ∈ aQ.toList.take (m * 5),v.oneCell' = true) :
    Calls Tryz.prog 350 #[.slice (some ⟨b,0,none⟩) n c,.int .i64 i,.slice (some ⟨vb,0,none⟩) m vc] w fun e w' =>
      ∃ (G:Nat) (R:Array Value),e = .returned (.slice (some ⟨w.heap.size,0,none⟩) (n + m) G)/\w.drawn<=w'.drawn/\Below w.heap.size w w'/\w'.heap[w.heap.size]? = some (.cells R 146 (0,0))/\n + m<=G/\G<=maxLen/\R.size = G * 5 /\
        R.toList.take ((n + m) * 5) = cur.toList.take (i * 5) ++ aQ.toList.take (m * 5) ++ (cur.toList.drop (i * 5)).take ((n - i) * 5):=by
  have hz1 : ¬ ((m:Int) = 0):=by omega
  have cN : ¬ ((i:Int) = (n:Int)):=by omega
  have hz3:(c:Int) < (n:Int) + (m:Int):=by omega
  have hkk:(n:Int) + (m:Int) - (i:Int) = ((n + m - i:Nat):Int):=by omega
  have hik:i + (n + m - i) = n + m:=by omega
  have hbw:b < w.heap.size:=(Array.getElem?_eq_some_iff.1 dg).1
  have hvw:vb < w.heap.size:=(Array.getElem?_eq_some_iff.1 co).1
  have lq:b ≠ w.heap.size:=by omega
  have hvN:vb ≠ w.heap.size:=by omega
  obtain ⟨i0,hi0,cD,iK,i5⟩:=ZGY.info (t:=146) (show ZeF tab 146 = some _ from rfl)
  replace cD:i0.size = 5:=cD
  replace iK:i0.bytes = 40:=iK
  replace i5:i0.zero = some (.agg #[.bool false,.int .u64 (0),.int .u64 (0),.int .i64 (0),.int .i64 (0)]):=i5
  have aR:(Tryz.prog.info? 146).map (·.size) = some 5:=by kernel_rfl
  have cr:(Builtin.firstCells i0.size i (.slice (some ⟨b,0,none⟩) i c)).run Tryz.prog w.drew = .ok (cur.toList.take (i * 5)).toArray w.drew:=by
    rw [cD]
    exact run_firstCells_some w.drew 5 i ⟨b,0,none⟩ i c (cur.toList.take (i * 5)) (by simp; omega) (fun j v hj =>by
      rw [Zfh,Nat.zero_add]
      rw [List.getElem?_take] at hj
      split at hj
      · rw [show w.drew.cell? ⟨b,j,none⟩ = w.cell? ⟨b,j,none⟩ from rfl,cell_of_row w b _ cur 146 (0,0) dg]
        simpa using hj
      · cases hj)
  obtain ⟨G,hG⟩ : ∃ G,G = grownCap w (n + m) c 146:=⟨_,rfl⟩
  obtain ⟨gx,gy⟩ : ∃ gx:Array Value,gx = (cur.toList.take (i * 5)).toArray ++ Builtin.zeroCells (Value.cells (.agg #[.bool false,.int .u64 (0),.int .u64 (0),.int .i64 (0),.int .i64 (0)])) (n + m - i) ++ Builtin.zeroCells (Value.cells (.agg #[.bool false,.int .u64 (0),.int .u64 (0),.int .i64 (0),.int .i64 (0)])) (G - (n + m)):=⟨_,rfl⟩
  have hrz : ∀ ty, (Builtin.append_ #[45, 3] ty #[.slice (some ⟨b, 0, none⟩) i c, .int .i64 ((n : Int) + (m : Int) - (i : Int))]).run Tryz.prog w =
      .ok (.slice (some ⟨w.heap.size,0,none⟩) (n + m) G) (w.drew.alloc (.cells gx 146)):=fun ty =>by
    have h:=Lib.run_append_grow_zeros w 45 3 ty 146 i0 _ .i64 .i64 Tryz.underlying45 Tryz.underlying3 hi0 i5 (some ⟨b,0,none⟩) i c (cur.toList.take (i * 5)) cr (n + m - i) (by omega) (by omega) (by omega) (by omega) (by rw [iK]; omega) (by rw [iK,hik]; exact growslice_fits hroom g7)
    rw [hik,<- hG,<- gy] at h
    rw [hkk]
    exact h
  have hGn:n + m<=G:=by rw [hG]; exact grownCap_ge w _ _ _
  have hGm:G<=maxLen:=by rw [hG]; exact grownCap_le_maxLen w (n + m) c 146 (by unfold maxLen; omega)
  have hRs:gx.size = G * 5:=by
    rw [gy]
    simp [Builtin.zeroCells,Value.cells]
    omega
  have hRt:gx.toList.take (i * 5) = cur.toList.take (i * 5):=by
    rw [gy]
    simp only [Array.toList_append,List.append_assoc]
    rw [List.take_append_of_le_length (by simp; omega)]
    simp [List.take_take]
  clear gy hG cr
  obtain ⟨W1,d9⟩ : ∃ W1,W1 = w.drew.alloc (.cells gx 146):=⟨_,rfl⟩
  have l8:W1.heap[w.heap.size]? = some (.cells gx 146 (0,0)):=by rw [d9]; exact heap_alloc_new w.drew _
  have hWb:W1.heap[b]? = some (.cells cur 146 (0,0)):=by rw [d9,heap_alloc_old w.drew _ hbw]; exact dg
  have hWv:W1.heap[vb]? = some (.cells aQ 146 (0,0)):=by rw [d9,heap_alloc_old w.drew _ hvw]; exact co
  obtain ⟨V,hV⟩ : ∃ V,V = aQ.toList.take (m * 5):=⟨_,rfl⟩
  have gz:V.length = m * 5:=by rw [hV]; simp; omega
  obtain ⟨D,hD⟩ : ∃ D,D = (cur.toList.drop (i * 5)).take ((n - i) * 5):=⟨_,rfl⟩
  have iL:D.length = (n - i) * 5:=by rw [hD]; simp; omega
  obtain ⟨R2,hR2⟩ : ∃ R2,R2 = Zhf gx.toList (i * 5) V:=⟨_,rfl⟩
  have j9:R2.length = G * 5:=by rw [hR2]; simp [Zhf,gz]; omega
  obtain ⟨R3,hR3⟩ : ∃ R3,R3 = Zhf R2 ((i + m) * 5) D:=⟨_,rfl⟩
  have fA:R3.length = G * 5:=by rw [hR3]; simp [Zhf,iL]; omega
  have bI:R3.take ((n + m) * 5) = cur.toList.take (i * 5) ++ V ++ D:=by
    apply List.ext_getElem?
    intro k
    rw [List.getElem?_take]
    split
    · rename_i hk
      rw [hR3,Zks _ _ _ (by rw [iL]; omega),hR2,Zks _ _ _ (by rw [gz]; simp; omega)]
      by_cases a:k < i * 5
      · rw [if_neg (by omega),if_neg (by omega),List.append_assoc,List.getElem?_append_left (by simp; omega),<- hRt,List.getElem?_take,if_pos a]
      · by_cases d:k < (i + m) * 5
        · rw [if_neg (by omega),if_pos ⟨by omega,by rw [gz]; omega⟩,List.append_assoc,List.getElem?_append_right (by simp; omega),List.getElem?_append_left (by simp; omega)]
          congr 1; simp; omega
        · rw [if_pos ⟨by omega,by rw [iL]; omega⟩,List.getElem?_append_right (by simp [gz]; omega)]
          congr 1; simp [gz]; omega
    · rename_i hk
      rw [List.getElem?_eq_none (by simp [gz,iL]; omega)]
  have l9 : ∀ (W:World),W.heap = W1.heap->∀ ty dc,(Builtin.copy_ #[45,45] ty #[.slice (some ⟨w.heap.size,i * 5,none⟩) (n + m - i) dc,.slice (some ⟨vb,0,none⟩) m vc]).run Tryz.prog W = .ok (goInt (m:Int)) (W.setRow w.heap.size R2.toArray):=fun W j7 ty dc =>by
    have h:=Zlt (P:=Tryz.prog) W 45 45 ty 146 5 w.heap.size (i * 5) (n + m - i) dc ⟨vb,0,none⟩ m vc gx 146 V Tryz.underlying45 aR
      (by have : Nat.min m (n + m - i) = m := by simp only [Nat.min_def]; split <;> omega
          rw [this,gz])
      (fun j v hj =>by
        rw [hV] at hj
        rw [Zfh,Nat.zero_add]
        rw [List.getElem?_take] at hj
        split at hj
        · rw [cell_of_row W vb _ aQ 146 (0,0) (by rw [j7]; exact hWv)]
          simpa using hj
        · cases hj)
      (by rw [j7]; exact l8) (by rw [gz,hRs]; omega) (by rw [hV]; exact j0)
    rw [show Nat.min m (n + m - i) = m by simp only [Nat.min_def]; split <;> omega,<- hR2] at h
    exact h
  have ka : ∀ (W:World),W.heap[w.heap.size]? = some (.cells R2.toArray 146 (0,0))->W.heap[b]? = some (.cells cur 146 (0,0))->∀ ty dc sc,(Builtin.copy_ #[45,45] ty #[.slice (some ⟨w.heap.size,(i + m) * 5,none⟩) (n + m - (i + m)) dc,.slice (some ⟨b,i * 5,none⟩) (n - i) sc]).run Tryz.prog W = .ok (goInt ((n - i:Nat):Int)) (W.setRow w.heap.size R3.toArray):=fun W hN hB ty dc sc =>by
    have h:=Zlt (P:=Tryz.prog) W 45 45 ty 146 5 w.heap.size ((i + m) * 5) (n + m - (i + m)) dc ⟨b,i * 5,none⟩ (n - i) sc R2.toArray 146 D Tryz.underlying45 aR
      (by have : Nat.min (n - i) (n + m - (i + m)) = n - i := by simp only [Nat.min_def]; split <;> omega
          rw [this,iL])
      (fun j v hj =>by
        rw [hD] at hj
        rw [Zfh]
        rw [List.getElem?_take] at hj
        split at hj
        · rw [List.getElem?_drop] at hj
          rw [cell_of_row W b _ cur 146 (0,0) hB]
          simpa using hj
        · cases hj)
      hN (by simp [iL,j9]; omega) (fun v hv =>cl v (by
        rw [hD] at hv
        obtain ⟨j,hj⟩:=List.getElem?_of_mem hv
        rw [List.getElem?_take] at hj
        split at hj
        · rw [List.getElem?_drop] at hj
          exact List.mem_of_getElem? (i:=i * 5 + j) (by rw [List.getElem?_take,if_pos (by omega)]; exact hj)
        · cases hj))
    rw [show Nat.min (n - i) (n + m - (i + m)) = n - i by simp only [Nat.min_def]; split <;> omega] at h
    rw [show R2.toArray.toList = R2 from rfl,<- hR3] at h
    exact h
  have iM:(W1.setRow w.heap.size R2.toArray).heap[w.heap.size]? = some (.cells R2.toArray 146 (0,0)):=setRow_heap _ _ _ _ _ _ l8
  have kb:(W1.setRow w.heap.size R2.toArray).heap[b]? = some (.cells cur 146 (0,0)):=by rw [setRow_other _ _ _ _ lq]; exact hWb
  have cw:Below w.heap.size w W1:=by
    rw [d9]
    exact ⟨rfl,rfl,rfl,by simp,fun k hk =>heap_alloc_old w.drew _ hk⟩
  have j8:Tryz.prog.follows .mixedOrders = true:=by kernel_rfl
  have ej:w.drawn<=W1.drawn:=by rw [d9]; exact Nat.le_succ _
  have HW:=Lib.hid ej; clear ej
  have HF:=Lib.hid bI; clear bI
  have hGi : ¬ (G = i):=by omega
  have hGim : ¬ (G = i + m):=by omega
  have hci : ¬ (c = i):=by omega
  have hGM:=hGm
  unfold maxLen at hGM
  have hin:i<=n:=by omega
  have htn:((i:Int) + (m:Int)).toNat = i + m:=by omega
  have kT:IntKind.i64.wrap ((i:Int) + (m:Int)) = (i:Int) + (m:Int):=by rw [IntKind.wrap_i64]; omega
  have bJ:(0:Int)<=(i:Int) + (m:Int):=by omega
  have hb3:(i:Int)<=(n:Int):=by omega
  rw [<- hV,<- hD]
  rw [<- d9] at hrz
  clear hV hD gz iL hR2 j9 hR3 hRt hi0 iK cD i5 aR hRs hkk hik l8 hWb hWv ez b9 cl j0 dg co d9
  have HR3:=Lib.hid fA; clear fA
  go_enter Tryz.func350,Tryz.ntmps350
  go_wp2_with (first
    | (at_builtin; refine Lib.wpList_append_run _ rfl _ _ _ _ rfl _ _ rfl rfl _ _ (hrz _) ?_)
    | (at_builtin; refine wpList_copy_runI _ rfl _ _ 45 45 rfl _ _ rfl rfl (l9 _ rfl _ _) ?_)
    | (at_builtin; refine wpList_copy_runI _ rfl _ _ 45 45 rfl _ _ rfl rfl (ka _ (by first | exact iM | assumption) (by first | exact kb | assumption) _ _ _) ?_))
  go_region_law_o (refine step_copy_runI rfl _ _ 45 45 rfl (.slice (some ⟨w.heap.size,(i + m) * 5,none⟩) (n + m - (i + m)) (G - (i + m))) (.slice (some ⟨b,i * 5,none⟩) (n - i) (c - i)) (by simp [Act.eval,Act.put]) (by simp [Act.eval,Act.put]) (ka (W1.setRow w.heap.size R2.toArray).drew iM kb 3 (G - (i + m)) (c - i)) ?_)
  go_wp2
  go_ret
  exact ⟨G,R3.toArray,rfl,Nat.le_trans HW.out (by simp [World.setRow]),⟨cw.os,cw.tape,cw.output,by simpa using cw.size,fun k hk =>by rw [setRow_other _ _ _ _ (by omega)]; exact (setRow_other _ _ _ _ (by omega)).trans (cw.block k hk)⟩,setRow_heap _ _ _ _ _ _ iM,hGn,hGm,HR3.out,HF.out⟩
set_option maxHeartbeats 4000000 in
set_option maxRecDepth 100000 in
theorem ZBT(bt:Option Addr)(n c vb m vc:Nat)(w w':World)(v':Value)(km:n<=c)(gu:c<=maxLen)(hm:0<m)(eu:bt=none->n=0)(ma:m<=maxLen)
  (hrun:∀ty,(Builtin.append_ #[45,45] ty #[.slice bt n c,.slice (some ⟨vb,0,none⟩) m vc]).run Tryz.prog w=.ok v' w') :
  Calls Tryz.prog 350 #[.slice bt n c,.int .i64 n,.slice (some ⟨vb,0,none⟩) m vc] w fun e b=>e=.returned v'/\w'=b:=by
 have hz1:¬((m:Int)=0):=by omega
 unfold maxLen at gu ma;cases bt with
 |none=>
  have h0:=eu rfl;subst h0
  go_enter Tryz.func350,Tryz.ntmps350
  go_wp2_with (at_builtin;refine Lib.wpList_append_run _ rfl _ _ _ _ rfl _ _ rfl rfl _ _ (hrun _) ?_)
  go_ret
  exact⟨rfl,rfl⟩
 |some a=>
  obtain⟨ab,ao,asp⟩:=a
  go_enter Tryz.func350,Tryz.ntmps350
  go_wp2_with (at_builtin;refine Lib.wpList_append_run _ rfl _ _ _ _ rfl _ _ rfl rfl _ _ (hrun _) ?_)
  all_goals (go_ret;exact⟨rfl,rfl⟩)
def Zbz(a:List Zab)(b:Int)(c:List Zab):Option (List Zab):=need (0<=b/\b.toNat<=a.length/\0<c.length/\(a.length+c.length) * 40<=140737488355328/\a.length+c.length<=maxLen)<|some (a.take b.toNat++c++a.drop b.toNat)
theorem Zdz(g:List Zab)(u:Int)(j r:List Zab)(v:Zbz g u j=some r) :
  Zcu Tryz.prog 350 [(100000,.rows 146 5 g.length (Zam Zab.c Zab.d g)),(100001,.rows 146 5 j.length (Zam Zab.c Zab.d j))] [.one (.osl 100000 g.length),(Yj u),.one (.osl 100001 j.length)]
   [(99999,.rows 146 5 r.length (Zam Zab.c Zab.d r))] (.one (.osl 99999 r.length)):=by
 obtain⟨⟨o1,o2,A,B,C⟩,v⟩:=Zaq v;cases v;obtain⟨i0,hi0,cD,iK,i5⟩:=ZGY.info (t:=146) (show ZeF tab 146=some _ from rfl);have h:=Zzo (enc:=Zab.c) (d:=Zab.d) (F:=350) (BY:=40) (K:=5) ⟨_,Tryz.func350,rfl,rfl⟩ Tryz.underlying45 hi0 i5 cD iK rfl (by decide) (fun b n c i vb m vc cur aQ w k l o p q s x y z a e f=>Zya b n c i vb m vc cur aQ w k l o p q s x y z a e f)
  (fun b n c i vb m vc cur aQ w k l o p q s x y z a e f=>Zzp b n c i vb m vc cur aQ w k l o p q s x y z a e f)
  (fun bt n c vb m vc w w' v' k l o p q s=>ZBT bt n c vb m vc w w' v' k l o p q s) g j u.toNat o2 A B C
 rw[Int.toNat_of_nonneg o1]at h;exact h
def ZmY(a c0:Zab):Option Bool:=(Zjm a.fNet c0.fNet).bind fun b=>some (decide (b>(0:Int)))
theorem Zuh(b c0:Zab)(r:Bool)(a:ZmY b c0=some r):ZaC Tryz.prog 348 [.agg (Zab.c b),.one (.rp false 5 (fun j=>(Zab.c c0:List C).getD (0+j) .junk))] ((Yk r)):=by
 refine ZaC.of Tryz.func348 rfl rfl rfl rfl fun S0 w0=>?_;unfold ZmY at a;obtain⟨d,e,a⟩:=Zaf a;apply Ya a 4 [rz,rA [(4,aI d)]] [] (.c (Zsm _ _ _ e) .n)
def ZaZ(c:List Zab)(a:Zab):Nat->Int->Int->Option Int|0,_,_=>none|fu+1,e,b=>bif(decide (b<e))then need (0<=b/\b<((c.length:Nat):Int))<|(ZmY (c.getD b.toNat Zab.d) a).bind fun f=>bif f then some b else ZaZ c a fu e (Zar b 1)else some (-1:Int)
theorem ZhD(S0:Nat->Prop)(w0:Zba)(k:List Zab)(b:Zab):∀(f:Nat)(d e r:Int),ZaZ k b f d e=some r->Good Tryz.prog 19 S0 w0 (bodyPost Tryz.prog Tryz.f347 (Post S0 w0 ((Yj r)))) (at_ [1,0,1,0] (ZaW Tryz.f347)) ⟨[(0,(Yl k)),(1,.one (.clo (.func 348) 0 1 (fun i=>([]:List C).getD i .junk) (fun i=>([.rp false 5 (fun j=>(Zab.c b:List C).getD (0+j) .junk)]:List C).getD i .junk))),(7,(Yj d)),(8,(Yj e))],[]⟩:=by
 intro f;induction f with
 |zero=>
  intro d e r a;simp[ZaZ]at a
 |succ f m=>
  intro d e r a;unfold ZaZ at a;rcases Zai a with⟨g,a⟩|⟨g,a⟩
  ·obtain⟨o2,a⟩:=Zaq a;obtain⟨l,o,a⟩:=Zaf a;have O1:Obl _:=(.c g (.c o2 (.c (Zuh _ _ _ o) .n)));rcases Zai a with⟨h,a⟩|⟨h,a⟩
   ·apply Ya a 15 [rz,rz,rA [(5,aB l)],rz] [true,true] (O1.app (.c h .n))
   ·exact Ye 17 [rz,rz,rA [(5,aB l)],rz] [true,false] (Yi [0,1,7,8]) (O1.app (.c h .n)) (m d (Zar e 1) r a)
  ·apply Ya a 8 [rz,rz] [false] (.c g .n)
def Zcc(b:List Zab)(a:Zab):Option Int:=ZaZ b a ((((b.length:Nat):Int)-(0:Int)).toNat+2) ((b.length:Nat):Int) (0:Int)
theorem Ziq(b:List Zab)(a:Zab)(r:Int)(d:Zcc b a=some r):ZaC Tryz.prog 347 [(Yl b),.one (.clo (.func 348) 0 1 (fun i=>([]:List C).getD i .junk) (fun i=>([.rp false 5 (fun j=>(Zab.c a:List C).getD (0+j) .junk)]:List C).getD i .junk))] ((Yj r)):=by
 refine ZaC.of Tryz.func347 rfl rfl rfl rfl fun S0 w0=>?_;unfold Zcc at d;exact Ye 6 [rz,rz] [] (Yi [0,1,7,8]) .n (ZhD S0 w0 b a ((((b.length:Nat):Int)-(0:Int)).toNat+2) ((b.length:Nat):Int) (0:Int) r d)
def ZnQ(a:List Zab)(c:Zab)(g:Int):Option ((List Zab)×Int):=(Zmg c).bind fun h=>bif(!h)then some (([]:(List Zab)),(1:Int))else(ZbD a).bind fun e=>(ZkD a c.fNet).bind fun b=>bif(decide (b>=(0:Int)))then need (0<=b/\b<((a.length:Nat):Int))<|(ZpY (a.getD b.toNat Zab.d) c).bind fun i=>need (0<=b/\b<((e.length:Nat):Int))<|some ((e.set b.toNat i),(0:Int))else bif(decide (((a.length:Nat):Int)>=g))then some (([]:(List Zab)),(5:Int))else(Zcc a c).bind fun f=>bif(decide (f<(0:Int)))then(Zbz e ((a.length:Nat):Int) ([c]:List Zab)).bind fun j=>some (j,(0:Int))else(Zbz e f ([c]:List Zab)).bind fun k=>some (k,(0:Int))
theorem ZwL(v:List Zab)(b:Zab)(w:Int)(r:((List Zab)×Int))(a:ZnQ v b w=some r):ZaC Tryz.prog 295 [(Yl v),.agg (Zab.c b),(Yj w)] (.tup [(false,(cLs 5 Zab.c Zab.d) r.1),(false,(cI .i64) r.2)]):=by
 refine ZaC.of Tryz.func295 rfl rfl rfl rfl fun S0 w0=>?_;unfold ZnQ at a;obtain⟨x,y,a⟩:=Zaf a;rcases Zai a with⟨m,a⟩|⟨m,a⟩
 ·apply Yb a 8 [rz,rA [(1,aB x)],rz] [true] [] [] [(6,[(0,cL 5 Zab.c Zab.d [])])] (.c (ZqE _ _ y) (.c m .n))
 ·obtain⟨f,A,a⟩:=Zaf a;obtain⟨g,B,a⟩:=Zaf a
  let R1:List RA:=[rz,rA [(1,aB x)],rH [] [(1,⟨[],[(99999,15)],[(99999,.rows 146 5 f.length (Zam Zab.c Zab.d f))],.one (.osl 99999 f.length)⟩)],rA [(3,aI g)],rz]
  have O2:Obl _:=(.c (ZqE _ _ y) (.c m (.c (ZdJ _ _ A) (.c (Zno _ _ _ B) .n))));rcases Zai a with⟨l,a⟩|⟨l,a⟩
  ·obtain⟨C,a⟩:=Zaq a;obtain⟨k,D,a⟩:=Zaf a;obtain⟨z,a⟩:=Zaq a;apply Yb a 19 (R1++[rA [(7,aG (Zab.c k)),(9,.c (f.set g.toNat k).length (Zam Zab.c Zab.d (f.set g.toNat k)))],rz]) [false,true] [15] [] [] (O2.app (.c l (.c C (.c (ZwM _ _ _ D) (.c z (.c (show (f.set g.toNat k).length=f.length from List.length_set) (.c (show g.toNat<f.length from(ltOf z)) (.c (show ExtU 5 f.length (Zam Zab.c Zab.d f) g.toNat 0 (Zab.c k) (Zam Zab.c Zab.d (f.set g.toNat k))from(ZiG _ _ _ rfl)) .n))))))))
  ·rcases Zai a with⟨o,a⟩|⟨o,a⟩
   ·apply Yb a 22 (R1++[rz,rz]) [false,false,true] [] [] [(6,[(0,cL 5 Zab.c Zab.d [])])] (O2.app (.c l (.c o .n)))
   ·obtain⟨E,p,a⟩:=Zaf a
    let R3:List RA:=(R1++[rz,⟨[(2,aI E)],[],[(1,[4])],[],[],[],[]⟩,rz])
    have O4:Obl _:=(O2.app (.c l (.c o (.c (Ziq _ _ _ p) .n))));rcases Zai a with⟨h,a⟩|⟨h,a⟩
    ·obtain⟨q,s,a⟩:=Zaf a;apply Yb a 30 (R3++[rz,rH [(3,.c ([b]:List Zab).length (Zam Zab.c Zab.d ([b]:List Zab)))] [(4,⟨[(100000,15),(100001,46)],[(99999,47)],[(99999,.rows 146 5 q.length (Zam Zab.c Zab.d q))],.one (.osl 99999 q.length)⟩)]]) [false,false,false,true] [47] [] [] (O4.app (.c h (.c (show ([b]:List Zab).length=1 from rfl) (.c (show ∀i j,i<1->j<5->Zam Zab.c Zab.d ([b]:List Zab) i j=(([b]:List Zab).flatMap Zab.c).getD (i * 5+j) .junk from(fun i j hi hj=>ZaP (sz:=5) (e:=Zab.c) (d:=Zab.d) (fun _=>rfl) ([b]:List Zab) i j hi hj)) (.c (Zdz _ _ _ _ s) .n)))))
    ·obtain⟨t,u,a⟩:=Zaf a;apply Yb a 30 (R3++[rH [(3,.c ([b]:List Zab).length (Zam Zab.c Zab.d ([b]:List Zab)))] [(4,⟨[(100000,15),(100001,46)],[(99999,47)],[(99999,.rows 146 5 t.length (Zam Zab.c Zab.d t))],.one (.osl 99999 t.length)⟩)]]) [false,false,false,false] [47] [] [] (O4.app (.c h (.c (show ([b]:List Zab).length=1 from rfl) (.c (show ∀i j,i<1->j<5->Zam Zab.c Zab.d ([b]:List Zab) i j=(([b]:List Zab).flatMap Zab.c).getD (i * 5+j) .junk from(fun i j hi hj=>ZaP (sz:=5) (e:=Zab.c) (d:=Zab.d) (fun _=>rfl) ([b]:List Zab) i j hi hj)) (.c (Zdz _ _ _ _ u) .n)))))
def Zkw(a:Int):Option Zay:=some (Zay.mk 5 a 0)
theorem Zqz(a:Int)(r:Zay)(b:Zkw a=some r):ZaC Tryz.prog 283 [(Yj a)] (.agg (Zay.c r)):=by
 refine ZaC.of Tryz.func283 rfl rfl rfl rfl fun S0 w0=>?_;unfold Zkw at b;apply Ya b 4 [rz,rz] [] .n
def Zkv(a b:Int):Option Zay:=some (Zay.mk 6 a b)
theorem Zqy(a b:Int)(r:Zay)(d:Zkv a b=some r):ZaC Tryz.prog 284 [(Yj a),(Yj b)] (.agg (Zay.c r)):=by
 refine ZaC.of Tryz.func284 rfl rfl rfl rfl fun S0 w0=>?_;unfold Zkv at d;apply Ya d 4 [rz,rz] [] .n
def ZfT(i:Int):Nat->Int->Int->(List Zaa)->Zan->Option (Tout (List Zaa))|0,_,_,_,_=>none|fu+1,d,b,e,a=>bif(decide (b<d))then(Zkv i b).bind fun j=>(Zeh a j false).bind fun k=>(match k with | .ret c f=>need ((e++([c.fPeer]:List Zaa)).length * 80<=140737488355328/\(e++([c.fPeer]:List Zaa)).length<=maxLen)<|ZfT i fu d (Zar b 1) (e++([c.fPeer]:List Zaa)) f | .pan g=>some (Tout.pan g) | .bad h=>some (Tout.bad h))else some (Tout.ret e a)
theorem Zsh(S0:Nat->Prop)(w0:Zba)(q:Int):∀(m:Nat)(g h:Int)(k:List Zaa)(a:Zan)(r:(Tout (List Zaa))),ZfT q m g h k a=some r->Good Tryz.prog 33 S0 w0 (bodyPost Tryz.prog Tryz.f217 (Zjn S0 w0 (oc (fun x=>(Yn x)) r))) (at_ [1,1,0,1,0] (ZaW Tryz.f217)) ⟨[(0,.one (.ifc 112 (.ptr 100000 0))),(1,(Yj q)),(5,.one (.osl 5 k.length)),(15,(Yj g)),(16,(Yj h))],[(5,.rows 44 10 k.length (Zam Zaa.c Zaa.d k)),(100000,.box [cLn 13 Zae.c Zae.d a.fgot])]⟩:=by
 intro m;induction m with
 |zero=>
  intro g h k a r f;simp[ZfT]at f
 |succ m u=>
  intro g h k a r f;unfold ZfT at f;rcases Zai f with⟨o,f⟩|⟨o,f⟩
  ·obtain⟨s,v,f⟩:=Zaf f;have O1:Obl _:=(.c o (.c (Zqy _ _ _ v) (.c ZpT .n)));obtain⟨w,p,f⟩:=Zaf f;cases w with
   |ret b l=>
    dsimp only at f;obtain⟨t,f⟩:=Zaq f;exact Ye 14 [rz,rz,⟨[(4,aG (Zay.c s)),(8,.id 463),(11,.c ((k++([b.fPeer]:List Zaa)).length) (Zam Zaa.c Zaa.d (k++([b.fPeer]:List Zaa))))],[],[],[],[],[(10,(([b.fPeer]:List Zaa).length,Zam Zaa.c Zaa.d ([b.fPeer]:List Zaa)))],[(8,⟨[(100000,100000)],[],[(100000,.box (Zan.c l))],.agg (Zae.c b)⟩)]⟩,rz] [true] ⟨[],[],[],[],[],[0,1,5,15,16],[30,100000],[(30,5)]⟩ (O1.app (.c (ZbU _ _ _ _ p) (.c ZhV (.c (show ([b.fPeer]:List Zaa).length=1/\∀i j,i<1->j<10->Zam Zaa.c Zaa.d ([b.fPeer]:List Zaa) i j=(([b.fPeer]:List Zaa).flatMap Zaa.c).getD (i * 10+j) .junk from⟨rfl,fun i j hi hj=>ZaP (sz:=10) (e:=Zaa.c) (d:=Zaa.d) (fun _=>rfl) ([b.fPeer]:List Zaa) i j hi hj⟩) (.c (Zcm (sz:=10) (e:=Zaa.c) (d:=Zaa.d) k ([b.fPeer]:List Zaa)) (.c t.1 (.c t.2 .n))))))) (u g (Zar h 1) (k++([b.fPeer]:List Zaa)) l r f)
   |_=>
    dsimp only at f;obtain rfl:=oi f;exact Yh 10 [rz,rz] [true] (rA [(4,aG (Zay.c s)),(8,.id 463)]) 8 ⟨[(100000,100000)],pvOf p⟩ (O1.app (.c (ZbU _ _ _ _ p) (.c ZhV .n)))
  ·obtain rfl:=oi f;exact Yd 8 [rz,rz] [false] ⟨[5],[],[],[],[],[4],[100000],[]⟩ (.c o .n)
def ZlV(f:Zan)(e:Int):Option (Tout (List Zaa)):=(Zkw e).bind fun g=>(Zeh f g false).bind fun h=>(match h with | .ret a b=>ZfT e (((if(0:Int)>a.fN then(0:Int)else a.fN)-(0:Int)).toNat+2) (if(0:Int)>a.fN then(0:Int)else a.fN) (0:Int) ([]) b | .pan c=>some (Tout.pan c) | .bad d=>some (Tout.bad d))
theorem Zpy(h:Zan)(f:Int)(r:(Tout (List Zaa)))(b:ZlV h f=some r):Zfs Tryz.prog 217 [(100000,.box (Zan.c h))] [.one (.ifc 112 (.ptr 100000 0)),(Yj f)] (oc (fun x=>(Yn x)) r):=by
 refine Zfs.of Tryz.func217 rfl rfl rfl rfl fun S0 w0=>?_;unfold ZlV at b;obtain⟨i,j,b⟩:=Zaf b;have O2:Obl _:=(.c (Zqz _ _ j) (.c ZpT .n));obtain⟨k,g,b⟩:=Zaf b;cases k with
 |ret a e=>
  dsimp only at b;exact Ye 8 [rz,rz,rH [(2,aG (Zay.c i)),(6,.id 463)] [(6,⟨[(100000,100000)],[],[(100000,.box (Zan.c e))],.agg (Zae.c a)⟩)]] [] ⟨[],[],[],[],[(5,5,44,10,Zam Zaa.c Zaa.d [])],[0,1,5,15,16],[5,100000],[]⟩ (O2.app (.c (ZbU _ _ _ _ g) (.c ZhV .n))) (Zsh S0 w0 f (((if(0:Int)>a.fN then(0:Int)else a.fN)-(0:Int)).toNat+2) (if(0:Int)>a.fN then(0:Int)else a.fN) (0:Int) ([]) e r b)
 |_=>
  dsimp only at b;obtain rfl:=oi b;exact Yh 6 [rz,rz] [] (rA [(2,aG (Zay.c i)),(6,.id 463)]) 6 ⟨[(100000,100000)],pvOf g⟩ (O2.app (.c (ZbU _ _ _ _ g) (.c ZhV .n)))
def Zdk:Nat->Int->Int->(List (List Zaa))->Zan->Option (Tout (List (List Zaa)))|0,_,_,_,_=>none|fu+1,d,b,c,a=>bif(decide (b<d))then(ZlV a b).bind fun i=>(match i with | .ret e f=>need (0<=b/\b<((c.length:Nat):Int))<|Zdk fu d (Zar b 1) (c.set b.toNat e) f | .pan g=>some (Tout.pan g) | .bad h=>some (Tout.bad h))else some (Tout.ret c a)
theorem Zoh(S0:Nat->Prop)(w0:Zba):∀(j:Nat)(h b:Int)(a:(List (List Zaa)))(e:Zan)(r:(Tout (List (List Zaa)))),Zdk j h b a e=some r->Good Tryz.prog 24 S0 w0 (bodyPost Tryz.prog Tryz.f254 (Zjn S0 w0 (oc (fun x=>.one (cL 1 (cLs 10 Zaa.c Zaa.d) ([]:(List Zaa)) x)) r))) (at_ [1,1,0,1,0] (ZaW Tryz.f254)) ⟨[(1,.one (.ifc 112 (.ptr 100000 0))),(5,.one (.osl 10 a.length)),(12,(Yj h)),(13,(Yj b))],[(10,.rows 54 1 a.length (Zam (cLs 10 Zaa.c Zaa.d) ([]:(List Zaa)) a)),(100000,.box [cLn 13 Zae.c Zae.d e.fgot])]⟩:=by
 intro j;induction j with
 |zero=>
  intro h b a e r g;simp[Zdk]at g
 |succ j o=>
  intro h b a e r g;unfold Zdk at g;rcases Zai g with⟨k,g⟩|⟨k,g⟩
  ·obtain⟨p,l,g⟩:=Zaf g;cases p with
   |ret f i=>
    dsimp only at g;obtain⟨m,g⟩:=Zaq g;exact Ye 14 [rz,rz,rH [(6,.c (a.set b.toNat f).length (Zam (cLs 10 Zaa.c Zaa.d) ([]:(List Zaa)) (a.set b.toNat f)))] [(4,⟨[(100000,100000)],[],[(100000,.box (Zan.c i))],(Yn f)⟩)],rz] [true] ⟨[],[],[],[(10,((a.set b.toNat f).length))],[],[1,5,12,13],[10,100000],[]⟩ (.c k (.c (Zpy _ _ _ l) (.c m (.c (show (a.set b.toNat f).length=a.length from List.length_set) (.c (show b.toNat<a.length from(ltOf m)) (.c (show ExtU 1 a.length (Zam (cLs 10 Zaa.c Zaa.d) ([]:(List Zaa)) a) b.toNat 0 ((cLs 10 Zaa.c Zaa.d) f) (Zam (cLs 10 Zaa.c Zaa.d) ([]:(List Zaa)) (a.set b.toNat f))from(ZiG _ _ _ rfl)) (.c (show (a.set b.toNat f).length=(a.set b.toNat f).length from rfl) .n))))))) (o h (Zar b 1) (a.set b.toNat f) i r g)
   |_=>
    dsimp only at g;obtain rfl:=oi g;exact Yh 10 [rz,rz] [true] (rz) 4 ⟨[(100000,100000)],pvOf l⟩ (.c k (.c (Zpy _ _ _ l) .n))
  ·obtain rfl:=oi g;exact Yd 8 [rz,rz] [false] ⟨[10],[],[],[],[],[4],[100000],[]⟩ (.c k .n)
def Zga(a:Zbg)(b:Zan):Option (Tout (List (List Zaa))):=need (0<=a.fc.fShards/\a.fc.fShards<=a.fc.fShards/\a.fc.fShards<=140737488355328/\a.fc.fShards * 24<=140737488355328)<|Zdk ((((a.fc.fShards.toNat:Nat):Int)-(0:Int)).toNat+2) ((a.fc.fShards.toNat:Nat):Int) (0:Int) (List.replicate a.fc.fShards.toNat ([]:(List Zaa))) b
theorem ZgL(a:Zbg)(e:Zan)(r:(Tout (List (List Zaa))))(b:Zga a e=some r):Zfs Tryz.prog 254 [(100000,.box (Zan.c e))] [.agg (Zbg.c a),.one (.ifc 112 (.ptr 100000 0))] (oc (fun x=>.one (cL 1 (cLs 10 Zaa.c Zaa.d) ([]:(List Zaa)) x)) r):=by
 refine Zfs.of Tryz.func254 rfl rfl rfl rfl fun S0 w0=>?_;unfold Zga at b;obtain⟨o1,b⟩:=Zaq b;exact Ye 8 [rz,rA [(3,.c a.fc.fShards.toNat (Zam (cLs 10 Zaa.c Zaa.d) ([]:(List Zaa)) (List.replicate a.fc.fShards.toNat ([]:(List Zaa)))))],rz] [] ⟨[],[],[],[(10,((List.replicate a.fc.fShards.toNat ([]:(List Zaa))).length))],[],[1,5,12,13],[10,100000],[]⟩ (.c (show a.fc.fShards=((a.fc.fShards.toNat:Nat):Int)from(Int.toNat_of_nonneg o1.1).symm) (.c (show ((a.fc.fShards.toNat:Nat):Int)<=a.fc.fShards from((Int.toNat_of_nonneg o1.1).symm ▸ o1.2.1)) (.c o1.2.2.1 (.c o1.2.2.2 (.c (show ∀i j,i<a.fc.fShards.toNat->j<1->ZsH (([.lit (.slice none 0 0)]:List C).getD j .junk) (Zam (cLs 10 Zaa.c Zaa.d) ([]:(List Zaa)) (List.replicate a.fc.fShards.toNat ([]:(List Zaa))) i j)from(Zvy (fun j hj=>match j,hj with|0,_=>.inr ⟨rfl,_,_,rfl⟩|j+1,h=>absurd h (by omega)) _)) (.c (show (List.replicate a.fc.fShards.toNat ([]:(List Zaa))).length=a.fc.fShards.toNat from List.length_replicate) .n)))))) (Zoh S0 w0 ((((a.fc.fShards.toNat:Nat):Int)-(0:Int)).toNat+2) ((a.fc.fShards.toNat:Nat):Int) (0:Int) (List.replicate a.fc.fShards.toNat ([]:(List Zaa))) e r b)
def ZdM(d:Zan)(e:Zay)(f:Zae)(g:Bool):Option (Tout Unit):=(Zcr d (ZaK.mk 6 0 e 0 0 f g)).bind fun h=>(match h with | .ret i a=>some (Tout.ret () a) | .pan b=>some (Tout.pan b) | .bad c=>some (Tout.bad c))
theorem ZbM(f:Zan)(g:Zay)(h:Zae)(i:Bool)(r:(Tout Unit))(a:ZdM f g h i=some r):Zfs Tryz.prog 467 [(100000,.box (Zan.c f))] [.one (.ptr 100000 0),.agg (Zay.c g),.agg (Zae.c h),(Yk i)] (oc (fun x=>.tup []) r):=by
 refine Zfs.of Tryz.func467 rfl rfl rfl rfl fun S0 w0=>?_;unfold ZdM at a;obtain⟨j,b,a⟩:=Zaf a;cases j with
 |ret d e=>
  dsimp only at a;obtain rfl:=oi a;exact Yd 3 [rz,rH [] [(5,⟨[(100000,100000)],[],[(100000,.box (Zan.c e))],.agg (Zae.c d)⟩)]] [] ⟨[],[],[],[],[],[],[100000],[]⟩ (.c (Zbw _ _ _ b) .n)
 |_=>
  dsimp only at a;obtain rfl:=oi a;exact Yh 2 [rz] [] (rz) 5 ⟨[(100000,100000)],pvOf b⟩ (.c (Zbw _ _ _ b) .n)
def ZjG(a:Zao)(b:Zag):Option Bool:=(ZgW a).bind fun c=>bif c then(Zfp b).bind fun d=>bif d then bif(a.fAddr.fV6==b.fV6)then(ZjA b a.fBits).bind fun e=>some (decide (e=a.fAddr))else some false else some false else some false
theorem ZiQ(b:Zao)(j:Zag)(r:Bool)(a:ZjG b j=some r):ZaC Tryz.prog 296 [.agg (Zao.c b),.agg (Zag.c j)] ((Yk r)):=by
 refine ZaC.of Tryz.func296 rfl rfl rfl rfl fun S0 w0=>?_;unfold ZjG at a;obtain⟨d,k,a⟩:=Zaf a;rcases Zai a with⟨f,a⟩|⟨f,a⟩
 ·obtain⟨g,l,a⟩:=Zaf a;have O1:Obl _:=(.c (ZcI _ _ k) (.c f (.c (ZcQ _ _ l) .n)));rcases Zai a with⟨e,a⟩|⟨e,a⟩
  ·rcases Zai a with⟨h,a⟩|⟨h,a⟩
   ·obtain⟨i,m,a⟩:=Zaf a;apply Ya a 4 [rz,⟨[(1,aB d),(4,aB g),(18,aG (Zag.c i)),(21,aB (decide (i=b.fAddr)))],[(2,true),(6,true),(14,true)],[],[],[],[],[]⟩] [] (O1.app (.c e (.c h (.c (ZqD _ _ _ m) (.c (ZkJ i b.fAddr (.tmp 23) (.tmp 25)) .n)))))
   ·apply Ya a 4 [rz,⟨[(1,aB d),(4,aB g)],[(2,true),(6,true),(14,false)],[],[],[],[],[]⟩] [] (O1.app (.c e (.c h .n)))
  ·apply Ya a 4 [rz,⟨[(1,aB d),(4,aB g)],[(2,true),(6,false)],[],[],[],[],[]⟩] [] (O1.app (.c e .n))
 ·apply Ya a 4 [rz,⟨[(1,aB d)],[(2,false)],[],[],[],[],[]⟩] [] (.c (ZcI _ _ k) (.c f .n))
def ZeJ:Nat->(List Zaa)->Int->Int->(List Zaa)->(List Zaa)->Zao->Option ((List Zaa)×(List Zaa))|0,_,_,_,_,_,_=>none|fu+1,b,f,a,c,e,g=>bif(decide (a<f))then need (0<=a/\a<((b.length:Nat):Int))<|(ZjG g (((b.getD a.toNat Zaa.d).fEnd).fAddr)).bind fun h=>bif h then need ((c++([(b.getD a.toNat Zaa.d)]:List Zaa)).length * 80<=140737488355328/\(c++([(b.getD a.toNat Zaa.d)]:List Zaa)).length<=maxLen)<|ZeJ fu b f (Zar a 1) (c++([(b.getD a.toNat Zaa.d)]:List Zaa)) e g else need ((e++([(b.getD a.toNat Zaa.d)]:List Zaa)).length * 80<=140737488355328/\(e++([(b.getD a.toNat Zaa.d)]:List Zaa)).length<=maxLen)<|ZeJ fu b f (Zar a 1) c (e++([(b.getD a.toNat Zaa.d)]:List Zaa)) g else some (c,e)
theorem ZqP(S0:Nat->Prop)(w0:Zba):∀(m:Nat)(b:List Zaa)(l a:Int)(g h:List Zaa)(k:Zao)(r:((List Zaa)×(List Zaa))),ZeJ m b l a g h k=some r->Good Tryz.prog 30 S0 w0 (bodyPost Tryz.prog Tryz.f228 (Post S0 w0 (.tup [(false,(cLs 10 Zaa.c Zaa.d) r.1),(false,(cLs 10 Zaa.c Zaa.d) r.2)]))) (at_ [1,0,1,0] (ZaW Tryz.f228)) ⟨[(3,.one (.ptr 3 0)),(4,.one (.osl 4 g.length)),(5,.one (.osl 5 h.length)),(8,(Yn b)),(9,(Yj l)),(10,(Yj a))],[(4,.rows 44 10 g.length (Zam Zaa.c Zaa.d g)),(5,.rows 44 10 h.length (Zam Zaa.c Zaa.d h)),(3,.box [.lit (.bool k.fAddr.fV6),.lit (.int .u64 k.fAddr.fHi),.lit (.int .u64 k.fAddr.fLo),.lit (.int .i64 k.fBits)])]⟩:=by
 intro m;induction m with
 |zero=>
  intro b l a g h k r f;simp[ZeJ]at f
 |succ m q=>
  intro b l a g h k r f;unfold ZeJ at f;rcases Zai f with⟨o,f⟩|⟨o,f⟩
  ·obtain⟨o2,f⟩:=Zaq f;obtain⟨s,v,f⟩:=Zaf f;have O1:Obl _:=(.c o (.c o2 (.c (ZiQ _ _ _ v) .n)));rcases Zai f with⟨p,f⟩|⟨p,f⟩
   ·obtain⟨t,f⟩:=Zaq f;exact Ye 17 [rz,rz,rA [(4,aB s)],⟨[(3,.c ((g++([(b.getD a.toNat Zaa.d)]:List Zaa)).length) (Zam Zaa.c Zaa.d (g++([(b.getD a.toNat Zaa.d)]:List Zaa))))],[],[],[],[],[(2,(([(b.getD a.toNat Zaa.d)]:List Zaa).length,Zam Zaa.c Zaa.d ([(b.getD a.toNat Zaa.d)]:List Zaa)))],[]⟩,rz] [true,true] ⟨[],[],[],[],[],[3,4,5,8,9,10],[22,5,3],[(22,4)]⟩ (O1.app (.c p (.c (show ([(b.getD a.toNat Zaa.d)]:List Zaa).length=1/\∀i j,i<1->j<10->Zam Zaa.c Zaa.d ([(b.getD a.toNat Zaa.d)]:List Zaa) i j=(([(b.getD a.toNat Zaa.d)]:List Zaa).flatMap Zaa.c).getD (i * 10+j) .junk from⟨rfl,fun i j hi hj=>ZaP (sz:=10) (e:=Zaa.c) (d:=Zaa.d) (fun _=>rfl) ([(b.getD a.toNat Zaa.d)]:List Zaa) i j hi hj⟩) (.c (Zcm (sz:=10) (e:=Zaa.c) (d:=Zaa.d) g ([(b.getD a.toNat Zaa.d)]:List Zaa)) (.c t.1 (.c t.2 .n)))))) (q b l (Zar a 1) (g++([(b.getD a.toNat Zaa.d)]:List Zaa)) h k r f)
   ·obtain⟨u,f⟩:=Zaq f;exact Ye 17 [rz,rz,rA [(4,aB s)],⟨[(3,.c ((h++([(b.getD a.toNat Zaa.d)]:List Zaa)).length) (Zam Zaa.c Zaa.d (h++([(b.getD a.toNat Zaa.d)]:List Zaa))))],[],[],[],[],[(2,(([(b.getD a.toNat Zaa.d)]:List Zaa).length,Zam Zaa.c Zaa.d ([(b.getD a.toNat Zaa.d)]:List Zaa)))],[]⟩,rz] [true,false] ⟨[],[],[],[],[],[3,4,5,8,9,10],[4,26,3],[(26,5)]⟩ (O1.app (.c p (.c (show ([(b.getD a.toNat Zaa.d)]:List Zaa).length=1/\∀i j,i<1->j<10->Zam Zaa.c Zaa.d ([(b.getD a.toNat Zaa.d)]:List Zaa) i j=(([(b.getD a.toNat Zaa.d)]:List Zaa).flatMap Zaa.c).getD (i * 10+j) .junk from⟨rfl,fun i j hi hj=>ZaP (sz:=10) (e:=Zaa.c) (d:=Zaa.d) (fun _=>rfl) ([(b.getD a.toNat Zaa.d)]:List Zaa) i j hi hj⟩) (.c (Zcm (sz:=10) (e:=Zaa.c) (d:=Zaa.d) h ([(b.getD a.toNat Zaa.d)]:List Zaa)) (.c u.1 (.c u.2 .n)))))) (q b l (Zar a 1) g (h++([(b.getD a.toNat Zaa.d)]:List Zaa)) k r f)
  ·apply Yb f 8 [rz,rz] [false] [4,5] [] [] (.c o .n)
def Zlv(a:List Zaa)(b:Zao):Option ((List Zaa)×(List Zaa)):=ZeJ ((((a.length:Nat):Int)-(0:Int)).toNat+2) a ((a.length:Nat):Int) (0:Int) ([]) ([]) b
theorem ZsJ(a:List Zaa)(b:Zao)(r:((List Zaa)×(List Zaa)))(e:Zlv a b=some r):ZaC Tryz.prog 228 [(Yn a),.agg (Zao.c b)] (.tup [(false,(cLs 10 Zaa.c Zaa.d) r.1),(false,(cLs 10 Zaa.c Zaa.d) r.2)]):=by
 refine ZaC.of Tryz.func228 rfl rfl rfl rfl fun S0 w0=>?_;unfold Zlv at e;exact Ye 6 [rz,rz] [] ⟨[],[],[],[],[(4,4,44,10,Zam Zaa.c Zaa.d []),(5,5,44,10,Zam Zaa.c Zaa.d [])],[3,4,5,8,9,10],[4,5,3],[]⟩ .n (ZqP S0 w0 ((((a.length:Nat):Int)-(0:Int)).toNat+2) a ((a.length:Nat):Int) (0:Int) ([]) ([]) b r e)
def Zdi(c:List Zaa):Nat->(List Zaa)->Int->Int->(List Int)->Option (List Int)|0,_,_,_,_=>none|fu+1,e,f,a,b=>bif(decide (a<f))then need (0<=a/\a<((e.length:Nat):Int))<|bif(decide (a>=((c.length:Nat):Int)))then need ((b++([a]:List Int)).length * 8<=140737488355328/\(b++([a]:List Int)).length<=maxLen)<|Zdi c fu e f (Zar a 1) (b++([a]:List Int))else need (0<=a/\a<((c.length:Nat):Int))<|bif(!(decide ((c.getD a.toNat Zaa.d)=(e.getD a.toNat Zaa.d))))then need ((b++([a]:List Int)).length * 8<=140737488355328/\(b++([a]:List Int)).length<=maxLen)<|Zdi c fu e f (Zar a 1) (b++([a]:List Int))else Zdi c fu e f (Zar a 1) b else some b
theorem Zqh(S0:Nat->Prop)(w0:Zba)(k:List Zaa):∀(l:Nat)(g:List Zaa)(h a:Int)(f r:List Int),Zdi k l g h a f=some r->Good Tryz.prog 33 S0 w0 (bodyPost Tryz.prog Tryz.f287 (Zbk S0 w0 [(99999,.rows 3 1 r.length (Zam (cI .i64) (0:Int) r))] (.one (.osl 99999 r.length)))) (at_ [1,1,0,1,0] (ZaW Tryz.f287)) ⟨[(0,(Yn k)),(5,.one (.osl 5 f.length)),(8,(Yn g)),(9,(Yj h)),(10,(Yj a))],[(5,.rows 3 1 f.length (Zam (cI .i64) (0:Int) f))]⟩:=by
 intro l;induction l with
 |zero=>
  intro g h a f r b;simp[Zdi]at b
 |succ l o=>
  intro g h a f r b;unfold Zdi at b;rcases Zai b with⟨m,b⟩|⟨m,b⟩
  ·obtain⟨o2,b⟩:=Zaq b;rcases Zai b with⟨p,b⟩|⟨p,b⟩
   ·obtain⟨s,b⟩:=Zaq b;exact Ye 17 [rz,rz,rB [(4,true)],⟨[(3,.c ((f++([a]:List Int)).length) (Zam (cI .i64) (0:Int) (f++([a]:List Int))))],[],[],[],[],[(2,(([a]:List Int).length,Zam (cI .i64) (0:Int) ([a]:List Int)))],[]⟩,rz] [true,true] ⟨[],[],[],[],[],[0,5,8,9,10],[30],[(30,5)]⟩ (.c m (.c o2 (.c p (.c (show true=true from rfl) (.c (show ([a]:List Int).length=1/\∀i j,i<1->j<1->Zam (cI .i64) (0:Int) ([a]:List Int) i j=(([a]:List Int).flatMap (cI .i64)).getD (i * 1+j) .junk from⟨rfl,fun i j hi hj=>ZaP (sz:=1) (e:=(cI .i64)) (d:=(0:Int)) (fun _=>rfl) ([a]:List Int) i j hi hj⟩) (.c (Zcm (sz:=1) (e:=(cI .i64)) (d:=(0:Int)) f ([a]:List Int)) (.c s.1 (.c s.2 .n)))))))) (o g h (Zar a 1) (f++([a]:List Int)) r b)
   ·obtain⟨u,b⟩:=Zaq b
    let R1:List RA:=[rz,rz,⟨[(10,aB (!(decide ((k.getD a.toNat Zaa.d)=(g.getD a.toNat Zaa.d)))))],[(4,false)],[],[],[],[],[]⟩]
    have O2:Obl _:=(.c m (.c o2 (.c p (.c u (.c (Zqv (k.getD a.toNat Zaa.d) (g.getD a.toNat Zaa.d) (.tmp 23) (.tmp 24)) .n)))));rcases Zai b with⟨q,b⟩|⟨q,b⟩
    ·obtain⟨t,b⟩:=Zaq b;exact Ye 17 (R1++[⟨[(3,.c ((f++([a]:List Int)).length) (Zam (cI .i64) (0:Int) (f++([a]:List Int))))],[],[],[],[],[(2,(([a]:List Int).length,Zam (cI .i64) (0:Int) ([a]:List Int)))],[]⟩,rz]) [true,true] ⟨[],[],[],[],[],[0,5,8,9,10],[30],[(30,5)]⟩ (O2.app (.c q (.c (show ([a]:List Int).length=1/\∀i j,i<1->j<1->Zam (cI .i64) (0:Int) ([a]:List Int) i j=(([a]:List Int).flatMap (cI .i64)).getD (i * 1+j) .junk from⟨rfl,fun i j hi hj=>ZaP (sz:=1) (e:=(cI .i64)) (d:=(0:Int)) (fun _=>rfl) ([a]:List Int) i j hi hj⟩) (.c (Zcm (sz:=1) (e:=(cI .i64)) (d:=(0:Int)) f ([a]:List Int)) (.c t.1 (.c t.2 .n)))))) (o g h (Zar a 1) (f++([a]:List Int)) r b)
    ·exact Ye 17 (R1++[rz]) [true,false] ⟨[],[],[],[],[],[0,5,8,9,10],[5],[]⟩ (O2.app (.c q .n)) (o g h (Zar a 1) f r b)
  ·apply Yc b 8 [rz,rz] [false] ⟨[],[],[],[],[],[4],[5],[(5,99999)]⟩ (.c m .n)
def Zjf(b a:List Zaa):Option (List Int):=Zdi b ((((a.length:Nat):Int)-(0:Int)).toNat+2) a ((a.length:Nat):Int) (0:Int) ([])
theorem Zrx(b a:List Zaa)(r:List Int)(c:Zjf b a=some r):Zcu Tryz.prog 287 [] [(Yn b),(Yn a)] [(99999,.rows 3 1 r.length (Zam (cI .i64) (0:Int) r))] (.one (.osl 99999 r.length)):=by
 refine Zcu.of Tryz.func287 rfl rfl rfl rfl fun S0 w0=>?_;unfold Zjf at c;exact Ye 8 [rz,rz,rz] [] ⟨[],[],[],[],[(5,5,3,1,Zam (cI .i64) (0:Int) [])],[0,5,8,9,10],[5],[]⟩ .n (Zqh S0 w0 b ((((a.length:Nat):Int)-(0:Int)).toNat+2) a ((a.length:Nat):Int) (0:Int) ([]) r c)
theorem Zsj(a b:List Zaa)(r:List Int)(c:Zjf a b=some r):ZaC Tryz.prog 287 [(Yn a),(Yn b)] (.one (cL 1 (cI .i64) (0:Int) r)):=(Zrx a b r c).pure
def Zfl(g:Int)(n e:List Zaa):Nat->(List Int)->Int->Int->Zan->Option (Tout Unit)|0,_,_,_,_=>none|fu+1,c,f,b,a=>bif(decide (b<f))then need (0<=b/\b<((c.length:Nat):Int))<|(Zkv g (c.getD b.toNat (0:Int))).bind fun o=>need (0<=(c.getD b.toNat (0:Int))/\(c.getD b.toNat (0:Int))<((e.length:Nat):Int))<|(ZdM a o (Zae.mk 0 (e.getD (c.getD b.toNat (0:Int)).toNat Zaa.d) ([]:(List Zab)) ([]:(List Zac))) false).bind fun p=>(match p with | .ret q h=>Zfl g n e fu c f (Zar b 1) h | .pan i=>some (Tout.pan i) | .bad j=>some (Tout.bad j))else bif(((n.length:Nat):Int) != ((e.length:Nat):Int))then(Zkw g).bind fun r=>(ZdM a r (Zae.mk ((e.length:Nat):Int) (Zaa.mk (Zah.mk (Zag.mk false 0 0) 0) false 0 (Zax.mk 0 0) 0 0) ([]:(List Zab)) ([]:(List Zac))) false).bind fun s=>(match s with | .ret t k=>some (Tout.ret () k) | .pan l=>some (Tout.pan l) | .bad m=>some (Tout.bad m))else some (Tout.ret () a)
theorem Zrv(S0:Nat->Prop)(w0:Zba)(p:Int)(q s:List Zaa):∀(i:Nat)(e:List Int)(f g:Int)(b:Zan)(r:(Tout Unit)),Zfl p q s i e f g b=some r->Good Tryz.prog 47 S0 w0 (bodyPost Tryz.prog Tryz.f220 (Zjn S0 w0 (oc (fun x=>.tup []) r))) (at_ [0,1,0] (ZaW Tryz.f220)) ⟨[(0,.one (.ifc 112 (.ptr 100000 0))),(1,(Yj p)),(2,(Yn q)),(3,(Yn s)),(12,.one (cL 1 (cI .i64) (0:Int) e)),(13,(Yj f)),(14,(Yj g))],[(100000,.box [cLn 13 Zae.c Zae.d b.fgot])]⟩:=by
 intro i;induction i with
 |zero=>
  intro e f g b r a;simp[Zfl]at a
 |succ i v=>
  intro e f g b r a;unfold Zfl at a;rcases Zai a with⟨j,a⟩|⟨j,a⟩
  ·obtain⟨w,a⟩:=Zaq a;obtain⟨t,y,a⟩:=Zaf a;obtain⟨z,a⟩:=Zaq a;have O1:Obl _:=(.c j (.c w (.c (Zqy _ _ _ y) (.c z (.c Zku .n)))));obtain⟨A,k,a⟩:=Zaf a;cases A with
   |ret B h=>
    dsimp only at a;exact Ye 14 [rz,rz,⟨[(3,aG (Zay.c t)),(12,.id 467)],[],[],[],[(8,[(11,cL 5 Zab.c Zab.d []),(12,cL 7 Zac.c Zac.d [])])],[],[(12,⟨[(100000,100000)],[],[(100000,.box (Zan.c h))],.tup []⟩)]⟩,rz] [true] ⟨[],[],[],[],[],[0,1,2,3,12,13,14],[100000],[]⟩ (O1.app (.c (ZbM _ _ _ _ _ k) (.c Zgx .n))) (v e f (Zar g 1) h r a)
   |_=>
    dsimp only at a;obtain rfl:=oi a;exact Yh 10 [rz,rz] [true] (⟨[(3,aG (Zay.c t)),(12,.id 467)],[],[],[],[(8,[(11,cL 5 Zab.c Zab.d []),(12,cL 7 Zac.c Zac.d [])])],[],[]⟩) 12 ⟨[(100000,100000)],pvOf k⟩ (O1.app (.c (ZbM _ _ _ _ _ k) (.c Zgx .n)))
  ·rcases Zai a with⟨l,a⟩|⟨l,a⟩
   ·obtain⟨u,C,a⟩:=Zaf a;have O2:Obl _:=(.c j (.c l (.c (Zqz _ _ C) (.c Zku .n))));obtain⟨D,m,a⟩:=Zaf a;cases D with
    |ret E o=>
     dsimp only at a;obtain rfl:=oi a;exact Yd 10 [rz,rz,⟨[(2,aG (Zay.c u)),(9,.id 467)],[],[],[],[(5,[(11,cL 5 Zab.c Zab.d []),(12,cL 7 Zac.c Zac.d [])])],[],[(9,⟨[(100000,100000)],[],[(100000,.box (Zan.c o))],.tup []⟩)]⟩] [false,true] ⟨[],[],[],[],[],[],[100000],[]⟩ (O2.app (.c (ZbM _ _ _ _ _ m) (.c Zgx .n)))
    |_=>
     dsimp only at a;obtain rfl:=oi a;exact Yh 9 [rz,rz] [false,true] (⟨[(2,aG (Zay.c u)),(9,.id 467)],[],[],[],[(5,[(11,cL 5 Zab.c Zab.d []),(12,cL 7 Zac.c Zac.d [])])],[],[]⟩) 9 ⟨[(100000,100000)],pvOf m⟩ (O2.app (.c (ZbM _ _ _ _ _ m) (.c Zgx .n)))
   ·obtain rfl:=oi a;exact Yd 10 [rz,rz] [false,false] ⟨[],[],[],[],[],[],[100000],[]⟩ (.c j (.c l .n))
def ZkQ(d:Zan)(e:Int)(b c:List Zaa):Option (Tout Unit):=(Zjf b c).bind fun a=>Zfl e b c ((((a.length:Nat):Int)-(0:Int)).toNat+2) a ((a.length:Nat):Int) (0:Int) d
theorem ZoM(d:Zan)(e:Int)(f g:List Zaa)(r:(Tout Unit))(a:ZkQ d e f g=some r):Zfs Tryz.prog 220 [(100000,.box (Zan.c d))] [.one (.ifc 112 (.ptr 100000 0)),(Yj e),(Yn f),(Yn g)] (oc (fun x=>.tup []) r):=by
 refine Zfs.of Tryz.func220 rfl rfl rfl rfl fun S0 w0=>?_;unfold ZkQ at a;obtain⟨b,h,a⟩:=Zaf a;exact Ye 4 [rA [(2,.r (.one (cL 1 (cI .i64) (0:Int) b)) [])]] [] ⟨[],[],[],[],[],[0,1,2,3,12,13,14],[100000],[]⟩ (.c (Zsj _ _ _ h) .n) (Zrv S0 w0 e f g ((((b.length:Nat):Int)-(0:Int)).toNat+2) b ((b.length:Nat):Int) (0:Int) d r a)
def Zei(c:Bool):Nat->Int->(List Zaa)->Int->Int->Option Int|0,_,_,_,_=>none|fu+1,e,b,f,a=>bif(decide (a<f))then need (0<=a/\a<((b.length:Nat):Int))<|bif((b.getD a.toNat Zaa.d).fIn==c)then Zei c fu (Zar e 1) b f (Zar a 1)else Zei c fu e b f (Zar a 1)else some e
theorem ZqQ(S0:Nat->Prop)(w0:Zba)(j:Bool):∀(g:Nat)(d:Int)(e:List Zaa)(f b r:Int),Zei j g d e f b=some r->Good Tryz.prog 22 S0 w0 (bodyPost Tryz.prog Tryz.f298 (Post S0 w0 ((Yj r)))) (at_ [1,1,0,1,0] (ZaW Tryz.f298)) ⟨[(1,(Yk j)),(5,(Yj d)),(8,(Yn e)),(9,(Yj f)),(10,(Yj b))],[]⟩:=by
 intro g;induction g with
 |zero=>
  intro d e f b r a;simp[Zei]at a
 |succ g k=>
  intro d e f b r a;unfold Zei at a;rcases Zai a with⟨h,a⟩|⟨h,a⟩
  ·obtain⟨o2,a⟩:=Zaq a;rcases Zai a with⟨i,a⟩|⟨i,a⟩
   ·exact Ye 17 [rz,rz,rz,rz,rz] [true,true] (Yi [1,5,8,9,10]) (.c h (.c o2 (.c i .n))) (k (Zar d 1) e f (Zar b 1) r a)
   ·exact Ye 17 [rz,rz,rz,rz] [true,false] (Yi [1,5,8,9,10]) (.c h (.c o2 (.c i .n))) (k d e f (Zar b 1) r a)
  ·apply Ya a 8 [rz,rz] [false] (.c h .n)
def ZiO(a:List Zaa)(b:Bool):Option Int:=Zei b ((((a.length:Nat):Int)-(0:Int)).toNat+2) (0:Int) a ((a.length:Nat):Int) (0:Int)
theorem Zgy(a:List Zaa)(b:Bool)(r:Int)(c:ZiO a b=some r):ZaC Tryz.prog 298 [(Yn a),(Yk b)] ((Yj r)):=by
 refine ZaC.of Tryz.func298 rfl rfl rfl rfl fun S0 w0=>?_;unfold ZiO at c;exact Ye 8 [rz,rz,rz] [] (Yi [1,5,8,9,10]) .n (ZqQ S0 w0 b ((((a.length:Nat):Int)-(0:Int)).toNat+2) (0:Int) a ((a.length:Nat):Int) (0:Int) r c)
def Zjq(e:Zan)(f:Zay)(g h:Int)(i:Bool):Option (Tout Bool):=(Zcr e (ZaK.mk 7 0 f g h (Zae.mk 0 (Zaa.mk (Zah.mk (Zag.mk false 0 0) 0) false 0 (Zax.mk 0 0) 0 0) ([]:(List Zab)) ([]:(List Zac))) i)).bind fun j=>(match j with | .ret a b=>some (Tout.ret (a.fN==(1:Int)) b) | .pan c=>some (Tout.pan c) | .bad d=>some (Tout.bad d))
theorem Zln(g:Zan)(h:Zay)(i j:Int)(k:Bool)(r:(Tout Bool))(a:Zjq g h i j k=some r):Zfs Tryz.prog 468 [(100000,.box (Zan.c g))] [.one (.ptr 100000 0),.agg (Zay.c h),(Yj i),(Yj j),(Yk k)] (oc (fun x=>(Yk x)) r):=by
 refine Zfs.of Tryz.func468 rfl rfl rfl rfl fun S0 w0=>?_;unfold Zjq at a;obtain⟨l,b,a⟩:=Zaf a;cases l with
 |ret e f=>
  dsimp only at a;obtain rfl:=oi a;exact Yd 4 [rz,⟨[],[],[],[],[(5,[(18,cL 5 Zab.c Zab.d []),(19,cL 7 Zac.c Zac.d [])])],[],[(6,⟨[(100000,100000)],[],[(100000,.box (Zan.c f))],.agg (Zae.c e)⟩)]⟩] [] ⟨[],[],[],[],[],[10],[100000],[]⟩ (.c (Zbw _ _ _ b) .n)
 |_=>
  dsimp only at a;obtain rfl:=oi a;exact Yh 3 [rz] [] (⟨[],[],[],[],[(5,[(18,cL 5 Zab.c Zab.d []),(19,cL 7 Zac.c Zac.d [])])],[],[]⟩) 6 ⟨[(100000,100000)],pvOf b⟩ (.c (Zbw _ _ _ b) .n)
def ZgZ(k:Int)(l:Bool):Nat->Zan->Zay->Option (Tout Unit)|0,_,_=>none|fu+1,a,d=>(Zeh a d false).bind fun m=>(match m with | .ret b e=>(Zjq e d b.fN (Zar b.fN k) l).bind fun n=>(match n with | .ret f c=>bif f then some (Tout.ret () c)else ZgZ k l fu c d | .pan g=>some (Tout.pan g) | .bad h=>some (Tout.bad h)) | .pan i=>some (Tout.pan i) | .bad j=>some (Tout.bad j))
theorem Zsi(S0:Nat->Prop)(w0:Zba)(o:Int)(p:Bool):∀(g:Nat)(a:Zan)(e:Zay)(r:(Tout Unit)),ZgZ o p g a e=some r->Good Tryz.prog 24 S0 w0 (bodyPost Tryz.prog Tryz.f140 (Zjn S0 w0 (oc (fun x=>.tup []) r))) (at_ [1,0] (ZaW Tryz.f140)) ⟨[(0,.one (.ifc 112 (.ptr 100000 0))),(2,(Yj o)),(3,(Yk p)),(8,.one (.ptr 8 0))],[(100000,.box [cLn 13 Zae.c Zae.d a.fgot]),(8,.box [.lit (.int .i64 e.fKind),.lit (.int .i64 e.fShard),.lit (.int .i64 e.fSlot)])]⟩:=by
 intro g;induction g with
 |zero=>
  intro a e r b;simp[ZgZ]at b
 |succ g q=>
  intro a e r b;unfold ZgZ at b;obtain⟨s,h,b⟩:=Zaf b;cases s with
  |ret i j=>
   dsimp only at b
   let R1:List RA:=[rH [(2,.id 463)] [(2,⟨[(100000,100000)],[],[(100000,.box (Zan.c j))],.agg (Zae.c i)⟩)]]
   have O2:Obl _:=(.c (ZbU _ _ _ _ h) (.c ZhV .n));obtain⟨t,k,b⟩:=Zaf b;cases t with
   |ret l f=>
    dsimp only at b
    let R3:List RA:=(R1++[rH [(7,.id 468)] [(7,⟨[(100000,100000)],[],[(100000,.box (Zan.c f))],(Yk l)⟩)]])
    have O4:Obl _:=(O2.app (.c (Zln _ _ _ _ _ _ k) (.c ZxV .n)));rcases Zai b with⟨m,b⟩|⟨m,b⟩
    ·obtain rfl:=oi b;exact Yd 7 R3 [true] ⟨[],[],[],[],[],[],[100000],[]⟩ (O4.app (.c m .n))
    ·exact Ye 10 R3 [false] ⟨[],[],[],[],[],[0,2,3,8],[100000,8],[]⟩ (O4.app (.c m .n)) (q f e r b)
   |_=>
    dsimp only at b;obtain rfl:=oi b;exact Yh 5 R1 [] (rA [(7,.id 468)]) 7 ⟨[(100000,100000)],pvOf k⟩ (O2.app (.c (Zln _ _ _ _ _ _ k) (.c ZxV .n)))
  |_=>
   dsimp only at b;obtain rfl:=oi b;exact Yh 3 [] [] (rA [(2,.id 463)]) 2 ⟨[(100000,100000)],pvOf h⟩ (.c (ZbU _ _ _ _ h) (.c ZhV .n))
def Zkx(a:Zan)(b c:Int)(d:Bool):Option (Tout Unit):=ZgZ c d 1000000 a (Zay.mk b 0 0)
theorem ZjQ(a:Zan)(b d:Int)(e:Bool)(r:(Tout Unit))(f:Zkx a b d e=some r):Zfs Tryz.prog 140 [(100000,.box (Zan.c a))] [.one (.ifc 112 (.ptr 100000 0)),(Yj b),(Yj d),(Yk e)] (oc (fun x=>.tup []) r):=by
 refine Zfs.of Tryz.func140 rfl rfl rfl rfl fun S0 w0=>?_;unfold Zkx at f;exact Ye 3 [rz] [] ⟨[],[],[],[],[],[0,2,3,8],[100000,8],[]⟩ .n (Zsi S0 w0 d e 1000000 a (Zay.mk b 0 0) r f)
def Zhb:Nat->(List Zaa)->Int->Int->(List Zah)->Option (List Zah)|0,_,_,_,_=>none|fu+1,b,e,a,c=>bif(decide (a<e))then need (0<=a/\a<((b.length:Nat):Int))<|need ((c++([(b.getD a.toNat Zaa.d).fEnd]:List Zah)).length * 32<=140737488355328/\(c++([(b.getD a.toNat Zaa.d).fEnd]:List Zah)).length<=maxLen)<|Zhb fu b e (Zar a 1) (c++([(b.getD a.toNat Zaa.d).fEnd]:List Zah))else some c
theorem Zsk(S0:Nat->Prop)(w0:Zba):∀(k:Nat)(a:List Zaa)(h b:Int)(g r:List Zah),Zhb k a h b g=some r->Good Tryz.prog 19 S0 w0 (bodyPost Tryz.prog Tryz.f363 (Zbk S0 w0 [(99999,.rows 30 4 r.length (Zam Zah.c Zah.d r))] (.one (.osl 99999 r.length)))) (at_ [1,1,0,1,0] (ZaW Tryz.f363)) ⟨[(3,.one (.osl 3 g.length)),(6,(Yn a)),(7,(Yj h)),(8,(Yj b))],[(3,.rows 30 4 g.length (Zam Zah.c Zah.d g))]⟩:=by
 intro k;induction k with
 |zero=>
  intro a h b g r f;simp[Zhb]at f
 |succ k o=>
  intro a h b g r f;unfold Zhb at f;rcases Zai f with⟨l,f⟩|⟨l,f⟩
  ·obtain⟨o2,f⟩:=Zaq f;obtain⟨m,f⟩:=Zaq f;exact Ye 14 [rz,rz,⟨[(4,.c ((g++([(a.getD b.toNat Zaa.d).fEnd]:List Zah)).length) (Zam Zah.c Zah.d (g++([(a.getD b.toNat Zaa.d).fEnd]:List Zah))))],[],[],[],[],[(3,(([(a.getD b.toNat Zaa.d).fEnd]:List Zah).length,Zam Zah.c Zah.d ([(a.getD b.toNat Zaa.d).fEnd]:List Zah)))],[]⟩,rz] [true] ⟨[],[],[],[],[],[3,6,7,8],[16],[(16,3)]⟩ (.c l (.c o2 (.c (show ([(a.getD b.toNat Zaa.d).fEnd]:List Zah).length=1/\∀i j,i<1->j<4->Zam Zah.c Zah.d ([(a.getD b.toNat Zaa.d).fEnd]:List Zah) i j=(([(a.getD b.toNat Zaa.d).fEnd]:List Zah).flatMap Zah.c).getD (i * 4+j) .junk from⟨rfl,fun i j hi hj=>ZaP (sz:=4) (e:=Zah.c) (d:=Zah.d) (fun _=>rfl) ([(a.getD b.toNat Zaa.d).fEnd]:List Zah) i j hi hj⟩) (.c (Zcm (sz:=4) (e:=Zah.c) (d:=Zah.d) g ([(a.getD b.toNat Zaa.d).fEnd]:List Zah)) (.c m.1 (.c m.2 .n)))))) (o a h (Zar b 1) (g++([(a.getD b.toNat Zaa.d).fEnd]:List Zah)) r f)
  ·apply Yc f 8 [rz,rz] [false] ⟨[],[],[],[],[],[2],[3],[(3,99999)]⟩ (.c l .n)
def ZlX(a:List Zaa):Option (List Zah):=Zhb ((((a.length:Nat):Int)-(0:Int)).toNat+2) a ((a.length:Nat):Int) (0:Int) ([])
theorem ZtW(a:List Zaa)(r:List Zah)(b:ZlX a=some r):Zcu Tryz.prog 363 [] [(Yn a)] [(99999,.rows 30 4 r.length (Zam Zah.c Zah.d r))] (.one (.osl 99999 r.length)):=by
 refine Zcu.of Tryz.func363 rfl rfl rfl rfl fun S0 w0=>?_;unfold ZlX at b;exact Ye 8 [rz,rz,rz] [] ⟨[],[],[],[],[(3,3,30,4,Zam Zah.c Zah.d [])],[3,6,7,8],[3],[]⟩ .n (Zsk S0 w0 ((((a.length:Nat):Int)-(0:Int)).toNat+2) a ((a.length:Nat):Int) (0:Int) ([]) r b)
theorem ZuU(a:List Zaa)(r:List Zah)(b:ZlX a=some r):ZaC Tryz.prog 363 [(Yn a)] ((Yo r)):=(ZtW a r b).pure
def Zcp(a:List Zac):Option (List Zac):=need (0<a.length)<|need ((([]:List Zac)++a).length * 56<=140737488355328/\(([]:List Zac)++a).length<=maxLen)<|some (([]:List Zac)++a)
theorem Zfr(b r:List Zac)(a:Zcp b=some r):Zcu Tryz.prog 277 [] [(Ym b)] [(99999,.rows 106 7 r.length (Zam Zac.c Zac.d r))] (.one (.osl 99999 r.length)):=by
 refine Zcu.of Tryz.func277 rfl rfl rfl rfl fun S0 w0=>?_;unfold Zcp at a;obtain⟨o1,a⟩:=Zaq a;obtain⟨o2,a⟩:=Zaq a;apply Yc a 9 [rz,rz,rA [(0,.c ([]:List Zac).length (Zam Zac.c Zac.d ([]:List Zac))),(2,.c ((([]:List Zac)++b).length) (Zam Zac.c Zac.d (([]:List Zac)++b)))]] [false] ⟨[],[],[],[],[],[2],[7],[(7,99999)]⟩ (.c o1 (.c (show false=false from rfl) (.c (show ([]:List Zac).length=0 from rfl) (.c (show ∀i j,i<0->j<7->Zam Zac.c Zac.d ([]:List Zac) i j=(([]:List Zac).flatMap Zac.c).getD (i * 7+j) .junk from(fun i j hi hj=>ZaP (sz:=7) (e:=Zac.c) (d:=Zac.d) (fun _=>rfl) ([]:List Zac) i j hi hj)) (.c (Zcm (sz:=7) (e:=Zac.c) (d:=Zac.d) ([]:List Zac) b) (.c o2.1 (.c o2.2 .n)))))))
theorem ZfB(x:Addr)(cap:Nat)(c:Nat->Nat->C):Zcu Tryz.prog 277 [] [.one (.lit (.slice (some x) 0 cap))] [(99999,.rows 106 7 0 c)] (.one (.osl 99999 0)):=by
 refine Zcu.of Tryz.func277 rfl rfl rfl rfl fun S0 w0=>?_;exact Zjv Zak 9 _ _ [⟨[],[],[],[],[],[],[]⟩,⟨[(1,.r ((Yk false)) [])],[],[],[],[],[],[]⟩,⟨[(0,.c 0 c),(2,.c 0 c)],[],[],[],[],[],[]⟩] [false] ⟨[],[],[],[],[],[2],[7],[(7,99999)]⟩
  [∀w,(do eqGuard .eql 46 (.tmp 3) (.const (.slice none 0 0)) (.slice (some x) 0 cap) (.slice none 0 0);binOp .eql 46 (.slice (some x) 0 cap) (.slice none 0 0):Sem Value).run Tryz.prog w=.ok (.bool false) w,false=false,0=0,∀i j,i<0->j<7->c i j=([]:List C).getD (i * 7+j) .junk,Ext 7 0 0 c (fun _ _=>.junk) 0 c,0 * 56<=140737488355328,0<=maxLen] (by kernel_rfl) ⟨fun w=>by
   have hg:(eqGuard .eql 46 (.tmp 3) (.const (.slice none 0 0)) (.slice (some x) 0 cap) (.slice none 0 0)).run Tryz.prog w=.ok () w:=by simp[eqGuard]
   rw[Sem.run_bind,hg,Result.andThen_ok];exact Go.run_eql_slice_nil w _ _ (some x) 0 cap Tryz.underlying46,rfl,rfl,fun i j h=>absurd h (Nat.not_lt_zero i),⟨rfl,fun _ _ h=>absurd h (Nat.not_lt_zero _),fun _ _ h=>absurd h (Nat.not_lt_zero _)⟩,by decide,by decide,trivial⟩
theorem ZfA(cap:Nat)(c:Nat->Nat->C):Zcu Tryz.prog 277 [] [.one (.lit (.slice none 0 cap))] [(99999,.rows 106 7 0 c)] (.one (.osl 99999 0)):=by
 refine Zcu.of Tryz.func277 rfl rfl rfl rfl fun S0 w0=>?_;exact Zjv Zak 8 _ _ [⟨[],[],[],[],[],[],[]⟩,⟨[(1,.r ((Yk true)) [])],[],[],[],[],[],[]⟩,⟨[],[],[],[],[],[],[]⟩] [true] ⟨[],[],[],[],[(2,99999,106,7,c)],[2],[99999],[]⟩
  [∀w,(do eqGuard .eql 46 (.tmp 3) (.const (.slice none 0 0)) (.slice none 0 cap) (.slice none 0 0);binOp .eql 46 (.slice none 0 cap) (.slice none 0 0):Sem Value).run Tryz.prog w=.ok (.bool true) w,true=true] (by kernel_rfl) ⟨fun w=>by
   have hg:(eqGuard .eql 46 (.tmp 3) (.const (.slice none 0 0)) (.slice none 0 cap) (.slice none 0 0)).run Tryz.prog w=.ok () w:=by simp[eqGuard]
   rw[Sem.run_bind,hg,Result.andThen_ok];exact Go.run_eql_slice_nil w _ _ none 0 cap Tryz.underlying46,rfl,trivial⟩
def ZbL(a:List Zac):Option (List Zac):=need (a.length * 56<=140737488355328/\a.length<=maxLen)<|some a
theorem Zfz(a r:List Zac)(b:ZbL a=some r):Zcu Tryz.prog 277 [] [(Ym a)] [(99999,.rows 106 7 r.length (Zam Zac.c Zac.d r))] (.one (.osl 99999 r.length)):=by
 obtain⟨o1,b⟩:=Zaq b;cases b;refine Zra ⟨_,Tryz.func277,rfl,rfl⟩ (fun h cap=>?_) (fun h x cap=>?_) (fun h=>?_)
 ·rw[h];exact ZfA cap _
 ·rw[h];exact ZfB x cap _
 ·refine Zfr a a ?_;unfold Zcp;rw[ZpU h,ZpU (by simpa using o1)];simp
def Zbx(b:List Zah):Nat->Int->Int->Zah->Option Int|0,_,_,_=>none|fu+1,c,a,e=>bif(decide (a<c))then need (0<=a/\a<((b.length:Nat):Int))<|bif(decide (e=(b.getD a.toNat Zah.d)))then some a else Zbx b fu c (Zar a 1) e else some (-1:Int)
theorem Zjd(S0:Nat->Prop)(w0:Zba)(g:List Zah):∀(h:Nat)(f e:Int)(b:Zah)(r:Int),Zbx g h f e b=some r->Good Tryz.prog 19 S0 w0 (bodyPost Tryz.prog Tryz.f342 (Post S0 w0 ((Yj r)))) (at_ [1,0,1,0] (ZaW Tryz.f342)) ⟨[(0,(Yo g)),(3,.one (.ptr 3 0)),(7,(Yj f)),(8,(Yj e))],[(3,.box [.lit (.bool b.fAddr.fV6),.lit (.int .u64 b.fAddr.fHi),.lit (.int .u64 b.fAddr.fLo),.lit (.int .i64 b.fPort)])]⟩:=by
 intro h;induction h with
 |zero=>
  intro f e b r a;simp[Zbx]at a
 |succ h k=>
  intro f e b r a;unfold Zbx at a;rcases Zai a with⟨i,a⟩|⟨i,a⟩
  ·obtain⟨o2,a⟩:=Zaq a
   let R1:List RA:=[rz,rz,rA [(5,aB (decide (b=(g.getD e.toNat Zah.d))))],rz]
   have O2:Obl _:=(.c i (.c o2 (.c (Zkg b (g.getD e.toNat Zah.d) (.tmp 11) (.tmp 15)) .n)));rcases Zai a with⟨j,a⟩|⟨j,a⟩
   ·apply Ya a 15 R1 [true,true] (O2.app (.c j .n))
   ·exact Ye 17 R1 [true,false] ⟨[],[],[],[],[],[0,3,7,8],[3],[]⟩ (O2.app (.c j .n)) (k f (Zar e 1) b r a)
  ·apply Ya a 8 [rz,rz] [false] (.c i .n)
def ZdT(a:List Zah)(b:Zah):Option Int:=Zbx a ((((a.length:Nat):Int)-(0:Int)).toNat+2) ((a.length:Nat):Int) (0:Int) b
theorem ZjR(a:List Zah)(b:Zah)(r:Int)(d:ZdT a b=some r):ZaC Tryz.prog 342 [(Yo a),.agg (Zah.c b)] ((Yj r)):=by
 refine ZaC.of Tryz.func342 rfl rfl rfl rfl fun S0 w0=>?_;unfold ZdT at d;exact Ye 6 [rz,rz] [] ⟨[],[],[],[],[],[0,3,7,8],[3],[]⟩ .n (Zjd S0 w0 a ((((a.length:Nat):Int)-(0:Int)).toNat+2) ((a.length:Nat):Int) (0:Int) b r d)
def ZcA(a:List Zah)(b:Zah):Option Bool:=(ZdT a b).bind fun c=>some (decide (c>=(0:Int)))
theorem Zje(b:List Zah)(d:Zah)(r:Bool)(a:ZcA b d=some r):ZaC Tryz.prog 290 [(Yo b),.agg (Zah.c d)] ((Yk r)):=by
 refine ZaC.of Tryz.func290 rfl rfl rfl rfl fun S0 w0=>?_;unfold ZcA at a;obtain⟨e,f,a⟩:=Zaf a;apply Ya a 4 [rz,rA [(2,aI e)]] [] (.c (ZjR _ _ _ f) .n)
def ZmU(a:Zac):Option Zac:=some (Zac.mk a.fEnd 1 a.fFails a.fNext)
theorem ZtY(a r:Zac)(b:ZmU a=some r):ZaC Tryz.prog 268 [.agg (Zac.c a)] (.agg (Zac.c r)):=by
 refine ZaC.of Tryz.func268 rfl rfl rfl rfl fun S0 w0=>?_;unfold ZmU at b;apply Ya b 6 [rz,rz,rz] [] .n
def Zen(e:List Zah):Nat->Int->Int->(List Zac)->Option (List Zac)|0,_,_,_=>none|fu+1,b,a,c=>bif(decide (a<b))then need (0<=a/\a<((c.length:Nat):Int))<|bif((c.getD a.toNat Zac.d).fState==(3:Int))then(ZcA e ((c.getD a.toNat Zac.d).fEnd)).bind fun f=>bif f then(ZmU (c.getD a.toNat Zac.d)).bind fun g=>Zen e fu b (Zar a 1) (c.set a.toNat g)else Zen e fu b (Zar a 1) c else Zen e fu b (Zar a 1) c else some c
theorem Zsn(S0:Nat->Prop)(w0:Zba)(o:List Zah):∀(h:Nat)(f a:Int)(b r:List Zac),Zen o h f a b=some r->Good Tryz.prog 33 S0 w0 (bodyPost Tryz.prog Tryz.f291 (Zbk S0 w0 [(99999,.rows 106 7 r.length (Zam Zac.c Zac.d r))] (.one (.osl 99999 r.length)))) (at_ [1,1,0,1,0] (ZaW Tryz.f291)) ⟨[(1,(Yo o)),(5,.one (.osl 9 b.length)),(10,.one (.osl 9 b.length)),(11,(Yj f)),(12,(Yj a))],[(9,.rows 106 7 b.length (Zam Zac.c Zac.d b))]⟩:=by
 intro h;induction h with
 |zero=>
  intro f a b r e;simp[Zen]at e
 |succ h j=>
  intro f a b r e;unfold Zen at e;rcases Zai e with⟨k,e⟩|⟨k,e⟩
  ·obtain⟨i,e⟩:=Zaq e;have O1:Obl _:=(.c k (.c i (.c (show a.toNat<b.length from(ltOf i)) .n)));rcases Zai e with⟨l,e⟩|⟨l,e⟩
   ·obtain⟨p,q,e⟩:=Zaf e
    let R2:List RA:=[rz,rz,⟨[(7,aB p)],[(3,true)],[],[],[],[],[]⟩]
    have O3:Obl _:=(O1.app (.c l (.c (Zje _ _ _ q) .n)));rcases Zai e with⟨m,e⟩|⟨m,e⟩
    ·obtain⟨g,s,e⟩:=Zaf e;exact Ye 17 (R2++[rA [(3,aG (Zac.c g)),(5,.c (b.set a.toNat g).length (Zam Zac.c Zac.d (b.set a.toNat g)))],rz]) [true,true] ⟨[],[],[],[(9,((b.set a.toNat g).length))],[],[1,5,10,11,12],[9],[]⟩ (O3.app (.c m (.c (ZtY _ _ s) (.c i (.c (show (b.set a.toNat g).length=b.length from List.length_set) (.c (show a.toNat<b.length from(ltOf i)) (.c (show ExtU 7 b.length (Zam Zac.c Zac.d b) a.toNat 0 (Zac.c g) (Zam Zac.c Zac.d (b.set a.toNat g))from(ZiG _ _ _ rfl)) (.c (show (b.set a.toNat g).length=(b.set a.toNat g).length from rfl) .n)))))))) (j f (Zar a 1) (b.set a.toNat g) r e)
    ·exact Ye 17 (R2++[rz]) [true,false] ⟨[],[],[],[],[],[1,5,10,11,12],[9],[]⟩ (O3.app (.c m .n)) (j f (Zar a 1) b r e)
   ·exact Ye 17 [rz,rz,rB [(3,false)],rz] [true,false] ⟨[],[],[],[],[],[1,5,10,11,12],[9],[]⟩ (O1.app (.c l (.c (show false=false from rfl) .n))) (j f (Zar a 1) b r e)
  ·apply Yc e 8 [rz,rz] [false] ⟨[],[],[],[],[],[4],[9],[(9,99999)]⟩ (.c k .n)
def ZkC(b:List Zac)(c:List Zah):Option (List Zac):=(ZbL b).bind fun a=>Zen c ((((a.length:Nat):Int)-(0:Int)).toNat+2) ((a.length:Nat):Int) (0:Int) a
theorem Zud(f:List Zac)(e:List Zah)(r:List Zac)(b:ZkC f e=some r):Zcu Tryz.prog 291 [] [(Ym f),(Yo e)] [(99999,.rows 106 7 r.length (Zam Zac.c Zac.d r))] (.one (.osl 99999 r.length)):=by
 refine Zcu.of Tryz.func291 rfl rfl rfl rfl fun S0 w0=>?_;unfold ZkC at b;obtain⟨a,g,b⟩:=Zaf b;exact Ye 8 [rz,rH [] [(1,⟨[],[(99999,9)],[(99999,.rows 106 7 a.length (Zam Zac.c Zac.d a))],.one (.osl 99999 a.length)⟩)],rz] [] ⟨[],[],[],[],[],[1,5,10,11,12],[9],[]⟩ (.c (Zfz _ _ g) .n) (Zsn S0 w0 e ((((a.length:Nat):Int)-(0:Int)).toNat+2) ((a.length:Nat):Int) (0:Int) a r b)
theorem ZuW(a:List Zac)(b:List Zah)(r:List Zac)(c:ZkC a b=some r):ZaC Tryz.prog 291 [(Ym a),(Yo b)] ((Ym r)):=(Zud a b r c).pure
def Zih(l:List Zaa)(a:Zan):Option (Tout Unit):=(ZiO l false).bind fun m=>bif(m==(0:Int))then some (Tout.ret () a)else(Zeh a (Zay.mk 4 0 0) false).bind fun n=>(match n with | .ret b c=>(ZlX l).bind fun o=>(ZkC b.fBook o).bind fun p=>(ZdM c (Zay.mk 4 0 0) (Zae.mk 0 (Zaa.mk (Zah.mk (Zag.mk false 0 0) 0) false 0 (Zax.mk 0 0) 0 0) ([]:(List Zab)) p) false).bind fun q=>(match q with | .ret r d=>(Zkx d (2:Int) (IntKind.wrap .i64 (0-m)) false).bind fun s=>(match s with | .ret t e=>some (Tout.ret () e) | .pan f=>some (Tout.pan f) | .bad g=>some (Tout.bad g)) | .pan h=>some (Tout.pan h) | .bad i=>some (Tout.bad i)) | .pan j=>some (Tout.pan j) | .bad k=>some (Tout.bad k))
theorem ZnC(S0:Nat->Prop)(w0:Zba)(p:List Zaa)(b:Zan)(r:(Tout Unit))(a:Zih p b=some r):Good Tryz.prog 38 S0 w0 (bodyPost Tryz.prog Tryz.f320 (Zjn S0 w0 (oc (fun x=>.tup []) r))) (at_ [1] (ZaW Tryz.f320)) ⟨[(0,.one (.ifc 112 (.ptr 100000 0))),(1,(Yn p))],[(100000,.box [cLn 13 Zae.c Zae.d b.fgot])]⟩:=by
 unfold Zih at a;obtain⟨g,h,a⟩:=Zaf a;rcases Zai a with⟨f,a⟩|⟨f,a⟩
 ·obtain rfl:=oi a;exact Yd 6 [rA [(1,aI g)],rz] [true] ⟨[],[],[],[],[],[],[100000],[]⟩ (.c (Zgy _ _ _ h) (.c f .n))
 ·obtain⟨t,i,a⟩:=Zaf a;cases t with
  |ret j k=>
   dsimp only at a;obtain⟨q,u,a⟩:=Zaf a;obtain⟨s,v,a⟩:=Zaf a
   let R1:List RA:=[rA [(1,aI g)],rz,rH [(2,.id 463)] [(2,⟨[(100000,100000)],[],[(100000,.box (Zan.c k))],.agg (Zae.c j)⟩)]]
   have O2:Obl _:=(.c (Zgy _ _ _ h) (.c f (.c (ZbU _ _ _ _ i) (.c ZhV (.c (ZuU _ _ u) (.c (ZuW _ _ _ v) (.c Zku .n)))))));obtain⟨w,l,a⟩:=Zaf a;cases w with
   |ret y m=>
    dsimp only at a
    let R3:List RA:=(R1++[⟨[(4,.r ((Yo q)) []),(5,.r ((Ym s)) []),(10,.id 467)],[],[],[],[(6,[(11,cL 5 Zab.c Zab.d [])])],[],[(10,⟨[(100000,100000)],[],[(100000,.box (Zan.c m))],.tup []⟩)]⟩])
    have O4:Obl _:=(O2.app (.c (ZbM _ _ _ _ _ l) (.c Zgx .n)));obtain⟨z,e,a⟩:=Zaf a;cases z with
    |ret A o=>
     dsimp only at a;obtain rfl:=oi a;exact Yd 12 (R3++[rH [] [(3,⟨[(100000,100000)],[],[(100000,.box (Zan.c o))],.tup []⟩)]]) [false] ⟨[],[],[],[],[],[],[100000],[]⟩ (O4.app (.c (ZjQ _ _ _ _ _ e) .n))
    |_=>
     dsimp only at a;obtain rfl:=oi a;exact Yh 11 R3 [false] (rz) 3 ⟨[(100000,100000)],pvOf e⟩ (O4.app (.c (ZjQ _ _ _ _ _ e) .n))
   |_=>
    dsimp only at a;obtain rfl:=oi a;exact Yh 10 R1 [false] (⟨[(4,.r ((Yo q)) []),(5,.r ((Ym s)) []),(10,.id 467)],[],[],[],[(6,[(11,cL 5 Zab.c Zab.d [])])],[],[]⟩) 10 ⟨[(100000,100000)],pvOf l⟩ (O2.app (.c (ZbM _ _ _ _ _ l) (.c Zgx .n)))
  |_=>
   dsimp only at a;obtain rfl:=oi a;exact Yh 8 [rA [(1,aI g)],rz] [false] (rA [(2,.id 463)]) 2 ⟨[(100000,100000)],pvOf i⟩ (.c (Zgy _ _ _ h) (.c f (.c (ZbU _ _ _ _ i) (.c ZhV .n))))
def ZlY(e:Zan)(a:List Zaa):Option (Tout Unit):=(ZiO a true).bind fun f=>bif(decide (f>(0:Int)))then(Zkx e (1:Int) (IntKind.wrap .i64 (0-f)) false).bind fun g=>(match g with | .ret h b=>Zih a b | .pan c=>some (Tout.pan c) | .bad d=>some (Tout.bad d))else Zih a e
theorem Zpz(f:Zan)(d:List Zaa)(r:(Tout Unit))(a:ZlY f d=some r):Zfs Tryz.prog 320 [(100000,.box (Zan.c f))] [.one (.ifc 112 (.ptr 100000 0)),(Yn d)] (oc (fun x=>.tup []) r):=by
 refine Zfs.of Tryz.func320 rfl rfl rfl rfl fun S0 w0=>?_;unfold ZlY at a;obtain⟨g,h,a⟩:=Zaf a;rcases Zai a with⟨e,a⟩|⟨e,a⟩
 ·obtain⟨j,i,a⟩:=Zaf a;cases j with
  |ret k b=>
   dsimp only at a;exact Ye 7 [rA [(1,aI g)],rz,rH [] [(3,⟨[(100000,100000)],[],[(100000,.box (Zan.c b))],.tup []⟩)]] [true] ⟨[],[],[],[],[],[0,1],[100000],[]⟩ (.c (Zgy _ _ _ h) (.c e (.c (ZjQ _ _ _ _ _ i) .n))) (ZnC S0 w0 d b r a)
  |_=>
   dsimp only at a;obtain rfl:=oi a;exact Yh 6 [rA [(1,aI g)],rz] [true] (rz) 3 ⟨[(100000,100000)],pvOf i⟩ (.c (Zgy _ _ _ h) (.c e (.c (ZjQ _ _ _ _ _ i) .n)))
 ·exact Ye 7 [rA [(1,aI g)],rz] [false] ⟨[],[],[],[],[],[0,1],[100000],[]⟩ (.c (Zgy _ _ _ h) (.c e .n)) (ZnC S0 w0 d f r a)
def Zdb:Nat->(List (List Zaa))->Int->Int->(List Zaa)->Zan->Zbg->Zap->Option (Tout Zap)|0,_,_,_,_,_,_,_=>none|fu+1,c,d,b,e,a,g,n=>bif(decide (b<d))then need (0<=b/\b<((c.length:Nat):Int))<|(Zlv (c.getD b.toNat ([]:(List Zaa))) g.fx.fNet).bind fun f=>bif(decide (((f.1.length:Nat):Int)>(0:Int)))then(ZkQ a b (c.getD b.toNat ([]:(List Zaa))) f.2).bind fun o=>(match o with | .ret p h=>need ((e++f.1).length * 80<=140737488355328/\(e++f.1).length<=maxLen)<|Zdb fu c d (Zar b 1) (e++f.1) h g n | .pan i=>some (Tout.pan i) | .bad j=>some (Tout.bad j))else Zdb fu c d (Zar b 1) e a g n else(ZlY a e).bind fun q=>(match q with | .ret r k=>some (Tout.ret (Zap.mk 0 (Zah.mk (Zag.mk false 0 0) 0) ((e.length:Nat):Int) 0 ([]:(List Zaa))) k) | .pan l=>some (Tout.pan l) | .bad m=>some (Tout.bad m))
theorem ZoR(S0:Nat->Prop)(w0:Zba):∀(t:Nat)(g:(List (List Zaa)))(h i:Int)(k:List Zaa)(a:Zan)(b:Zbg)(j:Zap)(r:(Tout Zap)),Zdb t g h i k a b j=some r->Good Tryz.prog 77 S0 w0 (bodyPost Tryz.prog Tryz.f249 (Zjn S0 w0 (oc (fun x=>.agg (Zap.c x)) r))) (at_ [1,1,1,1,1,1,0,1,0] (ZaW Tryz.f249)) ⟨[(1,.one (.ifc 112 (.ptr 100000 0))),(2,.one (.ptr 2 0)),(4,.one (.ptr 4 0)),(8,.one (.osl 8 k.length)),(44,.one (cL 1 (cLs 10 Zaa.c Zaa.d) ([]:(List Zaa)) g)),(45,(Yj h)),(46,(Yj i))],[(8,.rows 44 10 k.length (Zam Zaa.c Zaa.d k)),(100000,.box [cLn 13 Zae.c Zae.d a.fgot]),(2,.box [.lit (.int .i64 b.fc.fMaxIn),.lit (.int .i64 b.fc.fMaxOut),.lit (.int .i64 b.fc.fShards),.lit (.int .i64 b.fc.fMaxBans),.lit (.int .i64 b.fc.fMaxBook),.lit (.int .u64 b.fc.fSecret),.lit (.int .i64 b.fc.fQuota.fGroup),.lit (.int .i64 b.fc.fQuota.fPing),.lit (.int .i64 b.fc.fQuota.fWork),.lit (.int .i64 b.fc.fQuota.fTime),.lit (.int .i64 b.fc.fHalf),.lit (.int .i64 b.fc.fLimit),.lit (.int .i64 b.fc.fBanFor),.lit (.int .i64 b.fc.fBase),.lit (.int .i64 b.fc.fCap),.lit (.int .i64 b.fc.fJitter),.lit (.int .i64 b.fx.fKind),.lit (.bool b.fx.fEnd.fAddr.fV6),.lit (.int .u64 b.fx.fEnd.fAddr.fHi),.lit (.int .u64 b.fx.fEnd.fAddr.fLo),.lit (.int .i64 b.fx.fEnd.fPort),.lit (.bool b.fx.fNet.fAddr.fV6),.lit (.int .u64 b.fx.fNet.fAddr.fHi),.lit (.int .u64 b.fx.fNet.fAddr.fLo),.lit (.int .i64 b.fx.fNet.fBits),.lit (.int .i64 b.fx.fNow),.lit (.int .i64 b.fx.fNum),.lit (.bool b.fx.fGood)]),(4,.box [.lit (.int .i64 j.fCode),.lit (.bool j.fEnd.fAddr.fV6),.lit (.int .u64 j.fEnd.fAddr.fHi),.lit (.int .u64 j.fEnd.fAddr.fLo),.lit (.int .i64 j.fEnd.fPort),.lit (.int .i64 j.fN),.lit (.int .i64 j.fUntil),cL 10 Zaa.c Zaa.d j.fPeers])]⟩:=by
 intro t;induction t with
 |zero=>
  intro g h i k a b j r f;simp[Zdb]at f
 |succ t y=>
  intro g h i k a b j r f;unfold Zdb at f;rcases Zai f with⟨u,f⟩|⟨u,f⟩
  ·obtain⟨z,f⟩:=Zaq f;obtain⟨p,v,f⟩:=Zaf f
   let R1:List RA:=[rz,rz,rA [(4,.r (.tup [(false,(cLs 10 Zaa.c Zaa.d) p.1),(false,(cLs 10 Zaa.c Zaa.d) p.2)]) [])],rz]
   have O2:Obl _:=(.c u (.c z (.c (ZsJ _ _ _ v) .n)));rcases Zai f with⟨l,f⟩|⟨l,f⟩
   ·obtain⟨A,m,f⟩:=Zaf f;cases A with
    |ret B q=>
     dsimp only at f;obtain⟨s,f⟩:=Zaq f;exact Ye 21 (R1++[rH [] [(4,⟨[(100000,100000)],[],[(100000,.box (Zan.c q))],.tup []⟩)],rA [(2,.c ((k++p.1).length) (Zam Zaa.c Zaa.d (k++p.1)))],rz]) [true,true] ⟨[],[],[],[],[],[1,2,4,8,44,45,46],[69,100000,2,4],[(69,8)]⟩ (O2.app (.c l (.c (ZoM _ _ _ _ _ m) (.c (Zcm (sz:=10) (e:=Zaa.c) (d:=Zaa.d) k p.1) (.c s.1 (.c s.2 .n)))))) (y g h (Zar i 1) (k++p.1) q b j r f)
    |_=>
     dsimp only at f;obtain rfl:=oi f;exact Yh 16 R1 [true,true] (rz) 4 ⟨[(100000,100000)],pvOf m⟩ (O2.app (.c l (.c (ZoM _ _ _ _ _ m) .n)))
   ·exact Ye 19 (R1++[rz]) [true,false] ⟨[],[],[],[],[],[1,2,4,8,44,45,46],[8,100000,2,4],[]⟩ (O2.app (.c l .n)) (y g h (Zar i 1) k a b j r f)
  ·obtain⟨C,o,f⟩:=Zaf f;cases C with
   |ret D w=>
    dsimp only at f;obtain rfl:=oi f;exact Yd 10 [rz,⟨[],[],[(2,[8])],[],[],[],[(2,⟨[(100000,100000)],[],[(100000,.box (Zan.c w))],.tup []⟩)]⟩,rz] [false] ⟨[],[(4,[(7,cL 10 Zaa.c Zaa.d [])])],[],[],[],[4],[4,100000],[]⟩ (.c u (.c (Zpz _ _ _ o) .n))
   |_=>
    dsimp only at f;obtain rfl:=oi f;exact Yh 7 [rz] [false] (⟨[],[],[(2,[8])],[],[],[],[]⟩) 2 ⟨[(100000,100000)],pvOf o⟩ (.c u (.c (Zpz _ _ _ o) .n))
def Zib(b:Zbg)(n:Zan):Option (Tout Zap):=(ZhK n).bind fun o=>(match o with | .ret d c=>(ZnQ d (Zab.mk b.fx.fNet b.fx.fNum) b.fc.fMaxBans).bind fun e=>bif(e.2 != (0:Int))then(Zha e.2).bind fun p=>some (Tout.ret p c)else(Zga b c).bind fun q=>(match q with | .ret a f=>(Zjg).bind fun r=>(ZdM f r (Zae.mk 0 (Zaa.mk (Zah.mk (Zag.mk false 0 0) 0) false 0 (Zax.mk 0 0) 0 0) e.1 ([]:(List Zac))) false).bind fun s=>(match s with | .ret t g=>Zdb ((((a.length:Nat):Int)-(0:Int)).toNat+2) a ((a.length:Nat):Int) (0:Int) ([]) g b (Zap.mk 0 (Zah.mk (Zag.mk false 0 0) 0) 0 0 ([]:(List Zaa))) | .pan h=>some (Tout.pan h) | .bad i=>some (Tout.bad i)) | .pan j=>some (Tout.pan j) | .bad k=>some (Tout.bad k)) | .pan l=>some (Tout.pan l) | .bad m=>some (Tout.bad m))
theorem Zlq(g:Zbg)(o:Zan)(r:(Tout Zap))(a:Zib g o=some r):Zfs Tryz.prog 249 [(100000,.box (Zan.c o))] [.agg (Zbg.c g),.one (.ifc 112 (.ptr 100000 0))] (oc (fun x=>.agg (Zap.c x)) r):=by
 refine Zfs.of Tryz.func249 rfl rfl rfl rfl fun S0 w0=>?_;unfold Zib at a;obtain⟨s,h,a⟩:=Zaf a;cases s with
 |ret i j=>
  dsimp only at a;obtain⟨p,t,a⟩:=Zaf a
  let R3:List RA:=[rz,rH [(12,.r (.tup [(false,(cLs 5 Zab.c Zab.d) p.1),(false,(cI .i64) p.2)]) [])] [(1,⟨[(100000,100000)],[],[(100000,.box (Zan.c j))],(Yl i)⟩)],rz]
  have O4:Obl _:=(.c (Zeb _ _ h) (.c (ZwL _ _ _ _ t) .n));rcases Zai a with⟨f,a⟩|⟨f,a⟩
  ·obtain⟨u,v,a⟩:=Zaf a;obtain rfl:=oi a;exact Yd 10 (R3++[rA [(1,aG (Zap.c u))]]) [true] ⟨[],[],[],[],[],[4],[4,100000],[]⟩ (O4.app (.c f (.c (Zhv _ _ v) .n)))
  ·obtain⟨w,k,a⟩:=Zaf a;cases w with
   |ret b l=>
    dsimp only at a;obtain⟨q,y,a⟩:=Zaf a
    let R5:List RA:=(R3++[rH [] [(2,⟨[(100000,100000)],[],[(100000,.box (Zan.c l))],.one (cL 1 (cLs 10 Zaa.c Zaa.d) ([]:(List Zaa)) b)⟩)]])
    have O6:Obl _:=(O4.app (.c f (.c (ZgL _ _ _ k) (.c (ZkT _ y) (.c Zku .n)))));obtain⟨z,m,a⟩:=Zaf a;cases z with
    |ret A e=>
     dsimp only at a;exact Ye 19 (R5++[⟨[(1,aG (Zay.c q)),(7,.id 467)],[],[],[],[(3,[(12,cL 7 Zac.c Zac.d [])])],[],[(7,⟨[(100000,100000)],[],[(100000,.box (Zan.c e))],.tup []⟩)]⟩,rz,rz]) [false] ⟨[],[(4,[(7,cL 10 Zaa.c Zaa.d [])])],[],[],[(8,8,44,10,Zam Zaa.c Zaa.d [])],[1,2,4,8,44,45,46],[8,100000,2,4],[]⟩ (O6.app (.c (ZbM _ _ _ _ _ m) (.c Zgx .n))) (ZoR S0 w0 ((((b.length:Nat):Int)-(0:Int)).toNat+2) b ((b.length:Nat):Int) (0:Int) ([]) e g (Zap.mk 0 (Zah.mk (Zag.mk false 0 0) 0) 0 0 ([]:(List Zaa))) r a)
    |_=>
     dsimp only at a;obtain rfl:=oi a;exact Yh 12 R5 [false] (⟨[(1,aG (Zay.c q)),(7,.id 467)],[],[],[],[(3,[(12,cL 7 Zac.c Zac.d [])])],[],[]⟩) 7 ⟨[(100000,100000)],pvOf m⟩ (O6.app (.c (ZbM _ _ _ _ _ m) (.c Zgx .n)))
   |_=>
    dsimp only at a;obtain rfl:=oi a;exact Yh 10 R3 [false] (rz) 2 ⟨[(100000,100000)],pvOf k⟩ (O4.app (.c f (.c (ZgL _ _ _ k) .n)))
 |_=>
  dsimp only at a;obtain rfl:=oi a;exact Yh 3 [rz] [] (rz) 1 ⟨[(100000,100000)],pvOf h⟩ (.c (Zeb _ _ h) .n)
def Zcy(d:Zan)(e:Int)(f:Bool):Option (Tout Unit):=(Zcr d (ZaK.mk 3 e (Zay.mk 0 0 0) 0 0 (Zae.mk 0 (Zaa.mk (Zah.mk (Zag.mk false 0 0) 0) false 0 (Zax.mk 0 0) 0 0) ([]:(List Zab)) ([]:(List Zac))) f)).bind fun g=>(match g with | .ret h a=>some (Tout.ret () a) | .pan b=>some (Tout.pan b) | .bad c=>some (Tout.bad c))
theorem Zbh(g:Zan)(h:Int)(i:Bool)(r:(Tout Unit))(a:Zcy g h i=some r):Zfs Tryz.prog 462 [(100000,.box (Zan.c g))] [.one (.ptr 100000 0),(Yj h),(Yk i)] (oc (fun x=>.tup []) r):=by
 refine Zfs.of Tryz.func462 rfl rfl rfl rfl fun S0 w0=>?_;unfold Zcy at a;obtain⟨j,b,a⟩:=Zaf a;cases j with
 |ret e f=>
  dsimp only at a;obtain rfl:=oi a;exact Yd 1 [⟨[],[],[],[],[(3,[(18,cL 5 Zab.c Zab.d []),(19,cL 7 Zac.c Zac.d [])])],[],[(4,⟨[(100000,100000)],[],[(100000,.box (Zan.c f))],.agg (Zae.c e)⟩)]⟩] [] ⟨[],[],[],[],[],[],[100000],[]⟩ (.c (Zbw _ _ _ b) .n)
 |_=>
  dsimp only at a;obtain rfl:=oi a;exact Yh 0 [] [] (⟨[],[],[],[],[(3,[(18,cL 5 Zab.c Zab.d []),(19,cL 7 Zac.c Zac.d [])])],[],[]⟩) 4 ⟨[(100000,100000)],pvOf b⟩ (.c (Zbw _ _ _ b) .n)
def Zdh(c:Int)(d:Bool):Nat->Int->Zan->Option (Tout Unit)|0,_,_=>none|fu+1,b,a=>bif(decide (b>=(0:Int)))then bif d then(Ziu c).bind fun k=>(Zcy a (Zar (2:Int) b) (b==(ZaV k (1:Int)))).bind fun l=>(match l with | .ret m e=>Zdh c d fu (ZaV b (1:Int)) e | .pan f=>some (Tout.pan f) | .bad g=>some (Tout.bad g))else(Zcy a (Zar (2:Int) b) false).bind fun n=>(match n with | .ret o h=>Zdh c d fu (ZaV b (1:Int)) h | .pan i=>some (Tout.pan i) | .bad j=>some (Tout.bad j))else some (Tout.ret () a)
theorem Zqg(S0:Nat->Prop)(w0:Zba)(m:Int)(o:Bool):∀(i:Nat)(e:Int)(a:Zan)(r:(Tout Unit)),Zdh m o i e a=some r->Good Tryz.prog 29 S0 w0 (bodyPost Tryz.prog Tryz.f199 (Zjn S0 w0 (oc (fun x=>.tup []) r))) (at_ [1,0] (ZaW Tryz.f199)) ⟨[(0,.one (.ifc 112 (.ptr 100000 0))),(1,(Yj m)),(2,(Yk o)),(6,(Yj e))],[(100000,.box [cLn 13 Zae.c Zae.d a.fgot])]⟩:=by
 intro i;induction i with
 |zero=>
  intro e a r b;simp[Zdh]at b
 |succ i p=>
  intro e a r b;unfold Zdh at b;rcases Zai b with⟨f,b⟩|⟨f,b⟩
  ·rcases Zai b with⟨j,b⟩|⟨j,b⟩
   ·obtain⟨q,s,b⟩:=Zaf b;have O1:Obl _:=(.c f (.c j (.c (ZlU _ _ s) (.c Zsc .n))));obtain⟨t,k,b⟩:=Zaf b;cases t with
    |ret u g=>
     dsimp only at b;exact Ye 12 [rz,⟨[(7,aI q),(14,.id 462)],[(4,true)],[],[],[],[],[(14,⟨[(100000,100000)],[],[(100000,.box (Zan.c g))],.tup []⟩)]⟩,rz] [true] ⟨[],[],[],[],[],[0,1,2,6],[100000],[]⟩ (O1.app (.c (Zbh _ _ _ _ k) (.c ZeM .n))) (p (ZaV e (1:Int)) g r b)
    |_=>
     dsimp only at b;obtain rfl:=oi b;exact Yh 8 [rz] [true] (⟨[(7,aI q),(14,.id 462)],[(4,true)],[],[],[],[],[]⟩) 14 ⟨[(100000,100000)],pvOf k⟩ (O1.app (.c (Zbh _ _ _ _ k) (.c ZeM .n)))
   ·obtain⟨v,l,b⟩:=Zaf b;cases v with
    |ret w h=>
     dsimp only at b;exact Ye 12 [rz,⟨[(14,.id 462)],[(4,false)],[],[],[],[],[(14,⟨[(100000,100000)],[],[(100000,.box (Zan.c h))],.tup []⟩)]⟩,rz] [true] ⟨[],[],[],[],[],[0,1,2,6],[100000],[]⟩ (.c f (.c j (.c Zsc (.c (Zbh _ _ _ _ l) (.c ZeM .n))))) (p (ZaV e (1:Int)) h r b)
    |_=>
     dsimp only at b;obtain rfl:=oi b;exact Yh 8 [rz] [true] (⟨[(14,.id 462)],[(4,false)],[],[],[],[],[]⟩) 14 ⟨[(100000,100000)],pvOf l⟩ (.c f (.c j (.c Zsc (.c (Zbh _ _ _ _ l) (.c ZeM .n)))))
  ·obtain rfl:=oi b;exact Yd 6 [rz] [false] ⟨[],[],[],[],[],[],[100000],[]⟩ (.c f .n)
def Zig(c:Zan)(a:Int)(d:Bool):Option (Tout Unit):=(Ziu a).bind fun b=>Zdh a d (((ZaV b (1:Int))-(0:Int)).toNat+2) (ZaV b (1:Int)) c
theorem ZgH(b:Zan)(d:Int)(e:Bool)(r:(Tout Unit))(a:Zig b d e=some r):Zfs Tryz.prog 199 [(100000,.box (Zan.c b))] [.one (.ifc 112 (.ptr 100000 0)),(Yj d),(Yk e)] (oc (fun x=>.tup []) r):=by
 refine Zfs.of Tryz.func199 rfl rfl rfl rfl fun S0 w0=>?_;unfold Zig at a;obtain⟨f,g,a⟩:=Zaf a;exact Ye 3 [rA [(1,aI f)]] [] ⟨[],[],[],[],[],[0,1,2,6],[100000],[]⟩ (.c (ZlU _ _ g) .n) (Zqg S0 w0 d e (((ZaV f (1:Int))-(0:Int)).toNat+2) (ZaV f (1:Int)) b r a)
def Zix(a:Zbg)(A:Zan):Option (Tout Zap):=bif(decide (a.fx.fNum<=a.fx.fNow))then(ZhW A true).bind fun B=>(match B with | .ret C b=>(Zha (3:Int)).bind fun D=>some (Tout.ret D b) | .pan c=>some (Tout.pan c) | .bad d=>some (Tout.bad d))else(Zeg A (0:Int) false).bind fun E=>(match E with | .ret F e=>(Zeg e (1:Int) false).bind fun G=>(match G with | .ret H f=>(Zif f a.fc.fShards).bind fun I=>(match I with | .ret J g=>(Zib a g).bind fun K=>(match K with | .ret h i=>(Zig i a.fc.fShards true).bind fun L=>(match L with | .ret M j=>(Zcy j (1:Int) false).bind fun N=>(match N with | .ret O k=>(Zcy k (0:Int) false).bind fun P=>(match P with | .ret Q l=>some (Tout.ret h l) | .pan m=>some (Tout.pan m) | .bad n=>some (Tout.bad n)) | .pan o=>some (Tout.pan o) | .bad p=>some (Tout.bad p)) | .pan q=>some (Tout.pan q) | .bad r=>some (Tout.bad r)) | .pan s=>some (Tout.pan s) | .bad t=>some (Tout.bad t)) | .pan u=>some (Tout.pan u) | .bad v=>some (Tout.bad v)) | .pan w=>some (Tout.pan w) | .bad x=>some (Tout.bad x)) | .pan y=>some (Tout.pan y) | .bad z=>some (Tout.bad z))
theorem ZlW(w:Zbg)(y:Zan)(r:(Tout Zap))(a:Zix w y=some r):Zfs Tryz.prog 188 [(100000,.box (Zan.c y))] [.agg (Zbg.c w),.one (.ifc 112 (.ptr 100000 0))] (oc (fun x=>.agg (Zap.c x)) r):=by
 refine Zfs.of Tryz.func188 rfl rfl rfl rfl fun S0 w0=>?_;unfold Zix at a;rcases Zai a with⟨d,a⟩|⟨d,a⟩
 ·obtain⟨z,g,a⟩:=Zaf a;cases z with
  |ret A h=>
   dsimp only at a;obtain⟨B,C,a⟩:=Zaf a;obtain rfl:=oi a;exact Yd 10 [rz,rz,rH [(1,.id 465)] [(1,⟨[(100000,100000)],[],[(100000,.box (Zan.c h))],.tup []⟩)],rA [(0,aG (Zap.c B))]] [true] ⟨[],[],[],[],[],[4],[4,100000],[]⟩ (.c d (.c (Zhh _ _ _ g) (.c Zrm (.c (Zhv _ _ C) .n))))
  |_=>
   dsimp only at a;obtain rfl:=oi a;exact Yh 7 [rz,rz] [true] (rA [(1,.id 465)]) 1 ⟨[(100000,100000)],pvOf g⟩ (.c d (.c (Zhh _ _ _ g) (.c Zrm .n)))
 ·obtain⟨D,i,a⟩:=Zaf a;cases D with
  |ret E j=>
   dsimp only at a
   let R1:List RA:=[rz,rz,rH [(1,.id 464)] [(1,⟨[(100000,100000)],[],[(100000,.box (Zan.c j))],.tup []⟩)]]
   have O2:Obl _:=(.c d (.c (ZbT _ _ _ _ i) (.c ZhU .n)));obtain⟨F,k,a⟩:=Zaf a;cases F with
   |ret G l=>
    dsimp only at a
    let R3:List RA:=(R1++[rH [(1,.id 464)] [(1,⟨[(100000,100000)],[],[(100000,.box (Zan.c l))],.tup []⟩)]])
    have O4:Obl _:=(O2.app (.c (ZbT _ _ _ _ k) (.c ZhU .n)));obtain⟨H,e,a⟩:=Zaf a;cases H with
    |ret I m=>
     dsimp only at a
     let R5:List RA:=(R3++[rH [] [(4,⟨[(100000,100000)],[],[(100000,.box (Zan.c m))],.tup []⟩)]])
     obtain⟨J,o,a⟩:=Zaf a;cases J with
     |ret p q=>
      dsimp only at a
      let R6:List RA:=(R5++[rH [] [(2,⟨[(100000,100000)],[],[(100000,.box (Zan.c q))],.agg (Zap.c p)⟩)]])
      have O7:Obl _:=(O4.app (.c (Zfu _ _ _ e) (.c (Zlq _ _ _ o) .n)));obtain⟨K,f,a⟩:=Zaf a;cases K with
      |ret L s=>
       dsimp only at a
       let R8:List RA:=(R6++[rH [] [(4,⟨[(100000,100000)],[],[(100000,.box (Zan.c s))],.tup []⟩)]])
       obtain⟨M,t,a⟩:=Zaf a;cases M with
       |ret N u=>
        dsimp only at a
        let R9:List RA:=(R8++[rH [(1,.id 462)] [(1,⟨[(100000,100000)],[],[(100000,.box (Zan.c u))],.tup []⟩)]])
        have gU:Obl _:=(O7.app (.c (ZgH _ _ _ _ f) (.c (Zbh _ _ _ _ t) (.c ZeM .n))));obtain⟨O,b,a⟩:=Zaf a;cases O with
        |ret P v=>
         dsimp only at a;obtain rfl:=oi a;exact Yd 23 (R9++[rH [(1,.id 462)] [(1,⟨[(100000,100000)],[],[(100000,.box (Zan.c v))],.tup []⟩)],rz]) [false] ⟨[],[],[],[],[],[4],[4,100000],[]⟩ (gU.app (.c (Zbh _ _ _ _ b) (.c ZeM .n)))
        |_=>
         dsimp only at a;obtain rfl:=oi a;exact Yh 20 R9 [false] (rA [(1,.id 462)]) 1 ⟨[(100000,100000)],pvOf b⟩ (gU.app (.c (Zbh _ _ _ _ b) (.c ZeM .n)))
       |_=>
        dsimp only at a;obtain rfl:=oi a;exact Yh 18 R8 [false] (rA [(1,.id 462)]) 1 ⟨[(100000,100000)],pvOf t⟩ (O7.app (.c (ZgH _ _ _ _ f) (.c (Zbh _ _ _ _ t) (.c ZeM .n))))
      |_=>
       dsimp only at a;obtain rfl:=oi a;exact Yh 16 R6 [false] (rz) 4 ⟨[(100000,100000)],pvOf f⟩ (O7.app (.c (ZgH _ _ _ _ f) .n))
     |_=>
      dsimp only at a;obtain rfl:=oi a;exact Yh 14 R5 [false] (rz) 2 ⟨[(100000,100000)],pvOf o⟩ (O4.app (.c (Zfu _ _ _ e) (.c (Zlq _ _ _ o) .n)))
    |_=>
     dsimp only at a;obtain rfl:=oi a;exact Yh 12 R3 [false] (rz) 4 ⟨[(100000,100000)],pvOf e⟩ (O4.app (.c (Zfu _ _ _ e) .n))
   |_=>
    dsimp only at a;obtain rfl:=oi a;exact Yh 10 R1 [false] (rA [(1,.id 464)]) 1 ⟨[(100000,100000)],pvOf k⟩ (O2.app (.c (ZbT _ _ _ _ k) (.c ZhU .n)))
  |_=>
   dsimp only at a;obtain rfl:=oi a;exact Yh 8 [rz,rz] [false] (rA [(1,.id 464)]) 1 ⟨[(100000,100000)],pvOf i⟩ (.c d (.c (ZbT _ _ _ _ i) (.c ZhU .n)))
def ZcO(a:List Zab)(c b:Int):Option (List Zab):=need (0<=c/\c<=b/\b<=((a.length:Nat):Int)/\((a.length:Nat):Int)<=((a.length:Nat):Int))<|bif(c==b)then some a else need (0<=(0:Int)/\(0:Int)<=c/\c<=((a.length:Nat):Int))<|need (0<=b/\b<=((a.length:Nat):Int)/\((a.length:Nat):Int)<=((a.length:Nat):Int))<|need (b.toNat+(a.length-b.toNat)<=a.length/\c.toNat+(a.length-b.toNat)<=a.length)<|need (0<=(((c.toNat+(a.length-b.toNat)):Nat):Int)/\(((c.toNat+(a.length-b.toNat)):Nat):Int)<=((a.length:Nat):Int)/\((0:Nat):Int)+((a.length:Nat):Int)<=((a.length:Nat):Int))<|need ((0+(((c.toNat+(a.length-b.toNat)):Nat):Int).toNat)+(((a.length:Nat):Int).toNat-(((c.toNat+(a.length-b.toNat)):Nat):Int).toNat)<=(appL a c.toNat b.toNat (a.length-b.toNat)).length)<|need ((c.toNat+(a.length-b.toNat))<=(Zki (appL a c.toNat b.toNat (a.length-b.toNat)) (0+(((c.toNat+(a.length-b.toNat)):Nat):Int).toNat) (((a.length:Nat):Int).toNat-(((c.toNat+(a.length-b.toNat)):Nat):Int).toNat) Zab.d).length)<|some ((Zki (appL a c.toNat b.toNat (a.length-b.toNat)) (0+(((c.toNat+(a.length-b.toNat)):Nat):Int).toNat) (((a.length:Nat):Int).toNat-(((c.toNat+(a.length-b.toNat)):Nat):Int).toNat) Zab.d).take (c.toNat+(a.length-b.toNat)))
theorem Zjz(a:List Zab)(e b:Int)(r:List Zab)(f:ZcO a e b=some r):Zcu Tryz.prog 322 [(100000,.rows 146 5 a.length (Zam Zab.c Zab.d a))] [.one (.osl 100000 a.length),(Yj e),(Yj b)] [(99999,.rows 146 5 r.length (Zam Zab.c Zab.d r))] (.one (.osl 99999 r.length)):=by
 refine Zcu.of Tryz.func322 rfl rfl rfl rfl fun S0 w0=>?_;unfold ZcO at f;obtain⟨o1,f⟩:=Zaq f;rcases Zai f with⟨h,f⟩|⟨h,f⟩
 ·apply Yc f 10 [rz,rz,rz,rz] [true] ⟨[],[],[],[],[],[6],[100000],[(100000,99999)]⟩ (.c o1 (.c h .n))
 ·obtain⟨l,f⟩:=Zaq f;obtain⟨m,f⟩:=Zaq f;obtain⟨g,f⟩:=Zaq f;obtain⟨o,f⟩:=Zaq f;obtain⟨k,f⟩:=Zaq f;obtain⟨s,f⟩:=Zaq f;apply Yc f 17 [rz,rz,rz,rz,rA [(6,.r (.one (.sl 5 (appL a e.toNat b.toNat (a.length-b.toNat)).length (Zam Zab.c Zab.d (appL a e.toNat b.toNat (a.length-b.toNat))))) [])],rA [(5,.c (Zki (appL a e.toNat b.toNat (a.length-b.toNat)) (0+(((e.toNat+(a.length-b.toNat)):Nat):Int).toNat) (((a.length:Nat):Int).toNat-(((e.toNat+(a.length-b.toNat)):Nat):Int).toNat) Zab.d).length (Zam Zab.c Zab.d (Zki (appL a e.toNat b.toNat (a.length-b.toNat)) (0+(((e.toNat+(a.length-b.toNat)):Nat):Int).toNat) (((a.length:Nat):Int).toNat-(((e.toNat+(a.length-b.toNat)):Nat):Int).toNat) Zab.d)))],rA [(1,.c ((Zki (appL a e.toNat b.toNat (a.length-b.toNat)) (0+(((e.toNat+(a.length-b.toNat)):Nat):Int).toNat) (((a.length:Nat):Int).toNat-(((e.toNat+(a.length-b.toNat)):Nat):Int).toNat) Zab.d).take (e.toNat+(a.length-b.toNat))).length (Zam Zab.c Zab.d ((Zki (appL a e.toNat b.toNat (a.length-b.toNat)) (0+(((e.toNat+(a.length-b.toNat)):Nat):Int).toNat) (((a.length:Nat):Int).toNat-(((e.toNat+(a.length-b.toNat)):Nat):Int).toNat) Zab.d).take (e.toNat+(a.length-b.toNat)))))]] [false] ⟨[],[],[],[],[],[6],[6],[(6,99999)]⟩ (.c o1 (.c h (.c l (.c m (.c (show (appL a e.toNat b.toNat (a.length-b.toNat)).length=a.length from(ZED _ _ _ _ g)) (.c (show 0=0 from rfl) (.c g.2 (.c (show ∀p q,p<a.length->q<5->(p<e.toNat\/e.toNat+(a.length-b.toNat)<=p)->Zam Zab.c Zab.d (appL a e.toNat b.toNat (a.length-b.toNat)) p q=Zam Zab.c Zab.d a p q from(ZHO _ _ _ _ g)) (.c (show ∀p q,p<(a.length-b.toNat)->q<5->Zam Zab.c Zab.d (appL a e.toNat b.toNat (a.length-b.toNat)) (e.toNat+p) q=Zam Zab.c Zab.d a (b.toNat+p) q from(ZHP _ _ _ _ g)) (.c o (.c (show (Zki (appL a e.toNat b.toNat (a.length-b.toNat)) (0+(((e.toNat+(a.length-b.toNat)):Nat):Int).toNat) (((a.length:Nat):Int).toNat-(((e.toNat+(a.length-b.toNat)):Nat):Int).toNat) Zab.d).length=(appL a e.toNat b.toNat (a.length-b.toNat)).length from(Zyw _ _ _ _ k)) (.c (show ∀i j,i<(appL a e.toNat b.toNat (a.length-b.toNat)).length->j<5->(i<(0+(((e.toNat+(a.length-b.toNat)):Nat):Int).toNat)\/(0+(((e.toNat+(a.length-b.toNat)):Nat):Int).toNat)+(((a.length:Nat):Int).toNat-(((e.toNat+(a.length-b.toNat)):Nat):Int).toNat)<=i)->Zam Zab.c Zab.d (Zki (appL a e.toNat b.toNat (a.length-b.toNat)) (0+(((e.toNat+(a.length-b.toNat)):Nat):Int).toNat) (((a.length:Nat):Int).toNat-(((e.toNat+(a.length-b.toNat)):Nat):Int).toNat) Zab.d) i j=Zam Zab.c Zab.d (appL a e.toNat b.toNat (a.length-b.toNat)) i j from(ZEp _ _ _ k)) (.c (show ∀i j,i<(((a.length:Nat):Int).toNat-(((e.toNat+(a.length-b.toNat)):Nat):Int).toNat)->j<5->ZsH (([.lit (.bool false),.lit (.int .u64 (0)),.lit (.int .u64 (0)),.lit (.int .i64 (0)),.lit (.int .i64 (0))]:List C).getD j .junk) (Zam Zab.c Zab.d (Zki (appL a e.toNat b.toNat (a.length-b.toNat)) (0+(((e.toNat+(a.length-b.toNat)):Nat):Int).toNat) (((a.length:Nat):Int).toNat-(((e.toNat+(a.length-b.toNat)):Nat):Int).toNat) Zab.d) ((0+(((e.toNat+(a.length-b.toNat)):Nat):Int).toNat)+i) j)from(ZEq _ _ _ k (fun j hj=>.inl rfl))) (.c (show 0=0 from rfl) (.c (show ((Zki (appL a e.toNat b.toNat (a.length-b.toNat)) (0+(((e.toNat+(a.length-b.toNat)):Nat):Int).toNat) (((a.length:Nat):Int).toNat-(((e.toNat+(a.length-b.toNat)):Nat):Int).toNat) Zab.d).take (e.toNat+(a.length-b.toNat))).length=(e.toNat+(a.length-b.toNat))from(ZHc _ _ s)) (.c (show ∀i j,i<(e.toNat+(a.length-b.toNat))->j<5->Zam Zab.c Zab.d ((Zki (appL a e.toNat b.toNat (a.length-b.toNat)) (0+(((e.toNat+(a.length-b.toNat)):Nat):Int).toNat) (((a.length:Nat):Int).toNat-(((e.toNat+(a.length-b.toNat)):Nat):Int).toNat) Zab.d).take (e.toNat+(a.length-b.toNat))) i j=Zam Zab.c Zab.d (Zki (appL a e.toNat b.toNat (a.length-b.toNat)) (0+(((e.toNat+(a.length-b.toNat)):Nat):Int).toNat) (((a.length:Nat):Int).toNat-(((e.toNat+(a.length-b.toNat)):Nat):Int).toNat) Zab.d) i j from(ZFb _ _)) .n))))))))))))))))
def Zmf(b:List Zab)(c:Zao):Option ((List Zab)×Int):=(ZkD b c).bind fun a=>bif(decide (a<(0:Int)))then some (([]:(List Zab)),(6:Int))else(ZbD b).bind fun d=>(ZcO d a (Zar a 1)).bind fun e=>some (e,(0:Int))
theorem ZuX(g:List Zab)(h:Zao)(r:((List Zab)×Int))(a:Zmf g h=some r):ZaC Tryz.prog 250 [(Yl g),.agg (Zao.c h)] (.tup [(false,(cLs 5 Zab.c Zab.d) r.1),(false,(cI .i64) r.2)]):=by
 refine ZaC.of Tryz.func250 rfl rfl rfl rfl fun S0 w0=>?_;unfold Zmf at a;obtain⟨i,j,a⟩:=Zaf a;rcases Zai a with⟨b,a⟩|⟨b,a⟩
 ·apply Yb a 10 [rz,rA [(2,aI i)],rz,rz] [true] [] [] [(4,[(0,cL 5 Zab.c Zab.d [])])] (.c (Zno _ _ _ j) (.c b .n))
 ·obtain⟨e,k,a⟩:=Zaf a;obtain⟨f,l,a⟩:=Zaf a;apply Yb a 11 [rz,rA [(2,aI i)],rz,rH [] [(1,⟨[],[(99999,13)],[(99999,.rows 146 5 e.length (Zam Zab.c Zab.d e))],.one (.osl 99999 e.length)⟩),(5,⟨[(100000,13)],[(99999,17)],[(99999,.rows 146 5 f.length (Zam Zab.c Zab.d f))],.one (.osl 99999 f.length)⟩)]] [false] [17] [] [] (.c (Zno _ _ _ j) (.c b (.c (ZdJ _ _ k) (.c (Zjz _ _ _ _ l) .n))))
def Zhu(r:Zbg)(s:Zan):Option (Tout Zap):=(Zeg s (0:Int) false).bind fun t=>(match t with | .ret u c=>(ZhK c).bind fun v=>(match v with | .ret d b=>(Zmf d r.fx.fNet).bind fun a=>bif(a.2==(0:Int))then(Zjg).bind fun w=>(ZdM b w (Zae.mk 0 (Zaa.mk (Zah.mk (Zag.mk false 0 0) 0) false 0 (Zax.mk 0 0) 0 0) a.1 ([]:(List Zac))) true).bind fun x=>(match x with | .ret y e=>(Zcy e (0:Int) (a.2 != (0:Int))).bind fun z=>(match z with | .ret A f=>(Zha a.2).bind fun B=>some (Tout.ret B f) | .pan g=>some (Tout.pan g) | .bad h=>some (Tout.bad h)) | .pan i=>some (Tout.pan i) | .bad j=>some (Tout.bad j))else(Zcy b (0:Int) (a.2 != (0:Int))).bind fun C=>(match C with | .ret D k=>(Zha a.2).bind fun E=>some (Tout.ret E k) | .pan l=>some (Tout.pan l) | .bad m=>some (Tout.bad m)) | .pan n=>some (Tout.pan n) | .bad o=>some (Tout.bad o)) | .pan p=>some (Tout.pan p) | .bad q=>some (Tout.bad q))
theorem ZkS(s:Zbg)(t:Zan)(r:(Tout Zap))(a:Zhu s t=some r):Zfs Tryz.prog 189 [(100000,.box (Zan.c t))] [.agg (Zbg.c s),.one (.ifc 112 (.ptr 100000 0))] (oc (fun x=>.agg (Zap.c x)) r):=by
 refine Zfs.of Tryz.func189 rfl rfl rfl rfl fun S0 w0=>?_;unfold Zhu at a;obtain⟨w,e,a⟩:=Zaf a;cases w with
 |ret y f=>
  dsimp only at a
  let R1:List RA:=[rz,rH [(1,.id 464)] [(1,⟨[(100000,100000)],[],[(100000,.box (Zan.c f))],.tup []⟩)]]
  have O2:Obl _:=(.c (ZbT _ _ _ _ e) (.c ZhU .n));obtain⟨z,g,a⟩:=Zaf a;cases z with
  |ret h i=>
   dsimp only at a;obtain⟨u,A,a⟩:=Zaf a
   let R3:List RA:=(R1++[rH [(5,.r (.tup [(false,(cLs 5 Zab.c Zab.d) u.1),(false,(cI .i64) u.2)]) [])] [(1,⟨[(100000,100000)],[],[(100000,.box (Zan.c i))],(Yl h)⟩)],rz])
   have O4:Obl _:=(O2.app (.c (Zeb _ _ g) (.c (ZuX _ _ _ A) .n)));rcases Zai a with⟨b,a⟩|⟨b,a⟩
   ·obtain⟨v,B,a⟩:=Zaf a;have O5:Obl _:=(O4.app (.c b (.c (ZkT _ B) (.c Zku .n))));obtain⟨C,j,a⟩:=Zaf a;cases C with
    |ret D k=>
     dsimp only at a
     let R6:List RA:=(R3++[⟨[(1,aG (Zay.c v)),(7,.id 467)],[],[],[],[(3,[(12,cL 7 Zac.c Zac.d [])])],[],[(7,⟨[(100000,100000)],[],[(100000,.box (Zan.c k))],.tup []⟩)]⟩])
     have O7:Obl _:=(O5.app (.c (ZbM _ _ _ _ _ j) (.c Zgx .n)));obtain⟨E,l,a⟩:=Zaf a;cases E with
     |ret F m=>
      dsimp only at a;obtain⟨G,H,a⟩:=Zaf a;obtain rfl:=oi a;exact Yd 15 (R6++[rH [(3,.id 462)] [(3,⟨[(100000,100000)],[],[(100000,.box (Zan.c m))],.tup []⟩)],rA [(1,aG (Zap.c G))]]) [true] ⟨[],[],[],[],[],[4],[4,100000],[]⟩ (O7.app (.c (Zbh _ _ _ _ l) (.c ZeM (.c (Zhv _ _ H) .n))))
     |_=>
      dsimp only at a;obtain rfl:=oi a;exact Yh 12 R6 [true] (rA [(3,.id 462)]) 3 ⟨[(100000,100000)],pvOf l⟩ (O7.app (.c (Zbh _ _ _ _ l) (.c ZeM .n)))
    |_=>
     dsimp only at a;obtain rfl:=oi a;exact Yh 10 R3 [true] (⟨[(1,aG (Zay.c v)),(7,.id 467)],[],[],[],[(3,[(12,cL 7 Zac.c Zac.d [])])],[],[]⟩) 7 ⟨[(100000,100000)],pvOf j⟩ (O5.app (.c (ZbM _ _ _ _ _ j) (.c Zgx .n)))
   ·obtain⟨I,o,a⟩:=Zaf a;cases I with
    |ret J p=>
     dsimp only at a;obtain⟨K,q,a⟩:=Zaf a;obtain rfl:=oi a;exact Yd 15 (R3++[rH [(3,.id 462)] [(3,⟨[(100000,100000)],[],[(100000,.box (Zan.c p))],.tup []⟩)],rA [(1,aG (Zap.c K))]]) [false] ⟨[],[],[],[],[],[4],[4,100000],[]⟩ (O4.app (.c b (.c (Zbh _ _ _ _ o) (.c ZeM (.c (Zhv _ _ q) .n)))))
    |_=>
     dsimp only at a;obtain rfl:=oi a;exact Yh 12 R3 [false] (rA [(3,.id 462)]) 3 ⟨[(100000,100000)],pvOf o⟩ (O4.app (.c b (.c (Zbh _ _ _ _ o) (.c ZeM .n))))
  |_=>
   dsimp only at a;obtain rfl:=oi a;exact Yh 5 R1 [] (rz) 1 ⟨[(100000,100000)],pvOf g⟩ (O2.app (.c (Zeb _ _ g) .n))
 |_=>
  dsimp only at a;obtain rfl:=oi a;exact Yh 3 [rz] [] (rA [(1,.id 464)]) 1 ⟨[(100000,100000)],pvOf e⟩ (.c (ZbT _ _ _ _ e) (.c ZhU .n))
def Zhr(d:Zan)(e:Int)(f:Bool):Option (Tout Unit):=(Zcr d (ZaK.mk 2 e (Zay.mk 0 0 0) 0 0 (Zae.mk 0 (Zaa.mk (Zah.mk (Zag.mk false 0 0) 0) false 0 (Zax.mk 0 0) 0 0) ([]:(List Zab)) ([]:(List Zac))) f)).bind fun g=>(match g with | .ret h a=>some (Tout.ret () a) | .pan b=>some (Tout.pan b) | .bad c=>some (Tout.bad c))
theorem ZgG(g:Zan)(h:Int)(i:Bool)(r:(Tout Unit))(a:Zhr g h i=some r):Zfs Tryz.prog 466 [(100000,.box (Zan.c g))] [.one (.ptr 100000 0),(Yj h),(Yk i)] (oc (fun x=>.tup []) r):=by
 refine Zfs.of Tryz.func466 rfl rfl rfl rfl fun S0 w0=>?_;unfold Zhr at a;obtain⟨j,b,a⟩:=Zaf a;cases j with
 |ret e f=>
  dsimp only at a;obtain rfl:=oi a;exact Yd 1 [⟨[],[],[],[],[(3,[(18,cL 5 Zab.c Zab.d []),(19,cL 7 Zac.c Zac.d [])])],[],[(4,⟨[(100000,100000)],[],[(100000,.box (Zan.c f))],.agg (Zae.c e)⟩)]⟩] [] ⟨[],[],[],[],[],[],[100000],[]⟩ (.c (Zbw _ _ _ b) .n)
 |_=>
  dsimp only at a;obtain rfl:=oi a;exact Yh 0 [] [] (⟨[],[],[],[],[(3,[(18,cL 5 Zab.c Zab.d []),(19,cL 7 Zac.c Zac.d [])])],[],[]⟩) 4 ⟨[(100000,100000)],pvOf b⟩ (.c (Zbw _ _ _ b) .n)
def ZnB:Option ZaF:=some (ZaF.mk Zau.nil Zau.nil 0)
theorem Zru(r:ZaF)(a:ZnB=some r):ZaC Tryz.prog 310 [] (.one (ZaF.c r)):=by
 refine ZaC.of Tryz.func310 rfl rfl rfl rfl fun S0 w0=>?_;unfold ZnB at a;apply Yb a 4 [rz,⟨[],[],[],[],[(0,[(0,Zau.c Zau.nil),(1,Zau.c Zau.nil)])],[],[]⟩] [] [2] [] [] .n
def ZgE(a:Zag):Option Int:=bif a.fV6 then some (1:Int)else some (0:Int)
theorem ZeH(d:Zag)(r:Int)(a:ZgE d=some r):ZaC Tryz.prog 314 [.agg (Zag.c d)] ((Yj r)):=by
 refine ZaC.of Tryz.func314 rfl rfl rfl rfl fun S0 w0=>?_;unfold ZgE at a;rcases Zai a with⟨b,a⟩|⟨b,a⟩
 ·apply Ya a 8 [rz,rz,rz] [true] (.c b .n)
 ·apply Ya a 9 [rz,rz,rz] [false] (.c b .n)
def ZhA(c:Zag)(a:Int):Option Int:=(Zex c).bind fun b=>bif(decide (a<(0:Int)))then some (0:Int)else bif(decide (a>=b))then some (0:Int)else bif(decide ((ZaV (ZaV b (1:Int)) a)>=(64:Int)))then need (0<=(ZaV (ZaV (ZaV b (1:Int)) a) (64:Int)))<|some (IntKind.wrap .i64 (IntKind.wrap .u64 (((BitVec.ofInt (IntKind.bits .u64) (Int.fdiv c.fHi (2 ^ (min (ZaV (ZaV (ZaV b (1:Int)) a) (64:Int)).toNat (IntKind.bits .u64))))) &&& (BitVec.ofInt (IntKind.bits .u64) (1:Int))).toNat:Int)))else need (0<=(ZaV (ZaV b (1:Int)) a))<|some (IntKind.wrap .i64 (IntKind.wrap .u64 (((BitVec.ofInt (IntKind.bits .u64) (Int.fdiv c.fLo (2 ^ (min (ZaV (ZaV b (1:Int)) a).toNat (IntKind.bits .u64))))) &&& (BitVec.ofInt (IntKind.bits .u64) (1:Int))).toNat:Int)))
theorem Zke(h:Zag)(i r:Int)(a:ZhA h i=some r):ZaC Tryz.prog 315 [.agg (Zag.c h),(Yj i)] ((Yj r)):=by
 refine ZaC.of Tryz.func315 rfl rfl rfl rfl fun S0 w0=>?_;unfold ZhA at a;obtain⟨d,e,a⟩:=Zaf a;rcases Zai a with⟨b,a⟩|⟨b,a⟩
 ·apply Ya a 10 [rz,rA [(1,aI d)],rB [(2,true)],rz] [true] (.c (Zik _ _ e) (.c b (.c (show true=true from rfl) .n)))
 ·rcases Zai a with⟨f,a⟩|⟨f,a⟩
  ·apply Ya a 10 [rz,rA [(1,aI d)],rB [(2,false)],rz] [true] (.c (Zik _ _ e) (.c b (.c f .n)))
  ·let R1:List RA:=[rz,rA [(1,aI d)],rB [(2,false)],rz,rz,rz]
   have O2:Obl _:=(.c (Zik _ _ e) (.c b (.c f .n)));rcases Zai a with⟨g,a⟩|⟨g,a⟩
   ·obtain⟨j,a⟩:=Zaq a;apply Ya a 17 R1 [false,true] (O2.app (.c g (.c j .n)))
   ·obtain⟨k,a⟩:=Zaq a;apply Ya a 18 R1 [false,false] (O2.app (.c g (.c k .n)))
def Zie(a:Zao)(b:Int):Option Int:=(ZhA a.fAddr b).bind fun c=>some c
theorem Zdv(b:Zao)(d r:Int)(a:Zie b d=some r):ZaC Tryz.prog 358 [.agg (Zao.c b),(Yj d)] ((Yj r)):=by
 refine ZaC.of Tryz.func358 rfl rfl rfl rfl fun S0 w0=>?_;unfold Zie at a;obtain⟨e,f,a⟩:=Zaf a;apply Ya a 4 [rz,rA [(3,aI e)]] [] (.c (Zke _ _ _ f) .n)
def Zdw:Nat->Zau->Zao->Option (Int×Bool)|0,_,_=>none|fu+1,g,b=>(match g with | .nil=>some ((0:Int),false) | .mk a c d e=>bif(decide (a.fNet.fBits<b.fBits))then(Zie b a.fNet.fBits).bind fun f=>need (0<=f/\f<((2:Nat):Int))<|ix2 f ( Zdw fu d b) ( Zdw fu e b)else bif(!c)then some ((0:Int),false)else bif(!(decide (a.fNet=b)))then some ((0:Int),false)else some (a.fV,true))
theorem ZkP(S0:Nat->Prop)(w0:Zba):∀(j:Nat)(f:Zau)(b:Zao)(r:(Int×Bool)),Zdw j f b=some r->Good Tryz.prog 71 S0 w0 (bodyPost Tryz.prog Tryz.f311 (Post S0 w0 (.tup [(false,(cI .i64) r.1),(false,cB r.2)]))) (at_ [1,1,1,0,0] (ZaW Tryz.f311)) ⟨[(3,.one (.ptr 3 0)),(6,.one (Zau.c f))],[(3,.box [.lit (.bool b.fAddr.fV6),.lit (.int .u64 b.fAddr.fHi),.lit (.int .u64 b.fAddr.fLo),.lit (.int .i64 b.fBits)])]⟩:=by
 intro j;induction j with
 |zero=>
  intro f b r a;simp[Zdw]at a
 |succ j m=>
  intro f b r a;unfold Zdw at a;cases f with
  |nil=>
   dsimp only at a;apply Ya a 12 [rz,rz,rz] [false,true] (.c (show false=false from rfl) (.c (show true=true from rfl) .n))
  |mk d o g h=>
   dsimp only at a;rcases Zai a with⟨i,a⟩|⟨i,a⟩
   ·obtain⟨s,p,a⟩:=Zaf a;obtain⟨q,a⟩:=Zaq a;rcases Zjo q a with⟨e,a⟩|⟨e,a⟩
    ·subst e;exact Ye 10 [rz,rA [(8,aI (0:Int))]] [true] ⟨[],[],[],[],[],[3,6],[3],[]⟩ (.c i (.c (Zdv _ _ _ p) (.c (show 0<=(0:Int)/\(0:Int)<((2:Nat):Int)from(by decide)) .n))) (m g b r a)
    ·subst e;exact Ye 10 [rz,rA [(8,aI (1:Int))]] [true] ⟨[],[],[],[],[],[3,6],[3],[]⟩ (.c i (.c (Zdv _ _ _ p) (.c (show 0<=(1:Int)/\(1:Int)<((2:Nat):Int)from(by decide)) .n))) (m h b r a)
   ·rcases Zai a with⟨k,a⟩|⟨k,a⟩
    ·apply Ya a 12 [rz,rB [(9,true)],rz] [false,true] (.c i (.c k (.c (show true=true from rfl) .n)))
    ·let R1:List RA:=[rz,⟨[(16,aB (!(decide (d.fNet=b))))],[(9,false)],[],[],[],[],[]⟩,rz]
     have O2:Obl _:=(.c i (.c k (.c (Zwt d.fNet b (.tmp 62) (.tmp 63)) .n)));rcases Zai a with⟨l,a⟩|⟨l,a⟩
     ·apply Ya a 12 R1 [false,true] (O2.app (.c l .n))
     ·apply Ya a 13 R1 [false,false] (O2.app (.c l .n))
def Zhq(f:ZaF)(c:Zao):Option (Int×Bool):=(match f with | .nil=>some ((0:Int),false) | .mk a b e=>(ZgW c).bind fun g=>bif(!g)then some ((0:Int),false)else(ZgE c.fAddr).bind fun d=>need (0<=d/\d<((2:Nat):Int))<|ix2 d ( Zdw 1000000 a c) ( Zdw 1000000 b c))
theorem ZgF(h:ZaF)(f:Zao)(r:(Int×Bool))(a:Zhq h f=some r):ZaC Tryz.prog 311 [.one (ZaF.c h),.agg (Zao.c f)] (.tup [(false,(cI .i64) r.1),(false,cB r.2)]):=by
 refine ZaC.of Tryz.func311 rfl rfl rfl rfl fun S0 w0=>?_;unfold Zhq at a;cases h with
 |nil=>
  dsimp only at a;apply Ya a 8 [rz,rz,rz] [true] (.c (show true=true from rfl) .n)
 |mk b d k=>
  dsimp only at a;obtain⟨i,j,a⟩:=Zaf a;rcases Zai a with⟨g,a⟩|⟨g,a⟩
  ·apply Ya a 8 [rz,rA [(4,aB i)],rz] [true] (.c (ZcI _ _ j) (.c g .n))
  ·obtain⟨o,l,a⟩:=Zaf a;obtain⟨m,a⟩:=Zaq a;rcases Zjo m a with⟨e,a⟩|⟨e,a⟩
   ·subst e;exact Ye 11 [rz,rA [(4,aB i)],rA [(3,aI (0:Int))]] [false] ⟨[],[],[],[],[],[3,6],[3],[]⟩ (.c (ZcI _ _ j) (.c g (.c (ZeH _ _ l) (.c (show 0<=(0:Int)/\(0:Int)<((2:Nat):Int)from(by decide)) .n)))) (ZkP S0 w0 1000000 b f r a)
   ·subst e;exact Ye 11 [rz,rA [(4,aB i)],rA [(3,aI (1:Int))]] [false] ⟨[],[],[],[],[],[3,6],[3],[]⟩ (.c (ZcI _ _ j) (.c g (.c (ZeH _ _ l) (.c (show 0<=(1:Int)/\(1:Int)<((2:Nat):Int)from(by decide)) .n)))) (ZkP S0 w0 1000000 d f r a)
def Zmh(a:Zab)(b:Int):Option Bool:=some (decide (b<a.fUntil))
theorem ZqF(a:Zab)(b:Int)(r:Bool)(d:Zmh a b=some r):ZaC Tryz.prog 312 [.agg (Zab.c a),(Yj b)] ((Yk r)):=by
 refine ZaC.of Tryz.func312 rfl rfl rfl rfl fun S0 w0=>?_;unfold Zmh at d;apply Ya d 4 [rz,rz] [] .n
def Zey(a b:Int):Option Int:=bif(decide (a>=(256:Int)))then need (0<=(IntKind.wrap .u8 (Int.fdiv a (2 ^ (min (8:Int).toNat (IntKind.bits .u64)))))/\(IntKind.wrap .u8 (Int.fdiv a (2 ^ (min (8:Int).toNat (IntKind.bits .u64)))))<(((⟨#[0,1,2,2,3,3,3,3,4,4,4,4,4,4,4,4,5,5,5,5,5,5,5,5,5,5,5,5,5,5,5,5,6,6,6,6,6,6,6,6,6,6,6,6,6,6,6,6,6,6,6,6,6,6,6,6,6,6,6,6,6,6,6,6,7,7,7,7,7,7,7,7,7,7,7,7,7,7,7,7,7,7,7,7,7,7,7,7,7,7,7,7,7,7,7,7,7,7,7,7,7,7,7,7,7,7,7,7,7,7,7,7,7,7,7,7,7,7,7,7,7,7,7,7,7,7,7,7,8,8,8,8,8,8,8,8,8,8,8,8,8,8,8,8,8,8,8,8,8,8,8,8,8,8,8,8,8,8,8,8,8,8,8,8,8,8,8,8,8,8,8,8,8,8,8,8,8,8,8,8,8,8,8,8,8,8,8,8,8,8,8,8,8,8,8,8,8,8,8,8,8,8,8,8,8,8,8,8,8,8,8,8,8,8,8,8,8,8,8,8,8,8,8,8,8,8,8,8,8,8,8,8,8,8,8,8,8,8,8,8,8,8,8,8,8,8,8,8,8,8,8,8,8,8,8,8]⟩ : ByteArray).size:Nat):Int))<|some (Zar (Zar b 8) (IntKind.wrap .i64 ((Zkr (⟨#[0,1,2,2,3,3,3,3,4,4,4,4,4,4,4,4,5,5,5,5,5,5,5,5,5,5,5,5,5,5,5,5,6,6,6,6,6,6,6,6,6,6,6,6,6,6,6,6,6,6,6,6,6,6,6,6,6,6,6,6,6,6,6,6,7,7,7,7,7,7,7,7,7,7,7,7,7,7,7,7,7,7,7,7,7,7,7,7,7,7,7,7,7,7,7,7,7,7,7,7,7,7,7,7,7,7,7,7,7,7,7,7,7,7,7,7,7,7,7,7,7,7,7,7,7,7,7,7,8,8,8,8,8,8,8,8,8,8,8,8,8,8,8,8,8,8,8,8,8,8,8,8,8,8,8,8,8,8,8,8,8,8,8,8,8,8,8,8,8,8,8,8,8,8,8,8,8,8,8,8,8,8,8,8,8,8,8,8,8,8,8,8,8,8,8,8,8,8,8,8,8,8,8,8,8,8,8,8,8,8,8,8,8,8,8,8,8,8,8,8,8,8,8,8,8,8,8,8,8,8,8,8,8,8,8,8,8,8,8,8,8,8,8,8,8,8,8,8,8,8,8,8,8,8,8,8]⟩ : ByteArray) (IntKind.wrap .u8 (Int.fdiv a (2 ^ (min (8:Int).toNat (IntKind.bits .u64))))).toNat:Nat):Int)))else need (0<=(IntKind.wrap .u8 a)/\(IntKind.wrap .u8 a)<(((⟨#[0,1,2,2,3,3,3,3,4,4,4,4,4,4,4,4,5,5,5,5,5,5,5,5,5,5,5,5,5,5,5,5,6,6,6,6,6,6,6,6,6,6,6,6,6,6,6,6,6,6,6,6,6,6,6,6,6,6,6,6,6,6,6,6,7,7,7,7,7,7,7,7,7,7,7,7,7,7,7,7,7,7,7,7,7,7,7,7,7,7,7,7,7,7,7,7,7,7,7,7,7,7,7,7,7,7,7,7,7,7,7,7,7,7,7,7,7,7,7,7,7,7,7,7,7,7,7,7,8,8,8,8,8,8,8,8,8,8,8,8,8,8,8,8,8,8,8,8,8,8,8,8,8,8,8,8,8,8,8,8,8,8,8,8,8,8,8,8,8,8,8,8,8,8,8,8,8,8,8,8,8,8,8,8,8,8,8,8,8,8,8,8,8,8,8,8,8,8,8,8,8,8,8,8,8,8,8,8,8,8,8,8,8,8,8,8,8,8,8,8,8,8,8,8,8,8,8,8,8,8,8,8,8,8,8,8,8,8,8,8,8,8,8,8,8,8,8,8,8,8,8,8,8,8,8,8]⟩ : ByteArray).size:Nat):Int))<|some (Zar b (IntKind.wrap .i64 ((Zkr (⟨#[0,1,2,2,3,3,3,3,4,4,4,4,4,4,4,4,5,5,5,5,5,5,5,5,5,5,5,5,5,5,5,5,6,6,6,6,6,6,6,6,6,6,6,6,6,6,6,6,6,6,6,6,6,6,6,6,6,6,6,6,6,6,6,6,7,7,7,7,7,7,7,7,7,7,7,7,7,7,7,7,7,7,7,7,7,7,7,7,7,7,7,7,7,7,7,7,7,7,7,7,7,7,7,7,7,7,7,7,7,7,7,7,7,7,7,7,7,7,7,7,7,7,7,7,7,7,7,7,8,8,8,8,8,8,8,8,8,8,8,8,8,8,8,8,8,8,8,8,8,8,8,8,8,8,8,8,8,8,8,8,8,8,8,8,8,8,8,8,8,8,8,8,8,8,8,8,8,8,8,8,8,8,8,8,8,8,8,8,8,8,8,8,8,8,8,8,8,8,8,8,8,8,8,8,8,8,8,8,8,8,8,8,8,8,8,8,8,8,8,8,8,8,8,8,8,8,8,8,8,8,8,8,8,8,8,8,8,8,8,8,8,8,8,8,8,8,8,8,8,8,8,8,8,8,8,8]⟩ : ByteArray) (IntKind.wrap .u8 a).toNat:Nat):Int)))
theorem ZjS(S0:Nat->Prop)(w0:Zba)(d e r:Int)(a:Zey d e=some r):Good Tryz.prog 25 S0 w0 (bodyPost Tryz.prog Tryz.f416 (Post S0 w0 ((Yj r)))) (at_ [1,1,1] (ZaW Tryz.f416)) ⟨[(0,.one (.lit (.int .u64 d))),(2,(Yj e))],[]⟩:=by
 unfold Zey at a;rcases Zai a with⟨b,a⟩|⟨b,a⟩
 ·obtain⟨f,a⟩:=Zaq a;apply Ya a 9 [rz,rz,rz,rz] [true] (.c b (.c (show 0<=(8:Int)from(by decide)) (.c f .n)))
 ·obtain⟨g,a⟩:=Zaq a;apply Ya a 7 [rz,rz] [false] (.c b (.c g .n))
def Zez(a b:Int):Option Int:=bif(decide (a>=(65536:Int)))then Zey (Int.fdiv a (2 ^ (min (16:Int).toNat (IntKind.bits .u64)))) (Zar b 16)else Zey a b
theorem ZjT(S0:Nat->Prop)(w0:Zba)(b d r:Int)(a:Zez b d=some r):Good Tryz.prog 25 S0 w0 (bodyPost Tryz.prog Tryz.f416 (Post S0 w0 ((Yj r)))) (at_ [1,1] (ZaW Tryz.f416)) ⟨[(0,.one (.lit (.int .u64 b))),(2,(Yj d))],[]⟩:=by
 unfold Zez at a;rcases Zai a with⟨e,a⟩|⟨e,a⟩
 ·exact Ye 7 [rz,rz,rz] [true] (Yi [0,2]) (.c e (.c (show 0<=(16:Int)from(by decide)) .n)) (ZjS S0 w0 (Int.fdiv b (2 ^ (min (16:Int).toNat (IntKind.bits .u64)))) (Zar d 16) r a)
 ·exact Ye 5 [rz] [false] (Yi [0,2]) (.c e .n) (ZjS S0 w0 b d r a)
def Zhx(a:Int):Option Int:=bif(decide (a>=(4294967296:Int)))then Zez (Int.fdiv a (2 ^ (min (32:Int).toNat (IntKind.bits .u64)))) (32:Int)else Zez a (0:Int)
theorem Zqi(b r:Int)(a:Zhx b=some r):ZaC Tryz.prog 416 [.one (.lit (.int .u64 b))] ((Yj r)):=by
 refine ZaC.of Tryz.func416 rfl rfl rfl rfl fun S0 w0=>?_;unfold Zhx at a;rcases Zai a with⟨d,a⟩|⟨d,a⟩
 ·exact Ye 9 [rz,rz,rz,rz] [true] (Yi [0,2]) (.c d (.c (show 0<=(32:Int)from(by decide)) .n)) (ZjT S0 w0 (Int.fdiv b (2 ^ (min (32:Int).toNat (IntKind.bits .u64)))) (32:Int) r a)
 ·exact Ye 7 [rz,rz] [false] (Yi [0,2]) (.c d .n) (ZjT S0 w0 b (0:Int) r a)
def ZcX(a:Int):Option Int:=(Zhx a).bind fun b=>some (ZaV (64:Int) b)
theorem Zic(b r:Int)(a:ZcX b=some r):ZaC Tryz.prog 402 [.one (.lit (.int .u64 b))] ((Yj r)):=by
 refine ZaC.of Tryz.func402 rfl rfl rfl rfl fun S0 w0=>?_;unfold ZcX at a;obtain⟨d,e,a⟩:=Zaf a;apply Ya a 4 [rz,rA [(1,aI d)]] [] (.c (Zqi _ _ e) .n)
def Zfx(a b:Int)(c:Zao):Option Int:=bif(!c.fAddr.fV6)then(Zex c.fAddr).bind fun d=>some (if a<(ZaV b (ZaV (128:Int) d))then a else(ZaV b (ZaV (128:Int) d)))else some (if a<b then a else b)
theorem ZlS(S0:Nat->Prop)(w0:Zba)(e f:Int)(b:Zao)(r:Int)(a:Zfx e f b=some r):Good Tryz.prog 48 S0 w0 (bodyPost Tryz.prog Tryz.f384 (Post S0 w0 ((Yj r)))) (at_ [1,1,1,1,1] (ZaW Tryz.f384)) ⟨[(2,.one (.ptr 2 0)),(5,(Yj e)),(8,(Yj f))],[(2,.box [.lit (.bool b.fAddr.fV6),.lit (.int .u64 b.fAddr.fHi),.lit (.int .u64 b.fAddr.fLo),.lit (.int .i64 b.fBits)])]⟩:=by
 unfold Zfx at a;rcases Zai a with⟨d,a⟩|⟨d,a⟩
 ·obtain⟨g,h,a⟩:=Zaf a;apply Ya a 7 [rz,rA [(3,aI g)],rz] [true] (.c d (.c (Zik _ _ h) .n))
 ·apply Ya a 7 [rz,rz] [false] (.c d .n)
def ZjN(a b:Zao):Option Int:=(ZcX (IntKind.wrap .u64 (((BitVec.ofInt (IntKind.bits .u64) a.fAddr.fHi) ^^^ (BitVec.ofInt (IntKind.bits .u64) b.fAddr.fHi)).toNat:Int))).bind fun c=>bif((IntKind.wrap .u64 (((BitVec.ofInt (IntKind.bits .u64) a.fAddr.fHi) ^^^ (BitVec.ofInt (IntKind.bits .u64) b.fAddr.fHi)).toNat:Int))==(0:Int))then(ZcX (IntKind.wrap .u64 (((BitVec.ofInt (IntKind.bits .u64) a.fAddr.fLo) ^^^ (BitVec.ofInt (IntKind.bits .u64) b.fAddr.fLo)).toNat:Int))).bind fun d=>Zfx (if b.fBits<a.fBits then b.fBits else a.fBits) (Zar (64:Int) d) a else Zfx (if b.fBits<a.fBits then b.fBits else a.fBits) c a
theorem Zjp(b d:Zao)(r:Int)(a:ZjN b d=some r):ZaC Tryz.prog 384 [.agg (Zao.c b),.agg (Zao.c d)] ((Yj r)):=by
 refine ZaC.of Tryz.func384 rfl rfl rfl rfl fun S0 w0=>?_;unfold ZjN at a;obtain⟨e,h,a⟩:=Zaf a;have O1:Obl _:=(.c (Zic _ _ h) .n);rcases Zai a with⟨f,a⟩|⟨f,a⟩
 ·obtain⟨g,i,a⟩:=Zaf a;exact Ye 13 [rz,rz,rz,rA [(1,aI e)],rz,rA [(1,aI g)]] [true] ⟨[],[],[],[],[],[2,5,8],[2],[]⟩ (O1.app (.c f (.c (Zic _ _ i) .n))) (ZlS S0 w0 (if d.fBits<b.fBits then d.fBits else b.fBits) (Zar (64:Int) g) b r a)
 ·exact Ye 13 [rz,rz,rz,rA [(1,aI e)],rz] [false] ⟨[],[],[],[],[],[2,5,8],[2],[]⟩ (O1.app (.c f .n)) (ZlS S0 w0 (if d.fBits<b.fBits then d.fBits else b.fBits) e b r a)
def ZjO(p:Zau)(a:ZiJ)(j:Int):Option Zau:=bif(j==a.fhit.fNet.fBits)then(match p with | .nil=>none | .mk b d e f=>(Zie b.fNet j).bind fun l=>need (0<=l/\l<((2:Nat):Int))<|ix2 l ( some (Zau.mk a.fhit a.fhas (Zau.mk b d e f) a.fkids.2)) ( some (Zau.mk a.fhit a.fhas a.fkids.1 (Zau.mk b d e f))))else(ZiD a.fhit.fNet.fAddr j).bind fun k=>(match p with | .nil=>none | .mk c g h i=>(Zie c.fNet j).bind fun m=>need (0<=m/\m<((2:Nat):Int))<|ix2 m ( (Zie a.fhit.fNet j).bind fun n=>need (0<=n/\n<((2:Nat):Int))<|ix2 n ( some (Zau.mk (Zav.mk k.1 0) false (Zau.mk a.fhit a.fhas a.fkids.1 a.fkids.2) Zau.nil)) ( some (Zau.mk (Zav.mk k.1 0) false (Zau.mk c g h i) (Zau.mk a.fhit a.fhas a.fkids.1 a.fkids.2)))) ( (Zie a.fhit.fNet j).bind fun o=>need (0<=o/\o<((2:Nat):Int))<|ix2 o ( some (Zau.mk (Zav.mk k.1 0) false (Zau.mk a.fhit a.fhas a.fkids.1 a.fkids.2) (Zau.mk c g h i))) ( some (Zau.mk (Zav.mk k.1 0) false Zau.nil (Zau.mk a.fhit a.fhas a.fkids.1 a.fkids.2)))))
theorem Zsg(f:Zau)(j:ZiJ)(k:Int)(r:Zau)(a:ZjO f j k=some r):Zcu Tryz.prog 385 [(100000,.box (ZiJ.c j))] [.one (Zau.c f),.one (.ptr 100000 0),(Yj k)] [] (.one (Zau.c r)):=by
 refine Zcu.of Tryz.func385 rfl rfl rfl rfl fun S0 w0=>?_;unfold ZjO at a;rcases Zai a with⟨d,a⟩|⟨d,a⟩
 ·cases f with
  |nil=>
   dsimp only at a;cases a
  |mk l m o p=>
   dsimp only at a;obtain⟨B,q,a⟩:=Zaf a;obtain⟨y,a⟩:=Zaq a;rcases Zjo y a with⟨e,a⟩|⟨e,a⟩
   ·subst e;apply Yc a 10 [rz,rz,rA [(7,aI (0:Int))],rz] [true] ⟨[100000],[],[],[],[],[6],[],[]⟩ (.c d (.c (Zdv _ _ _ q) (.c (show 0<=(0:Int)/\(0:Int)<((2:Nat):Int)from(by decide)) .n)))
   ·subst e;apply Yc a 10 [rz,rz,rA [(7,aI (1:Int))],rz] [true] ⟨[100000],[],[],[],[],[6],[],[]⟩ (.c d (.c (Zdv _ _ _ q) (.c (show 0<=(1:Int)/\(1:Int)<((2:Nat):Int)from(by decide)) .n)))
 ·obtain⟨b,g,a⟩:=Zaf a;cases f with
  |nil=>
   dsimp only at a;cases a
  |mk s t u v=>
   dsimp only at a;obtain⟨C,h,a⟩:=Zaf a;obtain⟨z,a⟩:=Zaq a;rcases Zjo z a with⟨e,a⟩|⟨e,a⟩
   ·subst e;obtain⟨D,w,a⟩:=Zaf a;obtain⟨A,a⟩:=Zaq a;rcases Zjo A a with⟨e,a⟩|⟨e,a⟩
    ·subst e;apply Yc a 17 [rz,rz,rA [(7,.r (.tup [(true,Zao.c b.1),(false,cB b.2)]) [])],⟨[],[],[],[],[(2,[(6,Zau.c Zau.nil),(7,Zau.c Zau.nil)])],[],[]⟩,rA [(7,aI (0:Int))],rA [(7,aI (0:Int))],rz] [false] ⟨[100000,45],[],[],[],[],[6],[],[]⟩ (.c d (.c (Zii _ _ _ g) (.c (Zdv _ _ _ h) (.c (show 0<=(0:Int)/\(0:Int)<((2:Nat):Int)from(by decide)) (.c (Zdv _ _ _ w) (.c (show 0<=(0:Int)/\(0:Int)<((2:Nat):Int)from(by decide)) .n))))))
    ·subst e;apply Yc a 17 [rz,rz,rA [(7,.r (.tup [(true,Zao.c b.1),(false,cB b.2)]) [])],⟨[],[],[],[],[(2,[(6,Zau.c Zau.nil),(7,Zau.c Zau.nil)])],[],[]⟩,rA [(7,aI (0:Int))],rA [(7,aI (1:Int))],rz] [false] ⟨[100000,45],[],[],[],[],[6],[],[]⟩ (.c d (.c (Zii _ _ _ g) (.c (Zdv _ _ _ h) (.c (show 0<=(0:Int)/\(0:Int)<((2:Nat):Int)from(by decide)) (.c (Zdv _ _ _ w) (.c (show 0<=(1:Int)/\(1:Int)<((2:Nat):Int)from(by decide)) .n))))))
   ·subst e;obtain⟨E,x,a⟩:=Zaf a;obtain⟨i,a⟩:=Zaq a;rcases Zjo i a with⟨e,a⟩|⟨e,a⟩
    ·subst e;apply Yc a 17 [rz,rz,rA [(7,.r (.tup [(true,Zao.c b.1),(false,cB b.2)]) [])],⟨[],[],[],[],[(2,[(6,Zau.c Zau.nil),(7,Zau.c Zau.nil)])],[],[]⟩,rA [(7,aI (1:Int))],rA [(7,aI (0:Int))],rz] [false] ⟨[100000,45],[],[],[],[],[6],[],[]⟩ (.c d (.c (Zii _ _ _ g) (.c (Zdv _ _ _ h) (.c (show 0<=(1:Int)/\(1:Int)<((2:Nat):Int)from(by decide)) (.c (Zdv _ _ _ x) (.c (show 0<=(0:Int)/\(0:Int)<((2:Nat):Int)from(by decide)) .n))))))
    ·subst e;apply Yc a 17 [rz,rz,rA [(7,.r (.tup [(true,Zao.c b.1),(false,cB b.2)]) [])],⟨[],[],[],[],[(2,[(6,Zau.c Zau.nil),(7,Zau.c Zau.nil)])],[],[]⟩,rA [(7,aI (1:Int))],rA [(7,aI (1:Int))],rz] [false] ⟨[100000,45],[],[],[],[],[6],[],[]⟩ (.c d (.c (Zii _ _ _ g) (.c (Zdv _ _ _ h) (.c (show 0<=(1:Int)/\(1:Int)<((2:Nat):Int)from(by decide)) (.c (Zdv _ _ _ x) (.c (show 0<=(1:Int)/\(1:Int)<((2:Nat):Int)from(by decide)) .n))))))
def ZeT:Nat->Zau->Zav->Option Zau|0,_,_=>none|fu+1,h,e=>(match h with | .nil=>some (Zau.mk e true Zau.nil Zau.nil) | .mk a d b c=>(ZjN a.fNet e.fNet).bind fun f=>bif(decide (f<a.fNet.fBits))then(ZjO (Zau.mk a d b c) (ZiJ.mk e true (Zau.nil,Zau.nil)) f).bind fun i=>some i else bif(f==e.fNet.fBits)then some (Zau.mk e true b c)else(Zie e.fNet f).bind fun g=>need (0<=g/\g<((2:Nat):Int))<|ix2 g ( (ZeT fu b e).bind fun j=>some (Zau.mk a d j c)) ( (ZeT fu c e).bind fun k=>some (Zau.mk a d b k)))
theorem ZkG:∀(f:Nat)(b:Zau)(g:Zav)(r:Zau)(a:ZeT f b g=some r),ZaC Tryz.prog 359 [.one (Zau.c b),.agg (Zav.c g)] (.one (Zau.c r)):=by
 intro f;induction f with
 |zero=>
  intro b g r a;simp[ZeT]at a
 |succ f k=>
  intro b g r a;refine ZaC.of Tryz.func359 rfl rfl rfl rfl fun S0 w0=>?_;unfold ZeT at a;cases b with
  |nil=>
   dsimp only at a;apply Yb a 8 [rz,rz,⟨[],[],[],[],[(1,[(6,Zau.c Zau.nil),(7,Zau.c Zau.nil)])],[],[]⟩] [true] [12] [] [] (.c (show true=true from rfl) .n)
  |mk l m o p=>
   dsimp only at a;obtain⟨h,i,a⟩:=Zaf a;rcases Zai a with⟨d,a⟩|⟨d,a⟩
   ·obtain⟨s,t,a⟩:=Zaf a;apply Ya a 15 [rz,rz,rA [(7,aI h)],rz,⟨[],[],[],[],[(2,[(6,Zau.c Zau.nil),(7,Zau.c Zau.nil)])],[],[(5,⟨[(100000,32)],[],[],.one (Zau.c s)⟩)]⟩] [false,true] (.c (show false=false from rfl) (.c (Zjp _ _ _ i) (.c d (.c (Zsg _ _ _ _ t) .n))))
   ·rcases Zai a with⟨j,a⟩|⟨j,a⟩
    ·apply Yb a 24 [rz,rz,rA [(7,aI h)],rz,rz,rz,rz,rz] [false,false,true] [6] [] [] (.c (show false=false from rfl) (.c (Zjp _ _ _ i) (.c d (.c j .n))))
    ·obtain⟨z,q,a⟩:=Zaf a;obtain⟨u,a⟩:=Zaq a;rcases Zjo u a with⟨e,a⟩|⟨e,a⟩
     ·subst e;obtain⟨v,w,a⟩:=Zaf a;apply Yb a 27 [rz,rz,rA [(7,aI h)],rz,rz,rz,rA [(3,aI (0:Int))],rA [(8,.r (.one (Zau.c v)) [])],rz] [false,false,false] [6] [] [] (.c (show false=false from rfl) (.c (Zjp _ _ _ i) (.c d (.c j (.c (Zdv _ _ _ q) (.c (show 0<=(0:Int)/\(0:Int)<((2:Nat):Int)from(by decide)) (.c (k _ _ _ w) (.c (show 0<=(0:Int)/\(0:Int)<((2:Nat):Int)from(by decide)) .n))))))))
     ·subst e;obtain⟨x,y,a⟩:=Zaf a;apply Yb a 27 [rz,rz,rA [(7,aI h)],rz,rz,rz,rA [(3,aI (1:Int))],rA [(8,.r (.one (Zau.c x)) [])],rz] [false,false,false] [6] [] [] (.c (show false=false from rfl) (.c (Zjp _ _ _ i) (.c d (.c j (.c (Zdv _ _ _ q) (.c (show 0<=(1:Int)/\(1:Int)<((2:Nat):Int)from(by decide)) (.c (k _ _ _ y) (.c (show 0<=(1:Int)/\(1:Int)<((2:Nat):Int)from(by decide)) .n))))))))
def ZeU(e:Int)(j:ZaF)(d:Zao):Option ZaF:=(match j with | .nil=>none | .mk a b c=>(ZgW d).bind fun k=>bif(!k)then some (ZaF.mk a b c)else(Zhq (ZaF.mk a b c) d).bind fun l=>bif(!l.2)then(ZgE d.fAddr).bind fun f=>need (0<=f/\f<((2:Nat):Int))<|ix2 f ( (ZeT 1000 a (Zav.mk d e)).bind fun m=>some (ZaF.mk m b (Zar c 1))) ( (ZeT 1000 b (Zav.mk d e)).bind fun n=>some (ZaF.mk a n (Zar c 1)))else(ZgE d.fAddr).bind fun g=>need (0<=g/\g<((2:Nat):Int))<|ix2 g ( (ZeT 1000 a (Zav.mk d e)).bind fun h=>some (ZaF.mk h b c)) ( (ZeT 1000 b (Zav.mk d e)).bind fun i=>some (ZaF.mk a i c)))
theorem Zkn(S0:Nat->Prop)(w0:Zba)(t:Int)(l:ZaF)(f:Zao)(r:ZaF)(a:ZeU t l f=some r):Good Tryz.prog 48 S0 w0 (bodyPost Tryz.prog Tryz.f313 (Post S0 w0 (.one (ZaF.c r)))) (at_ [1,1] (ZaW Tryz.f313)) ⟨[(0,.one (ZaF.c l)),(2,(Yj t)),(4,.one (.ptr 4 0))],[(4,.box [.lit (.bool f.fAddr.fV6),.lit (.int .u64 f.fAddr.fHi),.lit (.int .u64 f.fAddr.fLo),.lit (.int .i64 f.fBits)])]⟩:=by
 unfold ZeU at a;cases l with
 |nil=>
  dsimp only at a;cases a
 |mk u v w=>
  dsimp only at a;obtain⟨g,h,a⟩:=Zaf a;rcases Zai a with⟨d,a⟩|⟨d,a⟩
  ·apply Yb a 8 [rz,rA [(1,aB g)],rz] [true] [7] [] [] (.c (ZcI _ _ h) (.c d .n))
  ·obtain⟨b,k,a⟩:=Zaf a;rcases Zai a with⟨i,a⟩|⟨i,a⟩
   ·obtain⟨D,x,a⟩:=Zaf a;obtain⟨y,a⟩:=Zaq a;rcases Zjo y a with⟨e,a⟩|⟨e,a⟩
    ·subst e;obtain⟨z,A,a⟩:=Zaf a;apply Yb a 20 [rz,rA [(1,aB g)],rA [(2,.r (.tup [(false,(cI .i64) b.1),(false,cB b.2)]) [])],rz,rz,rA [(2,aI (0:Int))],rA [(10,.r (.one (Zau.c z)) [])],rz] [false,true] [7] [] [] (.c (ZcI _ _ h) (.c d (.c (ZgF _ _ _ k) (.c i (.c (ZeH _ _ x) (.c (show 0<=(0:Int)/\(0:Int)<((2:Nat):Int)from(by decide)) (.c (ZkG 1000 _ _ _ A) (.c (show 0<=(0:Int)/\(0:Int)<((2:Nat):Int)from(by decide)) .n))))))))
    ·subst e;obtain⟨B,C,a⟩:=Zaf a;apply Yb a 20 [rz,rA [(1,aB g)],rA [(2,.r (.tup [(false,(cI .i64) b.1),(false,cB b.2)]) [])],rz,rz,rA [(2,aI (1:Int))],rA [(10,.r (.one (Zau.c B)) [])],rz] [false,true] [7] [] [] (.c (ZcI _ _ h) (.c d (.c (ZgF _ _ _ k) (.c i (.c (ZeH _ _ x) (.c (show 0<=(1:Int)/\(1:Int)<((2:Nat):Int)from(by decide)) (.c (ZkG 1000 _ _ _ C) (.c (show 0<=(1:Int)/\(1:Int)<((2:Nat):Int)from(by decide)) .n))))))))
   ·obtain⟨E,j,a⟩:=Zaf a;obtain⟨m,a⟩:=Zaq a;rcases Zjo m a with⟨e,a⟩|⟨e,a⟩
    ·subst e;obtain⟨o,p,a⟩:=Zaf a;apply Yb a 20 [rz,rA [(1,aB g)],rA [(2,.r (.tup [(false,(cI .i64) b.1),(false,cB b.2)]) [])],rz,rA [(2,aI (0:Int))],rA [(10,.r (.one (Zau.c o)) [])],rz] [false,false] [7] [] [] (.c (ZcI _ _ h) (.c d (.c (ZgF _ _ _ k) (.c i (.c (ZeH _ _ j) (.c (show 0<=(0:Int)/\(0:Int)<((2:Nat):Int)from(by decide)) (.c (ZkG 1000 _ _ _ p) (.c (show 0<=(0:Int)/\(0:Int)<((2:Nat):Int)from(by decide)) .n))))))))
    ·subst e;obtain⟨q,s,a⟩:=Zaf a;apply Yb a 20 [rz,rA [(1,aB g)],rA [(2,.r (.tup [(false,(cI .i64) b.1),(false,cB b.2)]) [])],rz,rA [(2,aI (1:Int))],rA [(10,.r (.one (Zau.c q)) [])],rz] [false,false] [7] [] [] (.c (ZcI _ _ h) (.c d (.c (ZgF _ _ _ k) (.c i (.c (ZeH _ _ j) (.c (show 0<=(1:Int)/\(1:Int)<((2:Nat):Int)from(by decide)) (.c (ZkG 1000 _ _ _ s) (.c (show 0<=(1:Int)/\(1:Int)<((2:Nat):Int)from(by decide)) .n))))))))
def ZeI(f:ZaF)(d:Zao)(e:Int):Option ZaF:=(match f with | .nil=>(ZnB).bind fun g=>ZeU e g d | .mk a b c=>ZeU e (ZaF.mk a b c) d)
theorem ZlT(h:ZaF)(f:Zao)(g:Int)(r:ZaF)(a:ZeI h f g=some r):ZaC Tryz.prog 313 [.one (ZaF.c h),.agg (Zao.c f),(Yj g)] (.one (ZaF.c r)):=by
 refine ZaC.of Tryz.func313 rfl rfl rfl rfl fun S0 w0=>?_;unfold ZeI at a;cases h with
 |nil=>
  dsimp only at a;obtain⟨i,j,a⟩:=Zaf a;exact Ye 7 [rz,rz,rA [(0,.r (.one (ZaF.c i)) [])]] [true] ⟨[],[],[],[],[],[0,2,4],[4],[]⟩ (.c (show true=true from rfl) (.c (Zru _ j) .n)) (Zkn S0 w0 g i f r a)
 |mk b d e=>
  dsimp only at a;exact Ye 7 [rz,rz] [false] ⟨[],[],[],[],[],[0,2,4],[4],[]⟩ (.c (show false=false from rfl) .n) (Zkn S0 w0 g (ZaF.mk b d e) f r a)
def ZdH(f:Int):Nat->ZaF->(List Zab)->Int->Int->Option ZaF|0,_,_,_,_=>none|fu+1,e,b,c,a=>bif(decide (a<c))then need (0<=a/\a<((b.length:Nat):Int))<|(Zhq e ((b.getD a.toNat Zab.d).fNet)).bind fun g=>(Zmh (b.getD a.toNat Zab.d) f).bind fun h=>bif h then bif(!g.2)then(ZeI e ((b.getD a.toNat Zab.d).fNet) ((b.getD a.toNat Zab.d).fUntil)).bind fun i=>ZdH f fu i b c (Zar a 1)else bif(decide (g.1<(b.getD a.toNat Zab.d).fUntil))then(ZeI e ((b.getD a.toNat Zab.d).fNet) ((b.getD a.toNat Zab.d).fUntil)).bind fun j=>ZdH f fu j b c (Zar a 1)else ZdH f fu e b c (Zar a 1)else ZdH f fu e b c (Zar a 1)else some e
theorem ZrB(S0:Nat->Prop)(w0:Zba)(p:Int):∀(h:Nat)(f:ZaF)(b:List Zab)(d e:Int)(r:ZaF),ZdH p h f b d e=some r->Good Tryz.prog 45 S0 w0 (bodyPost Tryz.prog Tryz.f242 (Post S0 w0 (.one (ZaF.c r)))) (at_ [1,1,0,1,0] (ZaW Tryz.f242)) ⟨[(1,(Yj p)),(5,.one (ZaF.c f)),(11,(Yl b)),(12,(Yj d)),(13,(Yj e))],[]⟩:=by
 intro h;induction h with
 |zero=>
  intro f b d e r a;simp[ZdH]at a
 |succ h i=>
  intro f b d e r a;unfold ZdH at a;rcases Zai a with⟨k,a⟩|⟨k,a⟩
  ·obtain⟨u,a⟩:=Zaq a;obtain⟨q,v,a⟩:=Zaf a;obtain⟨l,w,a⟩:=Zaf a
   let R1:List RA:=[rz,rz,rA [(3,.r (.tup [(false,(cI .i64) q.1),(false,cB q.2)]) [])]]
   have O2:Obl _:=(.c k (.c u (.c (ZgF _ _ _ v) (.c (ZqF _ _ _ w) .n))));rcases Zai a with⟨g,a⟩|⟨g,a⟩
   ·rcases Zai a with⟨j,a⟩|⟨j,a⟩
    ·obtain⟨s,x,a⟩:=Zaf a;exact Ye 19 (R1++[⟨[(2,aB l)],[(3,true),(6,true)],[],[],[],[],[]⟩,rA [(5,.r (.one (ZaF.c s)) [])],rz]) [true,true] (Yi [1,5,11,12,13]) (O2.app (.c g (.c j (.c (show true=true from rfl) (.c (ZlT _ _ _ _ x) .n))))) (i s b d (Zar e 1) r a)
    ·let R3:List RA:=(R1++[⟨[(2,aB l)],[(3,true),(6,false)],[],[],[],[],[]⟩])
     rcases Zai a with⟨m,a⟩|⟨m,a⟩
     ·obtain⟨t,o,a⟩:=Zaf a;exact Ye 19 (R3++[rA [(5,.r (.one (ZaF.c t)) [])],rz]) [true,true] (Yi [1,5,11,12,13]) (O2.app (.c g (.c j (.c m (.c (ZlT _ _ _ _ o) .n))))) (i t b d (Zar e 1) r a)
     ·exact Ye 19 (R3++[rz]) [true,false] (Yi [1,5,11,12,13]) (O2.app (.c g (.c j (.c m .n)))) (i f b d (Zar e 1) r a)
   ·exact Ye 19 (R1++[⟨[(2,aB l)],[(3,false)],[],[],[],[],[]⟩,rz]) [true,false] (Yi [1,5,11,12,13]) (O2.app (.c g (.c (show false=false from rfl) .n))) (i f b d (Zar e 1) r a)
  ·apply Ya a 8 [rz,rz] [false] (.c k .n)
def Zlc(a:List Zab)(b:Int):Option ZaF:=(ZnB).bind fun c=>ZdH b ((((a.length:Nat):Int)-(0:Int)).toNat+2) c a ((a.length:Nat):Int) (0:Int)
theorem Zue(a:List Zab)(d:Int)(r:ZaF)(b:Zlc a d=some r):ZaC Tryz.prog 242 [(Yl a),(Yj d)] (.one (ZaF.c r)):=by
 refine ZaC.of Tryz.func242 rfl rfl rfl rfl fun S0 w0=>?_;unfold Zlc at b;obtain⟨e,f,b⟩:=Zaf b;exact Ye 8 [rz,rA [(0,.r (.one (ZaF.c e)) [])],rz] [] (Yi [1,5,11,12,13]) (.c (Zru _ f) .n) (ZrB S0 w0 d ((((a.length:Nat):Int)-(0:Int)).toNat+2) e a ((a.length:Nat):Int) (0:Int) r b)
def ZbE:Nat->Zau->(List Zav)->Zag->Option (List Zav)|0,_,_,_=>none|fu+1,i,b,e=>(match i with | .nil=>some b | .mk a f c d=>(ZjG a.fNet e).bind fun j=>bif j then bif f then need ((b++([a]:List Zav)).length * 40<=140737488355328/\(b++([a]:List Zav)).length<=maxLen)<|(ZhA e a.fNet.fBits).bind fun g=>need (0<=g/\g<((2:Nat):Int))<|ix2 g ( ZbE fu c (b++([a]:List Zav)) e) ( ZbE fu d (b++([a]:List Zav)) e)else(ZhA e a.fNet.fBits).bind fun h=>need (0<=h/\h<((2:Nat):Int))<|ix2 h ( ZbE fu c b e) ( ZbE fu d b e)else some b)
theorem ZjP(S0:Nat->Prop)(w0:Zba):∀(t:Nat)(m:Zau)(f:List Zav)(g:Zag)(r:List Zav),ZbE t m f g=some r->Good Tryz.prog 57 S0 w0 (bodyPost Tryz.prog Tryz.f243 (Zbk S0 w0 [(99999,.rows 281 5 r.length (Zam Zav.c Zav.d r))] (.one (.osl 99999 r.length)))) (at_ [1,1,1,1,0,0] (ZaW Tryz.f243)) ⟨[(3,.one (.ptr 3 0)),(5,.one (.osl 5 f.length)),(6,.one (Zau.c m))],[(5,.rows 281 5 f.length (Zam Zav.c Zav.d f)),(3,.box [.lit (.bool g.fV6),.lit (.int .u64 g.fHi),.lit (.int .u64 g.fLo)])]⟩:=by
 intro t;induction t with
 |zero=>
  intro m f g r b;simp[ZbE]at b
 |succ t u=>
  intro m f g r b;unfold ZbE at b;cases m with
  |nil=>
   dsimp only at b;apply Yc b 8 [rz,rz] [false] ⟨[],[],[],[],[],[4],[5],[(5,99999)]⟩ (.c (show false=false from rfl) .n)
  |mk a y h k=>
   dsimp only at b;obtain⟨o,p,b⟩:=Zaf b;rcases Zai b with⟨l,b⟩|⟨l,b⟩
   ·rcases Zai b with⟨q,b⟩|⟨q,b⟩
    ·obtain⟨v,b⟩:=Zaq b;obtain⟨A,z,b⟩:=Zaf b;obtain⟨w,b⟩:=Zaq b;rcases Zjo w b with⟨e,b⟩|⟨e,b⟩
     ·subst e;exact Ye 15 [rA [(9,aB o)],rz,⟨[(6,.c ((f++([a]:List Zav)).length) (Zam Zav.c Zav.d (f++([a]:List Zav))))],[],[],[],[],[(5,(([a]:List Zav).length,Zam Zav.c Zav.d ([a]:List Zav)))],[]⟩,rA [(8,aI (0:Int))]] [true,true] ⟨[],[],[],[],[],[3,5,6],[42,3],[(42,5)]⟩ (.c (ZiQ _ _ _ p) (.c l (.c q (.c (show ([a]:List Zav).length=1/\∀i j,i<1->j<5->Zam Zav.c Zav.d ([a]:List Zav) i j=(([a]:List Zav).flatMap Zav.c).getD (i * 5+j) .junk from⟨rfl,fun i j hi hj=>ZaP (sz:=5) (e:=Zav.c) (d:=Zav.d) (fun _=>rfl) ([a]:List Zav) i j hi hj⟩) (.c (Zcm (sz:=5) (e:=Zav.c) (d:=Zav.d) f ([a]:List Zav)) (.c v.1 (.c v.2 (.c (Zke _ _ _ z) (.c (show 0<=(0:Int)/\(0:Int)<((2:Nat):Int)from(by decide)) .n))))))))) (u h (f++([a]:List Zav)) g r b)
     ·subst e;exact Ye 15 [rA [(9,aB o)],rz,⟨[(6,.c ((f++([a]:List Zav)).length) (Zam Zav.c Zav.d (f++([a]:List Zav))))],[],[],[],[],[(5,(([a]:List Zav).length,Zam Zav.c Zav.d ([a]:List Zav)))],[]⟩,rA [(8,aI (1:Int))]] [true,true] ⟨[],[],[],[],[],[3,5,6],[42,3],[(42,5)]⟩ (.c (ZiQ _ _ _ p) (.c l (.c q (.c (show ([a]:List Zav).length=1/\∀i j,i<1->j<5->Zam Zav.c Zav.d ([a]:List Zav) i j=(([a]:List Zav).flatMap Zav.c).getD (i * 5+j) .junk from⟨rfl,fun i j hi hj=>ZaP (sz:=5) (e:=Zav.c) (d:=Zav.d) (fun _=>rfl) ([a]:List Zav) i j hi hj⟩) (.c (Zcm (sz:=5) (e:=Zav.c) (d:=Zav.d) f ([a]:List Zav)) (.c v.1 (.c v.2 (.c (Zke _ _ _ z) (.c (show 0<=(1:Int)/\(1:Int)<((2:Nat):Int)from(by decide)) .n))))))))) (u k (f++([a]:List Zav)) g r b)
    ·obtain⟨B,s,b⟩:=Zaf b;obtain⟨x,b⟩:=Zaq b;rcases Zjo x b with⟨e,b⟩|⟨e,b⟩
     ·subst e;exact Ye 15 [rA [(9,aB o)],rz,rA [(8,aI (0:Int))]] [true,false] ⟨[],[],[],[],[],[3,5,6],[5,3],[]⟩ (.c (ZiQ _ _ _ p) (.c l (.c q (.c (Zke _ _ _ s) (.c (show 0<=(0:Int)/\(0:Int)<((2:Nat):Int)from(by decide)) .n))))) (u h f g r b)
     ·subst e;exact Ye 15 [rA [(9,aB o)],rz,rA [(8,aI (1:Int))]] [true,false] ⟨[],[],[],[],[],[3,5,6],[5,3],[]⟩ (.c (ZiQ _ _ _ p) (.c l (.c q (.c (Zke _ _ _ s) (.c (show 0<=(1:Int)/\(1:Int)<((2:Nat):Int)from(by decide)) .n))))) (u k f g r b)
   ·apply Yc b 8 [rA [(9,aB o)],rz] [false] ⟨[],[],[],[],[],[4],[5],[(5,99999)]⟩ (.c (ZiQ _ _ _ p) (.c l .n))
def ZfV(f:ZaF)(c:Zag):Option (List Zav):=(match f with | .nil=>some ([]:List Zav) | .mk a b e=>(Zfp c).bind fun g=>bif(!g)then some ([]:List Zav)else(ZgE c).bind fun d=>need (0<=d/\d<((2:Nat):Int))<|ix2 d ( ZbE 1000000 a ([]) c) ( ZbE 1000000 b ([]) c))
theorem Zpx(i:ZaF)(g:Zag)(r:List Zav)(a:ZfV i g=some r):Zcu Tryz.prog 243 [] [.one (ZaF.c i),.agg (Zag.c g)] [(99999,.rows 281 5 r.length (Zam Zav.c Zav.d r))] (.one (.osl 99999 r.length)):=by
 refine Zcu.of Tryz.func243 rfl rfl rfl rfl fun S0 w0=>?_;unfold ZfV at a;cases i with
 |nil=>
  dsimp only at a;apply Yc a 8 [rz,rz,rz] [true] ⟨[],[],[],[],[(4,99999,281,5,Zam Zav.c Zav.d [])],[4],[99999],[]⟩ (.c (show true=true from rfl) .n)
 |mk b f l=>
  dsimp only at a;obtain⟨j,k,a⟩:=Zaf a;rcases Zai a with⟨h,a⟩|⟨h,a⟩
  ·apply Yc a 8 [rz,rA [(4,aB j)],rz] [true] ⟨[],[],[],[],[(4,99999,281,5,Zam Zav.c Zav.d [])],[4],[99999],[]⟩ (.c (ZcQ _ _ k) (.c h .n))
  ·obtain⟨p,m,a⟩:=Zaf a;obtain⟨o,a⟩:=Zaq a;rcases Zjo o a with⟨e,a⟩|⟨e,a⟩
   ·subst e;exact Ye 13 [rz,rA [(4,aB j)],rz,rA [(2,aI (0:Int))]] [false] ⟨[],[],[],[],[(5,5,281,5,Zam Zav.c Zav.d [])],[3,5,6],[5,3],[]⟩ (.c (ZcQ _ _ k) (.c h (.c (ZeH _ _ m) (.c (show 0<=(0:Int)/\(0:Int)<((2:Nat):Int)from(by decide)) .n)))) (ZjP S0 w0 1000000 b ([]) g r a)
   ·subst e;exact Ye 13 [rz,rA [(4,aB j)],rz,rA [(2,aI (1:Int))]] [false] ⟨[],[],[],[],[(5,5,281,5,Zam Zav.c Zav.d [])],[3,5,6],[5,3],[]⟩ (.c (ZcQ _ _ k) (.c h (.c (ZeH _ _ m) (.c (show 0<=(1:Int)/\(1:Int)<((2:Nat):Int)from(by decide)) .n)))) (ZjP S0 w0 1000000 f ([]) g r a)
theorem Zqe(a:ZaF)(b:Zag)(r:List Zav)(e:ZfV a b=some r):ZaC Tryz.prog 243 [.one (ZaF.c a),.agg (Zag.c b)] (.one (cL 5 Zav.c Zav.d r)):=(Zpx a b r e).pure
def Zgp:Nat->Int->(List Zav)->Int->Int->Option Int|0,_,_,_,_=>none|fu+1,e,b,c,a=>bif(decide (a<c))then need (0<=a/\a<((b.length:Nat):Int))<|Zgp fu (if(b.getD a.toNat Zav.d).fV>e then(b.getD a.toNat Zav.d).fV else e) b c (Zar a 1)else some e
theorem ZrC(S0:Nat->Prop)(w0:Zba):∀(h:Nat)(g:Int)(a:List Zav)(e b r:Int),Zgp h g a e b=some r->Good Tryz.prog 35 S0 w0 (bodyPost Tryz.prog Tryz.f181 (Post S0 w0 ((Yj r)))) (at_ [1,1,1,1,0,1,0] (ZaW Tryz.f181)) ⟨[(8,(Yj g)),(23,.one (cL 5 Zav.c Zav.d a)),(24,(Yj e)),(25,(Yj b))],[]⟩:=by
 intro h;induction h with
 |zero=>
  intro g a e b r f;simp[Zgp]at f
 |succ h j=>
  intro g a e b r f;unfold Zgp at f;rcases Zai f with⟨i,f⟩|⟨i,f⟩
  ·obtain⟨k,f⟩:=Zaq f;exact Ye 14 [rz,rz,rz,rz] [true] (Yi [8,23,24,25]) (.c i (.c k .n)) (j (if(a.getD b.toNat Zav.d).fV>g then(a.getD b.toNat Zav.d).fV else g) a e (Zar b 1) r f)
  ·apply Ya f 8 [rz,rz] [false] (.c i .n)
def ZiF(b:List Zab)(c:Zag)(e:Int):Option Int:=(Zlc b e).bind fun f=>(ZfV f c).bind fun a=>bif(((a.length:Nat):Int)==(0:Int))then some (0:Int)else need (0<=(0:Int)/\(0:Int)<((a.length:Nat):Int))<|Zgp ((((a.length:Nat):Int)-(0:Int)).toNat+2) ((a.getD (0:Int).toNat Zav.d).fV) a ((a.length:Nat):Int) (0:Int)
theorem Zuf(f:List Zab)(g:Zag)(h r:Int)(a:ZiF f g h=some r):ZaC Tryz.prog 181 [(Yl f),.agg (Zag.c g),(Yj h)] ((Yj r)):=by
 refine ZaC.of Tryz.func181 rfl rfl rfl rfl fun S0 w0=>?_;unfold ZiF at a;obtain⟨i,j,a⟩:=Zaf a;obtain⟨b,k,a⟩:=Zaf a
 let R1:List RA:=[rz,rA [(2,.r (.one (ZaF.c i)) []),(4,.r (.one (cL 5 Zav.c Zav.d b)) [])],rz,rz]
 have O2:Obl _:=(.c (Zue _ _ _ j) (.c (Zqe _ _ _ k) .n));rcases Zai a with⟨e,a⟩|⟨e,a⟩
 ·apply Ya a 10 R1 [true] (O2.app (.c e .n))
 ·obtain⟨l,a⟩:=Zaq a;exact Ye 15 (R1++[rz]) [false] (Yi [8,23,24,25]) (O2.app (.c e (.c l .n))) (ZrC S0 w0 ((((b.length:Nat):Int)-(0:Int)).toNat+2) ((b.getD (0:Int).toNat Zav.d).fV) b ((b.length:Nat):Int) (0:Int) r a)
def ZhX(d:Zan)(e:Int)(f:Bool):Option (Tout Unit):=(Zcr d (ZaK.mk 4 e (Zay.mk 0 0 0) 0 0 (Zae.mk 0 (Zaa.mk (Zah.mk (Zag.mk false 0 0) 0) false 0 (Zax.mk 0 0) 0 0) ([]:(List Zab)) ([]:(List Zac))) f)).bind fun g=>(match g with | .ret h a=>some (Tout.ret () a) | .pan b=>some (Tout.pan b) | .bad c=>some (Tout.bad c))
theorem Zhi(g:Zan)(h:Int)(i:Bool)(r:(Tout Unit))(a:ZhX g h i=some r):Zfs Tryz.prog 461 [(100000,.box (Zan.c g))] [.one (.ptr 100000 0),(Yj h),(Yk i)] (oc (fun x=>.tup []) r):=by
 refine Zfs.of Tryz.func461 rfl rfl rfl rfl fun S0 w0=>?_;unfold ZhX at a;obtain⟨j,b,a⟩:=Zaf a;cases j with
 |ret e f=>
  dsimp only at a;obtain rfl:=oi a;exact Yd 1 [⟨[],[],[],[],[(3,[(18,cL 5 Zab.c Zab.d []),(19,cL 7 Zac.c Zac.d [])])],[],[(4,⟨[(100000,100000)],[],[(100000,.box (Zan.c f))],.agg (Zae.c e)⟩)]⟩] [] ⟨[],[],[],[],[],[],[100000],[]⟩ (.c (Zbw _ _ _ b) .n)
 |_=>
  dsimp only at a;obtain rfl:=oi a;exact Yh 0 [] [] (⟨[],[],[],[],[(3,[(18,cL 5 Zab.c Zab.d []),(19,cL 7 Zac.c Zac.d [])])],[],[]⟩) 4 ⟨[(100000,100000)],pvOf b⟩ (.c (Zbw _ _ _ b) .n)
def ZgM(k:Zbg)(l:Zan):Option (Tout Zap):=(Zhr l (0:Int) false).bind fun m=>(match m with | .ret n a=>(ZhK a).bind fun o=>(match o with | .ret b c=>(ZiF b k.fx.fEnd.fAddr k.fx.fNow).bind fun p=>(ZhX c (0:Int) true).bind fun q=>(match q with | .ret r d=>some (Tout.ret (Zap.mk 0 (Zah.mk (Zag.mk false 0 0) 0) 0 p ([]:(List Zaa))) d) | .pan e=>some (Tout.pan e) | .bad f=>some (Tout.bad f)) | .pan g=>some (Tout.pan g) | .bad h=>some (Tout.bad h)) | .pan i=>some (Tout.pan i) | .bad j=>some (Tout.bad j))
theorem Zko(k:Zbg)(l:Zan)(r:(Tout Zap))(a:ZgM k l=some r):Zfs Tryz.prog 190 [(100000,.box (Zan.c l))] [.agg (Zbg.c k),.one (.ifc 112 (.ptr 100000 0))] (oc (fun x=>.agg (Zap.c x)) r):=by
 refine Zfs.of Tryz.func190 rfl rfl rfl rfl fun S0 w0=>?_;unfold ZgM at a;obtain⟨m,b,a⟩:=Zaf a;cases m with
 |ret o e=>
  dsimp only at a
  let R1:List RA:=[rz,rH [(1,.id 466)] [(1,⟨[(100000,100000)],[],[(100000,.box (Zan.c e))],.tup []⟩)]]
  have O2:Obl _:=(.c (ZgG _ _ _ _ b) (.c ZpV .n));obtain⟨p,f,a⟩:=Zaf a;cases p with
  |ret g h=>
   dsimp only at a;obtain⟨q,s,a⟩:=Zaf a
   let R3:List RA:=(R1++[rH [(9,aI q)] [(1,⟨[(100000,100000)],[],[(100000,.box (Zan.c h))],(Yl g)⟩)]])
   have O4:Obl _:=(O2.app (.c (Zeb _ _ f) (.c (Zuf _ _ _ _ s) .n)));obtain⟨t,i,a⟩:=Zaf a;cases t with
   |ret u j=>
    dsimp only at a;obtain rfl:=oi a;exact Yd 10 (R3++[rH [(1,.id 461)] [(1,⟨[(100000,100000)],[],[(100000,.box (Zan.c j))],.tup []⟩)],rz]) [] ⟨[],[(4,[(7,cL 10 Zaa.c Zaa.d [])])],[],[],[],[4],[4,100000],[]⟩ (O4.app (.c (Zhi _ _ _ _ i) (.c Zrn .n)))
   |_=>
    dsimp only at a;obtain rfl:=oi a;exact Yh 7 R3 [] (rA [(1,.id 461)]) 1 ⟨[(100000,100000)],pvOf i⟩ (O4.app (.c (Zhi _ _ _ _ i) (.c Zrn .n)))
  |_=>
   dsimp only at a;obtain rfl:=oi a;exact Yh 5 R1 [] (rz) 1 ⟨[(100000,100000)],pvOf f⟩ (O2.app (.c (Zeb _ _ f) .n))
 |_=>
  dsimp only at a;obtain rfl:=oi a;exact Yh 3 [rz] [] (rA [(1,.id 466)]) 1 ⟨[(100000,100000)],pvOf b⟩ (.c (ZgG _ _ _ _ b) (.c ZpV .n))
def Zfo(f:List Zab)(g:Int):Nat->(List Zab)->Int->Int->(List Zab)->Option ((List Zab)×Int)|0,_,_,_,_=>none|fu+1,b,c,a,e=>bif(decide (a<c))then need (0<=a/\a<((b.length:Nat):Int))<|(Zmh (b.getD a.toNat Zab.d) g).bind fun h=>bif h then need ((e++([(b.getD a.toNat Zab.d)]:List Zab)).length * 40<=140737488355328/\(e++([(b.getD a.toNat Zab.d)]:List Zab)).length<=maxLen)<|Zfo f g fu b c (Zar a 1) (e++([(b.getD a.toNat Zab.d)]:List Zab))else Zfo f g fu b c (Zar a 1) e else some (e,(ZaV ((f.length:Nat):Int) ((e.length:Nat):Int)))
theorem ZrD(S0:Nat->Prop)(w0:Zba)(o:List Zab)(p:Int):∀(k:Nat)(f:List Zab)(g a:Int)(h:List Zab)(r:((List Zab)×Int)),Zfo o p k f g a h=some r->Good Tryz.prog 29 S0 w0 (bodyPost Tryz.prog Tryz.f253 (Post S0 w0 (.tup [(false,(cLs 5 Zab.c Zab.d) r.1),(false,(cI .i64) r.2)]))) (at_ [1,1,0,1,0] (ZaW Tryz.f253)) ⟨[(0,(Yl o)),(1,(Yj p)),(6,.one (.osl 6 h.length)),(9,(Yl f)),(10,(Yj g)),(11,(Yj a))],[(6,.rows 146 5 h.length (Zam Zab.c Zab.d h))]⟩:=by
 intro k;induction k with
 |zero=>
  intro f g a h r b;simp[Zfo]at b
 |succ k q=>
  intro f g a h r b;unfold Zfo at b;rcases Zai b with⟨l,b⟩|⟨l,b⟩
  ·obtain⟨o2,b⟩:=Zaq b;obtain⟨s,u,b⟩:=Zaf b;have O1:Obl _:=(.c l (.c o2 (.c (ZqF _ _ _ u) .n)));rcases Zai b with⟨m,b⟩|⟨m,b⟩
   ·obtain⟨t,b⟩:=Zaq b;exact Ye 17 [rz,rz,rA [(2,aB s)],⟨[(3,.c ((h++([(f.getD a.toNat Zab.d)]:List Zab)).length) (Zam Zab.c Zab.d (h++([(f.getD a.toNat Zab.d)]:List Zab))))],[],[],[],[],[(2,(([(f.getD a.toNat Zab.d)]:List Zab).length,Zam Zab.c Zab.d ([(f.getD a.toNat Zab.d)]:List Zab)))],[]⟩,rz] [true,true] ⟨[],[],[],[],[],[0,1,6,9,10,11],[21],[(21,6)]⟩ (O1.app (.c m (.c (show ([(f.getD a.toNat Zab.d)]:List Zab).length=1/\∀i j,i<1->j<5->Zam Zab.c Zab.d ([(f.getD a.toNat Zab.d)]:List Zab) i j=(([(f.getD a.toNat Zab.d)]:List Zab).flatMap Zab.c).getD (i * 5+j) .junk from⟨rfl,fun i j hi hj=>ZaP (sz:=5) (e:=Zab.c) (d:=Zab.d) (fun _=>rfl) ([(f.getD a.toNat Zab.d)]:List Zab) i j hi hj⟩) (.c (Zcm (sz:=5) (e:=Zab.c) (d:=Zab.d) h ([(f.getD a.toNat Zab.d)]:List Zab)) (.c t.1 (.c t.2 .n)))))) (q f g (Zar a 1) (h++([(f.getD a.toNat Zab.d)]:List Zab)) r b)
   ·exact Ye 17 [rz,rz,rA [(2,aB s)],rz] [true,false] ⟨[],[],[],[],[],[0,1,6,9,10,11],[6],[]⟩ (O1.app (.c m .n)) (q f g (Zar a 1) h r b)
  ·apply Yb b 8 [rz,rz] [false] [6] [] [] (.c l .n)
def Zld(a:List Zab)(b:Int):Option ((List Zab)×Int):=Zfo a b ((((a.length:Nat):Int)-(0:Int)).toNat+2) a ((a.length:Nat):Int) (0:Int) ([])
theorem Zug(a:List Zab)(b:Int)(r:((List Zab)×Int))(e:Zld a b=some r):ZaC Tryz.prog 253 [(Yl a),(Yj b)] (.tup [(false,(cLs 5 Zab.c Zab.d) r.1),(false,(cI .i64) r.2)]):=by
 refine ZaC.of Tryz.func253 rfl rfl rfl rfl fun S0 w0=>?_;unfold Zld at e;exact Ye 8 [rz,rz,rz] [] ⟨[],[],[],[],[(6,6,146,5,Zam Zab.c Zab.d [])],[0,1,6,9,10,11],[6],[]⟩ .n (ZrD S0 w0 a b ((((a.length:Nat):Int)-(0:Int)).toNat+2) a ((a.length:Nat):Int) (0:Int) ([]) r e)
def ZhZ(r:Zbg)(s:Zan):Option (Tout Zap):=(Zeg s (0:Int) false).bind fun t=>(match t with | .ret u c=>(ZhK c).bind fun v=>(match v with | .ret d b=>(Zld d r.fx.fNow).bind fun a=>bif(decide (a.2>(0:Int)))then(Zjg).bind fun w=>(ZdM b w (Zae.mk 0 (Zaa.mk (Zah.mk (Zag.mk false 0 0) 0) false 0 (Zax.mk 0 0) 0 0) a.1 ([]:(List Zac))) true).bind fun x=>(match x with | .ret y e=>(Zcy e (0:Int) (a.2==(0:Int))).bind fun z=>(match z with | .ret A f=>some (Tout.ret (Zap.mk 0 (Zah.mk (Zag.mk false 0 0) 0) a.2 0 ([]:(List Zaa))) f) | .pan g=>some (Tout.pan g) | .bad h=>some (Tout.bad h)) | .pan i=>some (Tout.pan i) | .bad j=>some (Tout.bad j))else(Zcy b (0:Int) (a.2==(0:Int))).bind fun B=>(match B with | .ret C k=>some (Tout.ret (Zap.mk 0 (Zah.mk (Zag.mk false 0 0) 0) a.2 0 ([]:(List Zaa))) k) | .pan l=>some (Tout.pan l) | .bad m=>some (Tout.bad m)) | .pan n=>some (Tout.pan n) | .bad o=>some (Tout.bad o)) | .pan p=>some (Tout.pan p) | .bad q=>some (Tout.bad q))
theorem Zlo(q:Zbg)(s:Zan)(r:(Tout Zap))(a:ZhZ q s=some r):Zfs Tryz.prog 191 [(100000,.box (Zan.c s))] [.agg (Zbg.c q),.one (.ifc 112 (.ptr 100000 0))] (oc (fun x=>.agg (Zap.c x)) r):=by
 refine Zfs.of Tryz.func191 rfl rfl rfl rfl fun S0 w0=>?_;unfold ZhZ at a;obtain⟨v,e,a⟩:=Zaf a;cases v with
 |ret w f=>
  dsimp only at a
  let R1:List RA:=[rz,rH [(1,.id 464)] [(1,⟨[(100000,100000)],[],[(100000,.box (Zan.c f))],.tup []⟩)]]
  have O2:Obl _:=(.c (ZbT _ _ _ _ e) (.c ZhU .n));obtain⟨y,g,a⟩:=Zaf a;cases y with
  |ret h i=>
   dsimp only at a;obtain⟨t,z,a⟩:=Zaf a
   let R3:List RA:=(R1++[rH [(5,.r (.tup [(false,(cLs 5 Zab.c Zab.d) t.1),(false,(cI .i64) t.2)]) [])] [(1,⟨[(100000,100000)],[],[(100000,.box (Zan.c i))],(Yl h)⟩)],rz])
   have O4:Obl _:=(O2.app (.c (Zeb _ _ g) (.c (Zug _ _ _ z) .n)));rcases Zai a with⟨b,a⟩|⟨b,a⟩
   ·obtain⟨u,A,a⟩:=Zaf a;have O5:Obl _:=(O4.app (.c b (.c (ZkT _ A) (.c Zku .n))));obtain⟨B,j,a⟩:=Zaf a;cases B with
    |ret C k=>
     dsimp only at a
     let R6:List RA:=(R3++[⟨[(1,aG (Zay.c u)),(7,.id 467)],[],[],[],[(3,[(12,cL 7 Zac.c Zac.d [])])],[],[(7,⟨[(100000,100000)],[],[(100000,.box (Zan.c k))],.tup []⟩)]⟩])
     have O7:Obl _:=(O5.app (.c (ZbM _ _ _ _ _ j) (.c Zgx .n)));obtain⟨D,l,a⟩:=Zaf a;cases D with
     |ret E m=>
      dsimp only at a;obtain rfl:=oi a;exact Yd 15 (R6++[rH [(3,.id 462)] [(3,⟨[(100000,100000)],[],[(100000,.box (Zan.c m))],.tup []⟩)],rz]) [true] ⟨[],[(4,[(7,cL 10 Zaa.c Zaa.d [])])],[],[],[],[4],[4,100000],[]⟩ (O7.app (.c (Zbh _ _ _ _ l) (.c ZeM .n)))
     |_=>
      dsimp only at a;obtain rfl:=oi a;exact Yh 12 R6 [true] (rA [(3,.id 462)]) 3 ⟨[(100000,100000)],pvOf l⟩ (O7.app (.c (Zbh _ _ _ _ l) (.c ZeM .n)))
    |_=>
     dsimp only at a;obtain rfl:=oi a;exact Yh 10 R3 [true] (⟨[(1,aG (Zay.c u)),(7,.id 467)],[],[],[],[(3,[(12,cL 7 Zac.c Zac.d [])])],[],[]⟩) 7 ⟨[(100000,100000)],pvOf j⟩ (O5.app (.c (ZbM _ _ _ _ _ j) (.c Zgx .n)))
   ·obtain⟨F,o,a⟩:=Zaf a;cases F with
    |ret G p=>
     dsimp only at a;obtain rfl:=oi a;exact Yd 15 (R3++[rH [(3,.id 462)] [(3,⟨[(100000,100000)],[],[(100000,.box (Zan.c p))],.tup []⟩)],rz]) [false] ⟨[],[(4,[(7,cL 10 Zaa.c Zaa.d [])])],[],[],[],[4],[4,100000],[]⟩ (O4.app (.c b (.c (Zbh _ _ _ _ o) (.c ZeM .n))))
    |_=>
     dsimp only at a;obtain rfl:=oi a;exact Yh 12 R3 [false] (rA [(3,.id 462)]) 3 ⟨[(100000,100000)],pvOf o⟩ (O4.app (.c b (.c (Zbh _ _ _ _ o) (.c ZeM .n))))
  |_=>
   dsimp only at a;obtain rfl:=oi a;exact Yh 5 R1 [] (rz) 1 ⟨[(100000,100000)],pvOf g⟩ (O2.app (.c (Zeb _ _ g) .n))
 |_=>
  dsimp only at a;obtain rfl:=oi a;exact Yh 3 [rz] [] (rA [(1,.id 464)]) 1 ⟨[(100000,100000)],pvOf e⟩ (.c (ZbT _ _ _ _ e) (.c ZhU .n))
def Zcv(a:List Zaa):Option (List Zaa):=need (0<a.length)<|need ((([]:List Zaa)++a).length * 80<=140737488355328/\(([]:List Zaa)++a).length<=maxLen)<|some (([]:List Zaa)++a)
theorem Zfy(b r:List Zaa)(a:Zcv b=some r):Zcu Tryz.prog 270 [] [(Yn b)] [(99999,.rows 44 10 r.length (Zam Zaa.c Zaa.d r))] (.one (.osl 99999 r.length)):=by
 refine Zcu.of Tryz.func270 rfl rfl rfl rfl fun S0 w0=>?_;unfold Zcv at a;obtain⟨o1,a⟩:=Zaq a;obtain⟨o2,a⟩:=Zaq a;apply Yc a 9 [rz,rz,rA [(0,.c ([]:List Zaa).length (Zam Zaa.c Zaa.d ([]:List Zaa))),(2,.c ((([]:List Zaa)++b).length) (Zam Zaa.c Zaa.d (([]:List Zaa)++b)))]] [false] ⟨[],[],[],[],[],[2],[7],[(7,99999)]⟩ (.c o1 (.c (show false=false from rfl) (.c (show ([]:List Zaa).length=0 from rfl) (.c (show ∀i j,i<0->j<10->Zam Zaa.c Zaa.d ([]:List Zaa) i j=(([]:List Zaa).flatMap Zaa.c).getD (i * 10+j) .junk from(fun i j hi hj=>ZaP (sz:=10) (e:=Zaa.c) (d:=Zaa.d) (fun _=>rfl) ([]:List Zaa) i j hi hj)) (.c (Zcm (sz:=10) (e:=Zaa.c) (d:=Zaa.d) ([]:List Zaa) b) (.c o2.1 (.c o2.2 .n)))))))
theorem ZfY(x:Addr)(cap:Nat)(c:Nat->Nat->C):Zcu Tryz.prog 270 [] [.one (.lit (.slice (some x) 0 cap))] [(99999,.rows 44 10 0 c)] (.one (.osl 99999 0)):=by
 refine Zcu.of Tryz.func270 rfl rfl rfl rfl fun S0 w0=>?_;exact Zjv Zak 9 _ _ [⟨[],[],[],[],[],[],[]⟩,⟨[(1,.r ((Yk false)) [])],[],[],[],[],[],[]⟩,⟨[(0,.c 0 c),(2,.c 0 c)],[],[],[],[],[],[]⟩] [false] ⟨[],[],[],[],[],[2],[7],[(7,99999)]⟩
  [∀w,(do eqGuard .eql 54 (.tmp 3) (.const (.slice none 0 0)) (.slice (some x) 0 cap) (.slice none 0 0);binOp .eql 54 (.slice (some x) 0 cap) (.slice none 0 0):Sem Value).run Tryz.prog w=.ok (.bool false) w,false=false,0=0,∀i j,i<0->j<10->c i j=([]:List C).getD (i * 10+j) .junk,Ext 10 0 0 c (fun _ _=>.junk) 0 c,0 * 80<=140737488355328,0<=maxLen] (by kernel_rfl) ⟨fun w=>by
   have hg:(eqGuard .eql 54 (.tmp 3) (.const (.slice none 0 0)) (.slice (some x) 0 cap) (.slice none 0 0)).run Tryz.prog w=.ok () w:=by simp[eqGuard]
   rw[Sem.run_bind,hg,Result.andThen_ok];exact Go.run_eql_slice_nil w _ _ (some x) 0 cap Tryz.underlying54,rfl,rfl,fun i j h=>absurd h (Nat.not_lt_zero i),⟨rfl,fun _ _ h=>absurd h (Nat.not_lt_zero _),fun _ _ h=>absurd h (Nat.not_lt_zero _)⟩,by decide,by decide,trivial⟩
theorem ZfX(cap:Nat)(c:Nat->Nat->C):Zcu Tryz.prog 270 [] [.one (.lit (.slice none 0 cap))] [(99999,.rows 44 10 0 c)] (.one (.osl 99999 0)):=by
 refine Zcu.of Tryz.func270 rfl rfl rfl rfl fun S0 w0=>?_;exact Zjv Zak 8 _ _ [⟨[],[],[],[],[],[],[]⟩,⟨[(1,.r ((Yk true)) [])],[],[],[],[],[],[]⟩,⟨[],[],[],[],[],[],[]⟩] [true] ⟨[],[],[],[],[(2,99999,44,10,c)],[2],[99999],[]⟩
  [∀w,(do eqGuard .eql 54 (.tmp 3) (.const (.slice none 0 0)) (.slice none 0 cap) (.slice none 0 0);binOp .eql 54 (.slice none 0 cap) (.slice none 0 0):Sem Value).run Tryz.prog w=.ok (.bool true) w,true=true] (by kernel_rfl) ⟨fun w=>by
   have hg:(eqGuard .eql 54 (.tmp 3) (.const (.slice none 0 0)) (.slice none 0 cap) (.slice none 0 0)).run Tryz.prog w=.ok () w:=by simp[eqGuard]
   rw[Sem.run_bind,hg,Result.andThen_ok];exact Go.run_eql_slice_nil w _ _ none 0 cap Tryz.underlying54,rfl,trivial⟩
def ZbR(a:List Zaa):Option (List Zaa):=need (a.length * 80<=140737488355328/\a.length<=maxLen)<|some a
theorem ZfW(a r:List Zaa)(b:ZbR a=some r):Zcu Tryz.prog 270 [] [(Yn a)] [(99999,.rows 44 10 r.length (Zam Zaa.c Zaa.d r))] (.one (.osl 99999 r.length)):=by
 obtain⟨o1,b⟩:=Zaq b;cases b;refine Zra ⟨_,Tryz.func270,rfl,rfl⟩ (fun h cap=>?_) (fun h x cap=>?_) (fun h=>?_)
 ·rw[h];exact ZfX cap _
 ·rw[h];exact ZfY x cap _
 ·refine Zfy a a ?_;unfold Zcv;rw[ZpU h,ZpU (by simpa using o1)];simp
def Zjh(a b:Zah):Option Int:=(Zij a.fAddr b.fAddr).bind fun c=>(ZeZ a.fPort b.fPort).bind fun d=>(ZgV ([c,d]:List Int)).bind fun e=>some e
theorem Zsl(g h:Zah)(r:Int)(a:Zjh g h=some r):ZaC Tryz.prog 275 [.agg (Zah.c g),.agg (Zah.c h)] ((Yj r)):=by
 refine ZaC.of Tryz.func275 rfl rfl rfl rfl fun S0 w0=>?_;unfold Zjh at a;obtain⟨b,k,a⟩:=Zaf a;obtain⟨f,l,a⟩:=Zaf a;obtain⟨m,o,a⟩:=Zaf a;apply Ya a 4 [rz,⟨[(4,aI b),(9,aI f),(11,aI m)],[],[],[],[],[(10,(([b,f]:List Int).length,Zam (cI .i64) (0:Int) ([b,f]:List Int)))],[]⟩] [] (.c (ZnS _ _ _ k) (.c (ZiY _ _ _ l) (.c (show ([b,f]:List Int).length=2/\∀i j,i<2->j<1->Zam (cI .i64) (0:Int) ([b,f]:List Int) i j=(([b,f]:List Int).flatMap (cI .i64)).getD (i * 1+j) .junk from⟨rfl,fun i j hi hj=>ZaP (sz:=1) (e:=(cI .i64)) (d:=(0:Int)) (fun _=>rfl) ([b,f]:List Int) i j hi hj⟩) (.c (Zmd _ _ o) .n))))
def ZgI(a b:Zaa):Option Int:=(Zjh a.fEnd b.fEnd).bind fun c=>some c
theorem Zjr(b d:Zaa)(r:Int)(a:ZgI b d=some r):ZaC Tryz.prog 325 [.agg (Zaa.c b),.agg (Zaa.c d)] ((Yj r)):=by
 refine ZaC.of Tryz.func325 rfl rfl rfl rfl fun S0 w0=>?_;unfold ZgI at a;obtain⟨e,f,a⟩:=Zaf a;apply Ya a 4 [rz,rA [(4,aI e)]] [] (.c (Zsl _ _ _ f) .n)
def ZaT(e f c:Int)(ai:Int->(List Zaa)->Option (List Zaa)):Nat->Int->(List Zaa)->Option (List Zaa)|0,_,_=>none|fu+1,b,a=>bif(decide (b>e))then need (0<=b/\b<((a.length:Nat):Int))<|need (0<=(ZaV b (1:Int))/\(ZaV b (1:Int))<((a.length:Nat):Int))<|(ZgI (a.getD b.toNat Zaa.d) (a.getD ((ZaV b (1:Int)).toNat) Zaa.d)).bind fun g=>bif(decide (g<(0:Int)))then ZaT e f c ai fu (ZaV b (1:Int)) ((a.set b.toNat (a.getD ((ZaV b (1:Int)).toNat) Zaa.d)).set ((ZaV b (1:Int)).toNat) (a.getD b.toNat Zaa.d))else ai (Zar c 1) a else ai (Zar c 1) a
theorem ZgJ(S0:Nat->Prop)(w0:Zba)(j k h:Int)(ai:Int->(List Zaa)->Option (List Zaa))(aE:∀(dC:Int)(am r:List Zaa),ai dC am=some r->Good Tryz.prog 53 S0 w0 (bodyPost Tryz.prog Tryz.f391 (Zbk S0 w0 [(100000,.rows 44 10 r.length (Zam Zaa.c Zaa.d r))] (.tup []))) (at_ [1,0] (ZaW Tryz.f391)) ⟨[(0,.one (.osl 100000 am.length)),(1,(Yj j)),(2,(Yj k)),(3,.one (.lit (.func (.func 325) #[] #[]))),(8,(Yj dC))],[(100000,.rows 44 10 am.length (Zam Zaa.c Zaa.d am))]⟩):∀(i:Nat)(b:Int)(a r:List Zaa),ZaT j k h ai i b a=some r->Good Tryz.prog 53 S0 w0 (bodyPost Tryz.prog Tryz.f391 (Zbk S0 w0 [(100000,.rows 44 10 r.length (Zam Zaa.c Zaa.d r))] (.tup []))) (at_ [1,0,0,1,0,0,1,0] (ZaW Tryz.f391)) ⟨[(0,.one (.osl 100000 a.length)),(1,(Yj j)),(2,(Yj k)),(3,.one (.lit (.func (.func 325) #[] #[]))),(8,(Yj h)),(9,(Yj b))],[(100000,.rows 44 10 a.length (Zam Zaa.c Zaa.d a))]⟩:=by
 intro i;induction i with
 |zero=>
  intro b a r e;simp[ZaT]at e
 |succ i o=>
  intro b a r e;unfold ZaT at e;rcases Zai e with⟨l,e⟩|⟨l,e⟩
  ·obtain⟨f,e⟩:=Zaq e;obtain⟨g,e⟩:=Zaq e;obtain⟨p,q,e⟩:=Zaf e
   let R1:List RA:=[⟨[(14,aI p)],[(3,true)],[],[],[],[],[]⟩]
   have O2:Obl _:=(.c l (.c f (.c (show b.toNat<a.length from(ltOf f)) (.c g (.c (show (ZaV b (1:Int)).toNat<a.length from(ltOf g)) (.c (Zjr _ _ _ q) .n))))));rcases Zai e with⟨m,e⟩|⟨m,e⟩
   ·exact Ye 12 (R1++[rA [(15,.c (a.set b.toNat (a.getD ((ZaV b (1:Int)).toNat) Zaa.d)).length (Zam Zaa.c Zaa.d (a.set b.toNat (a.getD ((ZaV b (1:Int)).toNat) Zaa.d)))),(17,.c ((a.set b.toNat (a.getD ((ZaV b (1:Int)).toNat) Zaa.d)).set ((ZaV b (1:Int)).toNat) (a.getD b.toNat Zaa.d)).length (Zam Zaa.c Zaa.d ((a.set b.toNat (a.getD ((ZaV b (1:Int)).toNat) Zaa.d)).set ((ZaV b (1:Int)).toNat) (a.getD b.toNat Zaa.d))))],rz]) [true] ⟨[],[],[],[(100000,(((a.set b.toNat (a.getD ((ZaV b (1:Int)).toNat) Zaa.d)).set ((ZaV b (1:Int)).toNat) (a.getD b.toNat Zaa.d)).length))],[],[0,1,2,3,8,9],[100000],[]⟩ (O2.app (.c m (.c g (.c (show (ZaV b (1:Int)).toNat<a.length from(ltOf g)) (.c f (.c (show b.toNat<a.length from(ltOf f)) (.c f (.c (show (a.set b.toNat (a.getD ((ZaV b (1:Int)).toNat) Zaa.d)).length=a.length from List.length_set) (.c (show b.toNat<a.length from(ltOf f)) (.c (show ExtU 10 a.length (Zam Zaa.c Zaa.d a) b.toNat 0 (Zaa.c (a.getD ((ZaV b (1:Int)).toNat) Zaa.d)) (Zam Zaa.c Zaa.d (a.set b.toNat (a.getD ((ZaV b (1:Int)).toNat) Zaa.d)))from(ZiG _ _ _ rfl)) (.c g (.c (show ((a.set b.toNat (a.getD ((ZaV b (1:Int)).toNat) Zaa.d)).set ((ZaV b (1:Int)).toNat) (a.getD b.toNat Zaa.d)).length=(a.set b.toNat (a.getD ((ZaV b (1:Int)).toNat) Zaa.d)).length from List.length_set) (.c (show (ZaV b (1:Int)).toNat<(a.set b.toNat (a.getD ((ZaV b (1:Int)).toNat) Zaa.d)).length from(by have:=ltOf g;simp at this ⊢;omega)) (.c (show ExtU 10 ((a.set b.toNat (a.getD ((ZaV b (1:Int)).toNat) Zaa.d)).length) (Zam Zaa.c Zaa.d (a.set b.toNat (a.getD ((ZaV b (1:Int)).toNat) Zaa.d))) ((ZaV b (1:Int)).toNat) 0 (Zaa.c (a.getD b.toNat Zaa.d)) (Zam Zaa.c Zaa.d ((a.set b.toNat (a.getD ((ZaV b (1:Int)).toNat) Zaa.d)).set ((ZaV b (1:Int)).toNat) (a.getD b.toNat Zaa.d)))from(ZiG _ _ _ rfl)) (.c (show ((a.set b.toNat (a.getD ((ZaV b (1:Int)).toNat) Zaa.d)).set ((ZaV b (1:Int)).toNat) (a.getD b.toNat Zaa.d)).length=((a.set b.toNat (a.getD ((ZaV b (1:Int)).toNat) Zaa.d)).set ((ZaV b (1:Int)).toNat) (a.getD b.toNat Zaa.d)).length from rfl) .n))))))))))))))) (o (ZaV b (1:Int)) ((a.set b.toNat (a.getD ((ZaV b (1:Int)).toNat) Zaa.d)).set ((ZaV b (1:Int)).toNat) (a.getD b.toNat Zaa.d)) r e)
   ·exact Ye 9 (R1++[rz]) [false] ⟨[],[],[],[],[],[0,1,2,3,8],[100000],[]⟩ (O2.app (.c m .n)) (aE (Zar h 1) a r e)
  ·exact Ye 9 [rB [(3,false)],rz] [false] ⟨[],[],[],[],[],[0,1,2,3,8],[100000],[]⟩ (.c l (.c (show false=false from rfl) .n)) (aE (Zar h 1) a r e)
def ZaI(c d:Int):Nat->Int->(List Zaa)->Option (List Zaa)|0,_,_=>none|fu+1,b,a=>bif(decide (b<d))then ZaT c d b (ZaI c d fu) ((b-c).toNat+2) b a else some a
theorem ZgK(S0:Nat->Prop)(w0:Zba)(f h:Int):∀(g:Nat)(e:Int)(a r:List Zaa),ZaI f h g e a=some r->Good Tryz.prog 53 S0 w0 (bodyPost Tryz.prog Tryz.f391 (Zbk S0 w0 [(100000,.rows 44 10 r.length (Zam Zaa.c Zaa.d r))] (.tup []))) (at_ [1,0] (ZaW Tryz.f391)) ⟨[(0,.one (.osl 100000 a.length)),(1,(Yj f)),(2,(Yj h)),(3,.one (.lit (.func (.func 325) #[] #[]))),(8,(Yj e))],[(100000,.rows 44 10 a.length (Zam Zaa.c Zaa.d a))]⟩:=by
 intro g;induction g with
 |zero=>
  intro e a r b;simp[ZaI]at b
 |succ g j=>
  intro e a r b;unfold ZaI at b;rcases Zai b with⟨i,b⟩|⟨i,b⟩
  ·exact Ye 11 [rz,rz] [true] ⟨[],[],[],[],[],[0,1,2,3,8,9],[100000],[]⟩ (.c i .n) (ZgJ S0 w0 f h e (ZaI f h g) j ((e-f).toNat+2) e a r b)
  ·apply Yc b 6 [rz] [false] ⟨[],[],[],[],[],[],[100000],[]⟩ (.c i .n)
def Zbv(c:List Zaa)(a b:Int):Option (List Zaa):=ZaI a b ((b-(Zar a 1)).toNat+2) (Zar a 1) c
theorem Zej(a:List Zaa)(b e:Int)(r:List Zaa)(f:Zbv a b e=some r):Zcu Tryz.prog 391 [(100000,.rows 44 10 a.length (Zam Zaa.c Zaa.d a))] [.one (.osl 100000 a.length),(Yj b),(Yj e),.one (.lit (.func (.func 325) #[] #[]))] [(100000,.rows 44 10 r.length (Zam Zaa.c Zaa.d r))] (.tup []):=by
 refine Zcu.of Tryz.func391 rfl rfl rfl rfl fun S0 w0=>?_;unfold Zbv at f;exact Ye 3 [rz] [] ⟨[],[],[],[],[],[0,1,2,3,8],[100000],[]⟩ .n (ZgK S0 w0 b e ((e-(Zar b 1)).toNat+2) (Zar b 1) a r f)
def ZaX(c e f:Int):Nat->Int->(List Zaa)->Option (List Zaa)|0,_,_=>none|fu+1,b,a=>bif(decide (b<f))then need (0<=(Zar e b)/\(Zar e b)<((a.length:Nat):Int))<|need (0<=(Zar c b)/\(Zar c b)<((a.length:Nat):Int))<|ZaX c e f fu (Zar b 1) ((a.set ((Zar c b).toNat) (a.getD ((Zar e b).toNat) Zaa.d)).set ((Zar e b).toNat) (a.getD ((Zar c b).toNat) Zaa.d))else some a
theorem ZhB(S0:Nat->Prop)(w0:Zba)(e f k:Int):∀(h:Nat)(b:Int)(a r:List Zaa),ZaX e f k h b a=some r->Good Tryz.prog 38 S0 w0 (bodyPost Tryz.prog Tryz.f421 (Zbk S0 w0 [(100000,.rows 44 10 r.length (Zam Zaa.c Zaa.d r))] (.tup []))) (at_ [1,0] (ZaW Tryz.f421)) ⟨[(0,.one (.osl 100000 a.length)),(1,(Yj e)),(2,(Yj f)),(3,(Yj k)),(10,(Yj b))],[(100000,.rows 44 10 a.length (Zam Zaa.c Zaa.d a))]⟩:=by
 intro h;induction h with
 |zero=>
  intro b a r g;simp[ZaX]at g
 |succ h l=>
  intro b a r g;unfold ZaX at g;rcases Zai g with⟨j,g⟩|⟨j,g⟩
  ·obtain⟨o2,g⟩:=Zaq g;obtain⟨i,g⟩:=Zaq g;exact Ye 12 [rz,rA [(21,.c (a.set ((Zar e b).toNat) (a.getD ((Zar f b).toNat) Zaa.d)).length (Zam Zaa.c Zaa.d (a.set ((Zar e b).toNat) (a.getD ((Zar f b).toNat) Zaa.d)))),(23,.c ((a.set ((Zar e b).toNat) (a.getD ((Zar f b).toNat) Zaa.d)).set ((Zar f b).toNat) (a.getD ((Zar e b).toNat) Zaa.d)).length (Zam Zaa.c Zaa.d ((a.set ((Zar e b).toNat) (a.getD ((Zar f b).toNat) Zaa.d)).set ((Zar f b).toNat) (a.getD ((Zar e b).toNat) Zaa.d))))],rz] [true] ⟨[],[],[],[(100000,(((a.set ((Zar e b).toNat) (a.getD ((Zar f b).toNat) Zaa.d)).set ((Zar f b).toNat) (a.getD ((Zar e b).toNat) Zaa.d)).length))],[],[0,1,2,3,10],[100000],[]⟩ (.c j (.c o2 (.c (show (Zar f b).toNat<a.length from(ltOf o2)) (.c i (.c (show (Zar e b).toNat<a.length from(ltOf i)) (.c i (.c (show (a.set ((Zar e b).toNat) (a.getD ((Zar f b).toNat) Zaa.d)).length=a.length from List.length_set) (.c (show (Zar e b).toNat<a.length from(ltOf i)) (.c (show ExtU 10 a.length (Zam Zaa.c Zaa.d a) ((Zar e b).toNat) 0 (Zaa.c (a.getD ((Zar f b).toNat) Zaa.d)) (Zam Zaa.c Zaa.d (a.set ((Zar e b).toNat) (a.getD ((Zar f b).toNat) Zaa.d)))from(ZiG _ _ _ rfl)) (.c o2 (.c (show ((a.set ((Zar e b).toNat) (a.getD ((Zar f b).toNat) Zaa.d)).set ((Zar f b).toNat) (a.getD ((Zar e b).toNat) Zaa.d)).length=(a.set ((Zar e b).toNat) (a.getD ((Zar f b).toNat) Zaa.d)).length from List.length_set) (.c (show (Zar f b).toNat<(a.set ((Zar e b).toNat) (a.getD ((Zar f b).toNat) Zaa.d)).length from(by have:=ltOf o2;simp at this ⊢;omega)) (.c (show ExtU 10 ((a.set ((Zar e b).toNat) (a.getD ((Zar f b).toNat) Zaa.d)).length) (Zam Zaa.c Zaa.d (a.set ((Zar e b).toNat) (a.getD ((Zar f b).toNat) Zaa.d))) ((Zar f b).toNat) 0 (Zaa.c (a.getD ((Zar e b).toNat) Zaa.d)) (Zam Zaa.c Zaa.d ((a.set ((Zar e b).toNat) (a.getD ((Zar f b).toNat) Zaa.d)).set ((Zar f b).toNat) (a.getD ((Zar e b).toNat) Zaa.d)))from(ZiG _ _ _ rfl)) (.c (show ((a.set ((Zar e b).toNat) (a.getD ((Zar f b).toNat) Zaa.d)).set ((Zar f b).toNat) (a.getD ((Zar e b).toNat) Zaa.d)).length=((a.set ((Zar e b).toNat) (a.getD ((Zar f b).toNat) Zaa.d)).set ((Zar f b).toNat) (a.getD ((Zar e b).toNat) Zaa.d)).length from rfl) .n)))))))))))))) (l (Zar b 1) ((a.set ((Zar e b).toNat) (a.getD ((Zar f b).toNat) Zaa.d)).set ((Zar f b).toNat) (a.getD ((Zar e b).toNat) Zaa.d)) r g)
  ·apply Yc g 6 [rz] [false] ⟨[],[],[],[],[],[],[100000],[]⟩ (.c j .n)
def Zbt(b:List Zaa)(c d a:Int):Option (List Zaa):=ZaX c d a ((a-(0:Int)).toNat+2) (0:Int) b
theorem Zdg(a:List Zaa)(e f b:Int)(r:List Zaa)(g:Zbt a e f b=some r):Zcu Tryz.prog 421 [(100000,.rows 44 10 a.length (Zam Zaa.c Zaa.d a))] [.one (.osl 100000 a.length),(Yj e),(Yj f),(Yj b),.one (.lit (.func (.func 325) #[] #[]))] [(100000,.rows 44 10 r.length (Zam Zaa.c Zaa.d r))] (.tup []):=by
 refine Zcu.of Tryz.func421 rfl rfl rfl rfl fun S0 w0=>?_;unfold Zbt at g;exact Ye 3 [rz] [] ⟨[],[],[],[],[],[0,1,2,3,10],[100000],[]⟩ .n (ZhB S0 w0 e f b ((b-(0:Int)).toNat+2) (0:Int) a r g)
end Go.Proofs.YtdjfoojllbfcgaaGreat
