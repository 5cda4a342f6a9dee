import Derived.Test.YtlpdogaifdeomaaGreatEMorA1
namespace Go.Proofs.YtlpdogaifdeomaaGreat
open Go.RowKit Go.Lib Go.Shelf
set_option linter.unusedVariables false
set_option maxRecDepth 100000
variable {z:Zw}
set_option maxHeartbeats 4000000 in
set_option maxRecDepth 100000 in
theorem ZyY (b n c i vb m vc : Nat) (cur aD : Array Value) (w : World) (hi : i < n) (hm : 0 < m) (hroom : n + m <= c) (cr : c <= maxLen) (iu : vb ≠ b)
    (bt:w.heap[b]? = some (.cells cur 80 (0,0))) (dy:cur.size = c * 7) (a8:w.heap[vb]? = some (.cells aD 80 (0,0))) (je:m<=vc) (bY:aD.size = vc * 7)
    (bQ : ∀ v ∈ cur.toList.take (n * 7),v.oneCell' = true) (d6 : ∀ v ∈ aD.toList.take (m * 7),v.oneCell' = true) :
    Calls Tryz.prog 194 #[.slice (some ⟨b,0,none⟩) n c,.int .i64 i,.slice (some ⟨vb,0,none⟩) m vc] w fun e w' =>
      ∃ R:Array Value,e = .returned (.slice (some ⟨b,0,none⟩) (n + m) c)/\w.drawn<=w'.drawn/\w.grownBy w' (some b)/\w'.heap[b]? = some (.cells R 80 (0,0))/\R.size = c * 7 /\
        R.toList.take ((n + m) * 7) = cur.toList.take (i * 7) ++ aD.toList.take (m * 7) ++ (cur.toList.drop (i * 7)).take ((n - i) * 7):=by
  have iv:=cr
  unfold maxLen at cr
  have hz1 : ¬ ((m:Int) = 0):=by omega
  have cg : ¬ ((i:Int) = (n:Int)):=by omega
  have eG:IntKind.i64.wrap ((i:Int) + (m:Int)) = (i:Int) + (m:Int):=by rw [IntKind.wrap_i64]; omega
  have kP:IntKind.i64.wrap ((n:Int) + (m:Int)) = (n:Int) + (m:Int):=by rw [IntKind.wrap_i64]; omega
  have bX:(0:Int)<=(i:Int) + (m:Int):=by omega
  have hin:i<=n:=by omega
  have j9:((i:Int) + (m:Int)).toNat = i + m:=by omega
  have bK : ¬ (c = i + m):=by omega
  have fM:(i:Int)<=(n:Int) + (m:Int):=by omega
  have hb4 : ¬ (c = i):=by omega
  have hov : ∀ o lb cb,(callFunc 236 #[.slice (some ⟨vb,0,none⟩) m vc,.slice (some ⟨b,o,none⟩) lb cb]).run Tryz.prog w = .ok (.value (.bool false)) w:=fun o lb cb =>by
    rw [run_callFunc_extern Tryz.func236 (by kernel_rfl) (by kernel_rfl) (by kernel_rfl) (e:=Extern.SlicesOverlaps.overlaps #[31,31] #[4]) (by kernel_rfl),
      Lib.run_overlaps_apart w 31 4 80 Tryz.underlying31 7 Tryz.sizeOf80 ⟨vb,0,none⟩ ⟨b,o,none⟩ m vc lb cb iu 80 80 aD.size cur.size (by simp [World.shape?,a8]) (by simp [World.shape?,bt]) (by omega) (by simp [World.frozen?,a8]) (by simp [World.frozen?,a8])]
    rfl
  have aX:(Tryz.prog.info? 80).map (·.size) = some 7:=by kernel_rfl
  obtain ⟨M1,fv⟩ : ∃ M1,M1 = Zdx cur.toList ((i + m) * 7) ((cur.toList.drop (i * 7)).take ((n - i) * 7)):=⟨_,rfl⟩
  have cu:M1.toArray.size = c * 7:=by
    rw [fv]; simp [Zdx]; omega
  have d7 : ∀ ty dc sc,(Builtin.copy_ #[31,31] ty #[.slice (some ⟨b,(i + m) * 7,none⟩) (n + m - (i + m)) dc,.slice (some ⟨b,i * 7,none⟩) (n + m - i) sc]).run Tryz.prog w.drew = .ok (goInt ((n - i:Nat):Int)) (w.drew.setRow b M1.toArray):=fun ty dc sc =>by
    have h:=ZdL (P:=Tryz.prog) w.drew 31 31 ty 80 7 b ((i + m) * 7) (n + m - (i + m)) dc ⟨b,i * 7,none⟩ (n + m - i) sc cur 80 ((cur.toList.drop (i * 7)).take ((n - i) * 7)) Tryz.underlying31 aX
      (by have : Nat.min (n + m - i) (n + m - (i + m)) = n - i := by simp only [Nat.min_def]; split <;> omega
          rw [this]; simp; omega)
      (fun j v hj =>by
        rw [ZcS]
        rw [List.getElem?_take] at hj
        split at hj
        . rw [List.getElem?_drop] at hj
          rw [show w.drew.cell? ⟨b,i * 7 + j,none⟩ = w.cell? ⟨b,i * 7 + j,none⟩ from rfl,cell_of_row w b _ cur 80 (0,0) bt]
          simpa using hj
        . cases hj)
      bt (by simp; omega) (fun v hv =>bQ v (by
        obtain ⟨j,hj⟩:=List.getElem?_of_mem hv
        rw [List.getElem?_take] at hj
        split at hj
        . rw [List.getElem?_drop] at hj
          exact List.mem_of_getElem? (i:=i * 7 + j) (by rw [List.getElem?_take,if_pos (by omega)]; exact hj)
        . cases hj))
    rw [show Nat.min (n + m - i) (n + m - (i + m)) = n - i by simp only [Nat.min_def]; split <;> omega,<- fv] at h
    exact h
  obtain ⟨W1,bJ⟩ : ∃ W1,W1 = w.drew.setRow b M1.toArray:=⟨_,rfl⟩
  have c9:W1.heap[b]? = some (.cells M1.toArray 80 (0,0)):=by
    rw [bJ]; exact setRow_heap _ _ _ _ _ _ bt
  have d8:W1.heap[vb]? = some (.cells aD 80 (0,0)):=by
    rw [bJ,setRow_other _ _ _ _ iu]; exact a8
  have d9 : ∀ (W:World),W.heap = W1.heap->∀ ty dc,(Builtin.copy_ #[31,31] ty #[.slice (some ⟨b,i * 7,none⟩) (n + m - i) dc,.slice (some ⟨vb,0,none⟩) m vc]).run Tryz.prog W = .ok (goInt (m:Int)) (W.setRow b (Zdx M1 (i * 7) (aD.toList.take (m * 7))).toArray):=fun W eh ty dc =>by
    have h:=ZdL (P:=Tryz.prog) W 31 31 ty 80 7 b (i * 7) (n + m - i) dc ⟨vb,0,none⟩ m vc M1.toArray 80 (aD.toList.take (m * 7)) Tryz.underlying31 aX
      (by have : Nat.min m (n + m - i) = m := by simp only [Nat.min_def]; split <;> omega
          rw [this]; simp; omega)
      (fun j v hj =>by
        rw [ZcS,Nat.zero_add]
        rw [List.getElem?_take] at hj
        split at hj
        . rw [cell_of_row W vb _ aD 80 (0,0) (by rw [eh]; exact d8)]
          simpa using hj
        . cases hj)
      (by rw [eh]; exact c9) (by simp at cu ⊢; omega) d6
    rw [show Nat.min m (n + m - i) = m by simp only [Nat.min_def]; split <;> omega] at h
    exact h
  rw [<- bJ] at d7
  obtain ⟨R3,hR3⟩ : ∃ R3,R3 = Zdx M1 (i * 7) (aD.toList.take (m * 7)):=⟨_,rfl⟩
  rw [<- hR3] at d9
  have b7:R3.length = c * 7:=by
    rw [hR3]; simp at cu; simp [Zdx]; omega
  have bk:R3.take ((n + m) * 7) = cur.toList.take (i * 7) ++ aD.toList.take (m * 7) ++ (cur.toList.drop (i * 7)).take ((n - i) * 7):=by
    have iw : M1.length = c * 7:=by simpa using cu
    have c4:(aD.toList.take (m * 7)).length = m * 7:=by simp; omega
    have gw:((cur.toList.drop (i * 7)).take ((n - i) * 7)).length = (n - i) * 7:=by simp; omega
    apply List.ext_getElem?
    intro k
    rw [List.getElem?_take]
    split
    . rename_i hk
      rw [hR3,Zfc _ _ _ (by rw [c4]; omega),fv,Zfc _ _ _ (by rw [gw]; simp; omega)]
      by_cases d:k < i * 7
      . rw [if_neg (by omega),if_neg (by omega),List.append_assoc,List.getElem?_append_left (by simp; omega),List.getElem?_take,if_pos d]
      . by_cases f:k < (i + m) * 7
        . rw [if_pos ⟨by omega,by rw [c4]; omega⟩,List.append_assoc,List.getElem?_append_right (by simp; omega),List.getElem?_append_left (by simp; omega)]
          congr 1; simp; omega
        . rw [if_neg (by rw [c4]; omega),if_pos ⟨by omega,by rw [gw]; omega⟩,List.getElem?_append_right (by rw [List.length_append,c4]; simp; omega)]
          congr 1; rw [List.length_append,c4]; simp; omega
    . rename_i hk
      rw [List.getElem?_eq_none (by rw [List.length_append,List.length_append,c4,gw]; simp; omega)]
  have iA:w.grownBy (W1.setRow b R3.toArray) (some b):=by
    rw [bJ]
    exact ⟨rfl,rfl,rfl,by simp,fun k _ hk =>by
      have hne:k ≠ b:=fun h =>hk (by rw [h])
      rw [setRow_other _ _ _ _ hne,setRow_other _ _ _ _ hne]
      rfl⟩
  have hat:=setRow_heap W1 b _ R3.toArray _ _ c9
  have HF:=Lib.hid bk; clear bk
  have HL:=Lib.hid b7; clear b7
  have cN:w.drawn<=(W1.setRow b R3.toArray).drawn:=by rw [bJ]; exact Nat.le_succ _
  have HG:=Lib.hid iA; clear iA
  have HD:=Lib.hid cN; clear cN
  have HA:=Lib.hid hat; clear hat
  clear cu c9 d8 bQ d6 aX hR3
  clear bJ
  clear fv
  have mixed:Tryz.prog.follows .mixedOrders = true:=by kernel_rfl
  go_enter Tryz.func194,Tryz.ntmps194
  go_wp2_with (simp only [hov])
  go_region_law_o (refine step_copy_runI rfl _ _ 31 31 rfl _ _ (by simp [Act.eval,Act.put]) (by simp [Act.eval,Act.put]) (d7 _ _ _) ?_)
  go_wp2_with (at_builtin; refine wpList_copy_runI _ rfl _ _ 31 31 rfl _ _ rfl rfl (d9 _ rfl _ _) ?_)
  go_ret
  exact ⟨R3.toArray,rfl,HD.out,HG.out,HA.out,HL.out,HF.out⟩
set_option maxHeartbeats 4000000 in
set_option maxRecDepth 100000 in
theorem ZBe (b n c i vb m vc : Nat) (cur aD : Array Value) (w : World) (hi : i < n) (hm : 0 < m) (fX : n <= c) (hroom : c < n + m) (eJ : (n + m) * 56 <= 140737488355328)
    (bt:w.heap[b]? = some (.cells cur 80 (0,0))) (dy:cur.size = c * 7) (a8:w.heap[vb]? = some (.cells aD 80 (0,0))) (je:m<=vc) (bY:aD.size = vc * 7)
    (bQ : ∀ v ∈ cur.toList.take (n * 7),v.oneCell' = true) (d6 : ∀ v ∈ aD.toList.take (m * 7),v.oneCell' = true) :
    Calls Tryz.prog 194 #[.slice (some ⟨b,0,none⟩) n c,.int .i64 i,.slice (some ⟨vb,0,none⟩) m vc] w fun e w' =>
      ∃ (G:Nat) (R:Array Value),e = .returned (.slice (some ⟨w.heap.size,0,none⟩) (n + m) G)/\w.drawn<=w'.drawn/\Below w.heap.size w w'/\w'.heap[w.heap.size]? = some (.cells R 80 (0,0))/\n + m<=G/\G<=maxLen/\R.size = G * 7 /\
        R.toList.take ((n + m) * 7) = cur.toList.take (i * 7) ++ aD.toList.take (m * 7) ++ (cur.toList.drop (i * 7)).take ((n - i) * 7):=by
  have hz1 : ¬ ((m:Int) = 0):=by omega
  have cg : ¬ ((i:Int) = (n:Int)):=by omega
  have hz3:(c:Int) < (n:Int) + (m:Int):=by omega
  have hC:(n:Int) + (m:Int) - (i:Int) = ((n + m - i:Nat):Int):=by omega
  have hik:i + (n + m - i) = n + m:=by omega
  have ka:b < w.heap.size:=(Array.getElem?_eq_some_iff.1 bt).1
  have kb:vb < w.heap.size:=(Array.getElem?_eq_some_iff.1 a8).1
  have iV:b ≠ w.heap.size:=by omega
  have hvN:vb ≠ w.heap.size:=by omega
  obtain ⟨i0,hi0,bV,db,dE⟩:=ZAz.info (t:=80) (show ZdS tab 80 = some _ from rfl)
  replace bV:i0.size = 7:=bV
  replace db:i0.bytes = 56:=db
  replace dE:i0.zero = some (.agg #[.bool false,.int .u64 (0),.int .u64 (0),.int .i64 (0),.int .i64 (0),.int .i64 (0),.int .i64 (0)]):=dE
  have aX:(Tryz.prog.info? 80).map (·.size) = some 7:=by kernel_rfl
  have bW:(Builtin.firstCells i0.size i (.slice (some ⟨b,0,none⟩) i c)).run Tryz.prog w.drew = .ok (cur.toList.take (i * 7)).toArray w.drew:=by
    rw [bV]
    exact run_firstCells_some w.drew 7 i ⟨b,0,none⟩ i c (cur.toList.take (i * 7)) (by simp; omega) (fun j v hj =>by
      rw [ZcS,Nat.zero_add]
      rw [List.getElem?_take] at hj
      split at hj
      . rw [show w.drew.cell? ⟨b,j,none⟩ = w.cell? ⟨b,j,none⟩ from rfl,cell_of_row w b _ cur 80 (0,0) bt]
        simpa using hj
      . cases hj)
  obtain ⟨G,hG⟩ : ∃ G,G = grownCap w (n + m) c 80:=⟨_,rfl⟩
  obtain ⟨cw,cy⟩ : ∃ cw:Array Value,cw = (cur.toList.take (i * 7)).toArray ++ Builtin.zeroCells (Value.cells (.agg #[.bool false,.int .u64 (0),.int .u64 (0),.int .i64 (0),.int .i64 (0),.int .i64 (0),.int .i64 (0)])) (n + m - i) ++ Builtin.zeroCells (Value.cells (.agg #[.bool false,.int .u64 (0),.int .u64 (0),.int .i64 (0),.int .i64 (0),.int .i64 (0),.int .i64 (0)])) (G - (n + m)):=⟨_,rfl⟩
  have iB : ∀ ty, (Builtin.append_ #[31, 3] ty #[.slice (some ⟨b, 0, none⟩) i c, .int .i64 ((n : Int) + (m : Int) - (i : Int))]).run Tryz.prog w =
      .ok (.slice (some ⟨w.heap.size,0,none⟩) (n + m) G) (w.drew.alloc (.cells cw 80)):=fun ty =>by
    have h:=Lib.run_append_grow_zeros w 31 3 ty 80 i0 _ .i64 .i64 Tryz.underlying31 Tryz.underlying3 hi0 dE (some ⟨b,0,none⟩) i c (cur.toList.take (i * 7)) bW (n + m - i) (by omega) (by omega) (by omega) (by omega) (by rw [db]; omega) (by rw [db,hik]; exact growslice_fits hroom eJ)
    rw [hik,<- hG,<- cy] at h
    rw [hC]
    exact h
  have hGn:n + m<=G:=by rw [hG]; exact grownCap_ge w _ _ _
  have hGm:G<=maxLen:=by rw [hG]; exact grownCap_le_maxLen w (n + m) c 80 (by unfold maxLen; omega)
  have hRs:cw.size = G * 7:=by
    rw [cy]
    simp [Builtin.zeroCells,Value.cells]
    omega
  have hRt:cw.toList.take (i * 7) = cur.toList.take (i * 7):=by
    rw [cy]
    simp only [Array.toList_append,List.append_assoc]
    rw [List.take_append_of_le_length (by simp; omega)]
    simp [List.take_take]
  clear cy hG bW
  obtain ⟨W1,bJ⟩ : ∃ W1,W1 = w.drew.alloc (.cells cw 80):=⟨_,rfl⟩
  have gx:W1.heap[w.heap.size]? = some (.cells cw 80 (0,0)):=by rw [bJ]; exact heap_alloc_new w.drew _
  have iC:W1.heap[b]? = some (.cells cur 80 (0,0)):=by rw [bJ,heap_alloc_old w.drew _ ka]; exact bt
  have iD:W1.heap[vb]? = some (.cells aD 80 (0,0)):=by rw [bJ,heap_alloc_old w.drew _ kb]; exact a8
  obtain ⟨V,hV⟩ : ∃ V,V = aD.toList.take (m * 7):=⟨_,rfl⟩
  have cz:V.length = m * 7:=by rw [hV]; simp; omega
  obtain ⟨D,hD⟩ : ∃ D,D = (cur.toList.drop (i * 7)).take ((n - i) * 7):=⟨_,rfl⟩
  have de:D.length = (n - i) * 7:=by rw [hD]; simp; omega
  obtain ⟨R2,hR2⟩ : ∃ R2,R2 = Zdx cw.toList (i * 7) V:=⟨_,rfl⟩
  have el:R2.length = G * 7:=by rw [hR2]; simp [Zdx,cz]; omega
  obtain ⟨R3,hR3⟩ : ∃ R3,R3 = Zdx R2 ((i + m) * 7) D:=⟨_,rfl⟩
  have b7:R3.length = G * 7:=by rw [hR3]; simp [Zdx,de]; omega
  have bk:R3.take ((n + m) * 7) = cur.toList.take (i * 7) ++ V ++ D:=by
    apply List.ext_getElem?
    intro k
    rw [List.getElem?_take]
    split
    . rename_i hk
      rw [hR3,Zfc _ _ _ (by rw [de]; omega),hR2,Zfc _ _ _ (by rw [cz]; simp; omega)]
      by_cases d:k < i * 7
      . rw [if_neg (by omega),if_neg (by omega),List.append_assoc,List.getElem?_append_left (by simp; omega),<- hRt,List.getElem?_take,if_pos d]
      . by_cases f:k < (i + m) * 7
        . rw [if_neg (by omega),if_pos ⟨by omega,by rw [cz]; omega⟩,List.append_assoc,List.getElem?_append_right (by simp; omega),List.getElem?_append_left (by simp; omega)]
          congr 1; simp; omega
        . rw [if_pos ⟨by omega,by rw [de]; omega⟩,List.getElem?_append_right (by simp [cz]; omega)]
          congr 1; simp [cz]; omega
    . rename_i hk
      rw [List.getElem?_eq_none (by simp [cz,de]; omega)]
  have gy : ∀ (W:World),W.heap = W1.heap->∀ ty dc,(Builtin.copy_ #[31,31] ty #[.slice (some ⟨w.heap.size,i * 7,none⟩) (n + m - i) dc,.slice (some ⟨vb,0,none⟩) m vc]).run Tryz.prog W = .ok (goInt (m:Int)) (W.setRow w.heap.size R2.toArray):=fun W eh ty dc =>by
    have h:=ZdL (P:=Tryz.prog) W 31 31 ty 80 7 w.heap.size (i * 7) (n + m - i) dc ⟨vb,0,none⟩ m vc cw 80 V Tryz.underlying31 aX
      (by have : Nat.min m (n + m - i) = m := by simp only [Nat.min_def]; split <;> omega
          rw [this,cz])
      (fun j v hj =>by
        rw [hV] at hj
        rw [ZcS,Nat.zero_add]
        rw [List.getElem?_take] at hj
        split at hj
        . rw [cell_of_row W vb _ aD 80 (0,0) (by rw [eh]; exact iD)]
          simpa using hj
        . cases hj)
      (by rw [eh]; exact gx) (by rw [cz,hRs]; omega) (by rw [hV]; exact d6)
    rw [show Nat.min m (n + m - i) = m by simp only [Nat.min_def]; split <;> omega,<- hR2] at h
    exact h
  have eo : ∀ (W:World),W.heap[w.heap.size]? = some (.cells R2.toArray 80 (0,0))->W.heap[b]? = some (.cells cur 80 (0,0))->∀ ty dc sc,(Builtin.copy_ #[31,31] ty #[.slice (some ⟨w.heap.size,(i + m) * 7,none⟩) (n + m - (i + m)) dc,.slice (some ⟨b,i * 7,none⟩) (n - i) sc]).run Tryz.prog W = .ok (goInt ((n - i:Nat):Int)) (W.setRow w.heap.size R3.toArray):=fun W hN hB ty dc sc =>by
    have h:=ZdL (P:=Tryz.prog) W 31 31 ty 80 7 w.heap.size ((i + m) * 7) (n + m - (i + m)) dc ⟨b,i * 7,none⟩ (n - i) sc R2.toArray 80 D Tryz.underlying31 aX
      (by have : Nat.min (n - i) (n + m - (i + m)) = n - i := by simp only [Nat.min_def]; split <;> omega
          rw [this,de])
      (fun j v hj =>by
        rw [hD] at hj
        rw [ZcS]
        rw [List.getElem?_take] at hj
        split at hj
        . rw [List.getElem?_drop] at hj
          rw [cell_of_row W b _ cur 80 (0,0) hB]
          simpa using hj
        . cases hj)
      hN (by simp [de,el]; omega) (fun v hv =>bQ v (by
        rw [hD] at hv
        obtain ⟨j,hj⟩:=List.getElem?_of_mem hv
        rw [List.getElem?_take] at hj
        split at hj
        . rw [List.getElem?_drop] at hj
          exact List.mem_of_getElem? (i:=i * 7 + j) (by rw [List.getElem?_take,if_pos (by omega)]; exact hj)
        . cases hj))
    rw [show Nat.min (n - i) (n + m - (i + m)) = n - i by simp only [Nat.min_def]; split <;> omega] at h
    rw [show R2.toArray.toList = R2 from rfl,<- hR3] at h
    exact h
  have df:(W1.setRow w.heap.size R2.toArray).heap[w.heap.size]? = some (.cells R2.toArray 80 (0,0)):=setRow_heap _ _ _ _ _ _ gx
  have eq:(W1.setRow w.heap.size R2.toArray).heap[b]? = some (.cells cur 80 (0,0)):=by rw [setRow_other _ _ _ _ iV]; exact iC
  have bG:Below w.heap.size w W1:=by
    rw [bJ]
    exact ⟨rfl,rfl,rfl,by simp,fun k hk =>heap_alloc_old w.drew _ hk⟩
  have mixed:Tryz.prog.follows .mixedOrders = true:=by kernel_rfl
  have cN:w.drawn<=W1.drawn:=by rw [bJ]; exact Nat.le_succ _
  have HW:=Lib.hid cN; clear cN
  have HF:=Lib.hid bk; clear bk
  have hGi : ¬ (G = i):=by omega
  have kc : ¬ (G = i + m):=by omega
  have hci : ¬ (c = i):=by omega
  have ke:=hGm
  unfold maxLen at ke
  have hin:i<=n:=by omega
  have j9:((i:Int) + (m:Int)).toNat = i + m:=by omega
  have eG:IntKind.i64.wrap ((i:Int) + (m:Int)) = (i:Int) + (m:Int):=by rw [IntKind.wrap_i64]; omega
  have bX:(0:Int)<=(i:Int) + (m:Int):=by omega
  have fM:(i:Int)<=(n:Int):=by omega
  rw [<- hV,<- hD]
  rw [<- bJ] at iB
  clear hV hD cz de hR2 el hR3 hRt hi0 db bV dE aX hRs hC hik gx iC iD dy bY bQ d6 bt a8 bJ
  have kh:=Lib.hid b7; clear b7
  go_enter Tryz.func194,Tryz.ntmps194
  go_wp2_with (first
    | (at_builtin; refine Lib.wpList_append_run _ rfl _ _ _ _ rfl _ _ rfl rfl _ _ (iB _) ?_)
    | (at_builtin; refine wpList_copy_runI _ rfl _ _ 31 31 rfl _ _ rfl rfl (gy _ rfl _ _) ?_)
    | (at_builtin; refine wpList_copy_runI _ rfl _ _ 31 31 rfl _ _ rfl rfl (eo _ (by first | exact df | assumption) (by first | exact eq | assumption) _ _ _) ?_))
  go_region_law_o (refine step_copy_runI rfl _ _ 31 31 rfl (.slice (some ⟨w.heap.size,(i + m) * 7,none⟩) (n + m - (i + m)) (G - (i + m))) (.slice (some ⟨b,i * 7,none⟩) (n - i) (c - i)) (by simp [Act.eval,Act.put]) (by simp [Act.eval,Act.put]) (eo (W1.setRow w.heap.size R2.toArray).drew df eq 3 (G - (i + m)) (c - i)) ?_)
  go_wp2
  go_ret
  exact ⟨G,R3.toArray,rfl,Nat.le_trans HW.out (by simp [World.setRow]),⟨bG.os,bG.tape,bG.output,by simpa using bG.size,fun k hk =>by rw [setRow_other _ _ _ _ (by omega)]; exact (setRow_other _ _ _ _ (by omega)).trans (bG.block k hk)⟩,setRow_heap _ _ _ _ _ _ df,hGn,hGm,kh.out,HF.out⟩
set_option maxHeartbeats 4000000 in
set_option maxRecDepth 100000 in
theorem ZEw(bc:Option Addr)(n c vb m vc:Nat)(w w':World)(v':Value)(fX:n<=c)(cr:c<=maxLen)(hm:0<m)(eY:bc=none->n=0)(gz:m<=maxLen)
  (hrun:∀ty,(Builtin.append_ #[31,31] ty #[.slice bc n c,.slice (some ⟨vb,0,none⟩) m vc]).run Tryz.prog w=.ok v' w') :
  Calls Tryz.prog 194 #[.slice bc n c,.int .i64 n,.slice (some ⟨vb,0,none⟩) m vc] w fun e b=>e=.returned v'/\w'=b:=by
 have hz1:¬((m:Int)=0):=by omega
 unfold maxLen at cr gz;cases bc with
 |none=>
  have h0:=eY rfl;subst h0
  go_enter Tryz.func194,Tryz.ntmps194
  go_wp2_with (at_builtin;refine Lib.wpList_append_run _ rfl _ _ _ _ rfl _ _ rfl rfl _ _ (hrun _) ?_)
  go_ret
  exact⟨rfl,rfl⟩
 |some a=>
  obtain⟨ab,ao,asp⟩:=a
  go_enter Tryz.func194,Tryz.ntmps194
  go_wp2_with (at_builtin;refine Lib.wpList_append_run _ rfl _ _ _ _ rfl _ _ rfl rfl _ _ (hrun _) ?_)
  all_goals (go_ret;exact⟨rfl,rfl⟩)
def ZaO(b:List Zab)(d:Int)(e:List Zab):Option (List Zab):=need (0<=d/\d.toNat<=b.length/\0<e.length/\(b.length+e.length) * 56<=140737488355328/\b.length+e.length<=maxLen)<|some (b.take d.toNat++e++b.drop d.toNat)
theorem Zfm(j:List Zab)(C:Int)(o r:List Zab)(D:ZaO j C o=some r) :
  Yp 194 [(mM 100000 80 7 Zab.c Zab.d j),(mM 100001 80 7 Zab.c Zab.d o)] [.one (.osl 100000 j.length),Yj C,.one (.osl 100001 o.length)]
   [(mM 99999 80 7 Zab.c Zab.d r)] (.one (.osl 99999 r.length)):=by
 obtain⟨⟨o1,I,J,L,M⟩,D⟩:=ZdI D;cases D;obtain⟨i0,hi0,bV,db,dE⟩:=ZAz.info (t:=80) (show ZdS tab 80=some _ from rfl);have h:=Zql (enc:=Zab.c) (d:=Zab.d) (F:=194) (BY:=56) (K:=7) ⟨_,Tryz.func194,rfl,rfl⟩ Tryz.underlying31 hi0 dE bV db rfl (by decide) (fun b n c i vb m vc cur aD w p u v y A B E G H e f g=>ZyY b n c i vb m vc cur aD w p u v y A B E G H e f g)
  (fun b n c i vb m vc cur aD w p u v y A B E G H e f g=>ZBe b n c i vb m vc cur aD w p u v y A B E G H e f g)
  (fun bc n c vb m vc w w' v' p u v y A B=>ZEw bc n c vb m vc w w' v' p u v y A B) j o C.toNat I J L M
 rw[Int.toNat_of_nonneg o1]at h;exact h
instance ZlA (b:List Zab) (f:Int) (e:List Zab):ConH (ZaO b f e) (eH 194 [(100000,.rows 80 7 b.length (Zaj Zab.c Zab.d b)),(100001,.rows 80 7 e.length (Zaj Zab.c Zab.d e))] [.one (.osl 100000 b.length),Yj f,.one (.osl 100001 e.length)] (fun(r:List Zab)=>[(99999,.rows 80 7 r.length (Zaj Zab.c Zab.d r))]) m6):=ConH.of fun r g=>Zfm b f e r g
def Zpc(b c0:Zab):Option Bool:=(ZeM b.fEnd c0.fEnd).bind fun d=>some (decide (d>(0:Int)))
instance ZJz{b c0}:Con (Zpc b c0) (eS 193 [.agg (Zab.c b),.one (.rp false 7 (fun j=>(Zab.c c0:List C).getD (0+j) .junk))] Yk):=kS Tryz.func193 (kC fun _=>kR0)
def Zba(f:List Zab)(b:Zab):Nat->Int->Int->Option Int|0,_,_=>none|fu+1,g,e=>bif(decide (e<g))then need (0<=e/\e<(f.length:Int))<|(Zpc (f.getD e.toNat Zab.d) b).bind fun h=>bif h then some e else Zba f b fu g (Zan e 1)else some (-1:Int)
theorem Zgz{e b}:∀{d f g},LS z Tryz.f159 [1,0,1,0] (Zba e b d f g) Yj ⟨[(0,(Yn e)),(1,.one (mO 193 0 1 [] [.rp false 7 (fun j=>(Zab.c b:List C).getD (0+j) .junk)])),(7,(Yj f)),(8,(Yj g))],[]⟩:=by
 intro d;induction d with
 |zero=>exact kZ
 |succ d h=>exact kB (kN<|kC fun _=>kB kR0 (kL 17 h)) kR0
def Zch(d:List Zab)(b:Zab):Option Int:=Zba d b (((d.length:Int)-(0:Int)).toNat+2) (d.length:Int) (0:Int)
instance ZnV{d b}:Con (Zch d b) (eS 159 [Yn d,.one (.clo (.func 193) 0 1 (fun i=>([]:List C).getD i .junk) (fun i=>([.rp false 7 (fun j=>(Zab.c b:List C).getD (0+j) .junk)]:List C).getD i .junk))] Yj):=kS Tryz.func159 (kL 6 Zgz)
def ZpF(b:List Zab)(d:Zab)(f:Int):Option ((List Zab)×Int):=(ZhW d).bind fun g=>bif(!g)then some (([]:(List Zab)),(1:Int))else(ZiW b d.fEnd).bind fun h=>bif(decide (h>=(0:Int)))then some (([]:(List Zab)),(7:Int))else bif(decide ((b.length:Int)>=f))then some (([]:(List Zab)),(5:Int))else(Zch b d).bind fun e=>bif(decide (e<(0:Int)))then(ZaB b).bind fun i=>(ZaO i (b.length:Int) ([d]:List Zab)).bind fun j=>some (j,(0:Int))else(ZaB b).bind fun n=>(ZaO n e ([d]:List Zab)).bind fun o=>some (o,(0:Int))
instance ZLW{f b g}:Con (ZpF f b g) (eS 139 [Yn f,.agg (Zab.c b),Yj g] fun r=>.tup [(false,(cLs 7 Zab.c Zab.d) r.1),(false,(cI .i64) r.2)]):=kS Tryz.func139 (kC fun _=>kB (kR [] [] [(6,[(0,cL 7 Zab.c Zab.d [])])]) (kC fun _=>kB (kR [] [] [(6,[(0,cL 7 Zab.c Zab.d [])])]) (kB (kR [] [] [(6,[(0,cL 7 Zab.c Zab.d [])])]) (kC fun _=>kB (kD 7 1 [] [(99999,32)] fun _=>kH (show ([b]:List Zab).length=1 from rfl)<|kH (show ∀i j,i<1->j<7->Zaj Zab.c Zab.d ([b]:List Zab) i j=(([b]:List Zab).flatMap Zab.c).getD (i * 7+j) .junk from(fun i j hi hj=>ZdG (sz:=7) (e:=Zab.c) (d:=Zab.d) (fun _=>rfl) ([b]:List Zab) i j hi hj))<|kD 7 5 [(100000,32),(100001,35)] [(99999,36)] fun _=>kX 4 ⟨[],[],[(1,[4])],[],[],[],[]⟩<|kX 7 (rA [(4,.c ([b]:List Zab).length (Zaj Zab.c Zab.d ([b]:List Zab)))])<|kR [36] [] []) (kD 6 1 [] [(99999,32)] fun _=>kH (show ([b]:List Zab).length=1 from rfl)<|kH (show ∀i j,i<1->j<7->Zaj Zab.c Zab.d ([b]:List Zab) i j=(([b]:List Zab).flatMap Zab.c).getD (i * 7+j) .junk from(fun i j hi hj=>ZdG (sz:=7) (e:=Zab.c) (d:=Zab.d) (fun _=>rfl) ([b]:List Zab) i j hi hj))<|kD 6 5 [(100000,32),(100001,35)] [(99999,36)] fun _=>kX 4 ⟨[],[],[(1,[4])],[],[],[],[]⟩<|kX 6 (rA [(4,.c ([b]:List Zab).length (Zaj Zab.c Zab.d ([b]:List Zab)))])<|kR [36] [] [])))))
def ZkL(b:Zap):Option (Zal×Zap):=(Zoq b.fx.fEnd b.fx.fNow).bind fun e=>(ZpF b.fs.fBook e b.fc.fMaxBook).bind fun d=>bif(d.2==(0:Int))then(ZbE d.2).bind fun f=>some (f,(Zap.mk b.fc (Zak.mk b.fs.fBans d.1 b.fs.fPeers) b.fx))else(ZbE d.2).bind fun g=>some (g,b)
instance ZAp{b}:ConH (ZkL b) (eH 60 [(100000,.box (Zap.c b))] [.one (.ptr 100000 0)] (fun r=>[(100000,.box (Zap.c r.2))]) fun r=>(.agg (Zal.c r.1))):=kHC Tryz.func60 (kC fun _=>kC fun _=>kB (kC fun _=>kRH ⟨[],[],[],[],[],[2],[2,100000],[]⟩ (some [100000])) (kC fun _=>kRH ⟨[],[],[],[],[],[2],[2,100000],[]⟩ (some [100000])))
def ZkM(b:Zap):Option (Zal×Zap):=bif(b.fx.fKind==(1:Int))then(ZhV b).bind fun h=>some (h.1,h.2)else bif(b.fx.fKind==(2:Int))then(ZiB b).bind fun i=>some (i.1,i.2)else bif(b.fx.fKind==(3:Int))then(Zhq b).bind fun j=>some (j.1,j.2)else bif(b.fx.fKind==(4:Int))then(ZhU b).bind fun n=>some (n.1,n.2)else bif(b.fx.fKind==(5:Int))then(ZiC b).bind fun o=>some (o.1,o.2)else bif(b.fx.fKind==(6:Int))then(Zkd b).bind fun p=>some (p.1,p.2)else bif(b.fx.fKind==(7:Int))then(ZiA b).bind fun r=>some (r.1,r.2)else bif(b.fx.fKind==(8:Int))then(Zdg b).bind fun t=>some ((Zal.mk 0 (Zah.mk (Zaf.mk false 0 0) 0) 0 t.1 ([]:(List Zaa))),t.2)else bif(b.fx.fKind==(9:Int))then(Znm b.fs.fBans b.fx.fNow).bind fun u=>some ((Zal.mk 0 (Zah.mk (Zaf.mk false 0 0) 0) u.2 0 ([]:(List Zaa))),(Zap.mk b.fc (Zak.mk u.1 b.fs.fBook b.fs.fPeers) b.fx))else bif(b.fx.fKind==(10:Int))then(ZjK b.fs.fPeers).bind fun g=>some ((Zal.mk 0 (Zah.mk (Zaf.mk false 0 0) 0) (b.fs.fBans.length:Int) (b.fs.fBook.length:Int) g),b)else bif(b.fx.fKind==(11:Int))then(Zjo b).bind fun d=>some (d.1,d.2)else bif(b.fx.fKind==(12:Int))then(Zjn b).bind fun e=>some (e.1,e.2)else(ZkL b).bind fun f=>some (f.1,f.2)
instance ZEI{b}:ConH (ZkM b) (eH 21 [(100000,.box (Zap.c b))] [.one (.ptr 100000 0)] (fun r=>[(100000,.box (Zap.c r.2))]) fun r=>(.agg (Zal.c r.1))):=kHC Tryz.func21 (kB (kD 3 1 [(100000,100000)] [] fun _=>kRH ⟨[],[],[],[],[],[2],[2,100000],[]⟩ (some [100000])) (kB (kD 4 1 [(100000,100000)] [] fun _=>kRH ⟨[],[],[],[],[],[2],[2,100000],[]⟩ (some [100000])) (kB (kD 5 1 [(100000,100000)] [] fun _=>kRH ⟨[],[],[],[],[],[2],[2,100000],[]⟩ (some [100000])) (kB (kD 6 1 [(100000,100000)] [] fun _=>kRH ⟨[],[],[],[],[],[2],[2,100000],[]⟩ (some [100000])) (kB (kD 7 1 [(100000,100000)] [] fun _=>kRH ⟨[],[],[],[],[],[2],[2,100000],[]⟩ (some [100000])) (kB (kD 8 1 [(100000,100000)] [] fun _=>kRH ⟨[],[],[],[],[],[2],[2,100000],[]⟩ (some [100000])) (kB (kD 9 1 [(100000,100000)] [] fun _=>kRH ⟨[],[],[],[],[],[2],[2,100000],[]⟩ (some [100000])) (kB (kD 10 1 [(100000,100000)] [] fun _=>kRH ⟨[],[(2,[(7,cL 10 Zaa.c Zaa.d [])])],[],[],[],[2],[2,100000],[]⟩ (some [100000])) (kB (kC fun _=>kRH ⟨[],[(2,[(7,cL 10 Zaa.c Zaa.d [])])],[],[],[],[2],[2,100000],[]⟩ (some [100000])) (kB (kC fun _=>kRH ⟨[],[],[],[],[],[2],[2,100000],[]⟩ (some [100000])) (kB (kD 13 1 [(100000,100000)] [] fun _=>kRH ⟨[],[],[],[],[],[2],[2,100000],[]⟩ (some [100000])) (kB (kD 14 1 [(100000,100000)] [] fun _=>kRH ⟨[],[],[],[],[],[2],[2,100000],[]⟩ (some [100000])) (kD 14 1 [(100000,100000)] [] fun _=>kRH ⟨[],[],[],[],[],[2],[2,100000],[]⟩ (some [100000]))))))))))))))
def Zkz(f:Zar)(b:Zak)(d:Zam):Option (Zak×Zal):=(Znk d).bind fun g=>bif(!g)then(ZbE (1:Int)).bind fun h=>some (b,h)else(ZkM (Zap.mk f b d)).bind fun e=>some (e.2.fs,e.1)
instance ZLO{b d e}:Con (Zkz b d e) (eS 7 [.agg (Zar.c b),.agg (Zak.c d),.agg (Zam.c e)] fun r=>.tup [(true,Zak.c r.1),(true,Zal.c r.2)]):=kS Tryz.func7 (kC fun _=>kB (kC fun _=>kR0) (kD 3 1 [(100000,19)] [] fun _=>kR0))
def Zil:Nat->(List Zam)->Int->Int->(List Zal)->Zar->Zak->Zak->Option (Zak×(List Zal))|0,_,_,_,_,_,_,_=>none|fu+1,e,f,b,g,i,j,n=>bif(decide (b<f))then need (0<=b/\b<(e.length:Int))<|(Zkz i j (e.getD b.toNat Zam.d)).bind fun h=>need ((g++([h.2]:List Zal)).length * 80<=140737488355328/\(g++([h.2]:List Zal)).length<=maxLen)<|Zil fu e f (Zan b 1) (g++([h.2]:List Zal)) i h.1 n else some (j,g)
theorem Zsp:∀{h e f g i b j n},LS z Tryz.f12 [1,1,0,1,0] (Zil h e f g i b j n) (fun r=>.tup [(true,Zak.c r.1),(false,(cLs 8 Zal.c Zal.d) r.2)]) ⟨[(3,.one (.ptr 3 0)),(4,.one (.ptr 4 0)),(6,.one (.ptr 6 0)),(8,.one (.osl 8 i.length)),(13,.one (cL 12 Zam.c Zam.d e)),(14,(Yj f)),(15,(Yj g))],[(mM 8 41 8 Zal.c Zal.d i),(3,.box (Zar.c b)),(4,.box (Zak.c j)),(6,.box (Zak.c n))]⟩:=by
 intro h;induction h with
 |zero=>exact kZ
 |succ h o=>exact kB (kN<|kC fun p=>kM 3 3 Zal.E ([p.2]:List Zal)<|kA 3 4 Zal.E<|kLr 16 [(30,8)] o) (kR [8] [] [])
def ZmD(d:Zar)(e:Zak)(b:List Zam):Option (Zak×(List Zal)):=Zil (((b.length:Int)-(0:Int)).toNat+2) b (b.length:Int) (0:Int) ([]) d e (Zak.mk ([]:(List Zac)) ([]:(List Zab)) ([]:(List Zaa)))
instance ZKD{b e f}:Con (ZmD b e f) (eS 12 [.agg (Zar.c b),.agg (Zak.c e),.one (cL 12 Zam.c Zam.d f)] fun r=>.tup [(true,Zak.c r.1),(false,(cLs 8 Zal.c Zal.d) r.2)]):=kS Tryz.func12 (kLx 8 [] [(6,[(0,cL 5 Zac.c Zac.d []),(1,cL 7 Zab.c Zab.d []),(2,cL 10 Zaa.c Zaa.d [])])] [] [] [(8,8,41,8,Zaj Zal.c Zal.d [])] [] Zsp)
def Zwb(b:Zar):Option (Zax×Zax×Zax×Zax×Zax×Zax×Zax×Zax×Zax×Zax×Zax×Zax×Zax×Zax×Zax×Zax):=some ((Zax.mk (⟨#[105,110]⟩ : ByteArray) b.fMaxIn 0 65535),(Zax.mk (⟨#[111,117,116]⟩ : ByteArray) b.fMaxOut 0 65535),(Zax.mk (⟨#[115,104,97,114,100,115]⟩ : ByteArray) b.fShards 1 8),(Zax.mk (⟨#[98,97,110,115]⟩ : ByteArray) b.fMaxBans 0 1024),(Zax.mk (⟨#[98,111,111,107]⟩ : ByteArray) b.fMaxBook 0 1024),(Zax.mk (⟨#[115,101,99,114,101,116]⟩ : ByteArray) (IntKind.wrap .i64 (IntKind.wrap .u64 (((BitVec.ofInt (IntKind.bits .u64) b.fSecret) &&& (BitVec.ofInt (IntKind.bits .u64) (9223372036854775807:Int))).toNat:Int))) 0 9223372036854775807),(Zax.mk (⟨#[103,114,111,117,112]⟩ : ByteArray) b.fQuota.fGroup 0 64),(Zax.mk (⟨#[112,105,110,103]⟩ : ByteArray) b.fQuota.fPing 0 64),(Zax.mk (⟨#[119,111,114,107]⟩ : ByteArray) b.fQuota.fWork 0 64),(Zax.mk (⟨#[116,105,109,101]⟩ : ByteArray) b.fQuota.fTime 0 64),(Zax.mk (⟨#[104,97,108,102]⟩ : ByteArray) b.fHalf 1 1073741824),(Zax.mk (⟨#[108,105,109,105,116]⟩ : ByteArray) b.fLimit 1 10000),(Zax.mk (⟨#[98,97,110,102,111,114]⟩ : ByteArray) b.fBanFor 1 1073741824),(Zax.mk (⟨#[98,97,115,101]⟩ : ByteArray) b.fBase 1 1073741824),(Zax.mk (⟨#[99,97,112]⟩ : ByteArray) b.fCap b.fBase 1073741824),(Zax.mk (⟨#[106,105,116,116,101,114]⟩ : ByteArray) b.fJitter 0 1073741824))
instance ZLS{b}:Con (Zwb b) (eS 95 [.agg (Zar.c b)] fun r=>.agg ((cP Zax.c (cP Zax.c (cP Zax.c (cP Zax.c (cP Zax.c (cP Zax.c (cP Zax.c (cP Zax.c (cP Zax.c (cP Zax.c (cP Zax.c (cP Zax.c (cP Zax.c (cP Zax.c (cP Zax.c Zax.c))))))))))))))) r)):=kS Tryz.func95 (kR0)
def ZbO:Nat->(Zax×Zax×Zax×Zax×Zax×Zax×Zax×Zax×Zax×Zax×Zax×Zax×Zax×Zax×Zax×Zax)->Int->Option Bool|0,_,_=>none|fu+1,b,d=>bif(decide (d<(16:Int)))then need (0<=d/\d<((16:Nat):Int))<|ix1 d 0 ( bif(decide (b.1.fn<b.1.ffrom))then some false else bif(decide (b.1.fn>b.1.fto))then some false else ZbO fu b (Zan (0:Int) (1:Int)))<|ix1 d 1 ( bif(decide (b.2.1.fn<b.2.1.ffrom))then some false else bif(decide (b.2.1.fn>b.2.1.fto))then some false else ZbO fu b (Zan (1:Int) (1:Int)))<|ix1 d 2 ( bif(decide (b.2.2.1.fn<b.2.2.1.ffrom))then some false else bif(decide (b.2.2.1.fn>b.2.2.1.fto))then some false else ZbO fu b (Zan (2:Int) (1:Int)))<|ix1 d 3 ( bif(decide (b.2.2.2.1.fn<b.2.2.2.1.ffrom))then some false else bif(decide (b.2.2.2.1.fn>b.2.2.2.1.fto))then some false else ZbO fu b (Zan (3:Int) (1:Int)))<|ix1 d 4 ( bif(decide (b.2.2.2.2.1.fn<b.2.2.2.2.1.ffrom))then some false else bif(decide (b.2.2.2.2.1.fn>b.2.2.2.2.1.fto))then some false else ZbO fu b (Zan (4:Int) (1:Int)))<|ix1 d 5 ( bif(decide (b.2.2.2.2.2.1.fn<b.2.2.2.2.2.1.ffrom))then some false else bif(decide (b.2.2.2.2.2.1.fn>b.2.2.2.2.2.1.fto))then some false else ZbO fu b (Zan (5:Int) (1:Int)))<|ix1 d 6 ( bif(decide (b.2.2.2.2.2.2.1.fn<b.2.2.2.2.2.2.1.ffrom))then some false else bif(decide (b.2.2.2.2.2.2.1.fn>b.2.2.2.2.2.2.1.fto))then some false else ZbO fu b (Zan (6:Int) (1:Int)))<|ix1 d 7 ( bif(decide (b.2.2.2.2.2.2.2.1.fn<b.2.2.2.2.2.2.2.1.ffrom))then some false else bif(decide (b.2.2.2.2.2.2.2.1.fn>b.2.2.2.2.2.2.2.1.fto))then some false else ZbO fu b (Zan (7:Int) (1:Int)))<|ix1 d 8 ( bif(decide (b.2.2.2.2.2.2.2.2.1.fn<b.2.2.2.2.2.2.2.2.1.ffrom))then some false else bif(decide (b.2.2.2.2.2.2.2.2.1.fn>b.2.2.2.2.2.2.2.2.1.fto))then some false else ZbO fu b (Zan (8:Int) (1:Int)))<|ix1 d 9 ( bif(decide (b.2.2.2.2.2.2.2.2.2.1.fn<b.2.2.2.2.2.2.2.2.2.1.ffrom))then some false else bif(decide (b.2.2.2.2.2.2.2.2.2.1.fn>b.2.2.2.2.2.2.2.2.2.1.fto))then some false else ZbO fu b (Zan (9:Int) (1:Int)))<|ix1 d 10 ( bif(decide (b.2.2.2.2.2.2.2.2.2.2.1.fn<b.2.2.2.2.2.2.2.2.2.2.1.ffrom))then some false else bif(decide (b.2.2.2.2.2.2.2.2.2.2.1.fn>b.2.2.2.2.2.2.2.2.2.2.1.fto))then some false else ZbO fu b (Zan (10:Int) (1:Int)))<|ix1 d 11 ( bif(decide (b.2.2.2.2.2.2.2.2.2.2.2.1.fn<b.2.2.2.2.2.2.2.2.2.2.2.1.ffrom))then some false else bif(decide (b.2.2.2.2.2.2.2.2.2.2.2.1.fn>b.2.2.2.2.2.2.2.2.2.2.2.1.fto))then some false else ZbO fu b (Zan (11:Int) (1:Int)))<|ix1 d 12 ( bif(decide (b.2.2.2.2.2.2.2.2.2.2.2.2.1.fn<b.2.2.2.2.2.2.2.2.2.2.2.2.1.ffrom))then some false else bif(decide (b.2.2.2.2.2.2.2.2.2.2.2.2.1.fn>b.2.2.2.2.2.2.2.2.2.2.2.2.1.fto))then some false else ZbO fu b (Zan (12:Int) (1:Int)))<|ix1 d 13 ( bif(decide (b.2.2.2.2.2.2.2.2.2.2.2.2.2.1.fn<b.2.2.2.2.2.2.2.2.2.2.2.2.2.1.ffrom))then some false else bif(decide (b.2.2.2.2.2.2.2.2.2.2.2.2.2.1.fn>b.2.2.2.2.2.2.2.2.2.2.2.2.2.1.fto))then some false else ZbO fu b (Zan (13:Int) (1:Int)))<|ix1 d 14 ( bif(decide (b.2.2.2.2.2.2.2.2.2.2.2.2.2.2.1.fn<b.2.2.2.2.2.2.2.2.2.2.2.2.2.2.1.ffrom))then some false else bif(decide (b.2.2.2.2.2.2.2.2.2.2.2.2.2.2.1.fn>b.2.2.2.2.2.2.2.2.2.2.2.2.2.2.1.fto))then some false else ZbO fu b (Zan (14:Int) (1:Int)))<|bif(decide (b.2.2.2.2.2.2.2.2.2.2.2.2.2.2.2.fn<b.2.2.2.2.2.2.2.2.2.2.2.2.2.2.2.ffrom))then some false else bif(decide (b.2.2.2.2.2.2.2.2.2.2.2.2.2.2.2.fn>b.2.2.2.2.2.2.2.2.2.2.2.2.2.2.2.fto))then some false else ZbO fu b (Zan (15:Int) (1:Int))else some true
theorem Zrw:∀{g b f},LS z Tryz.f32 [1,1,0,1,0] (ZbO g b f) Yk ⟨[(9,.agg [.lit (.string b.1.fword),.lit (.int .i64 b.1.fn),.lit (.int .i64 b.1.ffrom),.lit (.int .i64 b.1.fto),.lit (.string b.2.1.fword),.lit (.int .i64 b.2.1.fn),.lit (.int .i64 b.2.1.ffrom),.lit (.int .i64 b.2.1.fto),.lit (.string b.2.2.1.fword),.lit (.int .i64 b.2.2.1.fn),.lit (.int .i64 b.2.2.1.ffrom),.lit (.int .i64 b.2.2.1.fto),.lit (.string b.2.2.2.1.fword),.lit (.int .i64 b.2.2.2.1.fn),.lit (.int .i64 b.2.2.2.1.ffrom),.lit (.int .i64 b.2.2.2.1.fto),.lit (.string b.2.2.2.2.1.fword),.lit (.int .i64 b.2.2.2.2.1.fn),.lit (.int .i64 b.2.2.2.2.1.ffrom),.lit (.int .i64 b.2.2.2.2.1.fto),.lit (.string b.2.2.2.2.2.1.fword),.lit (.int .i64 b.2.2.2.2.2.1.fn),.lit (.int .i64 b.2.2.2.2.2.1.ffrom),.lit (.int .i64 b.2.2.2.2.2.1.fto),.lit (.string b.2.2.2.2.2.2.1.fword),.lit (.int .i64 b.2.2.2.2.2.2.1.fn),.lit (.int .i64 b.2.2.2.2.2.2.1.ffrom),.lit (.int .i64 b.2.2.2.2.2.2.1.fto),.lit (.string b.2.2.2.2.2.2.2.1.fword),.lit (.int .i64 b.2.2.2.2.2.2.2.1.fn),.lit (.int .i64 b.2.2.2.2.2.2.2.1.ffrom),.lit (.int .i64 b.2.2.2.2.2.2.2.1.fto),.lit (.string b.2.2.2.2.2.2.2.2.1.fword),.lit (.int .i64 b.2.2.2.2.2.2.2.2.1.fn),.lit (.int .i64 b.2.2.2.2.2.2.2.2.1.ffrom),.lit (.int .i64 b.2.2.2.2.2.2.2.2.1.fto),.lit (.string b.2.2.2.2.2.2.2.2.2.1.fword),.lit (.int .i64 b.2.2.2.2.2.2.2.2.2.1.fn),.lit (.int .i64 b.2.2.2.2.2.2.2.2.2.1.ffrom),.lit (.int .i64 b.2.2.2.2.2.2.2.2.2.1.fto),.lit (.string b.2.2.2.2.2.2.2.2.2.2.1.fword),.lit (.int .i64 b.2.2.2.2.2.2.2.2.2.2.1.fn),.lit (.int .i64 b.2.2.2.2.2.2.2.2.2.2.1.ffrom),.lit (.int .i64 b.2.2.2.2.2.2.2.2.2.2.1.fto),.lit (.string b.2.2.2.2.2.2.2.2.2.2.2.1.fword),.lit (.int .i64 b.2.2.2.2.2.2.2.2.2.2.2.1.fn),.lit (.int .i64 b.2.2.2.2.2.2.2.2.2.2.2.1.ffrom),.lit (.int .i64 b.2.2.2.2.2.2.2.2.2.2.2.1.fto),.lit (.string b.2.2.2.2.2.2.2.2.2.2.2.2.1.fword),.lit (.int .i64 b.2.2.2.2.2.2.2.2.2.2.2.2.1.fn),.lit (.int .i64 b.2.2.2.2.2.2.2.2.2.2.2.2.1.ffrom),.lit (.int .i64 b.2.2.2.2.2.2.2.2.2.2.2.2.1.fto),.lit (.string b.2.2.2.2.2.2.2.2.2.2.2.2.2.1.fword),.lit (.int .i64 b.2.2.2.2.2.2.2.2.2.2.2.2.2.1.fn),.lit (.int .i64 b.2.2.2.2.2.2.2.2.2.2.2.2.2.1.ffrom),.lit (.int .i64 b.2.2.2.2.2.2.2.2.2.2.2.2.2.1.fto),.lit (.string b.2.2.2.2.2.2.2.2.2.2.2.2.2.2.1.fword),.lit (.int .i64 b.2.2.2.2.2.2.2.2.2.2.2.2.2.2.1.fn),.lit (.int .i64 b.2.2.2.2.2.2.2.2.2.2.2.2.2.2.1.ffrom),.lit (.int .i64 b.2.2.2.2.2.2.2.2.2.2.2.2.2.2.1.fto),.lit (.string b.2.2.2.2.2.2.2.2.2.2.2.2.2.2.2.fword),.lit (.int .i64 b.2.2.2.2.2.2.2.2.2.2.2.2.2.2.2.fn),.lit (.int .i64 b.2.2.2.2.2.2.2.2.2.2.2.2.2.2.2.ffrom),.lit (.int .i64 b.2.2.2.2.2.2.2.2.2.2.2.2.2.2.2.fto)]),(10,(Yj f))],[]⟩:=by
 intro g;induction g with
 |zero=>exact kZ
 |succ g d=>intro b f;exact kB (kNm fun F=>kI (fun e=>by subst e;exact kH (show 0<=(0:Int)/\(0:Int)<((16:Nat):Int)from(by decide))<|kB (kK true<|kR0) (kB kR0 (kL 17 d))) fun p=>kI (fun e=>by subst e;exact kH (show 0<=(1:Int)/\(1:Int)<((16:Nat):Int)from(by decide))<|kB (kK true<|kR0) (kB kR0 (kL 17 d))) fun t=>kI (fun e=>by subst e;exact kH (show 0<=(2:Int)/\(2:Int)<((16:Nat):Int)from(by decide))<|kB (kK true<|kR0) (kB kR0 (kL 17 d))) fun u=>kI (fun e=>by subst e;exact kH (show 0<=(3:Int)/\(3:Int)<((16:Nat):Int)from(by decide))<|kB (kK true<|kR0) (kB kR0 (kL 17 d))) fun v=>kI (fun e=>by subst e;exact kH (show 0<=(4:Int)/\(4:Int)<((16:Nat):Int)from(by decide))<|kB (kK true<|kR0) (kB kR0 (kL 17 d))) fun y=>kI (fun e=>by subst e;exact kH (show 0<=(5:Int)/\(5:Int)<((16:Nat):Int)from(by decide))<|kB (kK true<|kR0) (kB kR0 (kL 17 d))) fun A=>kI (fun e=>by subst e;exact kH (show 0<=(6:Int)/\(6:Int)<((16:Nat):Int)from(by decide))<|kB (kK true<|kR0) (kB kR0 (kL 17 d))) fun B=>kI (fun e=>by subst e;exact kH (show 0<=(7:Int)/\(7:Int)<((16:Nat):Int)from(by decide))<|kB (kK true<|kR0) (kB kR0 (kL 17 d))) fun C=>kI (fun e=>by subst e;exact kH (show 0<=(8:Int)/\(8:Int)<((16:Nat):Int)from(by decide))<|kB (kK true<|kR0) (kB kR0 (kL 17 d))) fun D=>kI (fun e=>by subst e;exact kH (show 0<=(9:Int)/\(9:Int)<((16:Nat):Int)from(by decide))<|kB (kK true<|kR0) (kB kR0 (kL 17 d))) fun E=>kI (fun e=>by subst e;exact kH (show 0<=(10:Int)/\(10:Int)<((16:Nat):Int)from(by decide))<|kB (kK true<|kR0) (kB kR0 (kL 17 d))) fun h=>kI (fun e=>by subst e;exact kH (show 0<=(11:Int)/\(11:Int)<((16:Nat):Int)from(by decide))<|kB (kK true<|kR0) (kB kR0 (kL 17 d))) fun i=>kI (fun e=>by subst e;exact kH (show 0<=(12:Int)/\(12:Int)<((16:Nat):Int)from(by decide))<|kB (kK true<|kR0) (kB kR0 (kL 17 d))) fun j=>kI (fun e=>by subst e;exact kH (show 0<=(13:Int)/\(13:Int)<((16:Nat):Int)from(by decide))<|kB (kK true<|kR0) (kB kR0 (kL 17 d))) fun n=>kI (fun e=>by subst e;exact kH (show 0<=(14:Int)/\(14:Int)<((16:Nat):Int)from(by decide))<|kB (kK true<|kR0) (kB kR0 (kL 17 d))) fun o=>by obtain rfl:f=15:=(by omega);exact kH (show 0<=(15:Int)/\(15:Int)<((16:Nat):Int)from(by decide))<|kB (kK true<|kR0) (kB kR0 (kL 17 d))) kR0
def ZsN(b:Zar):Option Bool:=bif(decide (b.fSecret>(9223372036854775807:Int)))then some false else(Zwb b).bind fun d=>ZbO (((16:Int)-(0:Int)).toNat+2) d (0:Int)
instance ZJq{b}:Con (ZsN b) (eS 32 [.agg (Zar.c b)] Yk):=kS Tryz.func32 (kB kR0 (kC fun _=>kL 11 Zrw))
def ZkY(f:List Zac):Nat->(List Zac)->Int->Int->Option Bool|0,_,_,_=>none|fu+1,e,g,b=>bif(decide (b<g))then need (0<=b/\b<(e.length:Int))<|(ZmO (e.getD b.toNat Zac.d)).bind fun h=>bif(!h)then some false else bif(decide (b>(0:Int)))then need (0<=(Zaz b (1:Int))/\(Zaz b (1:Int))<(f.length:Int))<|(ZjU ((f.getD (Zaz b (1:Int)).toNat Zac.d).fNet) ((e.getD b.toNat Zac.d).fNet)).bind fun i=>bif(decide (i>=(0:Int)))then some false else ZkY f fu e g (Zan b 1)else ZkY f fu e g (Zan b 1)else some true
theorem ZrE{d}:∀{b e f g},LS z Tryz.f33 [1,0,1,0] (ZkY d b e f g) Yk ⟨[(0,(Yl d)),(5,(Yl e)),(6,(Yj f)),(7,(Yj g))],[]⟩:=by
 intro b;induction b with
 |zero=>exact kZ
 |succ b h=>exact kB (kN<|kC fun _=>kB (kK true<|kR0) (kB (kN<|kC fun _=>kB kR0 (kL 17 h)) (kK false<|kL 17 h))) kR0
def ZsP(b:List Zac):Option Bool:=ZkY b (((b.length:Int)-(0:Int)).toNat+2) b (b.length:Int) (0:Int)
instance ZJD{b}:Con (ZsP b) (eS 33 [Yl b] Yk):=kS Tryz.func33 (kL 6 ZrE)
def ZkX(f:List Zab):Nat->(List Zab)->Int->Int->Option Bool|0,_,_,_=>none|fu+1,e,g,b=>bif(decide (b<g))then need (0<=b/\b<(e.length:Int))<|(ZhW (e.getD b.toNat Zab.d)).bind fun h=>bif(!h)then some false else bif(decide (b>(0:Int)))then need (0<=(Zaz b (1:Int))/\(Zaz b (1:Int))<(f.length:Int))<|(ZeM ((f.getD (Zaz b (1:Int)).toNat Zab.d).fEnd) ((e.getD b.toNat Zab.d).fEnd)).bind fun i=>bif(decide (i>=(0:Int)))then some false else ZkX f fu e g (Zan b 1)else ZkX f fu e g (Zan b 1)else some true
theorem Zrz{d}:∀{b e f g},LS z Tryz.f34 [1,0,1,0] (ZkX d b e f g) Yk ⟨[(0,(Yn d)),(5,(Yn e)),(6,(Yj f)),(7,(Yj g))],[]⟩:=by
 intro b;induction b with
 |zero=>exact kZ
 |succ b h=>exact kB (kN<|kC fun _=>kB (kK true<|kR0) (kB (kN<|kC fun _=>kB kR0 (kL 17 h)) (kK false<|kL 17 h))) kR0
def ZsO(b:List Zab):Option Bool:=ZkX b (((b.length:Int)-(0:Int)).toNat+2) b (b.length:Int) (0:Int)
instance ZJx{b}:Con (ZsO b) (eS 34 [Yn b] Yk):=kS Tryz.func34 (kL 6 Zrz)
def Zkb(f:List Zaa):Nat->(List Zaa)->Int->Int->Option Bool|0,_,_,_=>none|fu+1,e,g,b=>bif(decide (b<g))then need (0<=b/\b<(e.length:Int))<|(ZhA (e.getD b.toNat Zaa.d)).bind fun h=>bif(!h)then some false else bif(decide (b>(0:Int)))then need (0<=(Zaz b (1:Int))/\(Zaz b (1:Int))<(f.length:Int))<|(ZeK (f.getD (Zaz b (1:Int)).toNat Zaa.d) (e.getD b.toNat Zaa.d)).bind fun i=>bif(decide (i>=(0:Int)))then some false else Zkb f fu e g (Zan b 1)else Zkb f fu e g (Zan b 1)else some true
theorem Zqr{d}:∀{b e f g},LS z Tryz.f35 [1,0,1,0] (Zkb d b e f g) Yk ⟨[(0,(Ym d)),(5,(Ym e)),(6,(Yj f)),(7,(Yj g))],[]⟩:=by
 intro b;induction b with
 |zero=>exact kZ
 |succ b h=>exact kB (kN<|kC fun _=>kB (kK true<|kR0) (kB (kN<|kC fun _=>kB kR0 (kL 17 h)) (kK false<|kL 17 h))) kR0
def Zrq(b:List Zaa):Option Bool:=Zkb b (((b.length:Int)-(0:Int)).toNat+2) b (b.length:Int) (0:Int)
instance ZHe{b}:Con (Zrq b) (eS 35 [Ym b] Yk):=kS Tryz.func35 (kL 6 Zqr)
def Zjm:Nat->(List Zaa)->Int->Int->Zak->Option Bool|0,_,_,_,_=>none|fu+1,f,h,b,e=>bif(decide (b<h))then need (0<=b/\b<(f.length:Int))<|(ZiW e.fBook ((f.getD b.toNat Zaa.d).fEnd)).bind fun g=>bif(!(f.getD b.toNat Zaa.d).fIn)then bif(decide (g<(0:Int)))then some false else need (0<=g/\g<(e.fBook.length:Int))<|bif((e.fBook.getD g.toNat Zab.d).fState != (3:Int))then some false else Zjm fu f h (Zan b 1) e else Zjm fu f h (Zan b 1) e else(ZlM e.fBook (3:Int)).bind fun i=>(ZhL e.fPeers false).bind fun j=>some (i==j)
theorem ZpV:∀{b f g h e},LS z Tryz.f38 [1,0,1,0] (Zjm b f g h e) Yk ⟨[(1,.one (.ptr 1 0)),(7,(Ym f)),(8,(Yj g)),(9,(Yj h))],[(1,.box (Zak.c e))]⟩:=by
 intro b;induction b with
 |zero=>exact kZ
 |succ b i=>exact kB (kN<|kC fun _=>kB (kB (kK true<|kR0) (kN<|kB kR0 (kL 19 i))) (kK false<|kL 19 i)) (kC fun _=>kC fun _=>kR0)
def Zqe(b:Zak):Option Bool:=Zjm (((b.fPeers.length:Int)-(0:Int)).toNat+2) b.fPeers (b.fPeers.length:Int) (0:Int) b
instance ZFx{b}:Con (Zqe b) (eS 38 [.agg (Zak.c b)] Yk):=kS Tryz.func38 (kL 6 ZpV)
def Zrs(d:Zar)(b:Zak):Option Bool:=(ZsN d).bind fun e=>bif(!e)then some false else(ZsP b.fBans).bind fun f=>bif(!f)then some false else(ZsO b.fBook).bind fun g=>bif(!g)then some false else(Zrq b.fPeers).bind fun h=>bif(!h)then some false else bif(decide ((b.fBans.length:Int)<=d.fMaxBans))then bif(decide ((b.fBook.length:Int)<=d.fMaxBook))then(ZhL b.fPeers true).bind fun i=>bif(decide (i<=d.fMaxIn))then(ZiO b).bind fun j=>bif(decide (j<=d.fMaxOut))then(Zqe b).bind fun n=>some n else some false else some false else some false else some false
instance ZHp{b d}:Con (Zrs b d) (eS 9 [.agg (Zar.c b),.agg (Zak.c d)] Yk):=kS Tryz.func9 (kC fun _=>kB (kK true<|kK true<|kK true<|kR0) (kC fun _=>kB (kK true<|kK true<|kR0) (kC fun _=>kB (kK true<|kR0) (kC fun _=>kB kR0 (kB (kB (kC fun _=>kB (kC fun _=>kB (kC fun _=>kR0) kR0) (kK false<|kR0)) (kK false<|kK false<|kR0)) (kK false<|kK false<|kK false<|kR0))))))
def ZcD:Option Bool:=(ZlV).bind fun e=>(ZmD e (Zak.mk ([]:(List Zac)) ([]:(List Zab)) ([]:(List Zaa))) ([(Zam.mk 1 (Zah.mk (Zaf.mk false 0 1) 80) (Zae.mk (Zaf.mk false 0 0) 0) 5 0 false),(Zam.mk 1 (Zah.mk (Zaf.mk false 0 1) 80) (Zae.mk (Zaf.mk false 0 0) 0) 5 0 false)]:List Zam)).bind fun b=>bif(((b.2.length:Nat):Int)==(2:Int))then need (0<=(0:Int)/\(0:Int)<((b.2.length:Nat):Int))<|bif((b.2.getD (0:Int).toNat Zal.d).fCode==(0:Int))then need (0<=(1:Int)/\(1:Int)<((b.2.length:Nat):Int))<|bif((b.2.getD (1:Int).toNat Zal.d).fCode==(7:Int))then bif(((b.1.fPeers.length:Nat):Int)==(1:Int))then need (0<=(0:Int)/\(0:Int)<((b.1.fPeers.length:Nat):Int))<|bif((b.1.fPeers.getD (0:Int).toNat Zaa.d).fSince==(5:Int))then(Zrs e b.1).bind fun f=>some f else some false else some false else some false else some false else some false
instance ZxQ:Con (ZcD) (eS 6 [] Yk):=kS Tryz.func6 (kC fun _=>kM 3 4 Zam.E ([(Zam.mk 1 (Zah.mk (Zaf.mk false 0 1) 80) (Zae.mk (Zaf.mk false 0 0) 0) 5 0 false),(Zam.mk 1 (Zah.mk (Zaf.mk false 0 1) 80) (Zae.mk (Zaf.mk false 0 0) 0) 5 0 false)]:List Zam)<|kC fun _=>kB (kN<|kB (kN<|kB (kB (kN<|kB (kC fun _=>kX 3 ⟨[],[],[],[],[(1,[(0,cL 5 Zac.c Zac.d []),(1,cL 7 Zab.c Zab.d []),(2,cL 10 Zaa.c Zaa.d [])])],[],[]⟩<|kR0) (kX 3 ⟨[],[],[],[],[(1,[(0,cL 5 Zac.c Zac.d []),(1,cL 7 Zab.c Zab.d []),(2,cL 10 Zaa.c Zaa.d [])])],[],[]⟩<|kR0)) (kK false<|kX 3 ⟨[],[],[],[],[(1,[(0,cL 5 Zac.c Zac.d []),(1,cL 7 Zab.c Zab.d []),(2,cL 10 Zaa.c Zaa.d [])])],[],[]⟩<|kR0)) (kK false<|kK false<|kX 3 ⟨[],[],[],[],[(1,[(0,cL 5 Zac.c Zac.d []),(1,cL 7 Zab.c Zab.d []),(2,cL 10 Zaa.c Zaa.d [])])],[],[]⟩<|kR0)) (kK false<|kK false<|kK false<|kX 3 ⟨[],[],[],[],[(1,[(0,cL 5 Zac.c Zac.d []),(1,cL 7 Zab.c Zab.d []),(2,cL 10 Zaa.c Zaa.d [])])],[],[]⟩<|kR0)) (kK false<|kK false<|kK false<|kK false<|kX 3 ⟨[],[],[],[],[(1,[(0,cL 5 Zac.c Zac.d []),(1,cL 7 Zab.c Zab.d []),(2,cL 10 Zaa.c Zaa.d [])])],[],[]⟩<|kR0))
def ZdY:Nat->Int->Zae->Zaf->Option Bool|0,_,_,_=>none|fu+1,b,d,e=>bif(decide (b<d.fBits))then(Zbx d.fAddr b).bind fun f=>(Zbx e b).bind fun g=>bif(f != g)then some false else ZdY fu (Zan b 1) d e else some true
theorem ZnN:∀{d f b e},LS z Tryz.f14 [1,1,0,1,0] (ZdY d f b e) Yk ⟨[(2,.one (.ptr 2 0)),(3,.one (.ptr 3 0)),(5,(Yj f))],[(2,.box (Zae.c b)),(3,.box (Zaf.c e))]⟩:=by
 intro d;induction d with
 |zero=>exact kZ
 |succ d g=>exact kB (kC fun _=>kC fun _=>kB kR0 (kL 15 g)) kR0
def Zfg(b:Zae)(d:Zaf):Option Bool:=(Zer b).bind fun e=>bif(!e)then some false else(Zbw d).bind fun f=>bif(!f)then some false else bif(!(b.fAddr.fV6==d.fV6))then some false else ZdY 1000000 (0:Int) b d
instance ZAj{b d}:Con (Zfg b d) (eS 14 [.agg (Zae.c b),.agg (Zaf.c d)] Yk):=kS Tryz.func14 (kC fun _=>kB (kK true<|kK true<|kR0) (kC fun _=>kB (kK true<|kR0) (kB kR0 (kL 11 ZnN))))
def Zic(b:Zam)(d:Zac):Option Bool:=bif(b.fKind==(7:Int))then bif(decide (b.fNet=d.fNet))then some true else bif(b.fKind==(9:Int))then some (decide (b.fNow>=d.fUntil))else some false else bif(b.fKind==(9:Int))then some (decide (b.fNow>=d.fUntil))else some false
instance Zzc{b d}:Con (Zic b d) (eS 15 [.agg (Zam.c b),.agg (Zac.c d)] Yk):=kS Tryz.func15 (kB (kQ 1 8 (Zjr b.fNet d.fNet (.tmp 10) (.tmp 12))<|kB kR0 (kB kR0 kR0)) (kK false<|kB kR0 kR0))
def Zcl(b:Zac)(d:Zaf)(e:Int):Option Bool:=bif(decide (b.fUntil>e))then(Zfg b.fNet d).bind fun f=>some f else some false
instance Zza{b d e}:Con (Zcl b d e) (eS 16 [.agg (Zac.c b),.agg (Zaf.c d),Yj e] Yk):=kS Tryz.func16 (kB (kC fun _=>kR0) kR0)
def Zdk(o:Int)(p:Zar)(h:Zaw)(d:Int)(ai:Int->Zar->Zaw->Zak->Option Bool)(aj:Int->Zak->Option Bool)(e:Zak)(b:Zam)(f:Zal)(g:Zaf):Option Bool:=bif(b.fKind==(1:Int))then bif(f.fCode==(0:Int))then(Zcl h.fBan g b.fNow).bind fun i=>bif i then some false else aj (Zan d 1) e else aj (Zan d 1) e else bif(b.fKind==(3:Int))then bif(f.fCode==(0:Int))then(Zcl h.fBan g b.fNow).bind fun j=>bif j then some false else aj (Zan d 1) e else aj (Zan d 1) e else bif(b.fKind==(4:Int))then bif b.fGood then bif(f.fCode==(0:Int))then(Zcl h.fBan g b.fNow).bind fun n=>bif n then some false else aj (Zan d 1) e else aj (Zan d 1) e else aj (Zan d 1) e else aj (Zan d 1) e
theorem ZhC{v:Int}{e:Zar}{j:Zaw}{u:Int}{ai:Int->Zar->Zaw->Zak->Option Bool}{aj:Int->Zak->Option Bool}(aW:∀{o b i g},LS z Tryz.f4 [1,1,1,1,1,0,1,0] (ai o b i g) Yk ⟨[(2,.one (.ptr 2 0)),(3,.one (.ptr 3 0)),(5,.one (.ptr 5 0)),(8,(Yj o))],[(2,.box (Zar.c b)),(3,.box (Zaw.c i)),(5,.box (Zak.c g))]⟩)(au:∀{p g},LS z Tryz.f4 [1,1,1,1,1,1,0,1,0] (aj p g) Yk ⟨[(2,.one (.ptr 2 0)),(3,.one (.ptr 3 0)),(5,.one (.ptr 5 0)),(9,(Yj p))],[(2,.box (Zar.c e)),(3,.box (Zaw.c j)),(5,.box (Zak.c g))]⟩){t f h n}:LS z Tryz.f4 [1,1,1,1,1,1,0,1,0,0,1,0,0,1,1,1,1,1,1] (Zdk v e j u ai aj t f h n) Yk ⟨[(2,.one (.ptr 2 0)),(3,.one (.ptr 3 0)),(5,.one (.ptr 5 0)),(9,(Yj u)),(10,.one (.ptr 10 0)),(12,.one (.ptr 12 0)),(13,.one (.ptr 13 0))],[(2,.box (Zar.c e)),(3,.box (Zaw.c j)),(5,.box (Zak.c t)),(10,.box (Zam.c f)),(12,.box (Zal.c h)),(13,.box (Zaf.c n))]⟩:=kB (kK true<|kK true<|kB (kC fun _=>kB kR0 (kL 9 au)) (kK false<|kL 9 au)) (kB (kK true<|kB (kC fun _=>kB kR0 (kL 9 au)) (kK false<|kL 9 au)) (kB (kB (kB (kC fun _=>kB kR0 (kL 9 au)) (kK false<|kL 9 au)) (kK false<|kK false<|kL 9 au)) (kK false<|kK false<|kK false<|kL 9 au)))
def ZbY(h:Int)(g:Zar)(b:Zaw)(ai:Int->Zar->Zaw->Zak->Option Bool):Nat->Int->Zak->Option Bool|0,_,_=>none|fu+1,e,o=>bif(decide (e<(b.fAfter.length:Int)))then need (0<=e/\e<(b.fAfter.length:Int))<|(Zic (b.fAfter.getD e.toNat Zam.d) b.fBan).bind fun i=>bif i then(ZcD).bind fun j=>some j else(Zkz g o (b.fAfter.getD e.toNat Zam.d)).bind fun f=>bif((b.fAfter.getD e.toNat Zam.d).fKind==(3:Int))then Zdk h g b e ai (ZbY h g b ai fu) f.1 (b.fAfter.getD e.toNat Zam.d) f.2 f.2.fEnd.fAddr else Zdk h g b e ai (ZbY h g b ai fu) f.1 (b.fAfter.getD e.toNat Zam.d) f.2 (((b.fAfter.getD e.toNat Zam.d).fEnd).fAddr)else(ZcD).bind fun n=>some n
theorem ZlI{t:Int}{e:Zar}{h:Zaw}{ai:Int->Zar->Zaw->Zak->Option Bool}(aW:∀{i b f g},LS z Tryz.f4 [1,1,1,1,1,0,1,0] (ai i b f g) Yk ⟨[(2,.one (.ptr 2 0)),(3,.one (.ptr 3 0)),(5,.one (.ptr 5 0)),(8,(Yj i))],[(2,.box (Zar.c b)),(3,.box (Zaw.c f)),(5,.box (Zak.c g))]⟩):∀{j o n},LS z Tryz.f4 [1,1,1,1,1,1,0,1,0] (ZbY t e h ai j o n) Yk ⟨[(2,.one (.ptr 2 0)),(3,.one (.ptr 3 0)),(5,.one (.ptr 5 0)),(9,(Yj o))],[(2,.box (Zar.c e)),(3,.box (Zaw.c h)),(5,.box (Zak.c n))]⟩:=by
 intro j;induction j with
 |zero=>exact kZ
 |succ j p=>exact kB (kN<|kC fun _=>kB (kC fun _=>kR0) (kC fun _=>kB (kL 26 (ZhC aW p)) (kL 26 (ZhC aW p)))) (kC fun _=>kR0)
def Zcm:Nat->Int->Zar->Zaw->Zak->Option Bool|0,_,_,_,_=>none|fu+1,b,h,f,e=>bif(decide (b<(e.fPeers.length:Int)))then need (0<=b/\b<(e.fPeers.length:Int))<|(Zfg f.fBan.fNet (((e.fPeers.getD b.toNat Zaa.d).fEnd).fAddr)).bind fun g=>bif g then some false else Zcm fu (Zan b 1) h f e else ZbY b h f (Zcm fu) 1000000 (0:Int) e
theorem ZlJ:∀{f h b e g},LS z Tryz.f4 [1,1,1,1,1,0,1,0] (Zcm f h b e g) Yk ⟨[(2,.one (.ptr 2 0)),(3,.one (.ptr 3 0)),(5,.one (.ptr 5 0)),(8,(Yj h))],[(2,.box (Zar.c b)),(3,.box (Zaw.c e)),(5,.box (Zak.c g))]⟩:=by
 intro f;induction f with
 |zero=>exact kZ
 |succ f i=>exact kB (kN<|kC fun _=>kB kR0 (kL 15 i)) (kL 10 (ZlI i))
def Zhs(d:Zar)(b:Zaw):Option Bool:=bif(decide ((b.fBefore.length:Int)>(40:Int)))then(ZcD).bind fun f=>some f else bif(decide ((b.fAfter.length:Int)>(40:Int)))then(ZcD).bind fun g=>some g else(Zhf d).bind fun h=>bif(!h)then(ZcD).bind fun i=>some i else(ZfC b.fBan).bind fun j=>bif(!j)then(ZcD).bind fun n=>some n else(ZmD d (Zak.mk ([]:(List Zac)) ([]:(List Zab)) ([]:(List Zaa))) b.fBefore).bind fun o=>(Zkz d o.1 (Zam.mk 6 (Zah.mk (Zaf.mk false 0 0) 0) b.fBan.fNet 0 b.fBan.fUntil false)).bind fun e=>bif(e.2.fCode != (0:Int))then bif(e.2.fCode==(5:Int))then(ZcD).bind fun p=>some p else some false else Zcm 1000000 (0:Int) d b e.1
instance Zvl{b e}:Con (Zhs b e) (eS 4 [.agg (Zar.c b),.agg (Zaw.c e)] Yk):=kS Tryz.func4 (kB (kK true<|kK true<|kK true<|kC fun _=>kR0) (kB (kK true<|kK true<|kC fun _=>kR0) (kC fun _=>kB (kK true<|kC fun _=>kR0) (kC fun _=>kB (kC fun _=>kR0) (kC fun _=>kC fun _=>kB (kB (kC fun _=>kX 2 ⟨[],[],[],[],[(1,[(0,cL 5 Zac.c Zac.d []),(1,cL 7 Zab.c Zab.d []),(2,cL 10 Zaa.c Zaa.d [])])],[],[]⟩<|kR0) (kX 2 ⟨[],[],[],[],[(1,[(0,cL 5 Zac.c Zac.d []),(1,cL 7 Zab.c Zab.d []),(2,cL 10 Zaa.c Zaa.d [])])],[],[]⟩<|kR0)) (kX 2 ⟨[],[],[],[],[(1,[(0,cL 5 Zac.c Zac.d []),(1,cL 7 Zab.c Zab.d []),(2,cL 10 Zaa.c Zaa.d [])])],[],[]⟩<|kL 20 ZlJ))))))
def Zjx(b:Int):Option ByteArray:=bif(decide (b<(1:Int)))then some (⟨#[]⟩ : ByteArray)else bif(decide (b>(13:Int)))then some (⟨#[]⟩ : ByteArray)else need (0<=b/\b<((([(⟨#[]⟩ : ByteArray),(⟨#[101,116]⟩ : ByteArray),(⟨#[101]⟩ : ByteArray),(⟨#[116]⟩ : ByteArray),(⟨#[101,103,116,107]⟩ : ByteArray),(⟨#[101,107,116]⟩ : ByteArray),(⟨#[110,107,116]⟩ : ByteArray),(⟨#[110]⟩ : ByteArray),(⟨#[97,116]⟩ : ByteArray),(⟨#[116]⟩ : ByteArray),(⟨#[]⟩ : ByteArray),(⟨#[101,107]⟩ : ByteArray),(⟨#[101,116]⟩ : ByteArray),(⟨#[101,116]⟩ : ByteArray)]:List ByteArray).length:Nat):Int))<|some (([(⟨#[]⟩ : ByteArray),(⟨#[101,116]⟩ : ByteArray),(⟨#[101]⟩ : ByteArray),(⟨#[116]⟩ : ByteArray),(⟨#[101,103,116,107]⟩ : ByteArray),(⟨#[101,107,116]⟩ : ByteArray),(⟨#[110,107,116]⟩ : ByteArray),(⟨#[110]⟩ : ByteArray),(⟨#[97,116]⟩ : ByteArray),(⟨#[116]⟩ : ByteArray),(⟨#[]⟩ : ByteArray),(⟨#[101,107]⟩ : ByteArray),(⟨#[101,116]⟩ : ByteArray),(⟨#[101,116]⟩ : ByteArray)]:List ByteArray).getD b.toNat ByteArray.empty)
def Zhj(b:Zah):Option Bool:=(Zbw b.fAddr).bind fun d=>bif d then bif(decide (b.fPort>(0:Int)))then some (decide (b.fPort<(65536:Int)))else some false else some false
def ZbF(f g:Int)(d:Zam):Nat->ByteArray->Int->Option Bool|0,_,_=>none|fu+1,e,b=>bif(decide (b<((e.size:Nat):Int)))then need (0<=b/\b<((e.size:Nat):Int))<|bif(((Zld e b.toNat:Nat):Int)==(101:Int))then(Zhj d.fEnd).bind fun h=>bif(!h)then some false else ZbF f g d fu e (Zan b 1)else bif(((Zld e b.toNat:Nat):Int)==(110:Int))then(Zer d.fNet).bind fun i=>bif(!i)then some false else ZbF f g d fu e (Zan b 1)else bif(((Zld e b.toNat:Nat):Int)==(97:Int))then(Zbw d.fEnd.fAddr).bind fun j=>bif(!j)then some false else ZbF f g d fu e (Zan b 1)else bif(((Zld e b.toNat:Nat):Int)==(116:Int))then bif(decide (d.fNow<(0:Int)))then some false else bif(decide (d.fNow>(1099511627776:Int)))then some false else ZbF f g d fu e (Zan b 1)else bif(((Zld e b.toNat:Nat):Int)==(107:Int))then bif(decide (d.fNum<f))then some false else bif(decide (d.fNum>g))then some false else ZbF f g d fu e (Zan b 1)else ZbF f g d fu e (Zan b 1)else some true
def Zef(e f:Int)(b:Zam):Option Bool:=(Zjx b.fKind).bind fun d=>ZbF e f b ((((d.size:Nat):Int)-(0:Int)).toNat+2) d (0:Int)
def Zjy(b:Zam):Option Bool:=bif(decide (b.fKind<(1:Int)))then some false else bif(decide (b.fKind>(13:Int)))then some false else bif(b.fKind==(5:Int))then Zef (1:Int) (5:Int) b else bif(b.fKind==(6:Int))then Zef (1:Int) (1099511627776:Int) b else bif(b.fKind==(11:Int))then Zef (1:Int) (1048576:Int) b else Zef (0:Int) (1073741824:Int) b
def Zbz(b:Int):Option Zal:=some (Zal.mk b (Zah.mk (Zaf.mk false 0 0) 0) 0 0 ([]:(List Zaa)))
def Zcv(e:List Zac)(f:Int):Nat->Int->Bool->Int->Zaf->Option Int|0,_,_,_,_=>none|fu+1,h,i,b,g=>bif(decide (b<(e.length:Int)))then need (0<=b/\b<(e.length:Int))<|(Zcl (e.getD b.toNat Zac.d) g f).bind fun j=>bif j then bif(!i)then Zcv e f fu ((e.getD b.toNat Zac.d).fUntil) true (Zan b 1) g else bif(decide ((e.getD b.toNat Zac.d).fUntil>h))then Zcv e f fu ((e.getD b.toNat Zac.d).fUntil) true (Zan b 1) g else Zcv e f fu h i (Zan b 1) g else Zcv e f fu h i (Zan b 1) g else some h
def Zeq(b:List Zac)(d:Zaf)(e:Int):Option Int:=Zcv b e (((b.length:Int)-(0:Int)).toNat+2) (0:Int) false (0:Int) d
def Zeh(e:List Zaa):Nat->Int->Zah->Option Int|0,_,_=>none|fu+1,b,f=>bif(decide (b<(e.length:Int)))then need (0<=b/\b<(e.length:Int))<|bif(decide ((e.getD b.toNat Zaa.d).fEnd=f))then some b else Zeh e fu (Zan b 1) f else some (-1:Int)
def ZcC(b:List Zaa)(d:Zah):Option Int:=Zeh b (((b.length:Int)-(0:Int)).toNat+2) (0:Int) d
def Zby(b:Int):Option Int:=bif(decide (b<(0:Int)))then some (0:Int)else bif(decide (b>(1099511627776:Int)))then some (1099511627776:Int)else some b
def ZdE(d:Zah)(e:Bool)(f:Int):Option Zaa:=(Zby f).bind fun b=>some (Zaa.mk d e b (Zat.mk 0 b) 0 0)
def Zds(e:List Zaa)(f:Bool):Nat->Int->Int->Option Int|0,_,_=>none|fu+1,g,b=>bif(decide (b<(e.length:Int)))then need (0<=b/\b<(e.length:Int))<|bif((e.getD b.toNat Zaa.d).fIn==f)then Zds e f fu (Zan g 1) (Zan b 1)else Zds e f fu g (Zan b 1)else some g
def Zhe(b:List Zaa)(d:Bool):Option Int:=Zds b d (((b.length:Int)-(0:Int)).toNat+2) (0:Int) (0:Int)
def ZdF(e:List Zaa):Nat->Int->(List Zaa)->Option (List Zaa)|0,_,_=>none|fu+1,b,f=>bif(decide (b<(e.length:Int)))then need (0<=b/\b<(e.length:Int))<|bif(e.getD b.toNat Zaa.d).fIn then need ((f++([(e.getD b.toNat Zaa.d)]:List Zaa)).length * 80<=140737488355328/\(f++([(e.getD b.toNat Zaa.d)]:List Zaa)).length<=maxLen)<|ZdF e fu (Zan b 1) (f++([(e.getD b.toNat Zaa.d)]:List Zaa))else ZdF e fu (Zan b 1) f else some f
def Zko(b:List Zaa):Option (List Zaa):=ZdF b (((b.length:Int)-(0:Int)).toNat+2) (0:Int) ([]:List Zaa)
def ZdC(b:Zay)(d:Int):Option Int:=bif(d==(1:Int))then some b.fGroup else bif(d==(2:Int))then some b.fPing else bif(d==(3:Int))then some b.fWork else some b.fTime
def ZiS(d:Zaa)(b:Int):Option Bool:=bif(b==(1:Int))then some true else bif(b==(4:Int))then some true else bif(b==(2:Int))then bif(decide (d.fPing>(0:Int)))then some true else bif(b==(3:Int))then some (decide (d.fWork>(0:Int)))else some false else bif(b==(3:Int))then some (decide (d.fWork>(0:Int)))else some false
def ZdX(b:Zaf):Option Zae:=(Zbw b).bind fun d=>bif(!d)then some (Zae.mk (Zaf.mk false 0 0) 0)else bif b.fV6 then some (Zae.mk (Zaf.mk true (IntKind.wrap .u64 (b.fHi-(Int.tmod b.fHi (4294967296:Int)))) 0) 32)else some (Zae.mk (Zaf.mk false 0 (IntKind.wrap .u64 (b.fLo-(Int.tmod b.fLo (65536:Int))))) 16)
def ZgL(b:Int):Option Int:=some (IntKind.wrap .u64 (((BitVec.ofInt (IntKind.bits .u64) (IntKind.wrap .u64 ((IntKind.wrap .u64 (((BitVec.ofInt (IntKind.bits .u64) (IntKind.wrap .u64 ((IntKind.wrap .u64 (((BitVec.ofInt (IntKind.bits .u64) b) ^^^ (BitVec.ofInt (IntKind.bits .u64) (IntKind.wrap .u64 (Int.tdiv b (1073741824:Int))))).toNat:Int))*(13787848793156543929:Int)))) ^^^ (BitVec.ofInt (IntKind.bits .u64) (IntKind.wrap .u64 (Int.tdiv (IntKind.wrap .u64 ((IntKind.wrap .u64 (((BitVec.ofInt (IntKind.bits .u64) b) ^^^ (BitVec.ofInt (IntKind.bits .u64) (IntKind.wrap .u64 (Int.tdiv b (1073741824:Int))))).toNat:Int))*(13787848793156543929:Int))) (134217728:Int))))).toNat:Int))*(10723151780598845931:Int)))) ^^^ (BitVec.ofInt (IntKind.bits .u64) (IntKind.wrap .u64 (Int.tdiv (IntKind.wrap .u64 ((IntKind.wrap .u64 (((BitVec.ofInt (IntKind.bits .u64) (IntKind.wrap .u64 ((IntKind.wrap .u64 (((BitVec.ofInt (IntKind.bits .u64) b) ^^^ (BitVec.ofInt (IntKind.bits .u64) (IntKind.wrap .u64 (Int.tdiv b (1073741824:Int))))).toNat:Int))*(13787848793156543929:Int)))) ^^^ (BitVec.ofInt (IntKind.bits .u64) (IntKind.wrap .u64 (Int.tdiv (IntKind.wrap .u64 ((IntKind.wrap .u64 (((BitVec.ofInt (IntKind.bits .u64) b) ^^^ (BitVec.ofInt (IntKind.bits .u64) (IntKind.wrap .u64 (Int.tdiv b (1073741824:Int))))).toNat:Int))*(13787848793156543929:Int))) (134217728:Int))))).toNat:Int))*(10723151780598845931:Int))) (2147483648:Int))))).toNat:Int))
def Zhi(d:List Int):Nat->Int->Int->Option Int|0,_,_=>none|fu+1,e,b=>bif(decide (b<(d.length:Int)))then need (0<=b/\b<(d.length:Int))<|(ZgL (IntKind.wrap .u64 ((d.getD b.toNat (0:Int))+(11400714819323198485:Int)))).bind fun f=>(ZgL (IntKind.wrap .u64 (((BitVec.ofInt (IntKind.bits .u64) (IntKind.wrap .u64 ((IntKind.wrap .u64 (e*(128:Int)))+(IntKind.wrap .u64 (Int.tdiv e (144115188075855872:Int)))))) ^^^ (BitVec.ofInt (IntKind.bits .u64) f)).toNat:Int))).bind fun g=>Zhi d fu g (Zan b 1)else some e
def Zjq(d:Int)(b:List Int):Option Int:=(ZgL (IntKind.wrap .u64 (d+(11400714819323198485:Int)))).bind fun e=>Zhi b (((b.length:Int)-(0:Int)).toNat+2) e (0:Int)
def ZgM(d:Int)(b:Zae):Option Int:=bif b.fAddr.fV6 then(Zjq d ([(6:Int),b.fAddr.fHi,b.fAddr.fLo,(IntKind.wrap .u64 b.fBits)]:List Int)).bind fun e=>some e else(Zjq d ([(4:Int),b.fAddr.fHi,b.fAddr.fLo,(IntKind.wrap .u64 b.fBits)]:List Int)).bind fun f=>some f
def ZgW(b:Bool):Option Int:=bif b then some (-1:Int)else some (1:Int)
def ZgX(d:Bool)(b e:Zaf):Option Int:=bif(!(b.fV6==e.fV6))then ZgW (!b.fV6)else ZgW d
def Zgi(b d:Zaf):Option Int:=bif(decide (b=d))then some (0:Int)else bif(b.fHi != d.fHi)then ZgX (decide (b.fHi<d.fHi)) b d else ZgX (decide (b.fLo<d.fLo)) b d
def ZcZ(b d:Zah):Option Int:=(Zgi b.fAddr d.fAddr).bind fun e=>bif(e != (0:Int))then some e else bif(b.fPort==d.fPort)then some e else bif(decide (b.fPort<d.fPort))then some (-1:Int)else some (1:Int)
def Zdw(d b:Int)(e f:Zaa):Option Bool:=bif(d != b)then some (decide (d<b))else(ZcZ e.fEnd f.fEnd).bind fun g=>some (decide (g<(0:Int)))
def ZjC(b d:Zaa)(e f:Int):Option Bool:=bif(e==(1:Int))then(ZdX b.fEnd.fAddr).bind fun i=>(ZgM f i).bind fun g=>(ZdX d.fEnd.fAddr).bind fun j=>(ZgM f j).bind fun h=>bif(g != h)then some (decide (g>h))else Zdw (0:Int) (0:Int) b d else bif(e==(2:Int))then Zdw b.fPing d.fPing b d else bif(e==(3:Int))then Zdw d.fWork b.fWork b d else bif(e==(4:Int))then Zdw b.fSince d.fSince b d else some false
def ZbW(g:List Zaa)(j h:Int)(n:Zay)(i:Int)(ar:Int->(List Bool)->Zay->Option (List Bool))(aG:Int->(List Bool)->Option (List Bool)):Nat->Int->Int->(List Bool)->Option (List Bool)|0,_,_,_=>none|fu+1,e,b,f=>bif(decide (b<(g.length:Int)))then need (0<=b/\b<(f.length:Int))<|bif(!(f.getD b.toNat false))then need (0<=b/\b<(g.length:Int))<|(ZiS (g.getD b.toNat Zaa.d) h).bind fun o=>bif o then bif(decide (e<(0:Int)))then ZbW g j h n i ar aG fu b (Zan b 1) f else need (0<=e/\e<(g.length:Int))<|(ZjC (g.getD b.toNat Zaa.d) (g.getD e.toNat Zaa.d) h j).bind fun p=>bif p then ZbW g j h n i ar aG fu b (Zan b 1) f else ZbW g j h n i ar aG fu e (Zan b 1) f else ZbW g j h n i ar aG fu e (Zan b 1) f else ZbW g j h n i ar aG fu e (Zan b 1) f else bif(decide (e>=(0:Int)))then need (0<=e/\e<(f.length:Int))<|aG (Zan i 1) (f.set e.toNat true)else aG (Zan i 1) f
def Zcu(f:List Zaa)(h d:Int)(e:Zay)(ar:Int->(List Bool)->Zay->Option (List Bool)):Nat->Int->(List Bool)->Option (List Bool)|0,_,_=>none|fu+1,g,b=>(ZdC e d).bind fun i=>bif(decide (g<i))then bif(decide (g<(f.length:Int)))then ZbW f h d e g ar (Zcu f h d e ar fu) (((f.length:Int)-(0:Int)).toNat+2) (-1:Int) (0:Int) b else ar (Zan d 1) b e else ar (Zan d 1) b e
def ZaX(d:List Zaa)(e:Int):Nat->Int->(List Bool)->Zay->Option (List Bool)|0,_,_,_=>none|fu+1,f,b,g=>bif(decide (f<=(4:Int)))then Zcu d e f g (ZaX d e fu) (((d.length:Int)-(0:Int)).toNat+2) (0:Int) b else some b
def ZjB(b:List Zaa)(d:Zay)(e:Int):Option (List Bool):=need (0<=(b.length:Int)/\(b.length:Int)<=(b.length:Int)/\(b.length:Int)<=140737488355328/\(b.length:Int) * 1<=140737488355328)<|ZaX b e (((4:Int)-(1:Int)).toNat+2) (1:Int) (List.replicate (b.length:Int).toNat false) d
def Zcz:Nat->(List Zaa)->(List Bool)->Int->(List Zaa)->Option (List Zaa)|0,_,_,_,_=>none|fu+1,e,g,b,f=>bif(decide (b<(e.length:Int)))then need (0<=b/\b<(g.length:Int))<|bif(!(g.getD b.toNat false))then need (0<=b/\b<(e.length:Int))<|need ((f++([(e.getD b.toNat Zaa.d)]:List Zaa)).length * 80<=140737488355328/\(f++([(e.getD b.toNat Zaa.d)]:List Zaa)).length<=maxLen)<|Zcz fu e g (Zan b 1) (f++([(e.getD b.toNat Zaa.d)]:List Zaa))else Zcz fu e g (Zan b 1) f else some f
def ZgU(d:List Zaa)(e:Zay)(f:Int):Option (List Zaa):=(Zko d).bind fun b=>(ZjB b e f).bind fun g=>Zcz (((b.length:Int)-(0:Int)).toNat+2) b g (0:Int) ([]:List Zaa)
def Zdv(b:List Zaa)(f:Int):Nat->Int->Int->Option Int|0,_,_=>none|fu+1,g,e=>bif(decide (e<(b.length:Int)))then need (0<=e/\e<(b.length:Int))<|(ZdX (((b.getD e.toNat Zaa.d).fEnd).fAddr)).bind fun h=>need (0<=f/\f<(b.length:Int))<|(ZdX (((b.getD f.toNat Zaa.d).fEnd).fAddr)).bind fun i=>bif(decide (h=i))then Zdv b f fu (Zan g 1) (Zan e 1)else Zdv b f fu g (Zan e 1)else some g
def Zhg(b:List Zaa)(d:Int):Option Int:=bif(decide (d<(0:Int)))then some (0:Int)else bif(decide (d>=(b.length:Int)))then some (0:Int)else Zdv b d (((b.length:Int)-(0:Int)).toNat+2) (0:Int) (0:Int)
def Ziu(b d:Zaa):Option Bool:=bif(b.fSince != d.fSince)then some (decide (b.fSince>d.fSince))else(ZcZ b.fEnd d.fEnd).bind fun e=>some (decide (e>(0:Int)))
def ZbA(b:List Zaa)(e:Int)(aP:Int->Option Int):Nat->Bool->Int->Option Int|0,_,_=>none|fu+1,g,f=>bif(decide (f<(b.length:Int)))then(Zhg b f).bind fun h=>(Zhg b e).bind fun i=>bif g then bif(decide (h<=i))then bif(decide (h<i))then ZbA b e aP fu true (Zan f 1)else need (0<=f/\f<(b.length:Int))<|need (0<=e/\e<(b.length:Int))<|(Ziu (b.getD f.toNat Zaa.d) (b.getD e.toNat Zaa.d)).bind fun j=>ZbA b e aP fu (!j) (Zan f 1)else ZbA b e aP fu false (Zan f 1)else ZbA b e aP fu false (Zan f 1)else bif g then some e else aP (Zan e 1)
def ZcY(b:List Zaa):Nat->Int->Option Int|0,_=>none|fu+1,d=>bif(decide (d<(b.length:Int)))then ZbA b d (ZcY b fu) (((b.length:Int)-(0:Int)).toNat+2) true (0:Int)else some (-1:Int)
def Zkp(b:List Zaa):Option Int:=ZcY b (((b.length:Int)-(0:Int)).toNat+2) (0:Int)
def ZgI(f:List Zaa)(g:Zay)(h:Int):Option (Zah×Bool):=(ZgU f g h).bind fun e=>(Zkp e).bind fun b=>bif(decide (b<(0:Int)))then some ((Zah.mk (Zaf.mk false 0 0) 0),false)else need (0<=b/\b<(e.length:Int))<|some ((e.getD b.toNat Zaa.d).fEnd,true)
def ZhX(d:List Zaa)(e:Zah):Option ((List Zaa)×Int):=(ZcC d e).bind fun b=>bif(decide (b<(0:Int)))then some (([]:(List Zaa)),(6:Int))else need (0<=b/\b<=(d.length:Int))<|need ((([]:List Zaa)++(d.take b.toNat)).length * 80<=140737488355328/\(([]:List Zaa)++(d.take b.toNat)).length<=maxLen)<|need (0<=(Zan b 1)/\(Zan b 1)<=(d.length:Int))<|need (((([]:List Zaa)++(d.take b.toNat))++(d.drop (Zan b 1).toNat)).length * 80<=140737488355328/\((([]:List Zaa)++(d.take b.toNat))++(d.drop (Zan b 1).toNat)).length<=maxLen)<|some (((([]:List Zaa)++(d.take b.toNat))++(d.drop (Zan b 1).toNat)),(0:Int))
def ZgF(e:List Zaa):Nat->Int->Zaa->Option (List Zaa)|0,_,_=>none|fu+1,b,f=>bif(decide (b<(e.length:Int)))then need (0<=b/\b<(e.length:Int))<|(ZcZ ((e.getD b.toNat Zaa.d).fEnd) f.fEnd).bind fun g=>bif(decide (g<=(0:Int)))then ZgF e fu (Zan b 1) f else need (0<=b/\b<=(e.length:Int))<|need ((([]:List Zaa)++(e.take b.toNat)).length * 80<=140737488355328/\(([]:List Zaa)++(e.take b.toNat)).length<=maxLen)<|need (((([]:List Zaa)++(e.take b.toNat))++([f]:List Zaa)).length * 80<=140737488355328/\((([]:List Zaa)++(e.take b.toNat))++([f]:List Zaa)).length<=maxLen)<|need ((((([]:List Zaa)++(e.take b.toNat))++([f]:List Zaa))++(e.drop b.toNat)).length * 80<=140737488355328/\(((([]:List Zaa)++(e.take b.toNat))++([f]:List Zaa))++(e.drop b.toNat)).length<=maxLen)<|some (((([]:List Zaa)++(e.take b.toNat))++([f]:List Zaa))++(e.drop b.toNat))else need (0<=b/\b<=(e.length:Int))<|need ((([]:List Zaa)++(e.take b.toNat)).length * 80<=140737488355328/\(([]:List Zaa)++(e.take b.toNat)).length<=maxLen)<|need (((([]:List Zaa)++(e.take b.toNat))++([f]:List Zaa)).length * 80<=140737488355328/\((([]:List Zaa)++(e.take b.toNat))++([f]:List Zaa)).length<=maxLen)<|need ((((([]:List Zaa)++(e.take b.toNat))++([f]:List Zaa))++(e.drop b.toNat)).length * 80<=140737488355328/\(((([]:List Zaa)++(e.take b.toNat))++([f]:List Zaa))++(e.drop b.toNat)).length<=maxLen)<|some (((([]:List Zaa)++(e.take b.toNat))++([f]:List Zaa))++(e.drop b.toNat))
def Zff(b:List Zaa)(d:Zaa):Option (List Zaa):=ZgF b (((b.length:Int)-(0:Int)).toNat+2) (0:Int) d
def ZiQ(e:Zar)(b:Zak)(d:Zam):Option (Zak×Zal):=(Zeq b.fBans d.fEnd.fAddr d.fNow).bind fun h=>bif(decide (h>(0:Int)))then some (b,(Zal.mk 8 (Zah.mk (Zaf.mk false 0 0) 0) 0 h ([]:(List Zaa))))else(ZcC b.fPeers d.fEnd).bind fun j=>bif(decide (j>=(0:Int)))then(Zbz (7:Int)).bind fun n=>some (b,n)else(ZdE d.fEnd true d.fNow).bind fun i=>(Zhe b.fPeers true).bind fun o=>bif(decide (o>=e.fMaxIn))then(ZgI b.fPeers e.fQuota e.fSecret).bind fun f=>bif(!f.2)then(Zbz (5:Int)).bind fun p=>some (b,p)else(ZhX b.fPeers f.1).bind fun r=>(Zff r.1 i).bind fun t=>some ((Zak.mk b.fBans b.fBook t),(Zal.mk 0 f.1 1 0 ([]:(List Zaa))))else(Zff b.fPeers i).bind fun g=>some ((Zak.mk b.fBans b.fBook g),(Zal.mk 0 (Zah.mk (Zaf.mk false 0 0) 0) 0 0 ([]:(List Zaa))))
def Zdu(e:List Zab)(f:Int):Nat->Int->Int->Option Int|0,_,_=>none|fu+1,g,b=>bif(decide (b<(e.length:Int)))then need (0<=b/\b<(e.length:Int))<|bif((e.getD b.toNat Zab.d).fState==f)then Zdu e f fu (Zan g 1) (Zan b 1)else Zdu e f fu g (Zan b 1)else some g
def Zjz(b:List Zab)(d:Int):Option Int:=Zdu b d (((b.length:Int)-(0:Int)).toNat+2) (0:Int) (0:Int)
def Zit(b:Zak):Option Int:=(Zhe b.fPeers false).bind fun d=>(Zjz b.fBook (2:Int)).bind fun e=>some (Zan d e)
def ZfB(b:Zab):Option Bool:=(Zhj b.fEnd).bind fun d=>bif d then bif(decide (b.fState>=(1:Int)))then bif(decide (b.fState<=(3:Int)))then bif(decide (b.fFails>=(0:Int)))then bif(decide (b.fFails<=(1000:Int)))then bif(decide (b.fNext>=(0:Int)))then some (decide (b.fNext<=(1099511627776:Int)))else some false else some false else some false else some false else some false else some false
def ZkS(b:Zab)(d:Int):Option Bool:=bif(b.fState==(1:Int))then some (decide (b.fNext<=d))else some false
def ZcA:Nat->Int->Zaf->Zaf->Option Bool|0,_,_,_=>none|fu+1,b,d,e=>bif(decide (b<(32:Int)))then bif d.fV6 then(Zbx d b).bind fun f=>(Zbx e b).bind fun g=>bif(f != g)then some false else ZcA fu (Zan b 1) d e else bif(decide (b<(16:Int)))then(Zbx d b).bind fun h=>(Zbx e b).bind fun i=>bif(h != i)then some false else ZcA fu (Zan b 1) d e else ZcA fu (Zan b 1) d e else some true
def Zib(b d:Zaf):Option Bool:=(Zbw b).bind fun e=>bif(!e)then some false else(Zbw d).bind fun f=>bif(!f)then some false else bif(!(b.fV6==d.fV6))then some false else ZcA (((32:Int)-(0:Int)).toNat+2) (0:Int) b d
def Zey(g:List Zaa)(e:List Zab)(h:Int)(f:Zaf)(bp:Int->Zaf->Option Bool):Nat->Int->Option Bool|0,_=>none|fu+1,b=>bif(decide (b<(e.length:Int)))then need (0<=b/\b<(e.length:Int))<|bif((e.getD b.toNat Zab.d).fState==(2:Int))then(Zib (((e.getD b.toNat Zab.d).fEnd).fAddr) f).bind fun i=>bif i then some false else Zey g e h f bp fu (Zan b 1)else Zey g e h f bp fu (Zan b 1)else some true
def ZcW(b:List Zaa)(f:List Zab):Nat->Int->Zaf->Option Bool|0,_,_=>none|fu+1,e,g=>bif(decide (e<(b.length:Int)))then need (0<=e/\e<(b.length:Int))<|bif(!(b.getD e.toNat Zaa.d).fIn)then(Zib (((b.getD e.toNat Zaa.d).fEnd).fAddr) g).bind fun h=>bif h then some false else ZcW b f fu (Zan e 1) g else ZcW b f fu (Zan e 1) g else Zey b f e g (ZcW b f fu) (((f.length:Int)-(0:Int)).toNat+2) (0:Int)
def Zkm(b:List Zaa)(e:List Zab)(d:Zaf):Option Bool:=(Zbw d).bind fun f=>bif(!f)then some false else ZcW b e (((b.length:Int)-(0:Int)).toNat+2) (0:Int) d
def ZkP(f:List Zab)(d:List Zaa)(g:List Zac)(b:Zab)(e:Int):Option Bool:=(ZfB b).bind fun h=>bif h then(ZkS b e).bind fun i=>bif i then(Zeq g b.fEnd.fAddr e).bind fun j=>bif(j==(0:Int))then(ZcC d b.fEnd).bind fun n=>bif(decide (n<(0:Int)))then(Zkm d f b.fEnd.fAddr).bind fun o=>some o else some false else some false else some false else some false
def ZbN(f:List Zab)(g:List Zaa)(h:List Zac)(i:Int):Nat->Int->Int->Zah->Option (Zah×Bool)|0,_,_,_=>none|fu+1,e,b,j=>bif(decide (b<(f.length:Int)))then need (0<=b/\b<(f.length:Int))<|(ZkP f g h (f.getD b.toNat Zab.d) i).bind fun n=>bif(!n)then ZbN f g h i fu e (Zan b 1) j else bif(decide (e<(0:Int)))then ZbN f g h i fu b (Zan b 1) j else need (0<=e/\e<(f.length:Int))<|bif(decide ((f.getD b.toNat Zab.d).fNext<(f.getD e.toNat Zab.d).fNext))then ZbN f g h i fu b (Zan b 1) j else bif((f.getD b.toNat Zab.d).fNext==(f.getD e.toNat Zab.d).fNext)then(ZcZ ((f.getD b.toNat Zab.d).fEnd) ((f.getD e.toNat Zab.d).fEnd)).bind fun o=>bif(decide (o<(0:Int)))then ZbN f g h i fu b (Zan b 1) j else ZbN f g h i fu e (Zan b 1) j else ZbN f g h i fu e (Zan b 1) j else bif(decide (e<(0:Int)))then some ((Zah.mk (Zaf.mk false 0 0) 0),false)else need (0<=e/\e<(f.length:Int))<|some ((f.getD e.toNat Zab.d).fEnd,true)
def ZfY(b:List Zab)(d:List Zaa)(e:List Zac)(f:Int):Option (Zah×Bool):=ZbN b d e f (((b.length:Int)-(0:Int)).toNat+2) (-1:Int) (0:Int) (Zah.mk (Zaf.mk false 0 0) 0)
def ZbM(e:List Zab)(f:Int):Nat->Int->Bool->Int->Option Int|0,_,_,_=>none|fu+1,g,h,b=>bif(decide (b<(e.length:Int)))then need (0<=b/\b<(e.length:Int))<|(ZfB (e.getD b.toNat Zab.d)).bind fun i=>bif i then bif((e.getD b.toNat Zab.d).fState==(1:Int))then bif(decide ((e.getD b.toNat Zab.d).fNext>f))then bif(!h)then ZbM e f fu ((e.getD b.toNat Zab.d).fNext) true (Zan b 1)else bif(decide ((e.getD b.toNat Zab.d).fNext<g))then ZbM e f fu ((e.getD b.toNat Zab.d).fNext) true (Zan b 1)else ZbM e f fu g h (Zan b 1)else ZbM e f fu g h (Zan b 1)else ZbM e f fu g h (Zan b 1)else ZbM e f fu g h (Zan b 1)else some g
def ZfX(b:List Zab)(d:Int):Option Int:=ZbM b d (((b.length:Int)-(0:Int)).toNat+2) (0:Int) false (0:Int)
def Zez(e:List Zab):Nat->Int->Zah->Option Int|0,_,_=>none|fu+1,b,f=>bif(decide (b<(e.length:Int)))then need (0<=b/\b<(e.length:Int))<|bif(decide ((e.getD b.toNat Zab.d).fEnd=f))then some b else Zez e fu (Zan b 1) f else some (-1:Int)
def ZeE(b:List Zab)(d:Zah):Option Int:=Zez b (((b.length:Int)-(0:Int)).toNat+2) (0:Int) d
def Zep(b:Zab)(d:Int):Option Zab:=some (Zab.mk b.fEnd d b.fFails b.fNext)
def Zeg(b:List Zab)(e:Zab):Option (List Zab):=(ZeE b e.fEnd).bind fun d=>bif(decide (d<(0:Int)))then some b else need ((([]:List Zab)++b).length * 56<=140737488355328/\(([]:List Zab)++b).length<=maxLen)<|need (0<=d/\d<(((([]:List Zab)++b).length:Nat):Int))<|some ((([]:List Zab)++b).set d.toNat e)
def ZfW(h:Zar)(b:Zak)(g:Zam):Option (Zak×Zal):=(Zit b).bind fun i=>bif(decide (i>=h.fMaxOut))then(Zbz (5:Int)).bind fun j=>some (b,j)else(ZfY b.fBook b.fPeers b.fBans g.fNow).bind fun e=>bif(!e.2)then(ZfX b.fBook g.fNow).bind fun n=>some (b,(Zal.mk 6 (Zah.mk (Zaf.mk false 0 0) 0) 0 n ([]:(List Zaa))))else(ZeE b.fBook e.1).bind fun f=>need (0<=f/\f<(b.fBook.length:Int))<|(Zep (b.fBook.getD f.toNat Zab.d) (2:Int)).bind fun o=>(Zeg b.fBook o).bind fun p=>some ((Zak.mk b.fBans p b.fPeers),(Zal.mk 0 e.1 0 0 ([]:(List Zaa))))
def Zfi(b d:Int):Option Int:=(Zby b).bind fun e=>(Zby d).bind fun f=>(Zby (Zan e f)).bind fun g=>some g
def Zem(e:Int):Nat->Int->Int->Option Int|0,_,_=>none|fu+1,b,d=>bif(decide (d<e))then bif(decide (d<(41:Int)))then(Zfi b b).bind fun f=>Zem e fu f (Zan d 1)else some b else some b
def ZjF(b d:Int):Option Int:=(Zby b).bind fun e=>Zem d (((41:Int)-(0:Int)).toNat+2) e (0:Int)
def ZjA(b:Zar)(d:Int):Option Int:=bif(decide (d<(1:Int)))then some (0:Int)else(ZjF b.fBase (Zaz d (1:Int))).bind fun e=>(Zby b.fCap).bind fun f=>bif(decide (f<e))then some f else some e
def ZiR(b:Zar)(d:Int):Option Int:=bif(decide (b.fJitter<(1:Int)))then some (0:Int)else need (b.fJitter≠0)<|bif(decide ((Int.tmod d b.fJitter)<(0:Int)))then some (Zan (Int.tmod d b.fJitter) b.fJitter)else some (Int.tmod d b.fJitter)
def ZfZ(b:Zar)(d e f:Int):Option Int:=(ZjA b d).bind fun g=>(Zfi e g).bind fun h=>(ZiR b f).bind fun i=>(Zfi h i).bind fun j=>some j
def Zgg(d e f:Int)(g:Zar)(b j:Zab):Option Zab:=bif(decide (b.fFails>=(1000:Int)))then(ZfZ g (1000:Int) d e).bind fun h=>some (Zab.mk b.fEnd 1 1000 h)else(ZfZ g f d e).bind fun i=>some (Zab.mk b.fEnd 1 f i)
def ZeF(d:Zar)(b:Zab)(e f:Int):Option Zab:=bif(decide (b.fFails>(0:Int)))then bif(decide (b.fFails<(1000:Int)))then Zgg e f (Zan b.fFails (1:Int)) d b (Zab.mk (Zah.mk (Zaf.mk false 0 0) 0) 0 0 0)else Zgg e f (1:Int) d b (Zab.mk (Zah.mk (Zaf.mk false 0 0) 0) 0 0 0)else Zgg e f (1:Int) d b (Zab.mk (Zah.mk (Zaf.mk false 0 0) 0) 0 0 0)
def Zkn(b:Zab):Option Zab:=some (Zab.mk b.fEnd 3 0 b.fNext)
def ZdW(u:Zar)(b:Zak)(e:Zam):Option (Zak×Zal):=(ZeE b.fBook e.fEnd).bind fun f=>bif(decide (f<(0:Int)))then(Zbz (6:Int)).bind fun A=>some (b,A)else need (0<=f/\f<(b.fBook.length:Int))<|bif((b.fBook.getD f.toNat Zab.d).fState != (2:Int))then(Zbz (6:Int)).bind fun B=>some (b,B)else(Zeq b.fBans e.fEnd.fAddr e.fNow).bind fun C=>bif(!e.fGood)then(ZeF u (b.fBook.getD f.toNat Zab.d) e.fNow e.fNum).bind fun g=>(Zeg b.fBook g).bind fun v=>bif e.fGood then some ((Zak.mk b.fBans v b.fPeers),(Zal.mk 8 (Zah.mk (Zaf.mk false 0 0) 0) g.fFails g.fNext ([]:(List Zaa))))else some ((Zak.mk b.fBans v b.fPeers),(Zal.mk 0 (Zah.mk (Zaf.mk false 0 0) 0) g.fFails g.fNext ([]:(List Zaa))))else bif(decide (C>(0:Int)))then(ZeF u (b.fBook.getD f.toNat Zab.d) e.fNow e.fNum).bind fun h=>(Zeg b.fBook h).bind fun y=>bif e.fGood then some ((Zak.mk b.fBans y b.fPeers),(Zal.mk 8 (Zah.mk (Zaf.mk false 0 0) 0) h.fFails h.fNext ([]:(List Zaa))))else some ((Zak.mk b.fBans y b.fPeers),(Zal.mk 0 (Zah.mk (Zaf.mk false 0 0) 0) h.fFails h.fNext ([]:(List Zaa))))else(ZcC b.fPeers e.fEnd).bind fun D=>bif(decide (D>=(0:Int)))then(Zep (b.fBook.getD f.toNat Zab.d) (1:Int)).bind fun i=>(Zeg b.fBook i).bind fun j=>(Zbz (7:Int)).bind fun n=>some ((Zak.mk b.fBans j b.fPeers),n)else(Zkn (b.fBook.getD f.toNat Zab.d)).bind fun o=>(Zeg b.fBook o).bind fun p=>(ZdE e.fEnd false e.fNow).bind fun r=>(Zff b.fPeers r).bind fun t=>some ((Zak.mk b.fBans p t),(Zal.mk 0 (Zah.mk (Zaf.mk false 0 0) 0) 0 0 ([]:(List Zaa))))
def Zgh(b:Int):Option Int:=bif(b==(1:Int))then some (1:Int)else bif(b==(2:Int))then some (10:Int)else bif(b==(3:Int))then some (20:Int)else bif(b==(4:Int))then some (50:Int)else bif(b==(5:Int))then some (100:Int)else some (0:Int)
def Zei(d:Int)(f:Zat):Nat->Int->Zat->Option Zat|0,_,_=>none|fu+1,e,b=>bif(decide (b.fPoints>(0:Int)))then bif(decide ((Zaz e b.fAt)>=d))then Zei d f fu e (Zat.mk (IntKind.wrap .i64 (Int.tdiv b.fPoints (2:Int))) (Zan b.fAt d))else bif(decide ((Zaz e b.fAt)>=d))then need (d≠0)<|some (Zat.mk b.fPoints (Zaz e (Int.tmod (Zaz e b.fAt) d)))else some b else bif(decide ((Zaz e b.fAt)>=d))then need (d≠0)<|some (Zat.mk b.fPoints (Zaz e (Int.tmod (Zaz e b.fAt) d)))else some b
def ZfH(d:Int)(b e:Zat)(f:Int):Option Zat:=(Zby b.fAt).bind fun g=>(Zby d).bind fun h=>(Zby b.fPoints).bind fun i=>Zei f e 1000000 h (Zat.mk i g)
def Zia(b d:Int)(e f:Zat):Option Zat:=bif(decide (d>(1073741824:Int)))then ZfH b e f (1073741824:Int)else ZfH b e f d
def ZjD(b:Zat)(d e:Int):Option Zat:=bif(decide (d<(1:Int)))then Zia e (1:Int) b (Zat.mk 0 0)else Zia e d b (Zat.mk 0 0)
def ZkT(e:Zat)(f g h:Int):Option Zat:=(ZjD e g h).bind fun b=>(Zby f).bind fun d=>bif(decide (d>(16777216:Int)))then(Zby (Zan b.fPoints (ZhI (16777216:Int) (65536:Int)))).bind fun i=>some (Zat.mk i b.fAt)else(Zby (Zan b.fPoints (ZhI d (65536:Int)))).bind fun j=>some (Zat.mk j b.fAt)
def ZiT(b:Zaa)(d e f:Int):Option Zaa:=(ZkT b.fScore d e f).bind fun g=>some (Zaa.mk b.fEnd b.fIn b.fSince g b.fPing b.fWork)
def ZcV(b:Zat):Option Int:=bif(decide (b.fPoints<(0:Int)))then some (0:Int)else some (IntKind.wrap .i64 (Int.tdiv b.fPoints (65536:Int)))
def ZgV(b:Int)(d:Zat):Option Bool:=bif(decide (b>(16777216:Int)))then(ZcV d).bind fun e=>some (decide (e>=(16777216:Int)))else(ZcV d).bind fun f=>some (decide (f>=b))
def Ziv(b:Zat)(d:Int):Option Bool:=bif(decide (d<(1:Int)))then ZgV (1:Int) b else ZgV d b
def ZgE(b:List Zaa)(e:Zaa):Option (List Zaa):=(ZcC b e.fEnd).bind fun d=>bif(decide (d<(0:Int)))then some b else need ((([]:List Zaa)++b).length * 80<=140737488355328/\(([]:List Zaa)++b).length<=maxLen)<|need (0<=d/\d<(((([]:List Zaa)++b).length:Nat):Int))<|some ((([]:List Zaa)++b).set d.toNat e)
def ZeT(i g h e b d:Int)(bf:Int->Int->Int->Int->Option (Int×Int))(f:Int):Option (Int×Int):=bif(decide ((Zan d 64)<h))then need (b≠0)<|bif((Int.tmod (IntKind.wrap .u64 (Int.tdiv g b)) (2:Int))==(1:Int))then bf f (IntKind.wrap .u64 (e+b)) (IntKind.wrap .u64 (Int.tdiv b (2:Int))) (Zan d 1)else bf f e (IntKind.wrap .u64 (Int.tdiv b (2:Int))) (Zan d 1)else bf f e (IntKind.wrap .u64 (Int.tdiv b (2:Int))) (Zan d 1)
def Zdj(e g f:Int):Nat->Int->Int->Int->Int->Option (Int×Int)|0,_,_,_,_=>none|fu+1,h,i,b,d=>bif(decide (d<(64:Int)))then bif(decide (d<f))then need (b≠0)<|bif((Int.tmod (IntKind.wrap .u64 (Int.tdiv e b)) (2:Int))==(1:Int))then ZeT e g f i b d (Zdj e g f fu) (IntKind.wrap .u64 (h+b))else ZeT e g f i b d (Zdj e g f fu) h else ZeT e g f i b d (Zdj e g f fu) h else some (h,i)
def Zfh(b d e:Int):Option (Int×Int):=Zdj b d e (((64:Int)-(0:Int)).toNat+2) (0:Int) (0:Int) (9223372036854775808:Int) (0:Int)
def Ziw(b g:Zaf)(d:Int):Option Zaf:=bif b.fV6 then(Zfh b.fHi b.fLo d).bind fun e=>some (Zaf.mk true e.1 e.2)else(Zfh (0:Int) b.fLo (Zan (96:Int) d)).bind fun f=>some (Zaf.mk false 0 f.2)
def Zix(d:Int)(b e:Zaf):Option Zaf:=(ZbU b).bind fun f=>bif(decide (d>f))then Ziw b e f else Ziw b e d
def ZmG(b:Zaf)(d:Int):Option Zaf:=(Zbw b).bind fun e=>bif(!e)then some (Zaf.mk false 0 0)else bif(decide (d<(0:Int)))then Zix (0:Int) b (Zaf.mk false 0 0)else Zix d b (Zaf.mk false 0 0)
def ZmH(d:Zaf)(b:Int):Option (Zae×Bool):=(Zbw d).bind fun e=>bif(!e)then some ((Zae.mk (Zaf.mk false 0 0) 0),false)else bif(decide (b<(0:Int)))then some ((Zae.mk (Zaf.mk false 0 0) 0),false)else(ZbU d).bind fun f=>bif(decide (b>f))then some ((Zae.mk (Zaf.mk false 0 0) 0),false)else(ZmG d b).bind fun g=>some ((Zae.mk g b),true)
def Zkr(b:Zaf):Option Zae:=(ZbU b).bind fun d=>(ZmH b d).bind fun e=>some e.1
def Zek(e:List Zac):Nat->Int->Zae->Option Int|0,_,_=>none|fu+1,b,f=>bif(decide (b<(e.length:Int)))then need (0<=b/\b<(e.length:Int))<|bif(decide ((e.getD b.toNat Zac.d).fNet=f))then some b else Zek e fu (Zan b 1) f else some (-1:Int)
def Zhh(b:List Zac)(d:Zae):Option Int:=Zek b (((b.length:Int)-(0:Int)).toNat+2) (0:Int) d
def Ziy(b d:Zae):Option Int:=(Zgi b.fAddr d.fAddr).bind fun e=>bif(e != (0:Int))then some e else bif(b.fBits==d.fBits)then some e else bif(decide (b.fBits<d.fBits))then some (-1:Int)else some (1:Int)
def ZgK(e:List Zac):Nat->Int->Zac->Option ((List Zac)×Int)|0,_,_=>none|fu+1,b,f=>bif(decide (b<(e.length:Int)))then need (0<=b/\b<(e.length:Int))<|(Ziy ((e.getD b.toNat Zac.d).fNet) f.fNet).bind fun g=>bif(decide (g<=(0:Int)))then ZgK e fu (Zan b 1) f else need (0<=b/\b<=(e.length:Int))<|need ((([]:List Zac)++(e.take b.toNat)).length * 40<=140737488355328/\(([]:List Zac)++(e.take b.toNat)).length<=maxLen)<|need (((([]:List Zac)++(e.take b.toNat))++([f]:List Zac)).length * 40<=140737488355328/\((([]:List Zac)++(e.take b.toNat))++([f]:List Zac)).length<=maxLen)<|need ((((([]:List Zac)++(e.take b.toNat))++([f]:List Zac))++(e.drop b.toNat)).length * 40<=140737488355328/\(((([]:List Zac)++(e.take b.toNat))++([f]:List Zac))++(e.drop b.toNat)).length<=maxLen)<|some ((((([]:List Zac)++(e.take b.toNat))++([f]:List Zac))++(e.drop b.toNat)),(0:Int))else need (0<=b/\b<=(e.length:Int))<|need ((([]:List Zac)++(e.take b.toNat)).length * 40<=140737488355328/\(([]:List Zac)++(e.take b.toNat)).length<=maxLen)<|need (((([]:List Zac)++(e.take b.toNat))++([f]:List Zac)).length * 40<=140737488355328/\((([]:List Zac)++(e.take b.toNat))++([f]:List Zac)).length<=maxLen)<|need ((((([]:List Zac)++(e.take b.toNat))++([f]:List Zac))++(e.drop b.toNat)).length * 40<=140737488355328/\(((([]:List Zac)++(e.take b.toNat))++([f]:List Zac))++(e.drop b.toNat)).length<=maxLen)<|some ((((([]:List Zac)++(e.take b.toNat))++([f]:List Zac))++(e.drop b.toNat)),(0:Int))
def ZiD(b:List Zac)(f:Zac)(g:Int):Option ((List Zac)×Int):=(ZfC f).bind fun h=>bif(!h)then some (([]:(List Zac)),(1:Int))else(Zhh b f.fNet).bind fun e=>bif(decide (e>=(0:Int)))then need ((([]:List Zac)++b).length * 40<=140737488355328/\(([]:List Zac)++b).length<=maxLen)<|need (0<=e/\e<(((([]:List Zac)++b).length:Nat):Int))<|bif(decide (f.fUntil>((([]:List Zac)++b).getD e.toNat Zac.d).fUntil))then some (((([]:List Zac)++b).set e.toNat (Zac.mk (((([]:List Zac)++b).getD e.toNat Zac.d).fNet) f.fUntil)),(0:Int))else some ((([]:List Zac)++b),(0:Int))else bif(decide ((b.length:Int)>=g))then some (([]:(List Zac)),(5:Int))else ZgK b (((b.length:Int)-(0:Int)).toNat+2) (0:Int) f
def ZfA(e:List Zaa)(g:Bool):Nat->Int->(List Zaa)->Zae->Option (List Zaa)|0,_,_,_=>none|fu+1,b,f,h=>bif(decide (b<(e.length:Int)))then need (0<=b/\b<(e.length:Int))<|(Zfg h (((e.getD b.toNat Zaa.d).fEnd).fAddr)).bind fun i=>bif(i==g)then need ((f++([(e.getD b.toNat Zaa.d)]:List Zaa)).length * 80<=140737488355328/\(f++([(e.getD b.toNat Zaa.d)]:List Zaa)).length<=maxLen)<|ZfA e g fu (Zan b 1) (f++([(e.getD b.toNat Zaa.d)]:List Zaa)) h else ZfA e g fu (Zan b 1) f h else some f
def Zlm(b:List Zaa)(d:Zae)(e:Bool):Option (List Zaa):=ZfA b e (((b.length:Int)-(0:Int)).toNat+2) (0:Int) ([]:List Zaa) d
def Zgf(e:List Zaa):Nat->Int->(List Zah)->Option (List Zah)|0,_,_=>none|fu+1,b,f=>bif(decide (b<(e.length:Int)))then need (0<=b/\b<(e.length:Int))<|need ((f++([(e.getD b.toNat Zaa.d).fEnd]:List Zah)).length * 32<=140737488355328/\(f++([(e.getD b.toNat Zaa.d).fEnd]:List Zah)).length<=maxLen)<|Zgf e fu (Zan b 1) (f++([(e.getD b.toNat Zaa.d).fEnd]:List Zah))else some f
def ZmF(b:List Zaa):Option (List Zah):=Zgf b (((b.length:Int)-(0:Int)).toNat+2) (0:Int) ([]:List Zah)
def ZeS(e:List Zah):Nat->Int->Zah->Option Bool|0,_,_=>none|fu+1,b,f=>bif(decide (b<(e.length:Int)))then need (0<=b/\b<(e.length:Int))<|bif(decide ((e.getD b.toNat Zah.d)=f))then some true else ZeS e fu (Zan b 1) f else some false
def ZkQ(b:List Zah)(d:Zah):Option Bool:=ZeS b (((b.length:Int)-(0:Int)).toNat+2) (0:Int) d
def ZcX(f:List Zah):Nat->Int->(List Zab)->Option (List Zab)|0,_,_=>none|fu+1,b,e=>bif(decide (b<(e.length:Int)))then need (0<=b/\b<(e.length:Int))<|bif((e.getD b.toNat Zab.d).fState==(3:Int))then(ZkQ f ((e.getD b.toNat Zab.d).fEnd)).bind fun g=>bif g then ZcX f fu (Zan b 1) (e.set b.toNat (Zab.mk ((e.getD b.toNat Zab.d).fEnd) 1 ((e.getD b.toNat Zab.d).fFails) ((e.getD b.toNat Zab.d).fNext)))else ZcX f fu (Zan b 1) e else ZcX f fu (Zan b 1) e else some e
def ZhY(b:List Zab)(d:List Zah):Option (List Zab):=need ((([]:List Zab)++b).length * 56<=140737488355328/\(([]:List Zab)++b).length<=maxLen)<|ZcX d (((((([]:List Zab)++b).length:Nat):Int)-(0:Int)).toNat+2) (0:Int) (([]:List Zab)++b)
def Zcx(b:Zak)(d:Zae):Option (Zak×Int):=(Zlm b.fPeers d true).bind fun e=>(Zlm b.fPeers d false).bind fun f=>(ZmF e).bind fun g=>(ZhY b.fBook g).bind fun h=>some ((Zak.mk b.fBans h f),(e.length:Int))
def Zfz(i:Zar)(b:Zak)(e:Zam):Option (Zak×Zal):=(ZcC b.fPeers e.fEnd).bind fun j=>bif(decide (j<(0:Int)))then(Zbz (6:Int)).bind fun r=>some (b,r)else need (0<=j/\j<(b.fPeers.length:Int))<|(Zgh e.fNum).bind fun t=>(ZiT (b.fPeers.getD j.toNat Zaa.d) t i.fHalf e.fNow).bind fun n=>(Ziv n.fScore i.fLimit).bind fun u=>bif(!u)then(ZgE b.fPeers n).bind fun v=>(ZcV n.fScore).bind fun y=>some ((Zak.mk b.fBans b.fBook v),(Zal.mk 0 (Zah.mk (Zaf.mk false 0 0) 0) y 0 ([]:(List Zaa))))else(Zkr e.fEnd.fAddr).bind fun o=>(Zfi e.fNow i.fBanFor).bind fun p=>(ZiD b.fBans (Zac.mk o p) i.fMaxBans).bind fun f=>bif(f.2==(0:Int))then(Zcx (Zak.mk f.1 b.fBook b.fPeers) o).bind fun g=>some (g.1,(Zal.mk 0 e.fEnd g.2 p ([]:(List Zaa))))else(Zcx b o).bind fun h=>some (h.1,(Zal.mk 0 e.fEnd h.2 0 ([]:(List Zaa))))
def Zkq(d:List Zac)(e:Zae):Option ((List Zac)×Int):=(Zhh d e).bind fun b=>bif(decide (b<(0:Int)))then some (([]:(List Zac)),(6:Int))else need (0<=b/\b<=(d.length:Int))<|need ((([]:List Zac)++(d.take b.toNat)).length * 40<=140737488355328/\(([]:List Zac)++(d.take b.toNat)).length<=maxLen)<|need (0<=(Zan b 1)/\(Zan b 1)<=(d.length:Int))<|need (((([]:List Zac)++(d.take b.toNat))++(d.drop (Zan b 1).toNat)).length * 40<=140737488355328/\((([]:List Zac)++(d.take b.toNat))++(d.drop (Zan b 1).toNat)).length<=maxLen)<|some (((([]:List Zac)++(d.take b.toNat))++(d.drop (Zan b 1).toNat)),(0:Int))
def Zej(b:List Zac)(g:Int):Nat->Int->(List Zac)->Option ((List Zac)×Int)|0,_,_=>none|fu+1,e,f=>bif(decide (e<(b.length:Int)))then need (0<=e/\e<(b.length:Int))<|bif(decide ((b.getD e.toNat Zac.d).fUntil>g))then need ((f++([(b.getD e.toNat Zac.d)]:List Zac)).length * 40<=140737488355328/\(f++([(b.getD e.toNat Zac.d)]:List Zac)).length<=maxLen)<|Zej b g fu (Zan e 1) (f++([(b.getD e.toNat Zac.d)]:List Zac))else Zej b g fu (Zan e 1) f else some (f,(Zaz (b.length:Int) (f.length:Int)))
def ZjE(b:List Zac)(d:Int):Option ((List Zac)×Int):=Zej b d (((b.length:Int)-(0:Int)).toNat+2) (0:Int) ([]:List Zac)
def Zcw(i:Zar)(b:Zak)(d:Zam):Option (Zak×Zal):=bif(d.fKind==(6:Int))then bif(decide (d.fNum<=d.fNow))then(Zbz (3:Int)).bind fun j=>some (b,j)else(ZiD b.fBans (Zac.mk d.fNet d.fNum) i.fMaxBans).bind fun f=>bif(f.2 != (0:Int))then(Zbz f.2).bind fun n=>some (b,n)else(Zcx (Zak.mk f.1 b.fBook b.fPeers) d.fNet).bind fun g=>some (g.1,(Zal.mk 0 (Zah.mk (Zaf.mk false 0 0) 0) g.2 0 ([]:(List Zaa))))else bif(d.fKind==(7:Int))then(Zkq b.fBans d.fNet).bind fun e=>bif(e.2==(0:Int))then(Zbz e.2).bind fun o=>some ((Zak.mk e.1 b.fBook b.fPeers),o)else(Zbz e.2).bind fun p=>some (b,p)else bif(d.fKind==(8:Int))then(Zeq b.fBans d.fEnd.fAddr d.fNow).bind fun r=>some (b,(Zal.mk 0 (Zah.mk (Zaf.mk false 0 0) 0) 0 r ([]:(List Zaa))))else(ZjE b.fBans d.fNow).bind fun h=>some ((Zak.mk h.1 b.fBook b.fPeers),(Zal.mk 0 (Zah.mk (Zaf.mk false 0 0) 0) h.2 0 ([]:(List Zaa))))
def ZgH(b:Zah)(d:Int):Option Zab:=(Zby d).bind fun e=>some (Zab.mk b 1 0 e)
def ZgG(e:List Zab):Nat->Int->Zab->Option ((List Zab)×Int)|0,_,_=>none|fu+1,b,f=>bif(decide (b<(e.length:Int)))then need (0<=b/\b<(e.length:Int))<|(ZcZ ((e.getD b.toNat Zab.d).fEnd) f.fEnd).bind fun g=>bif(decide (g<=(0:Int)))then ZgG e fu (Zan b 1) f else need (0<=b/\b<=(e.length:Int))<|need ((([]:List Zab)++(e.take b.toNat)).length * 56<=140737488355328/\(([]:List Zab)++(e.take b.toNat)).length<=maxLen)<|need (((([]:List Zab)++(e.take b.toNat))++([f]:List Zab)).length * 56<=140737488355328/\((([]:List Zab)++(e.take b.toNat))++([f]:List Zab)).length<=maxLen)<|need ((((([]:List Zab)++(e.take b.toNat))++([f]:List Zab))++(e.drop b.toNat)).length * 56<=140737488355328/\(((([]:List Zab)++(e.take b.toNat))++([f]:List Zab))++(e.drop b.toNat)).length<=maxLen)<|some ((((([]:List Zab)++(e.take b.toNat))++([f]:List Zab))++(e.drop b.toNat)),(0:Int))else need (0<=b/\b<=(e.length:Int))<|need ((([]:List Zab)++(e.take b.toNat)).length * 56<=140737488355328/\(([]:List Zab)++(e.take b.toNat)).length<=maxLen)<|need (((([]:List Zab)++(e.take b.toNat))++([f]:List Zab)).length * 56<=140737488355328/\((([]:List Zab)++(e.take b.toNat))++([f]:List Zab)).length<=maxLen)<|need ((((([]:List Zab)++(e.take b.toNat))++([f]:List Zab))++(e.drop b.toNat)).length * 56<=140737488355328/\(((([]:List Zab)++(e.take b.toNat))++([f]:List Zab))++(e.drop b.toNat)).length<=maxLen)<|some ((((([]:List Zab)++(e.take b.toNat))++([f]:List Zab))++(e.drop b.toNat)),(0:Int))
def ZkR(b:List Zab)(d:Zab)(e:Int):Option ((List Zab)×Int):=(ZfB d).bind fun f=>bif(!f)then some (([]:(List Zab)),(1:Int))else(ZeE b d.fEnd).bind fun g=>bif(decide (g>=(0:Int)))then some (([]:(List Zab)),(7:Int))else bif(decide ((b.length:Int)>=e))then some (([]:(List Zab)),(5:Int))else ZgG b (((b.length:Int)-(0:Int)).toNat+2) (0:Int) d
def ZhZ(b:Zaa)(d:Int):Option Zaa:=bif(decide (d<(1:Int)))then some b else bif(decide (d>(1048576:Int)))then some b else bif(b.fPing != (0:Int))then bif(decide (b.fPing<=d))then some b else some (Zaa.mk b.fEnd b.fIn b.fSince b.fScore d b.fWork)else some (Zaa.mk b.fEnd b.fIn b.fSince b.fScore d b.fWork)
def ZgJ(b:Zaa)(e:Int):Option Zaa:=(Zby e).bind fun d=>bif(decide (d>b.fWork))then some (Zaa.mk b.fEnd b.fIn b.fSince b.fScore b.fPing d)else some b
def ZcB(r:Zar)(b:Zak)(e:Zam):Option (Zak×Zal):=(ZcC b.fPeers e.fEnd).bind fun f=>bif(decide (f<(0:Int)))then(Zbz (6:Int)).bind fun h=>some (b,h)else bif(e.fKind==(2:Int))then(ZhX b.fPeers e.fEnd).bind fun i=>(ZhY b.fBook ([e.fEnd]:List Zah)).bind fun j=>some ((Zak.mk b.fBans j i.1),(Zal.mk 0 (Zah.mk (Zaf.mk false 0 0) 0) 0 0 ([]:(List Zaa))))else bif(e.fKind==(11:Int))then need (0<=f/\f<(b.fPeers.length:Int))<|(ZhZ (b.fPeers.getD f.toNat Zaa.d) e.fNum).bind fun g=>(ZgE b.fPeers g).bind fun n=>some ((Zak.mk b.fBans b.fBook n),(Zal.mk 0 (Zah.mk (Zaf.mk false 0 0) 0) g.fPing 0 ([]:(List Zaa))))else need (0<=f/\f<(b.fPeers.length:Int))<|(ZgJ (b.fPeers.getD f.toNat Zaa.d) e.fNow).bind fun o=>(ZgE b.fPeers o).bind fun p=>some ((Zak.mk b.fBans b.fBook p),(Zal.mk 0 (Zah.mk (Zaf.mk false 0 0) 0) 0 0 ([]:(List Zaa))))
def Zbv(d:Int)(h:Bool)(i:Zar)(b:Zak)(f:Zam)(r:Zak)(t:Zal):Option (Zak×Zal):=bif h then(Zcw i b f).bind fun o=>some (o.1,o.2)else bif(d==(10:Int))then some (b,(Zal.mk 0 (Zah.mk (Zaf.mk false 0 0) 0) (b.fBans.length:Int) (b.fBook.length:Int) b.fPeers))else bif(d==(13:Int))then(ZgH f.fEnd f.fNow).bind fun p=>(ZkR b.fBook p i.fMaxBook).bind fun g=>bif(g.2==(0:Int))then(Zbz g.2).bind fun j=>some ((Zak.mk b.fBans g.1 b.fPeers),j)else(Zbz g.2).bind fun n=>some (b,n)else(ZcB i b f).bind fun e=>some (e.1,e.2)
def Zcp(e:Zar)(d:Zak)(b:Zam):Option (Zak×Zal):=(Zjy b).bind fun j=>bif(!j)then(Zbz (1:Int)).bind fun n=>some (d,n)else bif(b.fKind==(1:Int))then(ZiQ e d b).bind fun f=>some (f.1,f.2)else bif(b.fKind==(3:Int))then(ZfW e d b).bind fun g=>some (g.1,g.2)else bif(b.fKind==(4:Int))then(ZdW e d b).bind fun h=>some (h.1,h.2)else bif(b.fKind==(5:Int))then(Zfz e d b).bind fun i=>some (i.1,i.2)else bif(b.fKind==(6:Int))then Zbv b.fKind (b.fKind==(6:Int)) e d b (Zak.mk ([]:(List Zac)) ([]:(List Zab)) ([]:(List Zaa))) (Zal.mk 0 (Zah.mk (Zaf.mk false 0 0) 0) 0 0 ([]:(List Zaa)))else bif(b.fKind==(7:Int))then Zbv b.fKind (b.fKind==(7:Int)) e d b (Zak.mk ([]:(List Zac)) ([]:(List Zab)) ([]:(List Zaa))) (Zal.mk 0 (Zah.mk (Zaf.mk false 0 0) 0) 0 0 ([]:(List Zaa)))else bif(b.fKind==(8:Int))then Zbv b.fKind (b.fKind==(8:Int)) e d b (Zak.mk ([]:(List Zac)) ([]:(List Zab)) ([]:(List Zaa))) (Zal.mk 0 (Zah.mk (Zaf.mk false 0 0) 0) 0 0 ([]:(List Zaa)))else Zbv b.fKind (b.fKind==(9:Int)) e d b (Zak.mk ([]:(List Zac)) ([]:(List Zab)) ([]:(List Zaa))) (Zal.mk 0 (Zah.mk (Zaf.mk false 0 0) 0) 0 0 ([]:(List Zaa)))
end Go.Proofs.YtlpdogaifdeomaaGreat
