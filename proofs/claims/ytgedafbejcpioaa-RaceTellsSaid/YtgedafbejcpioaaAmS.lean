/-
  AN EVALUATOR OF WALKS, over whatever program: a region that draws its order, walked.
-/
import Derived.Test.YtgedafbejcpioaaAmR
import Derived.Orders
namespace Go.Proofs.Ytgedafbejcpioaa
open Go.RowKit
set_option linter.unusedSimpArgs false
set_option linter.unusedVariables false

def directL : List Edge → List Nat
  | [] => []
  | e :: l => match Region.binds .any e with
    | true => e.on :: directL l
    | false => directL l

def direct (o : Oper) : List Nat := directL o.after.toList

theorem directL_mem {e : Edge} : ∀ {l : List Edge}, e ∈ l → Region.binds .any e = true → e.on ∈ directL l
  | [], h, _ => by cases h
  | x :: l, h, hb => by
    simp only [directL]
    rcases List.mem_cons.1 h with rfl | h
    · rw [hb]; simp
    · have := directL_mem h hb
      split
      · exact List.mem_cons_of_mem _ this
      · exact this

theorem directL_of {k : Nat} : ∀ {l : List Edge}, k ∈ directL l → ∃ e ∈ l, Region.binds .any e = true ∧ e.on = k
  | [], h => by simp [directL] at h
  | x :: l, h => by
    simp only [directL] at h
    split at h
    · rename_i hb
      rcases List.mem_cons.1 h with rfl | h
      · exact ⟨x, by simp, hb, rfl⟩
      · obtain ⟨e, h1, h2⟩ := directL_of h
        exact ⟨e, by simp [h1], h2⟩
    · obtain ⟨e, h1, h2⟩ := directL_of h
      exact ⟨e, by simp [h1], h2⟩

/-- What the list of those ahead of each must be. -/
def rowOk (N : Nat) (ops : Array Oper) (ra : RA) (cert : List (List Nat)) (i : Nat) : Bool := match ops[i]? with
  | none => false
  | some o => (direct o).all (fun k => Nat.blt k i) && (preds cert i).all (fun k => Nat.blt k i && (memN k (direct o) || (direct o).any fun j => memN k (preds cert j))) && okCls ra i o &&
      (List.range i).all fun k => memN k (preds cert i) || okPairC N ops ra cert k i

def drawOk (N : Nat) (ops : Array Oper) (ra : RA) (cert : List (List Nat)) : Bool := match ra.fz with
  | [] => (List.range ops.size).all (rowOk N ops ra cert)
  | _ => false

theorem newIds_mem {ra : RA} {i : Nat} {o : Oper} : ∀ {l : List Oper} {k : Nat}, l[i]? = some o → clsX ra (k + i) o = 3 → (k + i, o.dst.getD 0) ∈ newIds ra k l := by
  induction i with
  | zero =>
    intro l k h hc
    cases l with
    | nil => simp at h
    | cons x l =>
      simp only [List.getElem?_cons_zero, Option.some.injEq] at h
      subst h
      rw [Nat.add_zero] at hc ⊢
      simp [newIds, hc]
  | succ i ih =>
    intro l k h hc
    cases l with
    | nil => simp at h
    | cons x l =>
      have h2 := ih (l := l) (k := k + 1) (by simpa using h) (by rw [show k + 1 + i = k + (i + 1) by omega]; exact hc)
      rw [show k + 1 + i = k + (i + 1) by omega] at h2
      simp only [newIds]
      split
      · exact List.mem_cons_of_mem _ h2
      · exact h2

theorem newIds_ok (ops : Array Oper) (ra : RA) : NewOk ops ra (newIds ra 0 ops.toList) := by
  intro i o ho hc
  have := newIds_mem (ra := ra) (i := i) (o := o) (l := ops.toList) (k := 0) (by simpa using ho) (by rw [Nat.zero_add]; exact hc)
  rwa [Nat.zero_add] at this

def quietAll (N : Nat) (st : St) : List (Nat × Nat) → Bool
  | [] => true
  | (_, d) :: l => match quietE st d N with
    | true => quietAll N st l
    | false => false

theorem quietAll_mem {N : Nat} {st : St} : ∀ {l : List (Nat × Nat)}, quietAll N st l = true → ∀ i d, (i, d) ∈ l → quietE st d N = true
  | [], _, i, d, h => by cases h
  | (j, d') :: l, hq, i, d, h => by
    simp only [quietAll] at hq
    split at hq
    · rename_i h1
      rcases List.mem_cons.1 h with h | h
      · cases h; exact h1
      · exact quietAll_mem hq i d h
    · cases hq

def drawRun (P : Program) (N : Nat) (T : Tab) (ops : Array Oper) (ra : RA) (cert : List (List Nat)) (st : St) : Option (St × List Prop) := match drawOk N ops ra cert, quietAll N st (newIds ra 0 ops.toList) with
  | true, true => execL P N T ops ra cert (newIds ra 0 ops.toList) (List.range ops.size) st
  | _, _ => none

section
variable {P : Program} {N : Nat} {T : Tab} {ops : Array Oper} {ra : RA} {cert : List (List Nat)} {Q : Exit → Act → World → Prop} {S0 : Nat → Prop} {w0 : Start}

theorem rows_of (h : drawOk N ops ra cert = true) {i : Nat} (hi : i < ops.size) : ∃ o, ops[i]? = some o ∧ (∀ k ∈ direct o, k < i) ∧ (∀ k ∈ preds cert i, k < i ∧ (k ∈ direct o ∨ ∃ j ∈ direct o, k ∈ preds cert j)) ∧ okCls ra i o = true ∧ ∀ k, k < i → k ∉ preds cert i → okPairC N ops ra cert k i = true := by
  unfold drawOk at h
  split at h
  · have := List.all_eq_true.1 h i (List.mem_range.2 hi)
    unfold rowOk at this
    split at this
    · cases this
    · rename_i o ho
      simp only [Bool.and_eq_true, List.all_eq_true, Bool.or_eq_true, List.any_eq_true, List.mem_range] at this
      obtain ⟨⟨⟨h1, h2⟩, h3⟩, h4⟩ := this
      refine ⟨o, ho, fun k hk => Nat.le_of_ble_eq_true (h1 k hk), fun k hk => ?_, h3, fun k hk hn => ?_⟩
      · obtain ⟨h5, h6⟩ := h2 k hk
        refine ⟨Nat.le_of_ble_eq_true h5, ?_⟩
        rcases h6 with h6 | ⟨j, h6, h7⟩
        · exact .inl (memN_iff.1 h6)
        · exact .inr ⟨j, h6, memN_iff.1 h7⟩
      · rcases h4 k hk with h5 | h5
        · exact absurd (memN_iff.1 h5) hn
        · exact h5
  · cases h

def left (n : Nat) (listed : Array Bool) : List Nat := (List.range n).filter fun i => !listed.getD i true

theorem mem_ready {listed : Array Bool} {i : Nat} : i ∈ Region.ready .any ops listed ↔ i < ops.size ∧ listed.getD i true = false ∧ ∃ o, ops[i]? = some o ∧ ∀ k ∈ direct o, listed.getD k false = true := by
  unfold Region.ready
  simp only [List.mem_filter, List.mem_range, Bool.and_eq_true, Bool.not_eq_true']
  constructor
  · rintro ⟨h1, h2, h3⟩
    refine ⟨h1, h2, ops[i], by simp [h1], fun k hk => ?_⟩
    rw [show ops[i]? = some ops[i] by simp [h1]] at h3
    obtain ⟨e, h4, h5, rfl⟩ := directL_of hk
    simp only [Option.map_some, Option.getD_some, Array.all_eq_true_iff_forall_mem, Bool.or_eq_true, Bool.not_eq_true'] at h3
    rcases h3 e (by simpa using h4) with h6 | h6
    · rw [h5] at h6; cases h6
    · exact h6
  · rintro ⟨h1, h2, o, ho, h3⟩
    refine ⟨h1, h2, ?_⟩
    rw [ho]
    simp only [Option.map_some, Option.getD_some, Array.all_eq_true_iff_forall_mem, Bool.or_eq_true, Bool.not_eq_true']
    intro e he
    cases hb : Region.binds .any e with
    | false => exact .inl rfl
    | true => exact .inr (h3 _ (directL_mem (by simpa using he) hb))

theorem getD_set (listed : Array Bool) (i j : Nat) (d : Bool) (hi : i < listed.size) : (listed.setIfInBounds i true).getD j d = if i = j then true else listed.getD j d := by
  simp only [Array.getD_eq_getD_getElem?, Array.getElem?_setIfInBounds]
  split
  · simp [*]
  · rfl

theorem any_walk (hT : TabOk P T) (hD : drawOk N ops ra cert = true) : ∀ (fuel : Nat) (listed : Array Bool) (st F : St) (a : Act) (w : World) (obl : List Prop), listed.size = ops.size → (left ops.size listed).length ≤ fuel →
    (∀ j, listed.getD j false = true → ∀ k ∈ preds cert j, listed.getD k false = true) → (∀ j o, j ∈ left ops.size listed → ops[j]? = some o → clsX ra j o = 3 → quietE st (o.dst.getD 0) N = true) →
    Shows N S0 w0 st a w → execL P N T ops ra cert (newIds ra 0 ops.toList) (left ops.size listed) st = some (F, obl) → (∀ q ∈ obl, q) → (∀ F' a' w', Eqv F F' → Shows N S0 w0 F' a' w' → Q .normal a' w') → wpAny P .any ops Q fuel listed a w := by
  intro fuel
  have hcls : ∀ i o, ops[i]? = some o → okCls ra i o = true := fun i o ho => by
    obtain ⟨o', h1, _, _, h4, _⟩ := rows_of hD (Array.getElem?_eq_some_iff.1 ho).1
    rw [ho] at h1; cases h1; exact h4
  have hdone : ∀ (listed : Array Bool), listed.size = ops.size → Region.ready .any ops listed = [] → left ops.size listed = [] := by
    intro listed hsz hr
    cases hl : left ops.size listed with
    | nil => rfl
    | cons i l =>
      exfalso
      have hm : i ∈ left ops.size listed := by rw [hl]; simp
      have hmin : ∀ k, k < i → listed.getD k true = true := by
        intro k hk
        cases hk2 : listed.getD k true with
        | true => rfl
        | false =>
          exfalso
          have hs : List.Pairwise (· < ·) (left ops.size listed) := List.Pairwise.filter _ List.pairwise_lt_range
          have hi : i < ops.size := by simp [left] at hm; exact hm.1
          have hkm : k ∈ left ops.size listed := by simp only [left, List.mem_filter, List.mem_range, Bool.not_eq_true']; exact ⟨by omega, hk2⟩
          rw [hl] at hs hkm
          rcases List.mem_cons.1 hkm with rfl | hkm
          · omega
          · have := (List.pairwise_cons.1 hs).1 k hkm
            omega
      have hi : i < ops.size ∧ listed.getD i true = false := by simpa [left] using hm
      obtain ⟨o, ho, hd, _⟩ := rows_of hD hi.1
      have : i ∈ Region.ready .any ops listed := mem_ready.2 ⟨hi.1, hi.2, o, ho, fun k hk => by
        have hki := hd k hk
        have h1 := hmin k hki
        have hks : k < listed.size := by omega
        simp only [Array.getD_eq_getD_getElem?, Array.getElem?_eq_getElem hks, Option.getD_some] at h1 ⊢
        exact h1⟩
      rw [hr] at this
      cases this
  induction fuel with
  | zero =>
    intro listed st F a w obl hsz hle hdc hJ hsh hex ho hk
    have hl : left ops.size listed = [] := List.eq_nil_of_length_eq_zero (by omega)
    rw [hl] at hex
    cases hex
    refine ⟨?_, hk _ a w (Eqv.refl _) hsh⟩
    cases hr : Region.ready .any ops listed with
    | nil => rfl
    | cons i l =>
      have hm : i ∈ Region.ready .any ops listed := by rw [hr]; simp
      obtain ⟨h1, h2, _⟩ := mem_ready.1 hm
      have : i ∈ left ops.size listed := by simp only [left, List.mem_filter, List.mem_range, Bool.not_eq_true']; exact ⟨h1, h2⟩
      rw [hl] at this
      cases this
  | succ fuel ih =>
    intro listed st F a w obl hsz hle hdc hJ hsh hex ho hk
    refine ⟨fun hr => ?_, fun i hi => ?_⟩
    · rw [hdone listed hsz hr] at hex
      cases hex
      exact hk _ a w (Eqv.refl _) hsh
    · obtain ⟨hi1, hi2, o, hoi, hdir⟩ := mem_ready.1 hi
      have him : i ∈ left ops.size listed := by simp only [left, List.mem_filter, List.mem_range, Bool.not_eq_true']; exact ⟨hi1, hi2⟩
      obtain ⟨pre, post, hsplit⟩ := List.append_of_mem him
      have hnd : (left ops.size listed).Nodup := List.Pairwise.filter _ List.nodup_range
      have hpw : List.Pairwise (· < ·) (left ops.size listed) := List.Pairwise.filter _ List.pairwise_lt_range
      obtain ⟨o', ho', hd, hp, hc, hpair⟩ := rows_of hD hi1
      rw [hoi] at ho'
      cases ho'
      have hpl : ∀ k ∈ preds cert i, listed.getD k false = true := by
        intro k hk
        rcases (hp k hk).2 with h | ⟨j, h, h2⟩
        · exact hdir k h
        · exact hdc j (hdir j h) k h2
      have hunl : ∀ k ∈ left ops.size listed, listed.getD k false = false := by
        intro k hk
        simp only [left, List.mem_filter, List.mem_range, Bool.not_eq_true'] at hk
        have hks : k < listed.size := by omega
        have := hk.2
        simp only [Array.getD_eq_getD_getElem?, Array.getElem?_eq_getElem hks, Option.getD_some] at this ⊢
        exact this
      have hpre : ∀ k ∈ pre, okPairC N ops ra cert k i = true ∧ k ≠ i ∧ k ∉ preds cert i ∧ i ∉ preds cert k := by
        intro k hk
        have hkm : k ∈ left ops.size listed := by rw [hsplit]; simp [hk]
        have hlt : k < i := by
          rw [hsplit] at hpw
          exact (List.pairwise_append.1 hpw).2.2 k hk i (by simp)
        have hnp : k ∉ preds cert i := fun h => by have := hpl k h; rw [hunl k hkm] at this; cases this
        refine ⟨hpair k hlt hnp, by omega, hnp, fun h => ?_⟩
        have hk1 : k < ops.size := by omega
        obtain ⟨_, _, _, hp', _⟩ := rows_of hD hk1
        have := (hp' i h).1
        omega
      rw [hsplit] at hex
      obtain ⟨st1, oi, F', o', h1, h2, h3, h4⟩ := execL_front (newIds_ok ops ra) (fun j _ => hcls j) hpre (fun o2 ho2 hc2 => hJ i o2 him ho2 hc2) hex
      have hleft : left ops.size (listed.setIfInBounds i true) = pre ++ post := by
        have e1 : left ops.size (listed.setIfInBounds i true) = (left ops.size listed).filter (fun j => decide (j ≠ i)) := by
          unfold left
          rw [List.filter_filter]
          apply List.filter_congr
          intro j hj
          rw [getD_set _ _ _ _ (by omega)]
          by_cases e : i = j
          · subst e; simp
          · simp [e, Ne.symm e]
        rw [e1, hsplit, List.filter_append, List.filter_cons]
        rw [hsplit] at hnd
        obtain ⟨n1, n2, n3⟩ := List.nodup_append.1 hnd
        have n4 := (List.nodup_cons.1 n2).1
        rw [if_neg (by simp)]
        rw [List.filter_eq_self.2 (fun x hx => by simp; exact fun e => n3 x hx i (by simp) e), List.filter_eq_self.2 (fun x hx => by simp; rintro rfl; exact n4 hx)]
      obtain ⟨o2, v, s1, ho2, hr, hck, hput⟩ := stepC_inv h1
      rw [hoi] at ho2
      cases ho2
      have hstep : opStepH P N T ops ra i o st = some (st1, oi) := opStepH_of hr hput
      have henv := opRunX_env hr
      unfold wpOp
      rw [hoi]
      simp only
      have hfin := opStepH_wp (P := P) hT hsh hstep (fun q hq => h4 ho q (List.mem_append.2 (.inl hq))) (K := wpAny P .any ops Q fuel (listed.setIfInBounds i true)) (Q := Q) fun a' w' hs' => by
        refine ih (listed.setIfInBounds i true) st1 F' a' w' o' (by simp [hsz]) ?_ ?_ ?_ hs' (by rw [hleft]; exact h2) (fun q hq => h4 ho q (List.mem_append.2 (.inr hq))) fun F2 a2 w2 he hs2 => hk F2 a2 w2 (h3.trans he) hs2
        · rw [hleft]
          rw [hsplit] at hle
          simp at hle ⊢
          omega
        · intro j hj k hk
          rw [getD_set _ _ _ _ (by omega)] at hj ⊢
          split
          · rfl
          · split at hj
            · rename_i e; subst e; exact hpl k hk
            · exact hdc j hj k hk
        · intro j o2 hj ho2 hc2
          have hjm : j ∈ left ops.size listed := by
            rw [hsplit]
            rw [hleft] at hj
            rcases List.mem_append.1 hj with hj | hj
            · exact List.mem_append.2 (.inl hj)
            · exact List.mem_append.2 (.inr (List.mem_cons_of_mem _ hj))
          have hji : j ≠ i := by
            rintro rfl
            simp only [left, List.mem_filter, Bool.not_eq_true'] at hj
            have h5 := hj.2
            rw [getD_set _ _ _ _ (by omega), if_pos rfl] at h5
            cases h5
          refine quietE_putO (hJ j o2 hjm ho2 hc2) (get_env henv) (chk_spec hck (newIds_ok ops ra j o2 ho2 hc2) hji fun h => ?_) hput
          have := hpl j h
          rw [hunl j hjm] at this
          cases this
      split
      · rename_i hw
        rw [if_pos hw] at hfin
        exact .inl hfin
      · rename_i hw
        rw [if_neg hw] at hfin
        exact hfin

theorem draw_wp (hT : TabOk P T) (hm : P.follows .mixedOrders = true) {id : Nat} {st st' : St} {a : Act} {w : World} {obl : List Prop} (hsh : Shows N S0 w0 st a w) (h : drawRun P N T ops ra cert st = some (st', obl)) (ho : ∀ q ∈ obl, q)
    (hk : ∀ a' w', Shows N S0 w0 st' a' w' → Q .normal a' w') : (Code.region id ops true).wp P Q a w := by
  unfold drawRun at h
  split at h
  · rename_i hD hq
    refine wp_region_any hm ?_
    have hl : left ops.size (Array.replicate ops.size false) = List.range ops.size := by
      unfold left
      apply List.filter_eq_self.2
      intro i hi
      simp at hi
      simp [Array.getD_eq_getD_getElem?, hi]
    have hsh' : Shows N S0 w0 st a { w with drawn := w.drawn + 1 } := by
      obtain ⟨S, m, hs, hg⟩ := hsh
      exact ⟨S, m, hs.grow (Nat.le_refl _) (fun _ _ => rfl) (fun _ h => h) (fun _ h => .inl h), hg.step ⟨rfl, rfl, rfl, Nat.le_refl _, fun _ _ => rfl, Nat.le_succ _⟩ (fun _ h => h) (fun _ h => .inl h)⟩
    refine any_walk hT hD ops.size _ st st' a _ obl (by simp) (by rw [hl]; simp) (fun j hj => ?_) (fun j o hj hoj hc => quietAll_mem hq j _ (newIds_ok ops ra j o hoj hc)) hsh' (by rw [hl]; exact h) ho fun F' a' w' he hs' => ?_
    · exfalso
      simp only [Array.getD_eq_getD_getElem?, Array.getElem?_replicate] at hj
      split at hj <;> simp at hj
    · exact hk a' w' (hs'.eqv ⟨fun t => (he.env t).symm, he.heap.symm⟩)
  · cases h
end


/-! ### A region that draws its order, and ends by a panic -/
section
variable (P : Program) (N : Nat) (T : Tab) (ops : Array Oper) (ra : RA) (cert : List (List Nat))

/-- The operations that do not hang on the one at i. -/
def apartI (i j : Nat) : Bool := !(Nat.beq j i) && !(memN i (preds cert j))

def rowP (i j : Nat) : Bool := match ops[j]? with
  | none => false
  | some o => (direct o).all (fun k => Nat.blt k j) && (preds cert j).all (fun k => Nat.blt k j && (memN k (direct o) || (direct o).any fun l => memN k (preds cert l))) &&
      (!(apartI cert i j) || (okCls ra j o && (List.range j).all fun k => !(apartI cert i k) || memN k (preds cert j) || okPairC N ops ra cert k j))

/-- What changes nothing at which the one that panics looks. -/
def calmI (pa : PA) (j : Nat) (a : Oper) : Bool := match clsX ra j a with
  | 0 | 1 => true
  | 3 => pa.lend.all fun p => !(Nat.beq p.2 (a.dst.getD 0))
  | _ => false

def farI (pa : PA) (i j : Nat) : Bool := match ops[j]?, ops[i]? with
  | some a, some b => !(apartI cert i j) || memN j (preds cert i) || (calmI ra pa j a && disj a.dst (usesT ops b))
  | _, _ => false

def panDrawOk (pa : PA) (i : Nat) : Bool := match ra.fz with
  | [] => (List.range ops.size).all (fun j => rowP N ops ra cert i j && farI ops ra cert pa i j)
  | _ => false

def panDraw (i : Nat) (pa : PA) (st : St) : Option (V × List Prop) := match panDrawOk N ops ra cert pa i, quietAll N st (newIds ra 0 ops.toList), ops[i]? with
  | true, true, some o => match execL P N T ops ra cert (newIds ra 0 ops.toList) ((List.range ops.size).filter (apartI cert i)) st with
    | some (F, o1) => match opPan P N ops pa (klook ra.an i) o F with
      | some (pv, o2) => some (pv, o1 ++ o2)
      | none => none
    | none => none
  | _, _, _ => none
end

section
variable {P : Program} {N : Nat} {T : Tab} {ops : Array Oper} {ra : RA} {cert : List (List Nat)} {Q : Exit → Act → World → Prop} {S0 : Nat → Prop} {w0 : Start}

theorem rowP_of {pa : PA} {i : Nat} (h : panDrawOk N ops ra cert pa i = true) {j : Nat} (hj : j < ops.size) : ∃ o, ops[j]? = some o ∧ (∀ k ∈ direct o, k < j) ∧ (∀ k ∈ preds cert j, k < j ∧ (k ∈ direct o ∨ ∃ l ∈ direct o, k ∈ preds cert l)) ∧
    (apartI cert i j = true → okCls ra j o = true ∧ ∀ k, k < j → apartI cert i k = true → k ∉ preds cert j → okPairC N ops ra cert k j = true) ∧ farI ops ra cert pa i j = true := by
  unfold panDrawOk at h
  split at h
  · have := List.all_eq_true.1 h j (List.mem_range.2 hj)
    rw [Bool.and_eq_true] at this
    obtain ⟨h1, hf⟩ := this
    unfold rowP at h1
    split at h1
    · cases h1
    · rename_i o ho
      simp only [Bool.and_eq_true, List.all_eq_true, Bool.or_eq_true, List.any_eq_true, List.mem_range, Bool.not_eq_true'] at h1
      obtain ⟨⟨h1, h2⟩, h3⟩ := h1
      refine ⟨o, ho, fun k hk => Nat.le_of_ble_eq_true (h1 k hk), fun k hk => ?_, fun ha => ?_, hf⟩
      · obtain ⟨h5, h6⟩ := h2 k hk
        refine ⟨Nat.le_of_ble_eq_true h5, ?_⟩
        rcases h6 with h6 | ⟨l, h6, h7⟩
        · exact .inl (memN_iff.1 h6)
        · exact .inr ⟨l, h6, memN_iff.1 h7⟩
      · rcases h3 with h3 | ⟨h3, h4⟩
        · rw [ha] at h3; cases h3
        · refine ⟨h3, fun k hk hka hn => ?_⟩
          rcases h4 k hk with (h5 | h5) | h5
          · rw [hka] at h5; cases h5
          · exact absurd (memN_iff.1 h5) hn
          · exact h5
  · cases h

theorem hIn_sub {g : Nat → Option Nat} {h h2 : List (Nat × B)} : ∀ {l : List (Nat × Nat)} {r : List (Nat × B)}, (∀ p ∈ l, ∀ b, hget h p.2 = some b → hget h2 p.2 = some b) → hIn g h l = some r → hIn g h2 l = some r
  | [], r, _, e => e
  | (c0, i0) :: l, r, hs, e => by
    simp only [hIn] at e ⊢
    split at e
    · rename_i b hb
      split at e
      · rename_i b0 l0 h1 h3
        cases e
        rw [hs _ List.mem_cons_self b hb]
        simp only [h1, hIn_sub (fun p hp => hs p (List.mem_cons_of_mem _ hp)) h3]
      · cases e
    · cases e

theorem opPan_same {pa : PA} {an : Option Ans} {o : Oper} {st st2 : St} (hu : ∀ t ∈ usesT ops o, st2.get t = st.get t) (hh : ∀ p ∈ pa.lend, ∀ b, hget st.heap p.2 = some b → hget st2.heap p.2 = some b) {r : V × List Prop} (h : opPan P N ops pa an o st = some r) (hpn : ∀ x, o.op = .panic x → False) : opPan P N ops pa an o st2 = some r := by
  unfold opPan at h ⊢
  rw [guardOk_uses hu]
  split at h
  rotate_left
  · cases h
  have he := evo_uses hu
  split at h
  · rename_i c args tys hop
    rw [hop] at he
    unfold evPCall at h ⊢
    rw [calleeX_evo he]
    have hok : okHA N st2 ⟨pa.lend, [], [], pa.pv⟩ = okHA N st ⟨pa.lend, [], [], pa.pv⟩ := rfl
    revert h
    cases hcal : calleeX P st c an with
    | none => intro h; cases h
    | some q =>
      obtain ⟨g, a, b, om⟩ := q
      simp only
      rw [callArgs_evo (fun x hx => he x (seen_args x hx)) a b, hok]
      intro h
      split at h
      rotate_left
      · cases h
      rename_i obl hx
      cases h
      split at hx
      rotate_left
      · cases hx
      rename_i h0 vs e1 e2 e3
      cases hx
      simp only [e1, hIn_sub hh e2, e3]
  · rename_i x hop
    exact (hpn x hop).elim
  · cases h

/-- Operations that look at memory, or make what is new, leave what is lent as it is. -/
theorem execL_quiet {pa : PA} {oi : Oper} : ∀ {l : List Nat} {st F : St} {obl : List Prop}, (∀ j ∈ l, ∃ a, ops[j]? = some a ∧ calmI ra pa j a = true ∧ disj a.dst (usesT ops oi) = true) → execL P N T ops ra cert (newIds ra 0 ops.toList) l st = some (F, obl) →
    (∀ p ∈ pa.lend, ∀ b, hget F.heap p.2 = some b → hget st.heap p.2 = some b) ∧ ∀ t ∈ usesT ops oi, F.get t = st.get t
  | [], st, F, obl, hl, h => by cases h; exact ⟨fun _ _ _ h => h, fun _ _ => rfl⟩
  | j :: l, st, F, obl, hl, h => by
    simp only [execL] at h
    split at h
    · cases h
    rename_i s1 o1 h1
    split at h
    · cases h
    rename_i s2 o2 h2
    cases h
    obtain ⟨a, ha, hc, hd⟩ := hl j (by simp)
    obtain ⟨a', v, sa, ha', hr, _, hp⟩ := stepC_inv h1
    rw [ha] at ha'
    cases ha'
    obtain ⟨f1, f2⟩ := execL_quiet (fun k hk => hl k (by simp [hk])) h2
    have e1 := opRunX_env hr
    refine ⟨fun p hp2 b hb => ?_, fun t ht => ?_⟩
    · have hb := f1 p hp2 b hb
      rw [(get_putO hp 0).2] at hb
      unfold calmI at hc
      split at hc
      · rename_i h0
        obtain ⟨_, e2, _⟩ := opRunX_local (st2 := st) (by omega) (fun _ _ => rfl) (fun _ => rfl) (fun _ h => h) hr
        rwa [e2 (by omega)] at hb
      · rename_i h0
        obtain ⟨_, e2, _⟩ := opRunX_local (st2 := st) (by omega) (fun _ _ => rfl) (fun _ => rfl) (fun _ h => h) hr
        rwa [e2 (by omega)] at hb
      · rename_i h0
        rcases opRunX_new h0 hr with e | ⟨_, e⟩
        · rwa [e] at hb
        · rcases e _ _ hb with e | e
          · have := List.all_eq_true.1 hc p hp2
            rw [e] at this
            simp at this
          · exact e
      · cases hc
    · rw [f2 t ht, (get_putO hp t).1, if_neg (disj_spec hd ht)]
      exact get_env e1 t

theorem pan_walk (hT : TabOk P T) {i : Nat} {pa : PA} (hD : panDrawOk N ops ra cert pa i = true) {oi : Oper} (hoi : ops[i]? = some oi) (hpn : ∀ x, oi.op = .panic x → False) {pv : V} (hk : PanQ S0 w0 pv Q) : ∀ (fuel : Nat) (listed : Array Bool) (st F : St) (a : Act) (w : World) (o1 o2 : List Prop), listed.size = ops.size → (left ops.size listed).length ≤ fuel →
    listed.getD i true = false → (∀ j, listed.getD j false = true → ∀ k ∈ preds cert j, listed.getD k false = true) → (∀ j o, j ∈ (left ops.size listed).filter (apartI cert i) → ops[j]? = some o → clsX ra j o = 3 → quietE st (o.dst.getD 0) N = true) →
    Shows N S0 w0 st a w → execL P N T ops ra cert (newIds ra 0 ops.toList) ((left ops.size listed).filter (apartI cert i)) st = some (F, o1) → opPan P N ops pa (klook ra.an i) oi F = some (pv, o2) → (∀ q ∈ o1 ++ o2, q) → wpAny P .any ops Q fuel listed a w := by
  have hisz : i < ops.size := (Array.getElem?_eq_some_iff.1 hoi).1
  intro fuel
  have hdone : ∀ (listed : Array Bool), listed.size = ops.size → Region.ready .any ops listed = [] → left ops.size listed = [] := by
    intro listed hsz hr
    cases hl : left ops.size listed with
    | nil => rfl
    | cons i l =>
      exfalso
      have hm : i ∈ left ops.size listed := by rw [hl]; simp
      have hmin : ∀ k, k < i → listed.getD k true = true := by
        intro k hk
        cases hk2 : listed.getD k true with
        | true => rfl
        | false =>
          exfalso
          have hs : List.Pairwise (· < ·) (left ops.size listed) := List.Pairwise.filter _ List.pairwise_lt_range
          have hi : i < ops.size := by simp [left] at hm; exact hm.1
          have hkm : k ∈ left ops.size listed := by simp only [left, List.mem_filter, List.mem_range, Bool.not_eq_true']; exact ⟨by omega, hk2⟩
          rw [hl] at hs hkm
          rcases List.mem_cons.1 hkm with rfl | hkm
          · omega
          · have := (List.pairwise_cons.1 hs).1 k hkm
            omega
      have hi : i < ops.size ∧ listed.getD i true = false := by simpa [left] using hm
      obtain ⟨o, ho, hd, _⟩ := rowP_of hD hi.1
      have : i ∈ Region.ready .any ops listed := mem_ready.2 ⟨hi.1, hi.2, o, ho, fun k hk => by
        have hki := hd k hk
        have h1 := hmin k hki
        have hks : k < listed.size := by omega
        simp only [Array.getD_eq_getD_getElem?, Array.getElem?_eq_getElem hks, Option.getD_some] at h1 ⊢
        exact h1⟩
      rw [hr] at this
      cases this
  have himem : ∀ (listed : Array Bool), listed.getD i true = false → i ∈ left ops.size listed := fun listed h => by
    simp only [left, List.mem_filter, List.mem_range, Bool.not_eq_true']; exact ⟨hisz, h⟩
  induction fuel with
  | zero =>
    intro listed st F a w o1 o2 hsz hle hil _ _ _ _ _ _
    have hl : left ops.size listed = [] := List.eq_nil_of_length_eq_zero (by omega)
    have := himem listed hil
    rw [hl] at this
    cases this
  | succ fuel ih =>
    intro listed st F a w o1 o2 hsz hle hil hdc hJ hsh hex hpan ho
    refine ⟨fun hr => ?_, fun j hj => ?_⟩
    · have := himem listed hil
      rw [hdone listed hsz hr] at this
      cases this
    · obtain ⟨hj1, hj2, o, hoj, hdir⟩ := mem_ready.1 hj
      have hjm : j ∈ left ops.size listed := by simp only [left, List.mem_filter, List.mem_range, Bool.not_eq_true']; exact ⟨hj1, hj2⟩
      obtain ⟨o', ho', hd, hp, hc, hfar⟩ := rowP_of hD hj1
      rw [hoj] at ho'
      cases ho'
      have hpl : ∀ k ∈ preds cert j, listed.getD k false = true := by
        intro k hk
        rcases (hp k hk).2 with h | ⟨l, h, h2⟩
        · exact hdir k h
        · exact hdc l (hdir l h) k h2
      have hunl : ∀ k ∈ left ops.size listed, listed.getD k false = false := by
        intro k hk
        simp only [left, List.mem_filter, List.mem_range, Bool.not_eq_true'] at hk
        have hks : k < listed.size := by omega
        have := hk.2
        simp only [Array.getD_eq_getD_getElem?, Array.getElem?_eq_getElem hks, Option.getD_some] at this ⊢
        exact this
      unfold wpOp
      rw [hoj]
      simp only
      by_cases hji : j = i
      · -- the one that panics
        subst hji
        rw [hoi] at hoj
        cases hoj
        have hq : ∀ k ∈ (left ops.size listed).filter (apartI cert j), ∃ a, ops[k]? = some a ∧ calmI ra pa k a = true ∧ disj a.dst (usesT ops oi) = true := by
          intro k hk
          obtain ⟨hk1, hk2⟩ := List.mem_filter.1 hk
          have hks : k < ops.size := by simp [left] at hk1; exact hk1.1
          obtain ⟨ok, hok, _, _, _, hf⟩ := rowP_of hD hks
          unfold farI at hf
          rw [hok, hoi] at hf
          simp only [Bool.or_eq_true, Bool.and_eq_true, Bool.not_eq_true'] at hf
          rcases hf with (hf | hf) | hf
          · rw [hk2] at hf; cases hf
          · have := hpl k (memN_iff.1 hf)
            rw [hunl k hk1] at this; cases this
          · exact ⟨ok, hok, hf.1, hf.2⟩
        obtain ⟨f1, f2⟩ := execL_quiet hq hex
        have hp2 := opPan_same (fun t ht => (f2 t ht).symm) f1 hpan hpn
        obtain ⟨h1, h2⟩ := opPan_wp (K := wpAny P .any ops Q fuel (listed.setIfInBounds j true)) hsh hp2 (fun q hq => ho q (List.mem_append.2 (.inr hq))) hk
        rw [if_pos h1]
        exact .inl h2
      · have hap : apartI cert i j = true := by
          unfold apartI
          simp only [Bool.and_eq_true, Bool.not_eq_true']
          refine ⟨?_, ?_⟩
          · cases hb : Nat.beq j i
            · rfl
            · exact absurd (eq_of_beq' hb) hji
          · cases hb : memN i (preds cert j)
            · rfl
            · have := hpl i (memN_iff.1 hb)
              rw [hunl i (himem listed hil)] at this; cases this
        obtain ⟨hcls, hpair⟩ := hc hap
        have him : j ∈ (left ops.size listed).filter (apartI cert i) := List.mem_filter.2 ⟨hjm, hap⟩
        obtain ⟨pre, post, hsplit⟩ := List.append_of_mem him
        have hsub : ∀ k ∈ (left ops.size listed).filter (apartI cert i), k < ops.size ∧ k ∈ left ops.size listed ∧ apartI cert i k = true := fun k hk => by
          obtain ⟨h1, h2⟩ := List.mem_filter.1 hk
          exact ⟨by simp [left] at h1; exact h1.1, h1, h2⟩
        have hnd : ((left ops.size listed).filter (apartI cert i)).Nodup := List.Pairwise.filter _ (List.Pairwise.filter _ List.nodup_range)
        have hpw : List.Pairwise (· < ·) ((left ops.size listed).filter (apartI cert i)) := List.Pairwise.filter _ (List.Pairwise.filter _ List.pairwise_lt_range)
        have hpre : ∀ k ∈ pre, okPairC N ops ra cert k j = true ∧ k ≠ j ∧ k ∉ preds cert j ∧ j ∉ preds cert k := by
          intro k hk
          have hkm : k ∈ (left ops.size listed).filter (apartI cert i) := by rw [hsplit]; simp [hk]
          obtain ⟨k1, k2, k3⟩ := hsub k hkm
          have hlt : k < j := by
            rw [hsplit] at hpw
            exact (List.pairwise_append.1 hpw).2.2 k hk j (by simp)
          have hnp : k ∉ preds cert j := fun h => by have := hpl k h; rw [hunl k k2] at this; cases this
          refine ⟨hpair k hlt k3 hnp, by omega, hnp, fun h => ?_⟩
          obtain ⟨_, _, _, hp', _⟩ := rowP_of hD k1
          have := (hp' j h).1
          omega
        rw [hsplit] at hex
        have hclsL : ∀ k ∈ pre ++ post, ∀ o, ops[k]? = some o → okCls ra k o = true := fun k hk ok hok => by
          have hkm : k ∈ (left ops.size listed).filter (apartI cert i) := by
            rw [hsplit]
            rcases List.mem_append.1 hk with h | h
            · exact List.mem_append.2 (.inl h)
            · exact List.mem_append.2 (.inr (List.mem_cons_of_mem _ h))
          obtain ⟨k1, k2, k3⟩ := hsub k hkm
          obtain ⟨ok', hok', _, _, hc', _⟩ := rowP_of hD k1
          rw [hok] at hok'
          cases hok'
          exact (hc' k3).1
        obtain ⟨st1, oo, F', o', h1, h2, h3, h4⟩ := execL_front (newIds_ok ops ra) hclsL hpre (fun o2 ho2 hc2 => hJ j o2 him ho2 hc2) hex
        have hleft : (left ops.size (listed.setIfInBounds j true)).filter (apartI cert i) = pre ++ post := by
          have e1 : left ops.size (listed.setIfInBounds j true) = (left ops.size listed).filter (fun k => decide (k ≠ j)) := by
            unfold left
            rw [List.filter_filter]
            apply List.filter_congr
            intro k hk
            rw [getD_set _ _ _ _ (by omega)]
            by_cases e : j = k
            · subst e; simp
            · simp [e, Ne.symm e]
          rw [e1, List.filter_filter]
          have e2 : (left ops.size listed).filter (fun k => apartI cert i k && decide (k ≠ j)) = ((left ops.size listed).filter (apartI cert i)).filter (fun k => decide (k ≠ j)) := by
            rw [List.filter_filter]
            apply List.filter_congr
            intro k _
            exact Bool.and_comm _ _
          rw [e2, hsplit, List.filter_append, List.filter_cons]
          rw [hsplit] at hnd
          obtain ⟨n1, n2, n3⟩ := List.nodup_append.1 hnd
          have n4 := (List.nodup_cons.1 n2).1
          rw [if_neg (by simp)]
          rw [List.filter_eq_self.2 (fun x hx => by simp; exact fun e => n3 x hx j (by simp) e), List.filter_eq_self.2 (fun x hx => by simp; rintro rfl; exact n4 hx)]
        have hlen : (left ops.size (listed.setIfInBounds j true)).length ≤ fuel := by
          have e1 : left ops.size (listed.setIfInBounds j true) = (left ops.size listed).filter (fun k => decide (k ≠ j)) := by
            unfold left
            rw [List.filter_filter]
            apply List.filter_congr
            intro k hk
            rw [getD_set _ _ _ _ (by omega)]
            by_cases e : j = k
            · subst e; simp
            · simp [e, Ne.symm e]
          rw [e1]
          have : ((left ops.size listed).filter (fun k => decide (k ≠ j))).length < (left ops.size listed).length := by
            rcases Nat.lt_or_ge ((left ops.size listed).filter (fun k => decide (k ≠ j))).length (left ops.size listed).length with h | h
            · exact h
            · have := List.filter_eq_self.1 (List.Sublist.eq_of_length_le List.filter_sublist h) j hjm
              simp at this
          omega
        obtain ⟨ox, v, s1, ho2, hr, hck, hput⟩ := stepC_inv h1
        rw [hoj] at ho2
        cases ho2
        have hstep : opStepH P N T ops ra j o st = some (st1, oo) := opStepH_of hr hput
        have henv := opRunX_env hr
        have hpan' : opPan P N ops pa (klook ra.an i) oi F' = some (pv, o2) := opPan_same (fun t _ => (h3.env t)) (fun _ _ _ h => by rw [h3.heap]; exact h) hpan hpn
        have hfin := opStepH_wp (P := P) hT hsh hstep (fun q hq => h4 (fun q hq => ho q (List.mem_append.2 (.inl hq))) q (List.mem_append.2 (.inl hq))) (K := wpAny P .any ops Q fuel (listed.setIfInBounds j true)) (Q := Q) fun a' w' hs' => by
          refine ih (listed.setIfInBounds j true) st1 F' a' w' o' o2 (by simp [hsz]) hlen ?_ ?_ ?_ hs' (by rw [hleft]; exact h2) hpan' (fun q hq => ?_)
          · rw [getD_set _ _ _ _ (by omega), if_neg hji]; exact hil
          · intro k hk l hl
            rw [getD_set _ _ _ _ (by omega)] at hk ⊢
            split
            · rfl
            · split at hk
              · rename_i e; subst e; exact hpl l hl
              · exact hdc k hk l hl
          · intro k ok hk hok hc2
            have hkj : k ≠ j := by
              rintro rfl
              have hk1 := (List.mem_filter.1 hk).1
              simp only [left, List.mem_filter, Bool.not_eq_true'] at hk1
              have h5 := hk1.2
              rw [getD_set _ _ _ _ (by omega), if_pos rfl] at h5
              cases h5
            rw [hleft] at hk
            have hkm : k ∈ (left ops.size listed).filter (apartI cert i) := by
              rw [hsplit]
              rcases List.mem_append.1 hk with h | h
              · exact List.mem_append.2 (.inl h)
              · exact List.mem_append.2 (.inr (List.mem_cons_of_mem _ h))
            obtain ⟨_, k2, _⟩ := hsub k hkm
            refine quietE_putO (hJ k ok hkm hok hc2) (get_env henv) (chk_spec hck (newIds_ok ops ra k ok hok hc2) hkj fun h => ?_) hput
            have := hpl k h
            rw [hunl k k2] at this
            cases this
          · rcases List.mem_append.1 hq with hq | hq
            · exact h4 (fun q hq => ho q (List.mem_append.2 (.inl hq))) q (List.mem_append.2 (.inr hq))
            · exact ho q (List.mem_append.2 (.inr hq))
        split
        · rename_i hw
          rw [if_pos hw] at hfin
          exact .inl hfin
        · rename_i hw
          rw [if_neg hw] at hfin
          exact hfin

theorem panDraw_wp (hT : TabOk P T) (hm : P.follows .mixedOrders = true) {id i : Nat} {pa : PA} {st : St} {a : Act} {w : World} {pv : V} {obl : List Prop} (hsh : Shows N S0 w0 st a w) (hpn : ∀ o x, ops[i]? = some o → o.op = .panic x → False) (h : panDraw P N T ops ra cert i pa st = some (pv, obl)) (ho : ∀ q ∈ obl, q)
    (hk : PanQ S0 w0 pv Q) : (Code.region id ops true).wp P Q a w := by
  unfold panDraw at h
  split at h
  rotate_left
  · cases h
  rename_i oi hD hq hoi
  split at h
  rotate_left
  · cases h
  rename_i F o1 hex
  split at h
  rotate_left
  · cases h
  rename_i pv2 o2 hpan
  cases h
  refine wp_region_any hm ?_
  have hl : left ops.size (Array.replicate ops.size false) = List.range ops.size := by
    unfold left
    apply List.filter_eq_self.2
    intro i hi
    simp at hi
    simp [Array.getD_eq_getD_getElem?, hi]
  have hsh' : Shows N S0 w0 st a { w with drawn := w.drawn + 1 } := by
    obtain ⟨S, m, hs, hg⟩ := hsh
    exact ⟨S, m, hs.grow (Nat.le_refl _) (fun _ _ => rfl) (fun _ h => h) (fun _ h => .inl h), hg.step ⟨rfl, rfl, rfl, Nat.le_refl _, fun _ _ => rfl, Nat.le_succ _⟩ (fun _ h => h) (fun _ h => .inl h)⟩
  have hisz : i < ops.size := (Array.getElem?_eq_some_iff.1 hoi).1
  refine pan_walk hT hD hoi (fun x hx => hpn oi x hoi hx) hk ops.size _ st F a _ o1 o2 (by simp) (by rw [hl]; simp) ?_ (fun j hj => ?_) (fun j o hj hoj hc => quietAll_mem hq j _ (newIds_ok ops ra j o hoj hc)) hsh' (by rw [hl]; exact hex) hpan ho
  · simp [Array.getD_eq_getD_getElem?, hisz]
  · exfalso
    simp only [Array.getD_eq_getD_getElem?, Array.getElem?_replicate] at hj
    split at hj <;> simp at hj
end

end Go.Proofs.Ytgedafbejcpioaa
