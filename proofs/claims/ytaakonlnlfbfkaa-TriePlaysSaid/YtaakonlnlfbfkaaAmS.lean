/-
  AN EVALUATOR OF WALKS, over whatever program: a region that draws its order, walked.
-/
import Derived.Test.YtaakonlnlfbfkaaAmR
import Derived.Orders
namespace Go.Proofs.Ytaakonlnlfbfkaa
open Go.RowKit
set_option linter.unusedSimpArgs false
set_option linter.unusedVariables false

def directL : List Edge → List Nat
  | [] => []
  | e :: l => match Region.binds .any e with
    | true => e.on :: directL l
    | false => directL l

def direct (o : Oper) : List Nat := directL o.after.toList

theorem directL_mem {e : Edge} : ∀ {l : List Edge}, e ∈ l → Region.binds .any e = true → e.on ∈ directL l
  | [], h, _ => by cases h
  | x :: l, h, hb => by
    simp only [directL]
    rcases List.mem_cons.1 h with rfl | h
    · rw [hb]; simp
    · have := directL_mem h hb
      split
      · exact List.mem_cons_of_mem _ this
      · exact this

theorem directL_of {k : Nat} : ∀ {l : List Edge}, k ∈ directL l → ∃ e ∈ l, Region.binds .any e = true ∧ e.on = k
  | [], h => by simp [directL] at h
  | x :: l, h => by
    simp only [directL] at h
    split at h
    · rename_i hb
      rcases List.mem_cons.1 h with rfl | h
      · exact ⟨x, by simp, hb, rfl⟩
      · obtain ⟨e, h1, h2⟩ := directL_of h
        exact ⟨e, by simp [h1], h2⟩
    · obtain ⟨e, h1, h2⟩ := directL_of h
      exact ⟨e, by simp [h1], h2⟩

/-- What the list of those ahead of each must be. -/
def rowOk (N : Nat) (ops : Array Oper) (ra : RA) (cert : List (List Nat)) (i : Nat) : Bool := match ops[i]? with
  | none => false
  | some o => (direct o).all (fun k => Nat.blt k i) && (preds cert i).all (fun k => Nat.blt k i && (memN k (direct o) || (direct o).any fun j => memN k (preds cert j))) && okCls ra i o &&
      (List.range i).all fun k => memN k (preds cert i) || okPair N ops ra k i

def drawOk (N : Nat) (ops : Array Oper) (ra : RA) (cert : List (List Nat)) : Bool := match ra.fz with
  | [] => (List.range ops.size).all (rowOk N ops ra cert)
  | _ => false

theorem newIds_mem {ra : RA} {i : Nat} {o : Oper} : ∀ {l : List Oper} {k : Nat}, l[i]? = some o → clsX ra (k + i) o = 3 → (k + i, o.dst.getD 0) ∈ newIds ra k l := by
  induction i with
  | zero =>
    intro l k h hc
    cases l with
    | nil => simp at h
    | cons x l =>
      simp only [List.getElem?_cons_zero, Option.some.injEq] at h
      subst h
      rw [Nat.add_zero] at hc ⊢
      simp [newIds, hc]
  | succ i ih =>
    intro l k h hc
    cases l with
    | nil => simp at h
    | cons x l =>
      have h2 := ih (l := l) (k := k + 1) (by simpa using h) (by rw [show k + 1 + i = k + (i + 1) by omega]; exact hc)
      rw [show k + 1 + i = k + (i + 1) by omega] at h2
      simp only [newIds]
      split
      · exact List.mem_cons_of_mem _ h2
      · exact h2

theorem newIds_ok (ops : Array Oper) (ra : RA) : NewOk ops ra (newIds ra 0 ops.toList) := by
  intro i o ho hc
  have := newIds_mem (ra := ra) (i := i) (o := o) (l := ops.toList) (k := 0) (by simpa using ho) (by rw [Nat.zero_add]; exact hc)
  rwa [Nat.zero_add] at this

def quietAll (N : Nat) (st : St) : List (Nat × Nat) → Bool
  | [] => true
  | (_, d) :: l => match quietE st d N with
    | true => quietAll N st l
    | false => false

theorem quietAll_mem {N : Nat} {st : St} : ∀ {l : List (Nat × Nat)}, quietAll N st l = true → ∀ i d, (i, d) ∈ l → quietE st d N = true
  | [], _, i, d, h => by cases h
  | (j, d') :: l, hq, i, d, h => by
    simp only [quietAll] at hq
    split at hq
    · rename_i h1
      rcases List.mem_cons.1 h with h | h
      · cases h; exact h1
      · exact quietAll_mem hq i d h
    · cases hq

def drawRun (P : Program) (N : Nat) (T : Tab) (ops : Array Oper) (ra : RA) (cert : List (List Nat)) (st : St) : Option (St × List Prop) := match drawOk N ops ra cert, quietAll N st (newIds ra 0 ops.toList) with
  | true, true => execL P N T ops ra cert (newIds ra 0 ops.toList) (List.range ops.size) st
  | _, _ => none

section
variable {P : Program} {N : Nat} {T : Tab} {ops : Array Oper} {ra : RA} {cert : List (List Nat)} {Q : Exit → Act → World → Prop} {S0 : Nat → Prop} {w0 : Start}

theorem rows_of (h : drawOk N ops ra cert = true) {i : Nat} (hi : i < ops.size) : ∃ o, ops[i]? = some o ∧ (∀ k ∈ direct o, k < i) ∧ (∀ k ∈ preds cert i, k < i ∧ (k ∈ direct o ∨ ∃ j ∈ direct o, k ∈ preds cert j)) ∧ okCls ra i o = true ∧ ∀ k, k < i → k ∉ preds cert i → okPair N ops ra k i = true := by
  unfold drawOk at h
  split at h
  · have := List.all_eq_true.1 h i (List.mem_range.2 hi)
    unfold rowOk at this
    split at this
    · cases this
    · rename_i o ho
      simp only [Bool.and_eq_true, List.all_eq_true, Bool.or_eq_true, List.any_eq_true, List.mem_range] at this
      obtain ⟨⟨⟨h1, h2⟩, h3⟩, h4⟩ := this
      refine ⟨o, ho, fun k hk => Nat.le_of_ble_eq_true (h1 k hk), fun k hk => ?_, h3, fun k hk hn => ?_⟩
      · obtain ⟨h5, h6⟩ := h2 k hk
        refine ⟨Nat.le_of_ble_eq_true h5, ?_⟩
        rcases h6 with h6 | ⟨j, h6, h7⟩
        · exact .inl (memN_iff.1 h6)
        · exact .inr ⟨j, h6, memN_iff.1 h7⟩
      · rcases h4 k hk with h5 | h5
        · exact absurd (memN_iff.1 h5) hn
        · exact h5
  · cases h

def left (n : Nat) (listed : Array Bool) : List Nat := (List.range n).filter fun i => !listed.getD i true

theorem mem_ready {listed : Array Bool} {i : Nat} : i ∈ Region.ready .any ops listed ↔ i < ops.size ∧ listed.getD i true = false ∧ ∃ o, ops[i]? = some o ∧ ∀ k ∈ direct o, listed.getD k false = true := by
  unfold Region.ready
  simp only [List.mem_filter, List.mem_range, Bool.and_eq_true, Bool.not_eq_true']
  constructor
  · rintro ⟨h1, h2, h3⟩
    refine ⟨h1, h2, ops[i], by simp [h1], fun k hk => ?_⟩
    rw [show ops[i]? = some ops[i] by simp [h1]] at h3
    obtain ⟨e, h4, h5, rfl⟩ := directL_of hk
    simp only [Option.map_some, Option.getD_some, Array.all_eq_true_iff_forall_mem, Bool.or_eq_true, Bool.not_eq_true'] at h3
    rcases h3 e (by simpa using h4) with h6 | h6
    · rw [h5] at h6; cases h6
    · exact h6
  · rintro ⟨h1, h2, o, ho, h3⟩
    refine ⟨h1, h2, ?_⟩
    rw [ho]
    simp only [Option.map_some, Option.getD_some, Array.all_eq_true_iff_forall_mem, Bool.or_eq_true, Bool.not_eq_true']
    intro e he
    cases hb : Region.binds .any e with
    | false => exact .inl rfl
    | true => exact .inr (h3 _ (directL_mem (by simpa using he) hb))

theorem getD_set (listed : Array Bool) (i j : Nat) (d : Bool) (hi : i < listed.size) : (listed.setIfInBounds i true).getD j d = if i = j then true else listed.getD j d := by
  simp only [Array.getD_eq_getD_getElem?, Array.getElem?_setIfInBounds]
  split
  · simp [*]
  · rfl

theorem any_walk (hT : TabOk P T) (hD : drawOk N ops ra cert = true) : ∀ (fuel : Nat) (listed : Array Bool) (st F : St) (a : Act) (w : World) (obl : List Prop), listed.size = ops.size → (left ops.size listed).length ≤ fuel →
    (∀ j, listed.getD j false = true → ∀ k ∈ preds cert j, listed.getD k false = true) → (∀ j o, j ∈ left ops.size listed → ops[j]? = some o → clsX ra j o = 3 → quietE st (o.dst.getD 0) N = true) →
    Shows N S0 w0 st a w → execL P N T ops ra cert (newIds ra 0 ops.toList) (left ops.size listed) st = some (F, obl) → (∀ q ∈ obl, q) → (∀ F' a' w', Eqv F F' → Shows N S0 w0 F' a' w' → Q .normal a' w') → wpAny P .any ops Q fuel listed a w := by
  intro fuel
  have hcls : ∀ i o, ops[i]? = some o → okCls ra i o = true := fun i o ho => by
    obtain ⟨o', h1, _, _, h4, _⟩ := rows_of hD (Array.getElem?_eq_some_iff.1 ho).1
    rw [ho] at h1; cases h1; exact h4
  have hdone : ∀ (listed : Array Bool), listed.size = ops.size → Region.ready .any ops listed = [] → left ops.size listed = [] := by
    intro listed hsz hr
    cases hl : left ops.size listed with
    | nil => rfl
    | cons i l =>
      exfalso
      have hm : i ∈ left ops.size listed := by rw [hl]; simp
      have hmin : ∀ k, k < i → listed.getD k true = true := by
        intro k hk
        cases hk2 : listed.getD k true with
        | true => rfl
        | false =>
          exfalso
          have hs : List.Pairwise (· < ·) (left ops.size listed) := List.Pairwise.filter _ List.pairwise_lt_range
          have hi : i < ops.size := by simp [left] at hm; exact hm.1
          have hkm : k ∈ left ops.size listed := by simp only [left, List.mem_filter, List.mem_range, Bool.not_eq_true']; exact ⟨by omega, hk2⟩
          rw [hl] at hs hkm
          rcases List.mem_cons.1 hkm with rfl | hkm
          · omega
          · have := (List.pairwise_cons.1 hs).1 k hkm
            omega
      have hi : i < ops.size ∧ listed.getD i true = false := by simpa [left] using hm
      obtain ⟨o, ho, hd, _⟩ := rows_of hD hi.1
      have : i ∈ Region.ready .any ops listed := mem_ready.2 ⟨hi.1, hi.2, o, ho, fun k hk => by
        have hki := hd k hk
        have h1 := hmin k hki
        have hks : k < listed.size := by omega
        simp only [Array.getD_eq_getD_getElem?, Array.getElem?_eq_getElem hks, Option.getD_some] at h1 ⊢
        exact h1⟩
      rw [hr] at this
      cases this
  induction fuel with
  | zero =>
    intro listed st F a w obl hsz hle hdc hJ hsh hex ho hk
    have hl : left ops.size listed = [] := List.eq_nil_of_length_eq_zero (by omega)
    rw [hl] at hex
    cases hex
    refine ⟨?_, hk _ a w (Eqv.refl _) hsh⟩
    cases hr : Region.ready .any ops listed with
    | nil => rfl
    | cons i l =>
      have hm : i ∈ Region.ready .any ops listed := by rw [hr]; simp
      obtain ⟨h1, h2, _⟩ := mem_ready.1 hm
      have : i ∈ left ops.size listed := by simp only [left, List.mem_filter, List.mem_range, Bool.not_eq_true']; exact ⟨h1, h2⟩
      rw [hl] at this
      cases this
  | succ fuel ih =>
    intro listed st F a w obl hsz hle hdc hJ hsh hex ho hk
    refine ⟨fun hr => ?_, fun i hi => ?_⟩
    · rw [hdone listed hsz hr] at hex
      cases hex
      exact hk _ a w (Eqv.refl _) hsh
    · obtain ⟨hi1, hi2, o, hoi, hdir⟩ := mem_ready.1 hi
      have him : i ∈ left ops.size listed := by simp only [left, List.mem_filter, List.mem_range, Bool.not_eq_true']; exact ⟨hi1, hi2⟩
      obtain ⟨pre, post, hsplit⟩ := List.append_of_mem him
      have hnd : (left ops.size listed).Nodup := List.Pairwise.filter _ List.nodup_range
      have hpw : List.Pairwise (· < ·) (left ops.size listed) := List.Pairwise.filter _ List.pairwise_lt_range
      obtain ⟨o', ho', hd, hp, hc, hpair⟩ := rows_of hD hi1
      rw [hoi] at ho'
      cases ho'
      have hpl : ∀ k ∈ preds cert i, listed.getD k false = true := by
        intro k hk
        rcases (hp k hk).2 with h | ⟨j, h, h2⟩
        · exact hdir k h
        · exact hdc j (hdir j h) k h2
      have hunl : ∀ k ∈ left ops.size listed, listed.getD k false = false := by
        intro k hk
        simp only [left, List.mem_filter, List.mem_range, Bool.not_eq_true'] at hk
        have hks : k < listed.size := by omega
        have := hk.2
        simp only [Array.getD_eq_getD_getElem?, Array.getElem?_eq_getElem hks, Option.getD_some] at this ⊢
        exact this
      have hpre : ∀ k ∈ pre, okPair N ops ra k i = true ∧ k ≠ i ∧ k ∉ preds cert i ∧ i ∉ preds cert k := by
        intro k hk
        have hkm : k ∈ left ops.size listed := by rw [hsplit]; simp [hk]
        have hlt : k < i := by
          rw [hsplit] at hpw
          exact (List.pairwise_append.1 hpw).2.2 k hk i (by simp)
        have hnp : k ∉ preds cert i := fun h => by have := hpl k h; rw [hunl k hkm] at this; cases this
        refine ⟨hpair k hlt hnp, by omega, hnp, fun h => ?_⟩
        have hk1 : k < ops.size := by omega
        obtain ⟨_, _, _, hp', _⟩ := rows_of hD hk1
        have := (hp' i h).1
        omega
      rw [hsplit] at hex
      obtain ⟨st1, oi, F', o', h1, h2, h3, h4⟩ := execL_front hcls (newIds_ok ops ra) hpre (fun o2 ho2 hc2 => hJ i o2 him ho2 hc2) hex
      have hleft : left ops.size (listed.setIfInBounds i true) = pre ++ post := by
        have e1 : left ops.size (listed.setIfInBounds i true) = (left ops.size listed).filter (fun j => decide (j ≠ i)) := by
          unfold left
          rw [List.filter_filter]
          apply List.filter_congr
          intro j hj
          rw [getD_set _ _ _ _ (by omega)]
          by_cases e : i = j
          · subst e; simp
          · simp [e, Ne.symm e]
        rw [e1, hsplit, List.filter_append, List.filter_cons]
        rw [hsplit] at hnd
        obtain ⟨n1, n2, n3⟩ := List.nodup_append.1 hnd
        have n4 := (List.nodup_cons.1 n2).1
        rw [if_neg (by simp)]
        rw [List.filter_eq_self.2 (fun x hx => by simp; exact fun e => n3 x hx i (by simp) e), List.filter_eq_self.2 (fun x hx => by simp; rintro rfl; exact n4 hx)]
      obtain ⟨o2, v, s1, ho2, hr, hck, hput⟩ := stepC_inv h1
      rw [hoi] at ho2
      cases ho2
      have hstep : opStepH P N T ops ra i o st = some (st1, oi) := opStepH_of hr hput
      have henv := opRunX_env hr
      unfold wpOp
      rw [hoi]
      simp only
      have hfin := opStepH_wp (P := P) hT hsh hstep (fun q hq => ho q (h4 q (List.mem_append.2 (.inl hq)))) (K := wpAny P .any ops Q fuel (listed.setIfInBounds i true)) (Q := Q) fun a' w' hs' => by
        refine ih (listed.setIfInBounds i true) st1 F' a' w' o' (by simp [hsz]) ?_ ?_ ?_ hs' (by rw [hleft]; exact h2) (fun q hq => ho q (h4 q (List.mem_append.2 (.inr hq)))) fun F2 a2 w2 he hs2 => hk F2 a2 w2 (h3.trans he) hs2
        · rw [hleft]
          rw [hsplit] at hle
          simp at hle ⊢
          omega
        · intro j hj k hk
          rw [getD_set _ _ _ _ (by omega)] at hj ⊢
          split
          · rfl
          · split at hj
            · rename_i e; subst e; exact hpl k hk
            · exact hdc j hj k hk
        · intro j o2 hj ho2 hc2
          have hjm : j ∈ left ops.size listed := by
            rw [hsplit]
            rw [hleft] at hj
            rcases List.mem_append.1 hj with hj | hj
            · exact List.mem_append.2 (.inl hj)
            · exact List.mem_append.2 (.inr (List.mem_cons_of_mem _ hj))
          have hji : j ≠ i := by
            rintro rfl
            simp only [left, List.mem_filter, Bool.not_eq_true'] at hj
            have h5 := hj.2
            rw [getD_set _ _ _ _ (by omega), if_pos rfl] at h5
            cases h5
          refine quietE_putO (hJ j o2 hjm ho2 hc2) (get_env henv) (chk_spec hck (newIds_ok ops ra j o2 ho2 hc2) hji fun h => ?_) hput
          have := hpl j h
          rw [hunl j hjm] at this
          cases this
      split
      · rename_i hw
        rw [if_pos hw] at hfin
        exact .inl hfin
      · rename_i hw
        rw [if_neg hw] at hfin
        exact hfin

theorem draw_wp (hT : TabOk P T) (hm : P.follows .mixedOrders = true) {id : Nat} {st st' : St} {a : Act} {w : World} {obl : List Prop} (hsh : Shows N S0 w0 st a w) (h : drawRun P N T ops ra cert st = some (st', obl)) (ho : ∀ q ∈ obl, q)
    (hk : ∀ a' w', Shows N S0 w0 st' a' w' → Q .normal a' w') : (Code.region id ops true).wp P Q a w := by
  unfold drawRun at h
  split at h
  · rename_i hD hq
    refine wp_region_any hm ?_
    have hl : left ops.size (Array.replicate ops.size false) = List.range ops.size := by
      unfold left
      apply List.filter_eq_self.2
      intro i hi
      simp at hi
      simp [Array.getD_eq_getD_getElem?, hi]
    have hsh' : Shows N S0 w0 st a { w with drawn := w.drawn + 1 } := by
      obtain ⟨S, m, hs, hg⟩ := hsh
      exact ⟨S, m, hs.grow (Nat.le_refl _) (fun _ _ => rfl) (fun _ h => h) (fun _ h => .inl h), hg.step ⟨rfl, rfl, rfl, Nat.le_refl _, fun _ _ => rfl, Nat.le_succ _⟩ (fun _ h => h) (fun _ h => .inl h)⟩
    refine any_walk hT hD ops.size _ st st' a _ obl (by simp) (by rw [hl]; simp) (fun j hj => ?_) (fun j o hj hoj hc => quietAll_mem hq j _ (newIds_ok ops ra j o hoj hc)) hsh' (by rw [hl]; exact h) ho fun F' a' w' he hs' => ?_
    · exfalso
      simp only [Array.getD_eq_getD_getElem?, Array.getElem?_replicate] at hj
      split at hj <;> simp at hj
    · exact hk a' w' (hs'.eqv ⟨fun t => (he.env t).symm, he.heap.symm⟩)
  · cases h
end

end Go.Proofs.Ytaakonlnlfbfkaa
