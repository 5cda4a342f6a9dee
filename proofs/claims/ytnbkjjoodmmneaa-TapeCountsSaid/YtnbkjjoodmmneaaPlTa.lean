/-
  PLAIN LAWS: codes that go step by step: a code on a tape, and the document's walk, go on alike.
-/
import Derived.Test.YtnbkjjoodmmneaaTapA1
import Derived.Test.YtnbkjjoodmmneaaPlA
namespace Go.Proofs.Ytnbkjjoodmmneaa
set_option linter.unusedVariables false
set_option linter.unusedSimpArgs false

def peerZ : T_api_Peer := ⟨⟨⟨false, 0, 0⟩, 0⟩, false, 0, ⟨0, 0⟩, 0, 0⟩
def valZ : T_api_Value := ⟨0, peerZ, [], []⟩
def locZ : T_api_Loc := ⟨0, 0, 0⟩
def opZ : T_api_Op := ⟨0, 0, locZ, 0, 0, valZ, false⟩
def endZ : T_api_End := ⟨⟨false, 0, 0⟩, 0⟩
def repZ : T_api_Reply := ⟨0, endZ, 0, 0, []⟩

/-- A place with what it has alone. -/
def locN (l : T_api_Loc) : T_api_Loc := if l.fKind = 1 ∨ l.fKind = 2 ∨ l.fKind = 3 ∨ l.fKind = 4 then ⟨l.fKind, 0, 0⟩ else if l.fKind = 5 then ⟨l.fKind, l.fShard, 0⟩ else if l.fKind = 6 then l else locZ
def valN (k : Int) (v : T_api_Value) : T_api_Value := if k = 1 ∨ k = 2 ∨ k = 5 then ⟨v.fN, peerZ, [], []⟩ else if k = 3 then ⟨0, peerZ, v.fBans, []⟩ else if k = 4 then ⟨0, peerZ, [], v.fBook⟩ else if k = 6 then ⟨0, v.fPeer, [], []⟩ else valZ
/-- An operation with what it has alone. -/
def opN (o : T_api_Op) : T_api_Op := if o.fKind = 1 ∨ o.fKind = 2 ∨ o.fKind = 3 ∨ o.fKind = 4 then ⟨o.fKind, o.fLock, locZ, 0, 0, valZ, o.fMark⟩ else if o.fKind = 5 then ⟨o.fKind, 0, locN o.fLoc, 0, 0, valZ, o.fMark⟩
  else if o.fKind = 6 then ⟨o.fKind, 0, locN o.fLoc, 0, 0, valN o.fLoc.fKind o.fVal, o.fMark⟩ else if o.fKind = 7 then ⟨o.fKind, 0, locN o.fLoc, o.fOld, o.fNew, valZ, o.fMark⟩ else if o.fKind = 8 then ⟨o.fKind, 0, locZ, 0, 0, valZ, o.fMark⟩ else opZ

theorem cond_eq (a b : Int) {α : Type} (x y : α) : (bif a == b then x else y) = if a = b then x else y := by
  by_cases h : a = b
  · subst h; simp
  · rw [if_neg h, beq_false_of_ne h]; rfl

theorem place_spec (l : T_api_Loc) : g_op_place l = some (locN l) := by
  obtain ⟨k, s, t⟩ := l
  unfold g_op_place g_op_place_c0 locN
  simp only [cond_eq]
  repeat' split
  all_goals first | rfl | (simp_all [locZ]; done) | (exfalso; omega)

theorem value_spec (k : Int) (v : T_api_Value) : g_op_value k v = some (valN k v) := by
  unfold g_op_value g_op_value_c0 valN
  simp only [cond_eq]
  repeat' split
  all_goals first | rfl | (simp_all [valZ, peerZ]; done) | (exfalso; omega)

theorem clean_spec (o : T_api_Op) : g_op_Clean o = some (opN o) := by
  unfold g_op_Clean g_op_Clean_c0 opN
  simp only [cond_eq, place_spec, value_spec, Option.bind_some]
  repeat' split
  all_goals first | rfl | (simp_all [opZ, locZ, valZ, peerZ]; done) | (exfalso; omega)

theorem refLoc_spec (l : T_api_Loc) : g_doormanref36_Loc l = some (locN l) := by
  obtain ⟨k, s, t⟩ := l
  unfold g_doormanref36_Loc g_doormanref36_Loc_c0 locN
  simp only [cond_decide']
  repeat' split
  all_goals first | rfl | (simp_all [locZ]; done) | (exfalso; omega) | (simp only [Option.some.injEq, T_api_Loc.mk.injEq, locZ]; omega)

theorem refValue_spec (k : Int) (v : T_api_Value) : g_doormanref36_Value k v = some (valN k v) := by
  unfold g_doormanref36_Value g_doormanref36_Value_c0 g_doormanref36_Value_c1 g_doormanref36_Value_c2 valN
  simp only [cond_eq]
  repeat' split
  all_goals first | rfl | (simp_all [valZ, peerZ]; done) | (exfalso; omega)

theorem refClean_spec (o : T_api_Op) : g_doormanref36_Clean o = some (opN o) := by
  unfold g_doormanref36_Clean g_doormanref36_Clean_c0 g_doormanref36_Clean_c1 g_doormanref36_Clean_c2 opN
  simp only [cond_decide', cond_eq, refLoc_spec, refValue_spec, Option.bind_some]
  repeat' split
  all_goals first | rfl | (exfalso; omega)

/-- A value that is not too long. -/
def okV (v : T_api_Value) : Prop := v.fBans.length ≤ 1000000 ∧ v.fBook.length ≤ 1000000

theorem okV_Z : okV valZ := ⟨by simp [valZ], by simp [valZ]⟩
theorem okV_N {k : Int} {v : T_api_Value} (h : okV v) : okV (valN k v) := by
  unfold valN
  repeat' split
  all_goals first | exact okV_Z | exact ⟨Nat.zero_le _, Nat.zero_le _⟩ | exact ⟨h.1, Nat.zero_le _⟩ | exact ⟨Nat.zero_le _, h.2⟩
theorem okV_op {o : T_api_Op} (h : okV o.fVal) : okV (opN o).fVal := by
  unfold opN
  repeat' split
  all_goals first | exact okV_Z | exact okV_N h

theorem bind_s {α β : Type} (x : α) (f : α → Option β) : (some x).bind f = f x := by simp

/-! ### One question -/
def wk (got : List T_api_Value) (a : Nat) : T_doormanref38_Walk := ⟨got, (a : Int), opZ, false⟩
def wt (got : List T_api_Value) (o : T_api_Op) : T_doormanref38_Walk := ⟨got, (got.length : Int), o, true⟩

theorem ask_nil (o : T_api_Op) : g_tape_tape_ask ⟨[]⟩ o = some (.pan (opN o)) := by
  simp [g_tape_tape_ask, clean_spec]

theorem ask_cons (v : T_api_Value) (r : List T_api_Value) (o : T_api_Op) : g_tape_tape_ask ⟨v :: r⟩ o = some (.ret v ⟨r⟩) := by
  have h : (((v :: r).length : Nat) : Int) ≠ 0 := by simp only [List.length_cons]; omega
  unfold g_tape_tape_ask
  simp only [cond_eq, if_neg h]
  rw [need_yes (by simp only [List.length_cons]; omega), need_yes (by simp only [List.length_cons]; omega)]
  rfl

theorem ask_at (got : List T_api_Value) (a : Nat) (o : T_api_Op) : g_tape_tape_ask ⟨got.drop a⟩ o = some (if a < got.length then .ret (got.getD a T_api_Value.d) ⟨got.drop (a + 1)⟩ else .pan (opN o)) := by
  split
  · rename_i h
    rw [drop_cons got T_api_Value.d a h, ask_cons]
  · rename_i h
    rw [List.drop_eq_nil_of_le (by omega), ask_nil]

theorem refAsk_at (got : List T_api_Value) (a : Nat) (o : T_api_Op) (hL : got.length ≤ 1000000) (ha : a ≤ got.length) : g_doormanref38_Ask (wk got a) o = some (if a < got.length then (wk got (a + 1), got.getD a T_api_Value.d) else (wt got (opN o), valZ)) := by
  unfold g_doormanref38_Ask wk
  simp only [cond_false, cond_decide', refClean_spec, Option.bind_some]
  by_cases h : a < got.length
  · rw [if_pos (by omega), if_pos h]
    have e1 : add64 (a : Int) 1 = ((a + 1 : Nat) : Int) := add1 (n := got.length) h (by simp only [maxLen]; omega)
    have e2 : sub64 ((a + 1 : Nat) : Int) 1 = (a : Int) := by
      unfold sub64
      have : IntKind.i64.wrap (((a + 1 : Nat) : Int) - 1) = ((a + 1 : Nat) : Int) - 1 := wrap_small (by omega) (by omega)
      exact this.trans (by omega)
    rw [e1, e2, need_yes (by omega)]
    rfl
  · rw [if_neg (by omega), if_neg h]
    have : a = got.length := by omega
    subst this
    rfl

theorem refAsk_wait (got : List T_api_Value) (q o : T_api_Op) : g_doormanref38_Ask (wt got q) o = some (wt got q, valZ) := by
  unfold g_doormanref38_Ask wt
  simp only [cond_true]
  rfl


/-! ### A code on a tape, and the document's walk -/
/-- They go on alike: both have used so many values, at least so many, with results that fit; or both wait at the same operation. -/
def Lka {α β : Type} (got : List T_api_Value) (a0 : Nat) (P : α → β → Prop) (W : β → Prop) (t : Option (Tout α)) (r : Option (T_doormanref38_Walk × β)) : Prop :=
  (∃ v b a, t = some (.ret v ⟨got.drop a⟩) ∧ r = some (wk got a, b) ∧ a0 ≤ a ∧ a ≤ got.length ∧ P v b) ∨ ∃ q b, t = some (.pan q) ∧ r = some (wt got q, b) ∧ okV q.fVal ∧ W b

def eqP {α : Type} : α → α → Prop := fun x y => x = y
def anyP {α β : Type} : α → β → Prop := fun _ _ => True
def anyW {β : Type} : β → Prop := fun _ => True

theorem Lka.weak {α β : Type} {got : List T_api_Value} {a0 a1 : Nat} {P : α → β → Prop} {W : β → Prop} {t : Option (Tout α)} {r : Option (T_doormanref38_Walk × β)} (h : Lka got a1 P W t r) (ha : a0 ≤ a1) : Lka got a0 P W t r := by
  rcases h with ⟨v, b, a, h1, h2, h3, h4, h5⟩ | h
  · exact .inl ⟨v, b, a, h1, h2, by omega, h4, h5⟩
  · exact .inr h

section
variable {got : List T_api_Value} (hL : got.length ≤ 1000000) {a : Nat} (ha : a ≤ got.length)
include hL ha

theorem Load_at (l : T_api_Loc) (hl : True) : Lka got (a + 1) eqP anyW (g_tape_tape_Load ⟨got.drop a⟩ l false) (g_doormanref38_Load (wk got a) l) := by
  unfold g_tape_tape_Load g_doormanref38_Load
  rw [ask_at, refAsk_at _ _ _ hL ha]
  by_cases h : a < got.length
  · simp only [if_pos h, Option.bind_some]
    exact .inl ⟨_, _, a + 1, rfl, rfl, Nat.le_refl _, h, rfl⟩
  · simp only [if_neg h, Option.bind_some]
    exact .inr ⟨_, _, rfl, rfl, okV_op okV_Z, trivial⟩

theorem Swap_at (k old now : Int) (mark : Bool) : Lka got (a + 1) eqP anyW (g_tape_tape_Swap ⟨got.drop a⟩ ⟨k, 0, 0⟩ old now mark) (g_doormanref38_Swap (wk got a) k old now mark) := by
  unfold g_tape_tape_Swap g_doormanref38_Swap
  rw [ask_at, refAsk_at _ _ _ hL ha]
  by_cases h : a < got.length
  · simp only [if_pos h, Option.bind_some]
    exact .inl ⟨_, _, a + 1, rfl, rfl, Nat.le_refl _, h, rfl⟩
  · simp only [if_neg h, Option.bind_some]
    exact .inr ⟨_, _, rfl, rfl, okV_op okV_Z, trivial⟩

theorem Store_at (l : T_api_Loc) (v : T_api_Value) (mark : Bool) (hv : okV v) : Lka got (a + 1) anyP anyW (g_tape_tape_Store ⟨got.drop a⟩ l v mark) ((g_doormanref38_Store (wk got a) l v mark).map fun w => (w, ())) := by
  unfold g_tape_tape_Store g_doormanref38_Store
  rw [ask_at, refAsk_at _ _ _ hL ha]
  by_cases h : a < got.length
  · simp only [if_pos h, Option.bind_some, Option.map_some]
    exact .inl ⟨_, _, a + 1, rfl, rfl, Nat.le_refl _, h, trivial⟩
  · simp only [if_neg h, Option.bind_some, Option.map_some]
    exact .inr ⟨_, _, rfl, rfl, okV_op hv, trivial⟩

theorem Lock_at (k : Int) (mark : Bool) : Lka got (a + 1) anyP anyW (g_tape_tape_Lock ⟨got.drop a⟩ k mark) ((g_doormanref38_Key (wk got a) 1 k mark).map fun w => (w, ())) := by
  unfold g_tape_tape_Lock g_doormanref38_Key
  rw [ask_at, refAsk_at _ _ _ hL ha]
  by_cases h : a < got.length
  · simp only [if_pos h, Option.bind_some, Option.map_some]
    exact .inl ⟨_, _, a + 1, rfl, rfl, Nat.le_refl _, h, trivial⟩
  · simp only [if_neg h, Option.bind_some, Option.map_some]
    exact .inr ⟨_, _, rfl, rfl, okV_op okV_Z, trivial⟩

theorem Share_at (k : Int) (mark : Bool) : Lka got (a + 1) anyP anyW (g_tape_tape_Share ⟨got.drop a⟩ k mark) ((g_doormanref38_Key (wk got a) 2 k mark).map fun w => (w, ())) := by
  unfold g_tape_tape_Share g_doormanref38_Key
  rw [ask_at, refAsk_at _ _ _ hL ha]
  by_cases h : a < got.length
  · simp only [if_pos h, Option.bind_some, Option.map_some]
    exact .inl ⟨_, _, a + 1, rfl, rfl, Nat.le_refl _, h, trivial⟩
  · simp only [if_neg h, Option.bind_some, Option.map_some]
    exact .inr ⟨_, _, rfl, rfl, okV_op okV_Z, trivial⟩

theorem Free_at (k : Int) (mark : Bool) : Lka got (a + 1) anyP anyW (g_tape_tape_Free ⟨got.drop a⟩ k mark) ((g_doormanref38_Key (wk got a) 3 k mark).map fun w => (w, ())) := by
  unfold g_tape_tape_Free g_doormanref38_Key
  rw [ask_at, refAsk_at _ _ _ hL ha]
  by_cases h : a < got.length
  · simp only [if_pos h, Option.bind_some, Option.map_some]
    exact .inl ⟨_, _, a + 1, rfl, rfl, Nat.le_refl _, h, trivial⟩
  · simp only [if_neg h, Option.bind_some, Option.map_some]
    exact .inr ⟨_, _, rfl, rfl, okV_op okV_Z, trivial⟩

theorem Drop_at (k : Int) (mark : Bool) : Lka got (a + 1) anyP anyW (g_tape_tape_Drop ⟨got.drop a⟩ k mark) ((g_doormanref38_Key (wk got a) 4 k mark).map fun w => (w, ())) := by
  unfold g_tape_tape_Drop g_doormanref38_Key
  rw [ask_at, refAsk_at _ _ _ hL ha]
  by_cases h : a < got.length
  · simp only [if_pos h, Option.bind_some, Option.map_some]
    exact .inl ⟨_, _, a + 1, rfl, rfl, Nat.le_refl _, h, trivial⟩
  · simp only [if_neg h, Option.bind_some, Option.map_some]
    exact .inr ⟨_, _, rfl, rfl, okV_op okV_Z, trivial⟩
end

theorem Load_wait (got : List T_api_Value) (q : T_api_Op) (l : T_api_Loc) : g_doormanref38_Load (wt got q) l = some (wt got q, valZ) := by
  unfold g_doormanref38_Load; rw [refAsk_wait]; rfl
theorem Swap_wait (got : List T_api_Value) (q : T_api_Op) (k old now : Int) (mark : Bool) : g_doormanref38_Swap (wt got q) k old now mark = some (wt got q, false) := by
  unfold g_doormanref38_Swap; rw [refAsk_wait]; rfl
theorem Store_wait (got : List T_api_Value) (q : T_api_Op) (l : T_api_Loc) (v : T_api_Value) (mark : Bool) : g_doormanref38_Store (wt got q) l v mark = some (wt got q) := by
  unfold g_doormanref38_Store; rw [refAsk_wait]; rfl
theorem Key_wait (got : List T_api_Value) (q : T_api_Op) (k l : Int) (mark : Bool) : g_doormanref38_Key (wt got q) k l mark = some (wt got q) := by
  unfold g_doormanref38_Key; rw [refAsk_wait]; rfl

theorem map_unit {r : Option T_doormanref38_Walk} {w : T_doormanref38_Walk} {b : Unit} (h : r.map (fun w => (w, ())) = some (w, b)) : r = some w := by
  cases r with
  | none => cases h
  | some x => simp at h; rw [h]

theorem wt_wait (got : List T_api_Value) (q : T_api_Op) : (wt got q).fWait = true := rfl
theorem wk_wait (got : List T_api_Value) (a : Nat) : (wk got a).fWait = false := rfl

/-! ### A part is read -/
theorem Read_loop {got : List T_api_Value} (hL : got.length ≤ 1000000) (part n : Int) (b4 : T_doormanref38_Walk) (b7 : T_api_Value) (hn : ∀ i : Nat, (i : Int) < n ↔ (i : Int) < b7.fN) : ∀ (k a i : Nat) (w : List T_api_Peer) (fu F : Nat), got.length - a = k → a ≤ got.length → i ≤ a → w.length = i →
    (n - (i : Int)).toNat + 1 ≤ fu → k + 3 ≤ F → Lka got a (fun x y => x = y ∧ x.length ≤ got.length) (fun b => b.length ≤ got.length + 1) (g_tape_Read_c0 part fu n i w ⟨got.drop a⟩) (g_doormanref38_Read_c0 part F i w b4 (wk got a) b7) := by
  intro k
  induction k using Nat.strongRecOn with
  | ind k ih =>
    intro a i w fu F hk ha hi hw hfu hF
    obtain ⟨fu, rfl⟩ : ∃ x, fu = x + 1 := ⟨fu - 1, by omega⟩
    obtain ⟨F, rfl⟩ : ∃ x, F = x + 1 := ⟨F - 1, by omega⟩
    unfold g_tape_Read_c0 g_doormanref38_Read_c0
    simp only [cond_decide', wk_wait, Bool.not_false, cond_true]
    by_cases h : (i : Int) < n
    · rw [if_pos h, if_pos ((hn i).1 h)]
      have e : g_tape_slot part i = some ⟨6, part, i⟩ := rfl
      simp only [e, Option.bind_some]
      have hlen : ∀ p : T_api_Peer, (w ++ [p]).length * 80 ≤ 140737488355328 ∧ (w ++ [p]).length ≤ maxLen := fun p => by simp only [List.length_append, List.length_singleton, maxLen]; omega
      have e1 : add64 (i : Int) 1 = ((i + 1 : Nat) : Int) := add1 (n := i + 1) (by omega) (by simp only [maxLen]; omega)
      rcases Load_at hL ha ⟨6, part, i⟩ trivial with ⟨v, b, a', h1, h2, h3, h4, rfl⟩ | ⟨q, b, h1, h2, hq, hW⟩
      · simp only [h1, h2, Option.bind_some]
        rw [need_yes (hlen _), need_yes (hlen _), e1]
        rcases ih (got.length - a') (by omega) a' (i + 1) (w ++ [v.fPeer]) fu F rfl h4 (by omega) (by simp [hw]) (by omega) (by omega) with ⟨x, y, a2, q1, q2, q3, q4, q5⟩ | hq
        · exact .inl ⟨x, y, a2, q1, q2, by omega, q4, q5⟩
        · exact .inr hq
      · simp only [h1, h2, Option.bind_some]
        rw [need_yes (hlen _), e1]
        obtain ⟨F, rfl⟩ : ∃ x, F = x + 1 := ⟨F - 1, by omega⟩
        unfold g_doormanref38_Read_c0
        simp only [cond_decide', wt_wait, Bool.not_true, cond_false]
        refine .inr ⟨q, w ++ [b.fPeer], rfl, ?_, hq, by simp only [List.length_append, List.length_singleton]; omega⟩
        split <;> rfl
    · rw [if_neg h, if_neg (fun h' => h ((hn i).2 h'))]
      exact .inl ⟨w, w, a, rfl, rfl, Nat.le_refl _, ha, rfl, by omega⟩

theorem Read_c0_wait (got : List T_api_Value) (q : T_api_Op) (part i : Int) (w : List T_api_Peer) (b4 : T_doormanref38_Walk) (b7 : T_api_Value) (F : Nat) (hF : 1 ≤ F) : g_doormanref38_Read_c0 part F i w b4 (wt got q) b7 = some (wt got q, w) := by
  obtain ⟨F, rfl⟩ : ∃ x, F = x + 1 := ⟨F - 1, by omega⟩
  unfold g_doormanref38_Read_c0
  simp only [cond_decide', wt_wait, Bool.not_true, cond_false]
  split <;> rfl

theorem Read_at {got : List T_api_Value} (hL : got.length ≤ 900000) {a : Nat} (ha : a ≤ got.length) (part : Int) : Lka got a (fun x y => x = y ∧ x.length ≤ got.length) (fun b => b.length ≤ got.length + 1) (g_tape_Read ⟨got.drop a⟩ part) (g_doormanref38_Read (wk got a) part) := by
  unfold g_tape_Read g_doormanref38_Read
  have e : g_tape_size part = some ⟨5, part, 0⟩ := rfl
  simp only [e, bind_s]
  rcases Load_at (by omega) ha ⟨5, part, 0⟩ trivial with ⟨v, b, a', h1, h2, h3, h4, rfl⟩ | ⟨q, b, h1, h2, hq, hW⟩
  · simp only [h1, h2, bind_s]
    rcases Read_loop (by omega) part (if (0 : Int) > v.fN then 0 else v.fN) ⟨[], 0, ⟨0, 0, ⟨0, 0, 0⟩, 0, 0, ⟨0, ⟨⟨⟨false, 0, 0⟩, 0⟩, false, 0, ⟨0, 0⟩, 0, 0⟩, [], []⟩, false⟩, false⟩ v (fun i => by split <;> omega) (got.length - a') a' 0 [] _ 1000000 rfl h4 (by omega) rfl (Nat.le_succ _) (by omega) with ⟨x, y, a2, q1, q2, q3, q4, q5⟩ | hq
    · exact .inl ⟨x, y, a2, q1, q2, by omega, q4, q5⟩
    · exact .inr hq
  · simp only [h1, h2, bind_s]
    have hb : b = valZ := by
      unfold g_doormanref38_Load at h2
      rw [refAsk_at _ _ _ (by omega) ha] at h2
      by_cases h : a < got.length
      · simp only [if_pos h, bind_s, Option.some.injEq, Prod.mk.injEq] at h2
        exact absurd h2.1 (by simp [wk, wt])
      · simp only [if_neg h, bind_s, Option.some.injEq, Prod.mk.injEq] at h2
        exact h2.2.symm
    subst hb
    exact .inr ⟨q, [], rfl, Read_c0_wait got q part 0 [] _ valZ 1000000 (by omega), hq, Nat.zero_le _⟩

theorem Read_wait (got : List T_api_Value) (q : T_api_Op) (part : Int) : g_doormanref38_Read (wt got q) part = some (wt got q, []) := by
  unfold g_doormanref38_Read
  simp only [Load_wait, bind_s]
  exact Read_c0_wait got q part 0 [] _ valZ 1000000 (by omega)

/-! ### A part is written -/
theorem Writes_loop (was now : List T_api_Peer) (hn : now.length ≤ 1000000) : ∀ (k i : Nat) (w : List Int) (f g : Nat), now.length - i = k → i ≤ now.length → w.length ≤ i → (∀ x ∈ w, 0 ≤ x ∧ x < (now.length : Int)) → k + 1 ≤ f → k + 1 ≤ g →
    ∃ l : List Int, g_shard_Writes_c0 was f now (now.length : Int) i w = some l ∧ g_doormanref31_Writes_c0 was now g i w = some l ∧ l.length ≤ now.length ∧ ∀ x ∈ l, 0 ≤ x ∧ x < (now.length : Int) := by
  intro k
  induction k with
  | zero =>
    intro i w f g hk hi hw hx hf hg
    obtain ⟨f, rfl⟩ : ∃ x, f = x + 1 := ⟨f - 1, by omega⟩
    obtain ⟨g, rfl⟩ : ∃ x, g = x + 1 := ⟨g - 1, by omega⟩
    unfold g_shard_Writes_c0 g_doormanref31_Writes_c0
    simp only [cond_decide']
    rw [if_neg (by omega), if_neg (by omega)]
    exact ⟨w, rfl, rfl, by omega, hx⟩
  | succ k ih =>
    intro i w f g hk hi hw hx hf hg
    obtain ⟨f, rfl⟩ : ∃ x, f = x + 1 := ⟨f - 1, by omega⟩
    obtain ⟨g, rfl⟩ : ∃ x, g = x + 1 := ⟨g - 1, by omega⟩
    unfold g_shard_Writes_c0 g_doormanref31_Writes_c0
    simp only [cond_decide']
    have c1 : (i : Int) < (now.length : Int) := by omega
    rw [if_pos c1, if_pos c1, need_yes (by omega)]
    have e1 : add64 (i : Int) 1 = ((i + 1 : Nat) : Int) := add1 (n := i + 1) (by omega) (by simp only [maxLen]; omega)
    have hlen : (w ++ [(i : Int)]).length * 8 ≤ 140737488355328 ∧ (w ++ [(i : Int)]).length ≤ maxLen := by simp only [List.length_append, List.length_singleton, maxLen]; omega
    have hx2 : ∀ x ∈ w ++ [(i : Int)], 0 ≤ x ∧ x < (now.length : Int) := fun x hm => by
      rcases List.mem_append.1 hm with hm | hm
      · exact hx x hm
      · simp only [List.mem_singleton] at hm; omega
    have hadd := ih (i + 1) (w ++ [(i : Int)]) f g (by omega) (by omega) (by simp only [List.length_append, List.length_singleton]; omega) hx2 (by omega) (by omega)
    have hsame := ih (i + 1) w f g (by omega) (by omega) (by omega) hx (by omega) (by omega)
    by_cases h : (i : Int) ≥ (was.length : Int)
    · rw [if_pos h, if_pos h, need_yes hlen, e1, need_yes hlen]
      exact hadd
    · rw [if_neg h, if_neg h, need_yes (show 0 ≤ (i : Int) ∧ (i : Int) < (was.length : Int) by omega), need_yes (show 0 ≤ (i : Int) ∧ (i : Int) < (was.length : Int) by omega), need_yes (show 0 ≤ (i : Int) ∧ (i : Int) < (now.length : Int) by omega)]
      by_cases h2 : was.getD ((i : Int)).toNat T_api_Peer.d = now.getD ((i : Int)).toNat T_api_Peer.d
      · simp only [h2, decide_true, Bool.not_true, cond_false, e1]
        exact hsame
      · simp only [h2, decide_false, Bool.not_false, cond_true]
        rw [need_yes hlen, need_yes hlen, e1]
        exact hadd

theorem Writes_eq (was now : List T_api_Peer) (hn : now.length ≤ 1000000) : ∃ l : List Int, g_shard_Writes was now = some l ∧ g_doormanref31_Writes was now = some l ∧ l.length ≤ now.length ∧ ∀ x ∈ l, 0 ≤ x ∧ x < (now.length : Int) :=
  Writes_loop was now hn now.length 0 [] _ _ (by omega) (by omega) (by simp) (by simp) (by omega) (by omega)

theorem Write_wait (got : List T_api_Value) (q : T_api_Op) (part : Int) (was now : List T_api_Peer) (hn : now.length ≤ 1000000) : g_doormanref38_Write (wt got q) part was now = some (wt got q) := by
  obtain ⟨l, -, h2, h3, h4⟩ := Writes_eq was now hn
  unfold g_doormanref38_Write
  rw [h2]
  simp only [Option.bind_some]
  generalize hb : (T_doormanref38_Walk.mk _ _ _ _) = b8
  have main : ∀ (k i f : Nat), l.length - i = k → i ≤ l.length → k + 1 ≤ f → g_doormanref38_Write_c0 part was now f l i (wt got q) b8 = some (wt got q) := by
    intro k
    induction k with
    | zero =>
      intro i f hk hi hf
      obtain ⟨f, rfl⟩ : ∃ x, f = x + 1 := ⟨f - 1, by omega⟩
      unfold g_doormanref38_Write_c0
      simp only [cond_decide', Store_wait, Option.bind_some]
      rw [if_neg (by omega)]
      simp
    | succ k ih =>
      intro i f hk hi hf
      obtain ⟨f, rfl⟩ : ∃ x, f = x + 1 := ⟨f - 1, by omega⟩
      unfold g_doormanref38_Write_c0
      simp only [cond_decide', Store_wait, Option.bind_some]
      have e1 : add64 (i : Int) 1 = ((i + 1 : Nat) : Int) := add1 (n := i + 1) (by omega) (by simp only [maxLen]; omega)
      have hm := h4 _ (getD_mem l (0 : Int) i (by omega))
      rw [if_pos (by omega), need_yes (by omega), need_yes (by simpa using hm), e1]
      exact ih (i + 1) f (by omega) (by omega) (by omega)
  exact main l.length 0 _ (by omega) (by omega) (by omega)

theorem Write_at {got : List T_api_Value} (hL : got.length ≤ 1000000) {a : Nat} (ha : a ≤ got.length) (part : Int) (was now : List T_api_Peer) (hn : now.length ≤ 1000000) :
    Lka got a anyP anyW (g_tape_Write ⟨got.drop a⟩ part was now) ((g_doormanref38_Write (wk got a) part was now).map fun w => (w, ())) := by
  obtain ⟨l, h1, h2, h3, h4⟩ := Writes_eq was now hn
  unfold g_tape_Write g_doormanref38_Write
  rw [h1, h2]
  simp only [Option.bind_some]
  generalize hb : (T_doormanref38_Walk.mk _ _ _ _) = b8
  have main : ∀ (k i f g a : Nat), a ≤ got.length → l.length - i = k → i ≤ l.length → k + 1 ≤ f → k + 1 ≤ g →
      Lka got a anyP anyW (g_tape_Write_c0 part was now f l (l.length : Int) i ⟨got.drop a⟩) ((g_doormanref38_Write_c0 part was now g l i (wk got a) b8).map fun w => (w, ())) := by
    intro k
    induction k with
    | zero =>
      intro i f g a ha hk hi hf hg
      obtain ⟨f, rfl⟩ : ∃ x, f = x + 1 := ⟨f - 1, by omega⟩
      obtain ⟨g, rfl⟩ : ∃ x, g = x + 1 := ⟨g - 1, by omega⟩
      unfold g_tape_Write_c0 g_doormanref38_Write_c0
      simp only [cond_decide']
      rw [if_neg (by omega), if_neg (by omega)]
      have e : g_tape_size part = some ⟨5, part, 0⟩ := rfl
      simp only [e, Option.bind_some]
      cases hc : (((was.length : Nat) : Int) != ((now.length : Nat) : Int)) with
      | false =>
        simp only [cond_false]
        exact .inl ⟨(), (), a, rfl, rfl, Nat.le_refl _, ha, trivial⟩
      | true =>
        simp only [cond_true]
        rcases Store_at hL ha ⟨5, part, 0⟩ ⟨(now.length : Int), peerZ, [], []⟩ false ⟨Nat.zero_le _, Nat.zero_le _⟩ with ⟨v, b, a', q1, q2, q3, q4, -⟩ | ⟨q, b, q1, q2, hq, hW⟩
        · have q2 := map_unit q2
          have q1' : g_tape_tape_Store ⟨got.drop a⟩ ⟨5, part, 0⟩ ⟨(now.length : Int), ⟨⟨⟨false, 0, 0⟩, 0⟩, false, 0, ⟨0, 0⟩, 0, 0⟩, [], []⟩ false = _ := q1
          have q2' : g_doormanref38_Store (wk got a) ⟨5, part, 0⟩ ⟨(now.length : Int), ⟨⟨⟨false, 0, 0⟩, 0⟩, false, 0, ⟨0, 0⟩, 0, 0⟩, [], []⟩ false = _ := q2
          simp only [q1', q2', Option.bind_some, Option.map_some]
          exact .inl ⟨(), (), a', rfl, rfl, by omega, q4, trivial⟩
        · have q2 := map_unit q2
          have q1' : g_tape_tape_Store ⟨got.drop a⟩ ⟨5, part, 0⟩ ⟨(now.length : Int), ⟨⟨⟨false, 0, 0⟩, 0⟩, false, 0, ⟨0, 0⟩, 0, 0⟩, [], []⟩ false = _ := q1
          have q2' : g_doormanref38_Store (wk got a) ⟨5, part, 0⟩ ⟨(now.length : Int), ⟨⟨⟨false, 0, 0⟩, 0⟩, false, 0, ⟨0, 0⟩, 0, 0⟩, [], []⟩ false = _ := q2
          simp only [q1', q2', Option.bind_some, Option.map_some]
          exact .inr ⟨q, (), rfl, rfl, hq, trivial⟩
    | succ k ih =>
      intro i f g a ha hk hi hf hg
      obtain ⟨f, rfl⟩ : ∃ x, f = x + 1 := ⟨f - 1, by omega⟩
      obtain ⟨g, rfl⟩ : ∃ x, g = x + 1 := ⟨g - 1, by omega⟩
      unfold g_tape_Write_c0 g_doormanref38_Write_c0
      simp only [cond_decide']
      have e1 : add64 (i : Int) 1 = ((i + 1 : Nat) : Int) := add1 (n := i + 1) (by omega) (by simp only [maxLen]; omega)
      have hm := h4 _ (getD_mem l (0 : Int) i (by omega))
      have hm' : 0 ≤ l.getD ((i : Int)).toNat (0 : Int) ∧ l.getD ((i : Int)).toNat (0 : Int) < (now.length : Int) := by simpa using hm
      have e : ∀ x, g_tape_slot part x = some ⟨6, part, x⟩ := fun _ => rfl
      rw [if_pos (by omega), if_pos (by omega), need_yes (by omega), need_yes (by omega)]
      simp only [e, Option.bind_some]
      rw [need_yes hm', need_yes hm']
      rcases Store_at hL ha ⟨6, part, l.getD ((i : Int)).toNat (0 : Int)⟩ ⟨0, now.getD (l.getD ((i : Int)).toNat (0 : Int)).toNat T_api_Peer.d, [], []⟩ false ⟨Nat.zero_le _, Nat.zero_le _⟩ with ⟨v, b, a', q1, q2, q3, q4, -⟩ | ⟨q, b, q1, q2, hq, hW⟩
      · have q2 := map_unit q2
        simp only [q1, q2, Option.bind_some, e1]
        rcases ih (i + 1) f g a' q4 (by omega) (by omega) (by omega) (by omega) with ⟨x, y, a2, r1, r2, r3, r4, r5⟩ | hq
        · exact .inl ⟨x, y, a2, r1, r2, by omega, r4, r5⟩
        · exact .inr hq
      · have q2 := map_unit q2
        simp only [q1, q2, Option.bind_some, e1]
        have hw : ∀ (k i f : Nat), l.length - i = k → i ≤ l.length → k + 1 ≤ f → g_doormanref38_Write_c0 part was now f l i (wt got q) b8 = some (wt got q) := by
          intro k
          induction k with
          | zero =>
            intro i f hk hi hf
            obtain ⟨f, rfl⟩ : ∃ x, f = x + 1 := ⟨f - 1, by omega⟩
            unfold g_doormanref38_Write_c0
            simp only [cond_decide', Store_wait, Option.bind_some]
            rw [if_neg (by omega)]
            simp
          | succ k ih =>
            intro i f hk hi hf
            obtain ⟨f, rfl⟩ : ∃ x, f = x + 1 := ⟨f - 1, by omega⟩
            unfold g_doormanref38_Write_c0
            simp only [cond_decide', Store_wait, Option.bind_some]
            have e1 : add64 (i : Int) 1 = ((i + 1 : Nat) : Int) := add1 (n := i + 1) (by omega) (by simp only [maxLen]; omega)
            have hm := h4 _ (getD_mem l (0 : Int) i (by omega))
            rw [if_pos (by omega), need_yes (by omega), need_yes (by simpa using hm), e1]
            exact ih (i + 1) f (by omega) (by omega) (by omega)
        rw [hw k (i + 1) g (by omega) (by omega) (by omega)]
        exact .inr ⟨q, (), rfl, rfl, hq, trivial⟩
  exact main l.length 0 _ _ a ha (by omega) (by omega) (by omega) (by omega)

end Go.Proofs.Ytnbkjjoodmmneaa
