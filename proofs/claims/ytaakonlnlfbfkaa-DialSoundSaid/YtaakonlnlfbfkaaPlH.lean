/-
  PLAIN LAWS: the two statements of the spread.
-/
import Derived.Test.YtaakonlnlfbfkaaPlG
namespace Go.Proofs.Ytaakonlnlfbfkaa
set_option linter.unusedSimpArgs false
set_option linter.unusedVariables false

def outP (p : T_api_Peer) : Bool := !p.fIn
def outE (e : T_api_Entry) : Bool := e.fState == 2

/-- The groups that are taken, as they come. -/
def gsP (l : List T_api_Peer) : List T_api_Net := (l.filter outP).map fun p => grp p.fEnd.fAddr
def gsE (l : List T_api_Entry) : List T_api_Net := (l.filter outE).map fun e => grp e.fEnd.fAddr

theorem small32 (n : Nat) (h : n < 999999) : n * 32 ≤ 140737488355328 ∧ n ≤ maxLen := ⟨by omega, by unfold maxLen; omega⟩

theorem gsE_len (l : List T_api_Entry) : (gsE l).length ≤ l.length := by simp only [gsE, List.length_map]; exact List.length_filter_le _ _
theorem gsP_len (l : List T_api_Peer) : (gsP l).length ≤ l.length := by simp only [gsP, List.length_map]; exact List.length_filter_le _ _

theorem gsE_drop (l : List T_api_Entry) (i : Nat) (h : i < l.length) : gsE (l.drop i) = (if outE (l.getD i T_api_Entry.d) then [grp (l.getD i T_api_Entry.d).fEnd.fAddr] else []) ++ gsE (l.drop (i + 1)) := by
  rw [drop_cons l T_api_Entry.d i h]
  unfold gsE
  generalize l.getD i T_api_Entry.d = e
  cases hq : outE e <;> simp [hq]
theorem gsP_drop (l : List T_api_Peer) (i : Nat) (h : i < l.length) : gsP (l.drop i) = (if outP (l.getD i T_api_Peer.d) then [grp (l.getD i T_api_Peer.d).fEnd.fAddr] else []) ++ gsP (l.drop (i + 1)) := by
  rw [drop_cons l T_api_Peer.d i h]
  unfold gsP
  generalize l.getD i T_api_Peer.d = e
  cases hq : outP e <;> simp [hq]

theorem taken_in (es : List T_api_Entry) (hes : es.length ≤ 1000) (hok : ∀ e ∈ es, e.ok) (v10 : List T_api_Peer) (v11 v12 : Int) (k : List T_api_Peer → Int → Int → List T_api_Net → Option (List T_api_Net)) :
    ∀ fu (i : Nat) (w : List T_api_Net), i ≤ es.length → es.length - i < fu → w.length ≤ 1000 + i →
      g_spread_Taken_c1 es v10 v11 v12 k fu es (es.length : Int) (i : Int) w = (g_sort_168_169 (w ++ gsE (es.drop i))).bind g_slices_Compact_api_Net_api_Net := by
  have hm : es.length ≤ maxLen := by unfold maxLen; omega
  intro fu
  induction fu with
  | zero => intro _ _ _ h; omega
  | succ fu ih =>
    intro i w hi hf hw
    simp only [g_spread_Taken_c1, cond_decide']
    by_cases h : i < es.length
    · rw [if_pos (by omega), need_yes ⟨by omega, by omega⟩, gsE_drop es i h]
      simp only [Int.toNat_natCast]
      have hko := hok _ (getD_mem es T_api_Entry.d i h)
      cases hq : outE (es.getD i T_api_Entry.d)
      · have hq' : ((es.getD i T_api_Entry.d).fState == (2 : Int)) = false := hq
        rw [hq', cond_false, add1 h hm, ih (i + 1) w (by omega) (by omega) (by omega)]
        simp
      · have hq' : ((es.getD i T_api_Entry.d).fState == (2 : Int)) = true := hq
        rw [hq', cond_true, group_of _ hko.1.1]
        simp only [Option.bind_some]
        rw [need_yes (small32 _ (by simp; omega)), add1 h hm, ih (i + 1) _ (by omega) (by omega) (by simp; omega)]
        simp
    · have e : i = es.length := by omega
      rw [if_neg (by omega), e, List.drop_length]
      simp [gsE]

theorem taken_out (ps : List T_api_Peer) (es : List T_api_Entry) (hps : ps.length ≤ 1000) (hes : es.length ≤ 1000) (hokp : ∀ p ∈ ps, p.ok) (hok : ∀ e ∈ es, e.ok) :
    ∀ fu (i : Nat) (w : List T_api_Net), i ≤ ps.length → ps.length - i < fu → w.length ≤ i →
      g_spread_Taken_c0 es fu ps (ps.length : Int) (i : Int) w = (g_sort_168_169 (w ++ gsP (ps.drop i) ++ gsE es)).bind g_slices_Compact_api_Net_api_Net := by
  have hm : ps.length ≤ maxLen := by unfold maxLen; omega
  intro fu
  induction fu with
  | zero => intro _ _ _ h; omega
  | succ fu ih =>
    intro i w hi hf hw
    simp only [g_spread_Taken_c0, cond_decide']
    by_cases h : i < ps.length
    · rw [if_pos (by omega), need_yes ⟨by omega, by omega⟩, gsP_drop ps i h]
      simp only [Int.toNat_natCast]
      have hko := hokp _ (getD_mem ps T_api_Peer.d i h)
      cases hq : outP (ps.getD i T_api_Peer.d)
      · have hq' : (!(ps.getD i T_api_Peer.d).fIn) = false := hq
        rw [hq', cond_false, add1 h hm, ih (i + 1) w (by omega) (by omega) (by omega)]
        simp
      · have hq' : (!(ps.getD i T_api_Peer.d).fIn) = true := hq
        rw [hq', cond_true, group_of _ hko.1.1]
        simp only [Option.bind_some]
        rw [need_yes (small32 _ (by simp; omega)), add1 h hm, ih (i + 1) _ (by omega) (by omega) (by simp; omega)]
        simp
    · have e : i = ps.length := by omega
      rw [if_neg (by omega), e, List.drop_length]
      have := taken_in es hes hok ps (ps.length : Int) (ps.length : Int) (g_spread_Taken_c0 es fu) ((((es.length : Nat) : Int) - (0 : Int)).toNat + 2) 0 w (by omega) (by omega) (by omega)
      simp only [Int.natCast_zero, List.drop_zero] at this
      rw [this]
      simp [gsP]

theorem spread_taken (ps : List T_api_Peer) (es : List T_api_Entry) (hps : ps.length ≤ 1000) (hes : es.length ≤ 1000) (hokp : ∀ p ∈ ps, p.ok) (hok : ∀ e ∈ es, e.ok) :
    ∃ L, g_spread_Taken ps es = some L ∧ Srt L ∧ ∀ x, x ∈ L ↔ x ∈ gsP ps ++ gsE es := by
  have h := taken_out ps es hps hes hokp hok ((((ps.length : Nat) : Int) - (0 : Int)).toNat + 2) 0 [] (by omega) (by omega) (by simp)
  simp only [Int.natCast_zero, List.drop_zero, List.nil_append] at h
  unfold g_spread_Taken
  rw [h]
  refine sort_srt _ ?_
  have := gsE_len es
  have := gsP_len ps
  simp only [List.length_append]
  omega

/-! ### The reference's way -/
def putN (l : List T_api_Net) (b : T_api_Net) : List T_api_Net := match l with
  | [] => [b]
  | x :: r => if cmpN x b < 0 then x :: putN r b else if x = b then x :: r else b :: x :: r

theorem putN_mem (b : T_api_Net) : ∀ (l : List T_api_Net) (x : T_api_Net), x ∈ putN l b ↔ x = b ∨ x ∈ l
  | [], x => by simp [putN]
  | y :: r, x => by
    have ih := putN_mem b r x
    simp only [putN]
    split
    · rw [List.mem_cons, ih, List.mem_cons]
      constructor <;> rintro (h | h | h) <;> simp [h]
    · split
      · rename_i e; subst e
        constructor
        · exact .inr
        · rintro (h | h)
          · simp [h]
          · exact h
      · simp

theorem putN_len (b : T_api_Net) : ∀ l : List T_api_Net, (putN l b).length ≤ l.length + 1
  | [] => by simp [putN]
  | y :: r => by
    have := putN_len b r
    simp only [putN]
    repeat' split
    all_goals simp <;> omega

theorem putN_srt (b : T_api_Net) : ∀ l : List T_api_Net, Srt l → Srt (putN l b)
  | [], _ => List.pairwise_singleton _ _
  | y :: r, h => by
    have p := List.pairwise_cons.1 h
    simp only [putN]
    split
    · rename_i hlt
      refine List.pairwise_cons.2 ⟨fun x hx => ?_, putN_srt b r p.2⟩
      rcases (putN_mem b r x).1 hx with e | hx
      · rw [e]; exact hlt
      · exact p.1 x hx
    · rename_i hlt
      split
      · exact h
      · rename_i hne
        have hb : cmpN b y < 0 := by
          have h1 : cmpN y b ≠ 0 := fun e => hne (cmpN_zero.1 e)
          exact cmpN_swap.1 (by omega)
        refine List.pairwise_cons.2 ⟨fun x hx => ?_, h⟩
        rcases List.mem_cons.1 hx with e | hx
        · rw [e]; exact hb
        · exact cmpN_trans hb (p.1 x hx)

theorem contains_net (l : List T_api_Net) (e : T_api_Net) (hl : l.length ≤ maxLen) : g_slices_Contains_api_Net_api_Net l e = some (l.contains e) := by
  simp only [g_slices_Contains_api_Net_api_Net, g_slices_Index_api_Net_api_Net]
  have := loop_ix l T_api_Net.d (fun x => decide (e = x)) hl (fun fu i => g_slices_Index_api_Net_api_Net_c0 l fu (l.length : Int) i e) (fun i => i) (fun fu i hi => by
      simp only [g_slices_Index_api_Net_api_Net_c0, cond_decide']
      rw [if_pos (by omega), need_yes ⟨by omega, by omega⟩]
      simp) (fun fu => by
      simp only [g_slices_Index_api_Net_api_Net_c0, cond_decide']
      rw [if_neg (by omega)]) ((((l.length : Nat) : Int) - (0 : Int)).toNat + 2) 0 (by omega) (by omega)
  simp only [Int.natCast_zero, List.drop_zero] at this
  rw [this]
  simp only [Option.bind_some, Option.some.injEq]
  rw [Bool.eq_iff_iff, decide_eq_true_eq, List.contains_iff_mem]
  have hn := ixOf_neg (fun x => decide (e = x)) l 0
  constructor
  · intro h
    obtain ⟨k, h1, _, ⟨x, h3, h4⟩, _⟩ := ixOf_pos _ l 0 h
    rw [of_decide_eq_true h4]
    exact List.mem_of_getElem? h3
  · intro h
    apply Int.not_lt.1
    intro h1
    have := hn.1 h1 e h
    simp at this

theorem nodup_len {α : Type} [DecidableEq α] : ∀ (L l : List α), L.Nodup → (∀ x ∈ L, x ∈ l) → L.length ≤ l.length
  | [], _, _, _ => by simp
  | a :: r, l, hn, hs => by
    have hn' := List.nodup_cons.1 hn
    have ha := hs a (by simp)
    have := nodup_len r (l.erase a) hn'.2 fun x hx => (List.mem_erase_of_ne (show x ≠ a from fun e => hn'.1 (e ▸ hx))).2 (hs x (by simp [hx]))
    have := List.length_erase_of_mem ha
    have := List.length_pos_of_mem ha
    simp only [List.length_cons]
    omega

theorem srt_len {L : List T_api_Net} (hs : Srt L) {l : List T_api_Net} (h : ∀ x, x ∈ L ↔ x ∈ l) : L.length ≤ l.length :=
  nodup_len L l hs.nodup fun x hx => (h x).1 hx

theorem spread_free (ps : List T_api_Peer) (es : List T_api_Entry) (a : T_api_Addr) (hps : ps.length ≤ 1000) (hes : es.length ≤ 1000) (hokp : ∀ p ∈ ps, p.ok) (hok : ∀ e ∈ es, e.ok) (ha : a.ok) :
    g_spread_Free ps es a = some (rightA a && !decide (grp a ∈ gsP ps ++ gsE es)) := by
  obtain ⟨L, h1, h2, h3⟩ := spread_taken ps es hps hes hokp hok
  have hl : L.length ≤ 2000 := by
    have := srt_len h2 h3
    have := gsE_len es
    have := gsP_len ps
    simp only [List.length_append] at *
    omega
  simp only [g_spread_Free, addr_right a ha, h1, group_of a ha, Option.bind_some, contains_net L _ (by unfold maxLen; omega)]
  cases rightA a
  · rfl
  · simp only [cond_true, Bool.true_and, Option.some.injEq]
    congr 1
    rw [Bool.eq_iff_iff, decide_eq_true_eq, List.contains_iff_mem, h3]

end Go.Proofs.Ytaakonlnlfbfkaa
