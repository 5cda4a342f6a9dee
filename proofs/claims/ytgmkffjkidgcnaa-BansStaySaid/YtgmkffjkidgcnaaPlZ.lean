/-
  PLAIN LAWS: from a right list of bans a right one comes.
-/
import Derived.Test.YtgmkffjkidgcnaaPlY
namespace Go.Proofs.Ytgmkffjkidgcnaa
set_option linter.unusedSimpArgs false
set_option linter.unusedVariables false

theorem putB_cons (x : T_api_Ban) (r : List T_api_Ban) (b : T_api_Ban) : putB (x :: r) b = if 0 < cmpN x.fNet b.fNet then b :: x :: r else x :: putB r b := by
  unfold putB
  by_cases h : 0 < cmpN x.fNet b.fNet
  · rw [if_pos h, List.takeWhile_cons, List.dropWhile_cons, if_neg (by simpa using h), if_neg (by simpa using h)]; rfl
  · rw [if_neg h, List.takeWhile_cons, List.dropWhile_cons, if_pos (by simpa using h), if_pos (by simpa using h)]
    simp

theorem putB_mem (b : T_api_Ban) : ∀ (l : List T_api_Ban) (x : T_api_Ban), x ∈ putB l b ↔ x = b ∨ x ∈ l
  | [], x => by simp [putB]
  | y :: r, x => by
    rw [putB_cons]
    have ih := putB_mem b r x
    split
    · simp
    · rw [List.mem_cons, ih, List.mem_cons]
      constructor <;> rintro (h | h | h) <;> simp [h]

theorem putB_sorted (b : T_api_Ban) : ∀ (l : List T_api_Ban), (l.Pairwise fun x y => cmpN x.fNet y.fNet < 0) → (∀ x ∈ l, x.fNet ≠ b.fNet) → (putB l b).Pairwise fun x y => cmpN x.fNet y.fNet < 0
  | [], _, _ => by simp [putB]
  | y :: r, h, hn => by
    have p := List.pairwise_cons.1 h
    rw [putB_cons]
    split
    · rename_i hlt
      have hb : cmpN b.fNet y.fNet < 0 := cmpN_swap.1 hlt
      refine List.pairwise_cons.2 ⟨fun x hx => ?_, h⟩
      rcases List.mem_cons.1 hx with e | hx
      · rw [e]; exact hb
      · exact cmpN_trans hb (p.1 x hx)
    · rename_i hlt
      have hne : cmpN y.fNet b.fNet ≠ 0 := fun e => hn y (by simp) (cmpN_zero.1 e)
      refine List.pairwise_cons.2 ⟨fun x hx => ?_, putB_sorted b r p.2 fun x hx => hn x (by simp [hx])⟩
      rcases (putB_mem b r x).1 hx with e | hx
      · rw [e]; omega
      · exact p.1 x hx

theorem find_none' {l : List T_api_Ban} {n : T_api_Net} (h : ¬ 0 ≤ findB l n) : ∀ x ∈ l, x.fNet ≠ n := by
  intro x hx
  have := (ixOf_neg (fun x => decide (x.fNet = n)) l 0).1 (by unfold findB at h; omega) x hx
  simpa using this

theorem join_right {x b : T_api_Ban} (hx : rightB x = true) (hb : rightB b = true) : rightB (joinB x b) = true := by
  unfold rightB joinB at *
  simp only [Bool.and_eq_true, decide_eq_true_eq] at *
  refine ⟨⟨hx.1.1, ?_⟩, ?_⟩
  · split
    · exact hb.1.2
    · exact hx.1.2
  · split
    · exact hb.2
    · exact hx.2

theorem join_ok {x b : T_api_Ban} (hx : x.ok) (hb : b.ok) : (joinB x b).ok := by
  refine ⟨hx.1, ?_, trivial⟩
  unfold joinB
  simp only
  split
  · exact hb.2.1
  · exact hx.2.1

theorem set_right {l : List T_api_Ban} {i : Nat} {z : T_api_Ban} (h : rightL l) (hi : i < l.length) (hz : rightB z = true) (hn : z.fNet = (l.getD i T_api_Ban.d).fNet) : rightL (l.set i z) := by
  refine ⟨fun b hb => ?_, ?_⟩
  · rcases List.mem_or_eq_of_mem_set hb with h1 | h1
    · exact h.1 b h1
    · rw [h1]; exact hz
  · rw [List.pairwise_iff_getElem]
    intro p q hp hq hpq
    have key : ∀ k (hk : k < (l.set i z).length), ((l.set i z)[k]).fNet = (l[k]'(by simpa using hk)).fNet := fun k hk => by
      rw [List.getElem_set]
      split
      · rename_i e; subst e; rw [hn, getD_of l _ i hi]
      · rfl
    rw [key p hp, key q hq]
    exact List.pairwise_iff_getElem.1 h.2 p q (by simpa using hp) (by simpa using hq) hpq

/-- A list that the walk may have. -/
structure Stays (most : Int) (i : Nat) (w : List T_api_Ban) : Prop where
  right : rightL w
  ok : ∀ b ∈ w, b.ok
  most : (w.length : Int) ≤ if (0 : Int) > most then (0 : Int) else most
  len : w.length ≤ i

theorem stays_add {most : Int} {i : Nat} {w : List T_api_Ban} (h : Stays most i w) {b : T_api_Ban} (hb : b.ok) (h0 : (addB w b most).2 = 0) :
    Stays most (i + 1) (addB w b most).1 ∧ 1 ≤ b.fUntil ∧ rightC b.fNet = true ∧ ∃ e ∈ (addB w b most).1, e.fNet = b.fNet ∧ b.fUntil ≤ e.fUntil := by
  unfold addB at h0 ⊢
  split at h0
  rotate_left
  · simp at h0
  rename_i hr
  have hrb := hr
  unfold rightB at hrb
  simp only [Bool.and_eq_true, decide_eq_true_eq] at hrb
  rw [if_pos hr]
  split at h0
  · rename_i hf
    rw [if_pos hf]
    obtain ⟨f1, f2⟩ := find_at w b.fNet hf
    have hmem := getD_mem w T_api_Ban.d (findB w b.fNet).toNat f1
    generalize (findB w b.fNet).toNat = k at f1 f2 hmem ⊢
    refine ⟨⟨set_right h.right f1 (join_right (h.right.1 _ hmem) hr) rfl, fun c hc => ?_, by simpa using h.most, by simp; have := h.len; omega⟩, hrb.1.2, hrb.1.1, joinB (w.getD k T_api_Ban.d) b, ?_, f2, ?_⟩
    · rcases List.mem_or_eq_of_mem_set hc with h1 | h1
      · exact h.ok c h1
      · rw [h1]; exact join_ok (h.ok _ hmem) hb
    · exact List.mem_set f1 _
    · unfold joinB; simp only; split <;> omega
  · rename_i hf
    rw [if_neg hf]
    split at h0
    · simp at h0
    · rename_i hm
      rw [if_neg hm]
      have hmost := h.most
      refine ⟨⟨⟨fun c hc => ?_, putB_sorted b w h.right.2 (find_none' hf)⟩, fun c hc => ?_, ?_, by rw [putB_len]; have := h.len; omega⟩, hrb.1.2, hrb.1.1, b, (putB_mem b w b).2 (.inl rfl), rfl, Int.le_refl _⟩
      · rcases (putB_mem b w c).1 hc with e | hc
        · rw [e]; exact hr
        · exact h.right.1 c hc
      · rcases (putB_mem b w c).1 hc with e | hc
        · rw [e]; exact hb
        · exact h.ok c hc
      · rw [putB_len]
        split at hmost <;> split <;> omega

theorem Stays.sub {most : Int} {i : Nat} {w w' : List T_api_Ban} (h : Stays most i w) (hs : w'.Sublist w) : Stays most (i + 1) w' :=
  ⟨rightL_sub h.right hs, fun b hb => h.ok b (hs.subset hb), by have := h.most; have := hs.length_le; omega, by have := h.len; have := hs.length_le; omega⟩

theorem stay_loop (acts : List T_doormanlaw13_Act) (most : Int) (hl : acts.length ≤ 60) (hok : ∀ a ∈ acts, a.ok) : ∀ fu (i : Nat) (w : List T_api_Ban), i ≤ acts.length → acts.length - i < fu → Stays most i w →
    g_doormanlaw13_BansStay_c0 acts most fu w (i : Int) = some true := by
  have hm : acts.length ≤ maxLen := by unfold maxLen; omega
  intro fu
  induction fu with
  | zero => intro _ _ _ h; omega
  | succ fu ih =>
    intro i w hi hf hw
    simp only [g_doormanlaw13_BansStay_c0, awake_eq, Option.bind_some]
    by_cases h : i < acts.length
    · rw [decide_eq_true (by omega), cond_true, need_yes ⟨by omega, by omega⟩]
      have hko : (acts.getD ((i : Nat) : Int).toNat T_doormanlaw13_Act.d).ok := hok _ (getD_mem acts T_doormanlaw13_Act.d i h)
      generalize acts.getD ((i : Nat) : Int).toNat T_doormanlaw13_Act.d = a at hko ⊢
      simp only [cond_decide']
      have hb := hko.2.1
      have hwl := hw.len
      have hn : w.length ≤ 10000 := by omega
      -- the end of a round
      have fin : ∀ w', Stays most (i + 1) w' → g_doormanlaw13_BansStay_c1 acts most (i : Int) (g_doormanlaw13_BansStay_c0 acts most fu) w' = some true := by
        intro w' hw'
        have hm' : w'.length ≤ maxLen := by have := hw'.len; unfold maxLen; omega
        obtain ⟨r, r1, r2⟩ := bans_right w' hm' hw'.ok
        have : r = true := r2.2 hw'.right
        subst this
        simp only [g_doormanlaw13_BansStay_c1, r1, Option.bind_some, Bool.not_true, cond_false, cond_decide']
        rw [if_neg (by have := hw'.most; omega), add1 h hm]
        exact ih (i + 1) w' (by omega) (by omega) hw'
      have keep : Stays most (i + 1) w := hw.sub (List.Sublist.refl w)
      by_cases k0 : a.fKind = 0
      · rw [show (a.fKind == (0 : Int)) = true by simp [k0], cond_true, bans_add w a.fBan most hn hb]
        simp only [Option.bind_some]
        by_cases hz : (addB w a.fBan most).2 = 0
        · rw [show ((addB w a.fBan most).2 == (0 : Int)) = true by simp [hz], cond_true]
          obtain ⟨s1, s2, s3, e, e1, e2, e3⟩ := stays_add hw hb hz
          have hmx : (addB w a.fBan most).1.length ≤ maxLen := by have := s1.len; unfold maxLen; omega
          obtain ⟨r, r1, r2⟩ := until_eq (addB w a.fBan most).1 a.fBan.fNet.fAddr (sub64 a.fBan.fUntil 1) hmx s1.ok hb.1.1
          have hs : sub64 a.fBan.fUntil 1 = a.fBan.fUntil - 1 := by have := okI_i64 hb.2.1; exact sub64_id (by omega) (by omega)
          rw [r1]
          simp only [Option.bind_some]
          have hh : Holds (addB w a.fBan most).1 a.fBan.fNet.fAddr (sub64 a.fBan.fUntil 1) e := by
            refine ⟨e1, by rw [hs]; omega, ?_⟩
            rw [e2]
            have hrn := (rn_iff hb.1.1).1 s3
            unfold hasS
            rw [s3, hrn.right]
            simp
          have hle : a.fBan.fUntil ≤ r := by
            rcases r2 with ⟨_, q⟩ | ⟨c, c1, c2, c3⟩
            · exact absurd hh (q e)
            · have := c3 e hh; omega
          rw [if_neg (by omega)]
          exact fin _ s1
        · rw [show ((addB w a.fBan most).2 == (0 : Int)) = false by simp [hz], cond_false]
          exact fin w keep
      · rw [show (a.fKind == (0 : Int)) = false by simp [k0], cond_false]
        by_cases k1 : a.fKind = 1
        · rw [show (a.fKind == (1 : Int)) = true by simp [k1], cond_true, bans_drop w _ hn]
          simp only [Option.bind_some]
          unfold dropB
          by_cases hf0 : findB w a.fBan.fNet < 0
          · rw [if_pos hf0]
            rw [show (((([] : List T_api_Ban), (6 : Int)).2) == (0 : Int)) = false from rfl, cond_false]
            exact fin w keep
          · rw [if_neg hf0]
            obtain ⟨f1, _⟩ := find_at w a.fBan.fNet (by omega)
            generalize (findB w a.fBan.fNet).toNat = k at f1 ⊢
            have hlen : (w.take k ++ w.drop (k + 1)).length = w.length - 1 := by simp; omega
            simp only [beq_self_eq_true, cond_true]
            rw [hlen, show sub64 ((w.length : Nat) : Int) 1 = ((w.length - 1 : Nat) : Int) by rw [sub64_id (by omega) (by omega)]; omega]
            simp only [bne_self_eq_false, cond_false]
            refine fin _ (hw.sub ?_)
            have h1 : (w.take k ++ w.drop (k + 1)).Sublist (w.take k ++ w.drop k) := (List.Sublist.refl _).append (by rw [drop_cons w T_api_Ban.d k f1]; exact List.sublist_cons_self _ _)
            rwa [List.take_append_drop] at h1
        · rw [show (a.fKind == (1 : Int)) = false by simp [k1], cond_false, bans_sweep w _ hn]
          have hsl := sweepS_len w a.fBan.fUntil
          simp only [Option.bind_some]
          rw [show add64 (((sweepS w a.fBan.fUntil).length : Nat) : Int) ((w.length : Int) - ((sweepS w a.fBan.fUntil).length : Int)) = ((w.length : Nat) : Int) by rw [add64_id (by omega) (by omega)]; omega]
          simp only [bne_self_eq_false, cond_false]
          exact fin _ (hw.sub List.filter_sublist)
    · rw [decide_eq_false (by omega), cond_false]

theorem BansStay_plain (acts : List T_doormanlaw13_Act) (most : Int) (hl : okL T_doormanlaw13_Act.ok acts) (_ : okI .i64 most) : g_doormanlaw13_BansStay acts most = some true := by
  simp only [g_doormanlaw13_BansStay, awake_eq, cond_decide', Option.bind_some]
  split
  · rfl
  rename_i h
  have := stay_loop acts most (by omega) hl.2 ((((acts.length : Nat) : Int) - (0 : Int)).toNat + 2) 0 [] (by omega) (by omega) ⟨⟨by simp, List.Pairwise.nil⟩, by simp, by simp; split <;> omega, by simp⟩
  simpa using this

end Go.Proofs.Ytgmkffjkidgcnaa
