/-
  PLAIN LAWS: who is dialled next.
-/
import Derived.Test.YtaakonlnlfbfkaaPlJ
import Derived.Test.YtaakonlnlfbfkaaPlIa
import Derived.Test.YtaakonlnlfbfkaaPlW
namespace Go.Proofs.Ytaakonlnlfbfkaa
set_option linter.unusedSimpArgs false
set_option linter.unusedVariables false

def conn (l : List T_api_Peer) (e : T_api_End) : Bool := l.any fun p => decide (p.fEnd = e)

theorem conn_loop (l : List T_api_Peer) (e : T_api_End) (hl : l.length ≤ maxLen) : ∀ fu (i : Nat), i ≤ l.length → l.length - i < fu → g_dial_View_connected_c0 fu l (l.length : Int) (i : Int) e = some (conn (l.drop i) e) := by
  intro fu
  induction fu with
  | zero => intro _ _ h; omega
  | succ fu ih =>
    intro i hi hf
    simp only [g_dial_View_connected_c0, cond_decide']
    by_cases h : i < l.length
    · rw [if_pos (by omega), need_yes ⟨by omega, by omega⟩, drop_cons l T_api_Peer.d i h]
      simp only [Int.toNat_natCast]
      rw [add1 h hl, ih (i + 1) (by omega) (by omega)]
      rw [show ∀ (x : T_api_Peer) r, conn (x :: r) e = (decide (x.fEnd = e) || conn r e) from fun _ _ => rfl]
      by_cases q : (l.getD i T_api_Peer.d).fEnd = e
      · rw [if_pos q, decide_eq_true q]; rfl
      · rw [if_neg q, decide_eq_false q]; rfl
    · rw [if_neg (by omega), List.drop_eq_nil_of_le (by omega)]
      rfl

theorem dial_conn (v : T_dial_View) (e : T_api_End) (hl : v.fPeers.length ≤ maxLen) : g_dial_View_connected v e = some (conn v.fPeers e) := by
  have := conn_loop v.fPeers e hl ((((v.fPeers.length : Nat) : Int) - (0 : Int)).toNat + 2) 0 (by omega) (by omega)
  simpa [g_dial_View_connected] using this

/-- A view that is light. -/
structure LightV (v : T_dial_View) : Prop where
  book : v.fBook.length ≤ 900
  peers : v.fPeers.length ≤ 900
  bans : v.fBans.length ≤ 900
  bookOk : ∀ e ∈ v.fBook, e.ok
  peersOk : ∀ p ∈ v.fPeers, p.ok
  bansOk : ∀ b ∈ v.fBans, b.ok

def freeV (v : T_dial_View) (a : T_api_Addr) : Bool := rightA a && !decide (grp a ∈ gsP v.fPeers ++ gsE v.fBook)
def openB (v : T_dial_View) (e : T_api_End) (now : Int) : Bool := (g_dial_View_open v e now).getD false

theorem dial_open {v : T_dial_View} (h : LightV v) (e : T_api_End) (he : e.ok) (now : Int) : g_dial_View_open v e now = some (openB v e now) ∧
    (openB v e now = true → conn v.fPeers e = false ∧ Longest v.fBans e.fAddr now 0 ∧ freeV v e.fAddr = true) := by
  obtain ⟨r, u1, u2⟩ := until_eq v.fBans e.fAddr now (by have := h.bans; unfold maxLen; omega) h.bansOk he.1
  have hf := spread_free v.fPeers v.fBook e.fAddr (by have := h.peers; omega) (by have := h.book; omega) h.peersOk h.bookOk he.1
  have main : g_dial_View_open v e now = some (!conn v.fPeers e && (r == 0) && freeV v e.fAddr) := by
    simp only [g_dial_View_open, dial_conn v e (by have := h.peers; unfold maxLen; omega), u1, hf, Option.bind_some]
    cases conn v.fPeers e
    · simp only [Bool.not_false, cond_true, Bool.true_and]
      cases (r == (0 : Int))
      · rfl
      · simp only [cond_true, Bool.true_and]; rfl
    · rfl
  refine ⟨by unfold openB; rw [main]; rfl, fun ho => ?_⟩
  unfold openB at ho
  rw [main] at ho
  simp only [Option.getD_some, Bool.and_eq_true, Bool.not_eq_true', beq_iff_eq] at ho
  refine ⟨ho.1.1, ?_, ho.2⟩
  rw [← ho.1.2]; exact u2

def dueS (e : T_api_Entry) (now : Int) : Bool := (e.fState == 1) && decide (e.fNext ≤ now)
theorem entry_due (e : T_api_Entry) (now : Int) : g_entry_Due e now = some (dueS e now) := by
  simp only [g_entry_Due, dueS]; cases (e.fState == (1 : Int)) <;> rfl
theorem ref_due (e : T_api_Entry) (now : Int) : g_doormanref25_Due e now = some (dueS e now) := by
  simp only [g_doormanref25_Due, dueS]; cases (e.fState == (1 : Int)) <;> rfl

theorem dial_may {v : T_dial_View} (h : LightV v) (e : T_api_Entry) (he : e.ok) (now : Int) : g_dial_May v e now = some (rightN e && dueS e now && openB v e.fEnd now) := by
  simp only [g_dial_May, entry_right e he, entry_due, (dial_open h e.fEnd he.1 now).1, Option.bind_some]
  cases rightN e <;> cases dueS e now <;> rfl

/-! ### The items -/
def meetsE (now : Int) (e : T_api_Entry) : Bool := rightN e && dueS e now
def itemOf (e : T_api_Entry) : Itm := ⟨e.fNext, e.fEnd⟩
def itemsL (l : List T_api_Entry) (now : Int) : List Itm := (l.filter (meetsE now)).map itemOf

theorem items_loop (l : List T_api_Entry) (now : Int) (hl : l.length ≤ 900) (hok : ∀ e ∈ l, e.ok) : ∀ fu (i : Nat) (w : List Itm), i ≤ l.length → l.length - i < fu → w.length ≤ i →
    g_dial_View_items_108_c0 now fu l (l.length : Int) (i : Int) w = (g_heap_Make (w ++ itemsL (l.drop i) now)).bind fun x => some x := by
  have hm : l.length ≤ maxLen := by unfold maxLen; omega
  intro fu
  induction fu with
  | zero => intro _ _ _ h; omega
  | succ fu ih =>
    intro i w hi hf hw
    simp only [g_dial_View_items_108_c0, cond_decide']
    by_cases h : i < l.length
    · rw [if_pos (by omega), need_yes ⟨by omega, by omega⟩, drop_cons l T_api_Entry.d i h]
      simp only [Int.toNat_natCast]
      have hko := hok _ (getD_mem l T_api_Entry.d i h)
      rw [add1 h hm, ih (i + 1) w (by omega) (by omega) (by omega), entry_right _ hko]
      simp only [Option.bind_some, g_dial_Pick_1, entry_due]
      rw [need_yes ⟨by simp; omega, by unfold maxLen; simp; omega⟩, ih (i + 1) _ (by omega) (by omega) (by simp; omega)]
      generalize l.getD i T_api_Entry.d = e
      have e1 : itemsL (e :: l.drop (i + 1)) now = (if meetsE now e then [itemOf e] else []) ++ itemsL (l.drop (i + 1)) now := by
        unfold itemsL
        cases q : meetsE now e <;> simp [q]
      rw [e1]
      unfold meetsE
      cases rightN e
      · simp
      · cases dueS e now
        · simp
        · simp [itemOf]
    · rw [if_neg (by omega), List.drop_eq_nil_of_le (by omega)]
      simp [itemsL]

theorem dial_items {v : T_dial_View} (h : LightV v) (now : Int) : ∃ L, g_dial_View_items_108 v now = some L ∧ L.Perm (itemsL v.fBook now) ∧ HF 0 L := by
  have := items_loop v.fBook now h.book h.bookOk ((((v.fBook.length : Nat) : Int) - (0 : Int)).toNat + 2) 0 [] (by omega) (by omega) (by simp)
  simp only [Int.natCast_zero, List.drop_zero, List.nil_append] at this
  unfold g_dial_View_items_108
  rw [this]
  obtain ⟨L, h1, h2, h3⟩ := heap_make (itemsL v.fBook now) (by
    have : (itemsL v.fBook now).length ≤ v.fBook.length := by simp only [itemsL, List.length_map]; exact List.length_filter_le _ _
    have := h.book
    omega)
  exact ⟨L, by rw [h1]; rfl, h2, h3⟩

def zE : T_api_End := ⟨⟨false, 0, 0⟩, 0⟩

/-- Who is picked of some items. -/
def Picked (v : T_dial_View) (now : Int) (L : List Itm) (e : T_api_End) (ok : Bool) : Prop :=
  (ok = true ∧ ∃ x ∈ L, x.fEnd = e ∧ openB v e now = true ∧ ∀ y ∈ L, openB v y.fEnd now = true → leH x y) ∨ (ok = false ∧ e = zE ∧ ∀ y ∈ L, openB v y.fEnd now = false)

theorem Picked.perm {v : T_dial_View} {now : Int} {L L' : List Itm} {e : T_api_End} {ok : Bool} (h : Picked v now L e ok) (hp : ∀ x, x ∈ L' ↔ x ∈ L) : Picked v now L' e ok := by
  rcases h with ⟨h1, x, h2, h3, h4, h5⟩ | ⟨h1, h2, h3⟩
  · exact .inl ⟨h1, x, (hp x).2 h2, h3, h4, fun y hy => h5 y ((hp y).1 hy)⟩
  · exact .inr ⟨h1, h2, fun y hy => h3 y ((hp y).1 hy)⟩

theorem pick_loop {v : T_dial_View} (h : LightV v) (now : Int) (z : T_api_End) : ∀ fu (L : List Itm), L.length < fu → L.length ≤ 900 → HF 0 L → (∀ x ∈ L, x.fEnd.ok) → ∃ e ok, g_dial_Pick_c0 now fu L v z = some (e, ok) ∧ Picked v now L e ok := by
  intro fu
  induction fu with
  | zero => intro _ h; omega
  | succ fu ih =>
    intro L hf hl H hok
    simp only [g_dial_Pick_c0]
    by_cases hn : L = []
    · subst hn
      rw [heap_pop_nil]
      exact ⟨zE, false, rfl, .inr ⟨rfl, rfl, by simp⟩⟩
    · obtain ⟨x, r, p1, p2, p3, p4⟩ := heap_pop L (by omega) H hn
      rw [p1]
      simp only [Option.bind_some, Bool.not_true, cond_false]
      have hx : x ∈ L := p2.mem_iff.2 (by simp)
      have hlr : L.length = r.length + 1 := by simpa using p2.length_eq
      rw [(dial_open h x.fEnd (hok x hx) now).1]
      simp only [Option.bind_some]
      cases ho : openB v x.fEnd now with
      | true =>
        simp only [cond_true]
        exact ⟨x.fEnd, true, rfl, .inl ⟨rfl, x, hx, rfl, ho, fun y hy _ => p4 y hy⟩⟩
      | false =>
        simp only [cond_false]
        obtain ⟨e, ok, g1, g2⟩ := ih r (by omega) (by omega) p3 fun y hy => hok y (p2.mem_iff.2 (by simp [hy]))
        refine ⟨e, ok, g1, ?_⟩
        have hm : ∀ y, y ∈ L ↔ y = x ∨ y ∈ r := fun y => by rw [p2.mem_iff]; simp
        rcases g2 with ⟨q1, y, q2, q3, q4, q5⟩ | ⟨q1, q2, q3⟩
        · refine .inl ⟨q1, y, (hm y).2 (.inr q2), q3, q4, fun t ht hto => ?_⟩
          rcases (hm t).1 ht with e1 | e1
          · subst e1; rw [ho] at hto; cases hto
          · exact q5 t e1 hto
        · refine .inr ⟨q1, q2, fun t ht => ?_⟩
          rcases (hm t).1 ht with e1 | e1
          · subst e1; exact ho
          · exact q3 t e1

theorem dial_pick {v : T_dial_View} (h : LightV v) (now : Int) : ∃ e ok, g_dial_Pick v now = some (e, ok) ∧ Picked v now (itemsL v.fBook now) e ok := by
  obtain ⟨L, l1, l2, l3⟩ := dial_items h now
  have hlen : (itemsL v.fBook now).length ≤ v.fBook.length := by simp only [itemsL, List.length_map]; exact List.length_filter_le _ _
  have hb := h.book
  obtain ⟨e, ok, g1, g2⟩ := pick_loop h now zE 1000000 L (by rw [l2.length_eq]; omega) (by rw [l2.length_eq]; omega) l3 fun x hx => by
    have := l2.mem_iff.1 hx
    simp only [itemsL, List.mem_map, List.mem_filter] at this
    obtain ⟨a, ⟨a1, _⟩, rfl⟩ := this
    exact (h.bookOk a a1).1
  refine ⟨e, ok, ?_, g2.perm fun x => l2.mem_iff.symm⟩
  simp only [g_dial_Pick, l1, Option.bind_some]
  rw [show (T_api_End.mk (T_api_Addr.mk false (0 : Int) (0 : Int)) (0 : Int)) = zE from rfl]
  exact g1

theorem awake28 : g_doormanlaw28_awake = some true := by decide +kernel

/-! ### The statement -/
def mayS (v : T_dial_View) (now : Int) (x : T_api_Entry) : Bool := rightN x && dueS x now && openB v x.fEnd now

theorem picked_facts {v : T_dial_View} (h : LightV v) {now : Int} {e : T_api_End} (hp : Picked v now (itemsL v.fBook now) e true) :
    openB v e now = true ∧ e.ok ∧ (∃ x ∈ v.fBook, x.fEnd = e ∧ meetsE now x = true ∧ ∀ y ∈ v.fBook, mayS v now y = true → x.fNext ≤ y.fNext) := by
  rcases hp with ⟨_, x, h2, h3, h4, h5⟩ | ⟨h1, _⟩
  · have hx := h2
    simp only [itemsL, List.mem_map, List.mem_filter] at hx
    obtain ⟨a, ⟨a1, a2⟩, rfl⟩ := hx
    refine ⟨h4, ?_, a, a1, h3, a2, fun y hy hm => ?_⟩
    · rw [← h3]; exact (h.bookOk a a1).1
    · unfold mayS at hm
      rw [Bool.and_eq_true] at hm
      have hl := h5 (itemOf y) (by simp only [itemsL, List.mem_map, List.mem_filter]; exact ⟨y, ⟨hy, hm.1⟩, rfl⟩) hm.2
      unfold leH at hl
      rw [cmpH_lt] at hl
      simp only [itemOf] at hl
      omega
  · cases h1

theorem c3_loop {v : T_dial_View} (h : LightV v) {now : Int} {e : T_api_End} {ok : Bool} (he : ok = true → openB v e now = true ∧ e.ok) (v7 v8 : Bool) (v9 v10 v12 v14 : Int) (k0 : Bool → Bool → Bool → Int → Int → T_dial_View → T_api_End → Option Bool) (k1 k2 : Int → Option Bool) : ∀ fu (i : Nat), i ≤ v.fPeers.length → v.fPeers.length - i < fu →
    g_doormanlaw28_DialSound_c3 now ok v7 v8 v9 v10 v e v12 v14 k0 k1 k2 fu (i : Int) = some true := by
  have hm : v.fPeers.length ≤ maxLen := by have := h.peers; unfold maxLen; omega
  intro fu
  induction fu with
  | zero => intro _ _ h; omega
  | succ fu ih =>
    intro i hi hf
    simp only [g_doormanlaw28_DialSound_c3, cond_decide', awake28, Option.bind_some]
    by_cases hlt : i < v.fPeers.length
    · rw [if_pos (by omega)]
      cases ok with
      | false => rfl
      | true =>
        obtain ⟨ho, hek⟩ := he rfl
        obtain ⟨f1, f2, f3⟩ := (dial_open h e hek now).2 ho
        simp only [cond_true]
        rw [need_yes ⟨by omega, by omega⟩]
        simp only [Int.toNat_natCast]
        have hmem := getD_mem v.fPeers T_api_Peer.d i hlt
        have hko := h.peersOk _ hmem
        rw [add1 hlt hm, ih (i + 1) (by omega) (by omega)]
        generalize v.fPeers.getD i T_api_Peer.d = p at hmem hko ⊢
        rw [if_neg (fun q => by
          have : conn v.fPeers e = true := List.any_eq_true.2 ⟨p, hmem, by simpa using q⟩
          rw [f1] at this; cases this)]
        cases hin : p.fIn with
        | true => rfl
        | false =>
          unfold freeV at f3
          rw [Bool.and_eq_true, Bool.not_eq_true', decide_eq_false_iff_not, List.mem_append] at f3
          rw [same_eq _ _ hko.1.1 hek.1 f3.1]
          simp only [Bool.not_false, cond_true, Option.bind_some, cond_decide']
          rw [if_neg (fun q => f3.2 (.inl (by
            rw [← q]; unfold gsP
            exact List.mem_map.2 ⟨p, List.mem_filter.2 ⟨hmem, by simp [outP, hin]⟩, rfl⟩)))]
    · rw [if_neg (by omega)]

theorem c2_loop {v : T_dial_View} (h : LightV v) {now : Int} {e : T_api_End} {ok : Bool} (he : ok = true → openB v e now = true ∧ e.ok) (v7 v8 : Bool) (v9 v10 v12 : Int) (k0 : Bool → Bool → Bool → Int → Int → T_dial_View → T_api_End → Option Bool) (k1 : Int → Option Bool) : ∀ fu (i : Nat), i ≤ v.fBans.length → v.fBans.length - i < fu →
    g_doormanlaw28_DialSound_c2 now ok v7 v8 v9 v10 v e v12 k0 k1 fu (i : Int) = some true := by
  have hm : v.fBans.length ≤ maxLen := by have := h.bans; unfold maxLen; omega
  intro fu
  induction fu with
  | zero => intro _ _ h; omega
  | succ fu ih =>
    intro i hi hf
    have hnext := fun k2 => c3_loop h he v7 v8 v9 v10 v12 (i : Int) k0 k1 k2 1000000 0 (by omega) (by have := h.peers; omega)
    simp only [Int.natCast_zero] at hnext
    simp only [g_doormanlaw28_DialSound_c2, cond_decide']
    by_cases hlt : i < v.fBans.length
    · rw [if_pos (by omega)]
      cases ok with
      | false => exact hnext _
      | true =>
        obtain ⟨ho, hek⟩ := he rfl
        obtain ⟨f1, f2, f3⟩ := (dial_open h e hek now).2 ho
        simp only [cond_true]
        rw [need_yes ⟨by omega, by omega⟩]
        simp only [Int.toNat_natCast]
        have hmem := getD_mem v.fBans T_api_Ban.d i hlt
        have hko := h.bansOk _ hmem
        rw [add1 hlt hm, ih (i + 1) (by omega) (by omega)]
        generalize v.fBans.getD i T_api_Ban.d = b at hmem hko ⊢
        have hhit : g_doormanref12_Hits b e.fAddr now = some (decide (now < b.fUntil) && hasS b.fNet e.fAddr) := by
          simp only [g_doormanref12_Hits, ref7_has _ _ hko.1.1 hek.1, cond_decide', gt_iff_lt, Option.bind_some]
          by_cases q : now < b.fUntil
          · rw [if_pos q, decide_eq_true q]; rfl
          · rw [if_neg q, decide_eq_false q]; rfl
        rw [hhit]
        simp only [Option.bind_some]
        by_cases hp : b.fUntil > 0
        · rw [if_pos hp]
          cases hq : (decide (now < b.fUntil) && hasS b.fNet e.fAddr) with
          | false => rfl
          | true =>
            rw [Bool.and_eq_true, decide_eq_true_eq] at hq
            have hH : Holds v.fBans e.fAddr now b := ⟨hmem, hq⟩
            rcases f2 with ⟨_, f2⟩ | ⟨c, _, _, f2⟩
            · exact absurd hH (f2 b)
            · have := f2 b hH; omega
        · rw [if_neg hp]
    · rw [if_neg (by omega)]
      exact hnext _

theorem c1_loop {v : T_dial_View} (h : LightV v) {now : Int} {e : T_api_End} {ok : Bool} (he : ok = true → openB v e now = true ∧ e.ok) (v7 v8 : Bool) (v9 v10 : Int) (hle : ok = true → ∀ y ∈ v.fBook, mayS v now y = true → v9 ≤ y.fNext) (k0 : Bool → Bool → Bool → Int → Int → T_dial_View → T_api_End → Option Bool) : ∀ fu (i : Nat), i ≤ v.fBook.length → v.fBook.length - i < fu →
    g_doormanlaw28_DialSound_c1 now ok v7 v8 v9 v10 v e k0 fu (i : Int) = some true := by
  have hm : v.fBook.length ≤ maxLen := by have := h.book; unfold maxLen; omega
  intro fu
  induction fu with
  | zero => intro _ _ h; omega
  | succ fu ih =>
    intro i hi hf
    have hnext := fun k1 => c2_loop h he v7 v8 v9 v10 (i : Int) k0 k1 1000000 0 (by omega) (by have := h.bans; omega)
    simp only [Int.natCast_zero] at hnext
    simp only [g_doormanlaw28_DialSound_c1, cond_decide']
    by_cases hlt : i < v.fBook.length
    · rw [if_pos (by omega)]
      cases ok with
      | false => exact hnext _
      | true =>
        obtain ⟨ho, hek⟩ := he rfl
        obtain ⟨f1, f2, f3⟩ := (dial_open h e hek now).2 ho
        simp only [cond_true]
        rw [need_yes ⟨by omega, by omega⟩]
        simp only [Int.toNat_natCast]
        have hmem := getD_mem v.fBook T_api_Entry.d i hlt
        have hko := h.bookOk _ hmem
        rw [add1 hlt hm, ih (i + 1) (by omega) (by omega)]
        generalize v.fBook.getD i T_api_Entry.d = x at hmem hko ⊢
        rw [dial_may h x hko]
        unfold freeV at f3
        rw [Bool.and_eq_true, Bool.not_eq_true', decide_eq_false_iff_not, List.mem_append] at f3
        have fly : (bif (x.fState == (2 : Int)) then (g_doormanref08_Same x.fEnd.fAddr e.fAddr).bind fun y => bif y then some false else some true else some true) = some true := by
          cases hs : (x.fState == (2 : Int)) with
          | false => rfl
          | true =>
            rw [same_eq _ _ hko.1.1 hek.1 f3.1]
            simp only [cond_true, Option.bind_some, cond_decide']
            rw [if_neg (fun q => f3.2 (.inr (by
              rw [← q]; unfold gsE
              exact List.mem_map.2 ⟨x, List.mem_filter.2 ⟨hmem, hs⟩, rfl⟩)))]
        simp only [Option.bind_some]
        cases hq : (rightN x && dueS x now && openB v x.fEnd now) with
        | false => exact fly
        | true =>
          simp only [cond_true]
          rw [if_neg (fun q => by have := hle rfl x hmem hq; omega)]
          exact fly
    · rw [if_neg (by omega)]
      exact hnext _

def sameEnd (e : T_api_End) (now : Int) (x : T_api_Entry) : Bool := decide (x.fEnd = e) && meetsE now x

theorem c0_loop {v : T_dial_View} (h : LightV v) {now : Int} {e : T_api_End} {ok : Bool} (hp : Picked v now (itemsL v.fBook now) e ok) : ∀ fu (i : Nat) (v7 v8 : Bool) (v9 : Int), i ≤ v.fBook.length → v.fBook.length - i < fu →
    v7 = (v.fBook.take i).any (mayS v now) → v8 = (ok && (v.fBook.take i).any (sameEnd e now)) → (v8 = true → ∀ x ∈ v.fBook.take i, sameEnd e now x = true → v9 ≤ x.fNext) →
    g_doormanlaw28_DialSound_c0 now fu ok v7 v8 v9 (i : Int) v e = some true := by
  have hm : v.fBook.length ≤ maxLen := by have := h.book; unfold maxLen; omega
  intro fu
  induction fu with
  | zero => intro _ _ _ _ _ h; omega
  | succ fu ih =>
    intro i v7 v8 v9 hi hf i7 i8 i9
    simp only [g_doormanlaw28_DialSound_c0, cond_decide']
    by_cases hlt : i < v.fBook.length
    · rw [if_pos (by omega), need_yes ⟨by omega, by omega⟩]
      simp only [Int.toNat_natCast]
      have hmem := getD_mem v.fBook T_api_Entry.d i hlt
      have hko := h.bookOk _ hmem
      have htk : v.fBook.take (i + 1) = v.fBook.take i ++ [v.fBook.getD i T_api_Entry.d] := by rw [List.take_succ_eq_append_getElem hlt, getD_of v.fBook _ i hlt]
      rw [add1 hlt hm]
      generalize v.fBook.getD i T_api_Entry.d = x at hmem hko htk ⊢
      have ea : ∀ f : T_api_Entry → Bool, (v.fBook.take (i + 1)).any f = ((v.fBook.take i).any f || f x) := fun f => by rw [htk]; simp
      rw [dial_may h x hko, ref_entryRight x hko, ref_due]
      simp only [Option.bind_some]
      -- one step, whatever becomes of the last two
      have step : ∀ (w8 : Bool) (w9 : Int), w8 = (ok && (v.fBook.take (i + 1)).any (sameEnd e now)) → (w8 = true → ∀ y ∈ v.fBook.take (i + 1), sameEnd e now y = true → w9 ≤ y.fNext) →
          (bif v7 then g_doormanlaw28_DialSound_c0 now fu ok true w8 w9 ((i + 1 : Nat) : Int) v e else g_doormanlaw28_DialSound_c0 now fu ok (rightN x && dueS x now && openB v x.fEnd now) w8 w9 ((i + 1 : Nat) : Int) v e) = some true := by
        intro w8 w9 j8 j9
        cases hv : v7 with
        | true => exact ih (i + 1) _ _ _ (by omega) (by omega) (by rw [ea, ← i7, hv]; rfl) j8 j9
        | false => exact ih (i + 1) _ _ _ (by omega) (by omega) (by rw [ea, ← i7, hv]; rfl) j8 j9
      have keep : sameEnd e now x = false ∨ ok = false → (bif v7 then g_doormanlaw28_DialSound_c0 now fu ok true v8 v9 ((i + 1 : Nat) : Int) v e else g_doormanlaw28_DialSound_c0 now fu ok (rightN x && dueS x now && openB v x.fEnd now) v8 v9 ((i + 1 : Nat) : Int) v e) = some true := by
        intro hs
        refine step v8 v9 ?_ ?_
        · rw [ea, i8]
          rcases hs with hs | hs <;> simp [hs]
        · intro h8 y hy hy2
          rw [htk] at hy
          rcases List.mem_append.1 hy with hy | hy
          · exact i9 h8 y hy hy2
          · rw [List.mem_singleton] at hy
            subst hy
            rcases hs with hs | hs
            · rw [hs] at hy2; cases hy2
            · rw [i8, hs] at h8; cases h8
      cases hok : ok with
      | false => rw [hok] at keep; exact keep (.inr rfl)
      | true =>
        rw [hok] at step keep i8
        simp only [cond_true, Bool.true_and] at step keep i8 ⊢
        by_cases he : x.fEnd = e
        · rw [if_pos he]
          cases hr : rightN x with
          | false => simp only [cond_false]; rw [hr] at keep; exact keep (.inl (by simp [sameEnd, meetsE, hr]))
          | true =>
            cases hd : dueS x now with
            | false => simp only [cond_true, cond_false]; rw [hr, hd] at keep; exact keep (.inl (by simp [sameEnd, meetsE, hr, hd]))
            | true =>
              have hs : sameEnd e now x = true := by simp [sameEnd, meetsE, hr, hd, he]
              rw [hr, hd] at step
              simp only [cond_true]
              have yes : ∀ w9 : Int, (v8 = true → w9 ≤ v9) → w9 ≤ x.fNext → (bif v7 then g_doormanlaw28_DialSound_c0 now fu true true true w9 ((i + 1 : Nat) : Int) v e else g_doormanlaw28_DialSound_c0 now fu true (true && true && openB v x.fEnd now) true w9 ((i + 1 : Nat) : Int) v e) = some true := by
                intro w9 l1 l2
                refine step true w9 (by rw [ea, hs]; simp) fun _ y hy hy2 => ?_
                rw [htk] at hy
                rcases List.mem_append.1 hy with hy | hy
                · have h8 : v8 = true := by rw [i8]; exact List.any_eq_true.2 ⟨y, hy, hy2⟩
                  have := i9 h8 y hy hy2
                  have := l1 h8
                  omega
                · rw [List.mem_singleton] at hy
                  subst hy; exact l2
              cases h8 : v8 with
              | false => simp only [Bool.not_false, cond_true]; exact yes x.fNext (fun q => by rw [h8] at q; cases q) (Int.le_refl _)
              | true =>
                simp only [Bool.not_true, cond_false]
                by_cases hl : x.fNext < v9
                · rw [if_pos hl]; exact yes x.fNext (fun _ => by omega) (Int.le_refl _)
                · rw [if_neg hl]; exact yes v9 (fun _ => Int.le_refl _) (by omega)
        · rw [if_neg he]; exact keep (.inl (by simp [sameEnd, he]))
    · rw [if_neg (by omega)]
      have ei : i = v.fBook.length := by omega
      have et : v.fBook.take i = v.fBook := List.take_of_length_le (by omega)
      rw [et] at i7 i8 i9
      cases hok : ok with
      | true =>
        rw [hok] at hp i8
        obtain ⟨f1, f2, x, x1, x2, x3, x4⟩ := picked_facts h hp
        have hsx : sameEnd e now x = true := by simp [sameEnd, x2, x3]
        have h7 : v7 = true := by
          rw [i7]
          refine List.any_eq_true.2 ⟨x, x1, ?_⟩
          unfold mayS
          unfold meetsE at x3
          rw [x3, x2, f1]; rfl
        have h8 : v8 = true := by rw [i8, Bool.true_and]; exact List.any_eq_true.2 ⟨x, x1, hsx⟩
        rw [h7, h8]
        simp only [beq_self_eq_true, Bool.not_true, cond_false]
        have hn := fun k => c1_loop (ok := true) h (fun _ => ⟨f1, f2⟩) true true v9 (i : Int) (fun _ y hy hy2 => by
          have := i9 h8 x x1 hsx
          have := x4 y hy hy2
          omega) k 1000000 0 (by omega) (by have := h.book; omega)
        simp only [Int.natCast_zero] at hn
        exact hn _
      | false =>
        rw [hok] at hp i8
        rcases hp with ⟨q, _⟩ | ⟨_, q2, q3⟩
        · cases q
        have h7 : v7 = false := by
          rw [i7]
          rw [List.any_eq_false]
          intro x hx hmy
          unfold mayS at hmy
          rw [Bool.and_eq_true] at hmy
          have := q3 (itemOf x) (by simp only [itemsL, List.mem_map, List.mem_filter]; exact ⟨x, ⟨hx, hmy.1⟩, rfl⟩)
          rw [show (itemOf x).fEnd = x.fEnd from rfl, hmy.2] at this
          cases this
        have h8 : v8 = false := by rw [i8]; rfl
        rw [h7, h8, q2]
        simp only [beq_self_eq_true, Bool.not_true, cond_false, Bool.not_false, cond_true]
        rw [show (!decide (zE = T_api_End.mk (T_api_Addr.mk false (0 : Int) (0 : Int)) (0 : Int))) = false by decide, cond_false]
        have hn := fun k => c1_loop (ok := false) (e := zE) (now := now) h (fun q => by cases q) false false v9 (i : Int) (fun q => by cases q) k 1000000 0 (by omega) (by have := h.book; omega)
        simp only [Int.natCast_zero] at hn
        exact hn _

theorem light_view (v : T_dial_View) : g_doormanlaw28_light v = some (decide (v.fBook.length ≤ 30) && decide (v.fPeers.length ≤ 30) && decide (v.fBans.length ≤ 30)) := by
  simp only [g_doormanlaw28_light, cond_decide']
  by_cases h1 : v.fBook.length ≤ 30
  · rw [if_pos (by omega)]
    by_cases h2 : v.fPeers.length ≤ 30
    · rw [if_pos (by omega)]
      simp only [decide_eq_true h1, decide_eq_true h2, Bool.true_and, Option.some.injEq, decide_eq_decide]
      omega
    · rw [if_neg (by omega)]; simp [h2]
  · rw [if_neg (by omega)]; simp [h1]

theorem law_of {v : T_dial_View} {now : Int} {e : T_api_End} {ok : Bool} (h1 : g_doormanlaw28_light v = some true) (h2 : g_dial_Pick v now = some (e, ok)) : g_doormanlaw28_DialSound v now = g_doormanlaw28_DialSound_c0 now 1000000 ok false false 0 0 v e := by
  unfold g_doormanlaw28_DialSound
  rw [h1, Option.bind_some, Bool.not_true, cond_false, h2, Option.bind_some]

theorem law_no {v : T_dial_View} {now : Int} (h1 : g_doormanlaw28_light v = some false) : g_doormanlaw28_DialSound v now = some true := by
  unfold g_doormanlaw28_DialSound
  rw [h1, Option.bind_some, Bool.not_false, cond_true, awake28, Option.bind_some]

theorem DialSound_plain (v : T_dial_View) (now : Int) (hv : v.ok) (_ : okI .i64 now) : g_doormanlaw28_DialSound v now = some true := by
  have hlight := light_view v
  cases hq : (decide (v.fBook.length ≤ 30) && decide (v.fPeers.length ≤ 30) && decide (v.fBans.length ≤ 30)) with
  | false => rw [hq] at hlight; exact law_no hlight
  | true =>
    rw [hq] at hlight
    simp only [Bool.and_eq_true, decide_eq_true_eq] at hq
    have hL : LightV v := ⟨by omega, by omega, by omega, hv.1.2, hv.2.1.2, hv.2.2.1.2⟩
    obtain ⟨e, ok, p1, p2⟩ := dial_pick hL now
    rw [law_of hlight p1]
    have hn := c0_loop hL p2 1000000 0 false false 0 (by omega) (by omega) (by simp) (by simp) (by simp)
    rw [Int.natCast_zero] at hn
    exact hn

end Go.Proofs.Ytaakonlnlfbfkaa
