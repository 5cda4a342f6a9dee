/-
  AN EVALUATOR OF WALKS, over whatever program: what an operation looks at, and what it leaves alone.
-/
import Derived.Test.YtgedafbejcpioaaAmP
namespace Go.Proofs.Ytgedafbejcpioaa
open Go.RowKit
set_option linter.unusedSimpArgs false
set_option linter.unusedVariables false

/-- What an operation looks at. -/
def seen_ : Op → List Operand
  | .move x | .assign x | .box _ x | .load _ x | .nilCheck x | .makeInterface _ x | .unOp _ _ x | .convert _ _ x | .fieldAddr _ x _ | .field _ x _ | .extract x _ => [x]
  | .pick c x y => [c, x, y]
  | .build _ ps | .buildSlice _ _ ps => ps.toList.map (·.2)
  | .store _ p x => [p, x]
  | .binOp _ _ x y _ => [x, y]
  | .lookup _ x k _ => [x, k]
  | .mapEntry _ x k => [x, k]
  | .entryStore _ x s v => [x, s, v]
  | .makeSlice _ l c => [l, c]
  | .slice _ x lo hi mx => x :: (lo.toList ++ hi.toList ++ mx.toList)
  | .indexAddr _ x i | .index _ x i => [x, i]
  | .makeFunc _ a b => a.toList ++ b.toList
  | .call { callee := .value f, args, .. } => f :: args.toList
  | .call { callee := .builtin _, args, .. } => args.toList
  | .call { callee := .invoke r _, args, .. } => r :: args.toList
  | _ => []

/-- 0: it looks at slots alone, 1: at memory, too, 2: it stores, 3: it makes a block, 4: none of these. -/
def clsOf (ra : RA) (i : Nat) : Op → Nat
  | .move _ | .assign _ => match klook ra.an i with
    | some (.c _ _) => 4
    | _ => 0
  | .pick .. | .binOp .. | .unOp .. | .convert .. | .extract .. | .field .. | .fieldAddr .. | .nilCheck _ | .indexAddr .. | .index .. | .build .. | .slice .. | .makeFunc .. | .makeInterface .. => 0
  | .call { callee := .builtin .len, .. } | .call { callee := .builtin .min, .. } | .call { callee := .builtin .max, .. } => 0
  | .buildSlice .. => match klook ra.an i with
    | some (.c _ _) => 3
    | _ => 0
  | .load .. | .lookup .. => 1
  | .call { callee := .value _, .. } => 1
  | .store .. | .mapEntry .. | .entryStore .. => 2
  | .makeSlice .. => match klook ra.an i with
    | some (.r _ _) => 0
    | _ => 3
  | .alloc _ | .box .. => 3
  | .call { callee := .builtin .append, .. } => match klook ra.an i with
    | some (.r _ _) => 2
    | _ => 3
  | _ => 4

theorem map_evo {st st2 : St} {l : List Operand} (h : ∀ x ∈ l, evo st2 x = evo st x) : l.map (evo st2) = l.map (evo st) := List.map_congr_left h

theorem parts_evo {st st2 : St} {l : List (Nat × Operand)} (h : ∀ x ∈ l.map (·.2), evo st2 x = evo st x) : (l.map fun p => (p.1, evo st2 p.2)) = l.map fun p => (p.1, evo st p.2) :=
  List.map_congr_left fun p hp => by rw [h p.2 (List.mem_map.2 ⟨p, hp, rfl⟩)]

theorem optV_evo {st st2 : St} {x : Option Operand} (h : ∀ y ∈ x.toList, evo st2 y = evo st y) : optV st2 x = optV st x := by
  cases x with
  | none => rfl
  | some x => simp only [optV]; rw [h x (by simp)]

theorem borC_heap {st st2 : St} (hh : st2.heap = st.heap) (c : C) : borC st2 c = borC st c := by
  unfold borC
  rw [hh]

theorem borL_heap {st st2 : St} (hh : st2.heap = st.heap) : ∀ l, borL st2 l = borL st l
  | [] => rfl
  | c :: l => by simp only [borL, borC_heap hh, borL_heap hh l]

theorem borV_heap {st st2 : St} (hh : st2.heap = st.heap) (v : V) : borV st2 v = borV st v := by
  unfold borV
  simp only [borC_heap hh, borL_heap hh]

theorem borA_heap {st st2 : St} (hh : st2.heap = st.heap) : ∀ l, borA st2 l = borA st l
  | [] => rfl
  | v :: l => by simp only [borA, borV_heap hh, borA_heap hh l]

theorem callArgs_evo {st st2 : St} {l : List Operand} (h : ∀ x ∈ l, evo st2 x = evo st x) (a b : List C) : callArgs st2 l a b = callArgs st l a b := by
  unfold callArgs
  rw [map_evo h]

theorem evCall_same {P : Program} {st st2 : St} {f : Operand} {args : List Operand} (h : ∀ x ∈ f :: args, evo st2 x = evo st x) (hh : st2.heap = st.heap) (r : V) : evCall P st2 f args r = evCall P st f args r := by
  have hf : evo st2 f = evo st f := h f (by simp)
  have ha : ∀ x ∈ args, evo st2 x = evo st x := fun x hx => h x (by simp [hx])
  unfold evCall calleeOf
  simp only [hf, callArgs_evo ha, borA_heap hh]

theorem evLitSlice_E {N : Nat} {T : Tab} {st st2 : St} {d t n : Nat} {ps : List (Nat × V)} : ∀ {an : Option Ans}, (∀ k c, an ≠ some (.c k c)) → evLitSlice N T st2 d t n ps an = (evLitSlice N T st d t n ps an).map fun p => (p.1, p.2.1, st2) := by
  intro an hno
  cases an with
  | none =>
    unfold evLitSlice
    repeat' split
    all_goals first | rfl | contradiction | (exfalso; exact hno _ _ (by assumption))
  | some a =>
    cases a with
    | c k c => exact absurd rfl (hno k c)
    | _ =>
      unfold evLitSlice
      repeat' split
      all_goals first | rfl | contradiction | (exfalso; exact hno _ _ (by assumption))

theorem evStore_W {T : Tab} {st st2 : St} (hh : st2.heap = st.heap) (t : Nat) (p v : V) (an : Option Ans) : evStore T st2 t p v an = (evStore T st t p v an).map fun q => (q.1, { st2 with heap := q.2.heap }) := by
  unfold evStore
  rw [hh]
  repeat' split
  all_goals rfl

theorem evEntryStore_W {st st2 : St} (hh : st2.heap = st.heap) (x s v : V) (an : Option Ans) : evEntryStore st2 x s v an = (evEntryStore st x s v an).map fun q => (q.1, { st2 with heap := q.2.heap }) := by
  unfold evEntryStore mapOf
  rw [hh]
  repeat' split
  all_goals first | rfl | (simp_all; done)

/-- What looks at slots alone. -/
theorem evOp_E {P : Program} {N : Nat} {T : Tab} {st st2 : St} {o : Oper} {ra : RA} {i : Nat} (hc : clsOf ra i o.op = 0) (h : ∀ x ∈ seen_ o.op, evo st2 x = evo st x) :
    evOp P N T o st2 (klook ra.an i) = (evOp P N T o st (klook ra.an i)).map fun p => (p.1, p.2.1, st2) := by
  obtain ⟨dst, op, type, pos, after, guard⟩ := o
  simp only at hc h
  cases op <;> (try (simp only [clsOf] at hc)) <;> (try (exact absurd hc (by decide)))
  case move x =>
    split at hc
    · cases hc
    · rename_i hno
      simp only [evOp, h x (by simp [seen_])]
      repeat' split
      all_goals first | rfl | (rename_i n c hk; exact absurd hk (hno n c))
  case assign x =>
    split at hc
    · cases hc
    · rename_i hno
      simp only [evOp, h x (by simp [seen_])]
      repeat' split
      all_goals first | rfl | (rename_i n c hk; exact absurd hk (hno n c))
  case pick c x y =>
    simp only [evOp, h x (by simp [seen_]), h y (by simp [seen_]), h c (by simp [seen_])]
    repeat' split
    all_goals rfl
  case build t ps =>
    simp only [evOp, parts_evo (st2 := st2) (st := st) (l := ps.toList) (by simpa [seen_] using h)]
    have : ∀ q, evBuild T st2 t q = evBuild T st t q := fun q => rfl
    rw [this]
    repeat' split
    all_goals rfl
  case buildSlice t n ps =>
    split at hc
    · cases hc
    · rename_i hno
      simp only [evOp, parts_evo (st2 := st2) (st := st) (l := ps.toList) (by simpa [seen_] using h)]
      exact evLitSlice_E fun k c hk => hno k c hk
  case makeSlice t l c =>
    split at hc
    · rename_i v0 l0 hk
      simp only [evOp, h l (by simp [seen_]), h c (by simp [seen_]), hk]
      split
      · unfold evMakeF
        split <;> rfl
      · rfl
      · rename_i hx
        exact absurd rfl (hx _ _)
    · cases hc
  case nilCheck x =>
    simp only [evOp, h x (by simp [seen_])]
    repeat' split
    all_goals rfl
  case makeInterface t x => simp only [evOp, h x (by simp [seen_])]; split <;> rfl
  case binOp op t x y u =>
    simp only [evOp, h x (by simp [seen_]), h y (by simp [seen_])]
    repeat' split
    all_goals rfl
  case unOp op t x => simp only [evOp, h x (by simp [seen_])]; split <;> rfl
  case convert s d x => simp only [evOp, h x (by simp [seen_])]; split <;> rfl
  case slice t x lo hi mx =>
    have hx := h x (by simp [seen_])
    have h1 : optV st2 lo = optV st lo := optV_evo fun y hy => h y (by simp only [seen_, List.mem_cons, List.mem_append]; exact .inr (.inl (.inl hy)))
    have h2 : optV st2 hi = optV st hi := optV_evo fun y hy => h y (by simp only [seen_, List.mem_cons, List.mem_append]; exact .inr (.inl (.inr hy)))
    have h3 : optV st2 mx = optV st mx := optV_evo fun y hy => h y (by simp only [seen_, List.mem_cons, List.mem_append]; exact .inr (.inr hy))
    simp only [evOp, hx, h1, h2, h3]
    split <;> rfl
  case fieldAddr t x f => simp only [evOp, h x (by simp [seen_])]; split <;> rfl
  case field t x f => simp only [evOp, h x (by simp [seen_])]; split <;> rfl
  case indexAddr t x j => simp only [evOp, h x (by simp [seen_]), h j (by simp [seen_])]; split <;> rfl
  case index t x j => simp only [evOp, h x (by simp [seen_]), h j (by simp [seen_])]; split <;> rfl
  case extract x j => simp only [evOp, h x (by simp [seen_])]; split <;> rfl
  case makeFunc fn a b =>
    have h1 : a.toList.map (evo st2) = a.toList.map (evo st) := map_evo fun x hx => h x (by simp only [seen_, List.mem_append]; exact .inl hx)
    have h2 : b.toList.map (evo st2) = b.toList.map (evo st) := map_evo fun x hx => h x (by simp only [seen_, List.mem_append]; exact .inr hx)
    simp only [evOp, h1, h2]
    split <;> rfl
  case call c =>
    obtain ⟨callee, args, tys⟩ := c
    cases callee with
    | value f => simp only [clsOf] at hc; cases hc
    | invoke r n => simp only [clsOf] at hc; cases hc
    | builtin b =>
      have hm : args.toList.map (evo st2) = args.toList.map (evo st) := map_evo fun x hx => h x (by simpa [seen_] using hx)
      cases b <;> (try (simp only [clsOf] at hc)) <;> (try (exact absurd hc (by decide)))
      case append => split at hc <;> cases hc
      case len =>
        simp only [evOp]
        split
        · rename_i x t hx ht
          rw [h x (by simp [seen_, hx])]
          have : ∀ q, evLen T st2 t q = evLen T st t q := fun q => rfl
          rw [this]
          split <;> rfl
        · rfl
      case max => simp only [evOp, hm]; split <;> rfl
      case min => simp only [evOp, hm]; split <;> rfl

/-- What looks at memory, too. -/
theorem evOp_A {P : Program} {N : Nat} {T : Tab} {st st2 : St} {o : Oper} {ra : RA} {i : Nat} (hc : clsOf ra i o.op = 1) (h : ∀ x ∈ seen_ o.op, evo st2 x = evo st x) (hh : st2.heap = st.heap) :
    evOp P N T o st2 (klook ra.an i) = (evOp P N T o st (klook ra.an i)).map fun p => (p.1, p.2.1, st2) := by
  obtain ⟨dst, op, type, pos, after, guard⟩ := o
  simp only at hc h
  cases op <;> (try (simp only [clsOf] at hc)) <;> (try (exact absurd hc (by decide)))
  case move x => split at hc <;> cases hc
  case assign x => split at hc <;> cases hc
  case buildSlice t n ps => split at hc <;> cases hc
  case makeSlice t l c => split at hc <;> cases hc
  case lookup t x k ok =>
    have : ∀ q r, evLookup P T st2 t q r ok (klook ra.an i) = evLookup P T st t q r ok (klook ra.an i) := fun q r => by unfold evLookup mapOf; rw [hh]
    simp only [evOp, h x (by simp [seen_]), h k (by simp [seen_]), this]
    split <;> rfl
  case load t p =>
    have : ∀ q, evLoadX T st2 t q (klook ra.an i) = evLoadX T st t q (klook ra.an i) := fun q => evLoadX_heap hh t q _
    simp only [evOp, h p (by simp [seen_]), this]
    split <;> rfl
  case call c =>
    obtain ⟨callee, args, tys⟩ := c
    cases callee with
    | value f =>
      simp only [evOp]
      have := fun r => evCall_same (P := P) (f := f) (args := args.toList) (by simpa [seen_] using h) hh r
      simp only [this]
      repeat' split
      all_goals rfl
    | invoke r n => simp only [clsOf] at hc; cases hc
    | builtin b =>
      cases b <;> simp only [clsOf] at hc
      case append => split at hc <;> cases hc
      all_goals cases hc

/-- What stores. -/
theorem evOp_W {P : Program} {N : Nat} {T : Tab} {st st2 : St} {o : Oper} {ra : RA} {i : Nat} (hc : clsOf ra i o.op = 2) (h : ∀ x ∈ seen_ o.op, evo st2 x = evo st x) (hh : st2.heap = st.heap) :
    evOp P N T o st2 (klook ra.an i) = (evOp P N T o st (klook ra.an i)).map fun p => (p.1, p.2.1, { st2 with heap := p.2.2.heap }) := by
  obtain ⟨dst, op, type, pos, after, guard⟩ := o
  simp only at hc h
  cases op <;> (try (simp only [clsOf] at hc)) <;> (try (exact absurd hc (by decide)))
  case move x => split at hc <;> cases hc
  case assign x => split at hc <;> cases hc
  case buildSlice t n ps => split at hc <;> cases hc
  case makeSlice t l c => split at hc <;> cases hc
  case store t p x =>
    simp only [evOp, h p (by simp [seen_]), h x (by simp [seen_]), evStore_W hh]
    cases evStore T st t (evo st p) (evo st x) (klook ra.an i) <;> rfl
  case mapEntry t x k =>
    simp only [evOp, h x (by simp [seen_]), h k (by simp [seen_]), evMapEntry, mapOf, hh]
    repeat' split
    all_goals first | rfl | (simp_all; done)
  case entryStore t x s v =>
    simp only [evOp, h x (by simp [seen_]), h s (by simp [seen_]), h v (by simp [seen_]), evEntryStore_W hh]
    cases evEntryStore st (evo st x) (evo st s) (evo st v) (klook ra.an i) <;> rfl
  case call c =>
    obtain ⟨callee, args, tys⟩ := c
    cases callee with
    | value f => simp only [clsOf] at hc; cases hc
    | invoke r n => simp only [clsOf] at hc; cases hc
    | builtin b =>
      cases b <;> simp only [clsOf] at hc
      case append =>
        split at hc
        · rename_i v0 fz0 hk
          simp only [evOp, hk]
          split
          · rename_i s x t t' hx ht
            rw [h s (by simp [seen_, hx]), h x (by simp [seen_, hx])]
            split
            · unfold evAppR evAppF evAppIn
              rw [hh]
              repeat' split
              all_goals first | rfl | (simp only [*]; done) | skip
            · rfl
          · rfl
        · cases hc
      all_goals cases hc

theorem srcOf_heap {st st2 : St} (hh : st2.heap = st.heap) (n : Nat) (v : V) : srcOf st2 n v = srcOf st n v := by
  unfold srcOf
  rw [hh]

/-- What makes a block of the call's own. -/
theorem evOp_N {P : Program} {N : Nat} {T : Tab} {st st2 : St} {o : Oper} {ra : RA} {i : Nat} (hc : clsOf ra i o.op = 3) (h : ∀ x ∈ seen_ o.op, evo st2 x = evo st x) (hh : st2.heap = st.heap) (hq : quiet N (o.dst.getD 0) st2 = quiet N (o.dst.getD 0) st) :
    evOp P N T o st2 (klook ra.an i) = (evOp P N T o st (klook ra.an i)).map fun p => (p.1, p.2.1, { st2 with heap := p.2.2.heap }) := by
  obtain ⟨dst, op, type, pos, after, guard⟩ := o
  simp only at hc h hq
  have hbox : ∀ l, evBox N st2 (dst.getD 0) l = (evBox N st (dst.getD 0) l).map fun p => (p.1, p.2.1, { st2 with heap := p.2.2.heap }) := by
    intro l
    unfold evBox St.new
    rw [hq, hh]
    split <;> rfl
  cases op <;> (try (simp only [clsOf] at hc)) <;> (try (exact absurd hc (by decide)))
  case move x => split at hc <;> cases hc
  case assign x => split at hc <;> cases hc
  case alloc e =>
    simp only [evOp, hbox]
    repeat' split
    all_goals rfl
  case box e x =>
    simp only [evOp, hbox, h x (by simp [seen_])]
    repeat' split
    all_goals rfl
  case makeSlice t l c =>
    split at hc
    · cases hc
    rename_i hx
    simp only [evOp, h l (by simp [seen_]), h c (by simp [seen_])]
    split
    · rename_i hk; exact absurd hk (hx _ _)
    · rfl
    unfold evMake St.new
    rw [hq, hh]
    repeat' split
    all_goals rfl
  case buildSlice t n ps =>
    split at hc
    · rename_i n' c' hno
      simp only [evOp, parts_evo (st2 := st2) (st := st) (l := ps.toList) (by simpa [seen_] using h)]
      unfold evLitSlice St.new
      rw [hq, hh, hno]
      repeat' split
      all_goals first | rfl | (rename_i hx _ _; exact absurd rfl (hx _ _))
    · cases hc
  case call c =>
    obtain ⟨callee, args, tys⟩ := c
    cases callee with
    | value f => simp only [clsOf] at hc; cases hc
    | invoke r n => simp only [clsOf] at hc; cases hc
    | builtin b =>
      cases b <;> (try (simp only [clsOf] at hc)) <;> (try (exact absurd hc (by decide)))
      case append =>
        split at hc
        · cases hc
        rename_i hno
        simp only [evOp]
        split
        · rename_i s x t t' hx ht
          rw [h s (by simp [seen_, hx]), h x (by simp [seen_, hx])]
          split
          · unfold evAppend St.new
            rw [hq, hh]
            simp only [srcOf_heap hh]
            repeat' split
            all_goals rfl
          · rfl
        · rfl

/-- The slots stand. -/
theorem evOp_env {P : Program} {N : Nat} {T : Tab} {st st' : St} {o : Oper} {an : Option Ans} {v : V} {obl : List Prop} (h : evOp P N T o st an = some (v, obl, st')) : st'.env = st.env := by
  obtain ⟨dst, op, type, pos, after, guard⟩ := o
  have hbox : ∀ l, evBox N st (dst.getD 0) l = some (v, obl, st') → st'.env = st.env := by
    intro l hb
    unfold evBox at hb
    split at hb
    · cases hb; rfl
    · cases hb
  unfold evOp at h
  cases op <;> (try simp only at h) <;> (try (cases h; done)) <;> (try (cases h; rfl))
  case move =>
    unfold evShr at h
    repeat' split at h
    all_goals first | (cases h; done) | (cases h; rfl)
  case assign =>
    unfold evShr at h
    repeat' split at h
    all_goals first | (cases h; done) | (cases h; rfl)
  case pick => repeat' split at h
               all_goals first | (cases h; done) | (cases h; rfl)
  case alloc => repeat' split at h
                all_goals first | (cases h; done) | exact hbox _ h
  case box => repeat' split at h
              all_goals first | (cases h; done) | exact hbox _ h
  case buildSlice =>
    unfold evLitSlice at h
    repeat' split at h
    all_goals first | (cases h; done) | (cases h; rfl)
  case makeSlice =>
    split at h
    · unfold evMakeF at h
      split at h
      · cases h; rfl
      · cases h
    · cases h
    unfold evMake at h
    repeat' split at h
    all_goals first | (cases h; done) | (cases h; rfl)
  case makeMap =>
    unfold evMakeMap at h
    repeat' split at h
    all_goals first | (cases h; done) | (cases h; rfl)
  case mapUpdate =>
    split at h
    · rename_i hv
      cases h
      unfold evMapUp at hv
      repeat' split at hv
      all_goals first | (cases hv; done) | (cases hv; rfl)
    · cases h
  case mapEntry =>
    unfold evMapEntry at h
    repeat' split at h
    all_goals first | (cases h; done) | (cases h; rfl)
  case entryStore =>
    split at h
    · rename_i hv
      cases h
      unfold evEntryStore at hv
      repeat' split at hv
      all_goals first | (cases hv; done) | (cases hv; rfl)
    · cases h
  case store =>
    split at h
    · rename_i hv
      cases h
      unfold evStore at hv
      repeat' split at hv
      all_goals first | (cases hv; done) | (cases hv; rfl)
    · cases h
  case call c =>
    obtain ⟨callee, args, tys⟩ := c
    cases callee with
    | invoke r n => cases h
    | value f =>
      simp only at h
      repeat' split at h
      all_goals first | (cases h; done) | (cases h; rfl)
    | builtin b =>
      cases b <;> (try simp only at h) <;> (try (cases h; done))
      case append =>
        unfold evAppend evAppR evAppF evAppIn at h
        repeat' split at h
        all_goals first | (cases h; done) | (cases h; rfl)
      case clear =>
        unfold evClear at h
        repeat' split at h
        all_goals first | (cases h; done) | (cases h; rfl)
      case delete =>
        split at h
        · split at h
          · rename_i hv
            cases h
            unfold evMapDel at hv
            repeat' split at hv
            all_goals first | (cases hv; done) | (cases hv; rfl)
          · cases h
        · cases h
      all_goals
        repeat' split at h
        all_goals first | (cases h; done) | (cases h; rfl)
  all_goals
    repeat' split at h
    all_goals first | (cases h; done) | (cases h; rfl)

/-! ### What looks at memory, where memory has been made more -/
/-- The blocks of which v speaks are there as well. -/
def Has (st st2 : St) (says : Nat → Bool) : Prop := ∀ id b, says id = true → hget st.heap id = some b → hget st2.heap id = some b

theorem borC_mono {st st2 : St} {c c' : C} (hm : Has st st2 fun id => c.says id) (h : borC st c = some c') : borC st2 c = some c' := by
  unfold borC at h ⊢
  split at h
  · split at h
    · rename_i hh; cases h; rw [hm _ _ (by simp [C.says]) hh]
    · cases h
  · split at h
    · rename_i hh; rw [hm _ _ (by simp [C.says]) hh]; exact h
    · cases h
  · exact h

theorem borL_mono {st st2 : St} : ∀ {l l' : List C}, (∀ c ∈ l, Has st st2 fun id => c.says id) → borL st l = some l' → borL st2 l = some l'
  | [], l', _, h => h
  | c :: l, l', hm, h => by
    simp only [borL] at h ⊢
    split at h
    · rename_i c1 l1 h1 h2
      cases h
      rw [borC_mono (hm c (by simp)) h1, borL_mono (fun c hc => hm c (by simp [hc])) h2]
    · cases h

theorem borV_mono {st st2 : St} {v v' : V} (hm : Has st st2 fun id => v.says id) (h : borV st v = some v') : borV st2 v = some v' := by
  unfold borV at h ⊢
  split at h
  · exact h
  · split at h
    · split at h
      · rename_i h1; cases h; rw [borC_mono hm h1]
      · cases h
    · split at h
      · rename_i l l' h1
        cases h
        rw [borL_mono (fun c hc id b hs => hm id b (by simp only [V.says]; exact List.any_eq_true.2 ⟨c, hc, hs⟩)) h1]
      · cases h
    · cases h

theorem borA_mono {st st2 : St} : ∀ {l l' : List V}, (∀ v ∈ l, Has st st2 fun id => v.says id) → borA st l = some l' → borA st2 l = some l'
  | [], l', _, h => h
  | c :: l, l', hm, h => by
    simp only [borA] at h ⊢
    split at h
    · rename_i c1 l1 h1 h2
      cases h
      rw [borV_mono (hm c (by simp)) h1, borA_mono (fun c hc => hm c (by simp [hc])) h2]
    · cases h

theorem evLoad_mono {T : Tab} {st st2 : St} {t : Nat} {p : V} {r : V × List Prop} (hm : Has st st2 fun id => p.says id) (h : evLoad T st t p = some r) : evLoad T st2 t p = some r := by
  unfold evLoad at h ⊢
  split at h
  · cases h
  split at h
  · cases h
  split at h
  · split at h
    · rename_i hh; rw [hm _ _ (by simp [V.says, C.says]) hh]; exact h
    · cases h
  · exact h
  · exact h
  · split at h
    · rename_i hh; rw [hm _ _ (by simp [V.says, C.says]) hh]; exact h
    · cases h
  · cases h

theorem evLoadX_mono {T : Tab} {st st2 : St} {t : Nat} {p : V} {an : Option Ans} {r : V × List Prop} (hm : Has st st2 fun id => p.says id) (h : evLoadX T st t p an = some r) : evLoadX T st2 t p an = some r := by
  unfold evLoadX at h ⊢
  split
  · simp only at h
    unfold evLoadH at h ⊢
    split at h
    rotate_left
    · cases h
    split at h
    rotate_left
    · cases h
    rename_i h1 h2 h3 h4 h5 hh
    rw [h1]
    simp only [h2, h3, h4, h5, hm _ _ (by simp [V.says, C.says]) hh]
    exact h
  · rename_i hn
    split at h
    · rename_i hit
      exact absurd rfl (hn hit)
    · exact evLoad_mono hm h

theorem evCall_mono {P : Program} {st st2 : St} {f : Operand} {args : List Operand} (he : ∀ x ∈ f :: args, evo st2 x = evo st x) (hm : ∀ x ∈ f :: args, Has st st2 fun id => (evo st x).says id) {r : V} {obl : List Prop} (h : evCall P st f args r = some obl) : evCall P st2 f args r = some obl := by
  have hf : evo st2 f = evo st f := he f (by simp)
  have ha : ∀ x ∈ args, evo st2 x = evo st x := fun x hx => he x (by simp [hx])
  have hc : calleeOf st2 f = calleeOf st f := by unfold calleeOf; rw [hf]
  unfold evCall at h ⊢
  rw [hc]
  split at h
  · rename_i g a b hcal
    rw [callArgs_evo ha]
    split at h
    · exact h
    · split at h
      · rename_i vs hb hfl
        have hcl : ∀ v ∈ callArgs st args a b, Has st st2 fun id => v.says id := by
          intro v hv
          unfold callArgs at hv
          simp only [List.mem_append, List.mem_map] at hv
          have hclo : ∀ c, c ∈ a ∨ c ∈ b → Has st st2 fun id => c.says id := by
            intro c hcm id bb hs
            refine hm f (by simp) id bb ?_
            unfold calleeOf at hcal
            split at hcal
            · split at hcal
              · cases hcal; simp at hcm
              · cases hcal
            · rename_i g' na nb fa fb hv'
              cases hcal
              rw [hv']
              simp only [V.says, C.says, Bool.or_eq_true, List.any_eq_true, List.mem_range]
              simp only [cellsOf, List.mem_map, List.mem_range] at hcm
              rcases hcm with ⟨k, hk, rfl⟩ | ⟨k, hk, rfl⟩
              · exact .inl ⟨k, hk, hs⟩
              · exact .inr ⟨k, hk, hs⟩
            · cases hcal
          rcases hv with (⟨c, h1, rfl⟩ | ⟨x, h1, rfl⟩) | ⟨c, h1, rfl⟩
          · intro id bb hs; exact hclo c (.inl h1) id bb (by show C.says id c = true; rw [← C.toV_says]; exact hs)
          · exact hm x (by simp [h1])
          · intro id bb hs; exact hclo c (.inr h1) id bb (by show C.says id c = true; rw [← C.toV_says]; exact hs)
        rw [borA_mono hcl hb, hfl]
        exact h
      · cases h
  · cases h

theorem evLookup_mono {P : Program} {T : Tab} {st st2 : St} {t : Nat} {x k : V} {ok : Bool} {an : Option Ans} {r : V × List Prop} (hm : Has st st2 fun id => x.says id) (h : evLookup P T st t x k ok an = some r) : evLookup P T st2 t x k ok an = some r := by
  unfold evLookup at h ⊢
  split at h
  rotate_left
  · cases h
  rename_i kt vt id kt' l kv v' fz hmt hmo hkv
  obtain ⟨rfl, hl⟩ := mapOf_eq hmo
  have hmo2 : mapOf st2 (.one (.mp id)) = some (id, kt', l) := by
    have := hm id _ (by simp [V.says, C.says]) hl
    simp only [mapOf, this]
  rw [hmt, hmo2, hkv]
  exact h

/-- What looks at memory gives the same where all of which it speaks is there. -/
theorem evOp_M {P : Program} {N : Nat} {T : Tab} {st st2 : St} {o : Oper} {ra : RA} {i : Nat} (hc : clsOf ra i o.op = 1) (h : ∀ x ∈ seen_ o.op, evo st2 x = evo st x) (hm : ∀ x ∈ seen_ o.op, Has st st2 fun id => (evo st x).says id) {v : V} {obl : List Prop} {st1 : St}
    (he : evOp P N T o st (klook ra.an i) = some (v, obl, st1)) : evOp P N T o st2 (klook ra.an i) = some (v, obl, st2) := by
  obtain ⟨dst, op, type, pos, after, guard⟩ := o
  simp only at hc h hm
  cases op <;> (try (simp only [clsOf] at hc)) <;> (try (exact absurd hc (by decide)))
  case move x => split at hc <;> cases hc
  case assign x => split at hc <;> cases hc
  case buildSlice t n ps => split at hc <;> cases hc
  case makeSlice t l c => split at hc <;> cases hc
  case lookup t x k ok =>
    simp only [evOp, h x (by simp [seen_]), h k (by simp [seen_])] at he ⊢
    split at he
    · rename_i v' obl' hv
      cases he
      rw [evLookup_mono (hm x (by simp [seen_])) hv]
    · cases he
  case load t p =>
    simp only [evOp, h p (by simp [seen_])] at he ⊢
    split at he
    · rename_i r hr
      cases he
      rw [evLoadX_mono (hm p (by simp [seen_])) hr]
    · cases he
  case call c =>
    obtain ⟨callee, args, tys⟩ := c
    cases callee with
    | value f =>
      simp only [evOp] at he ⊢
      split at he
      · rename_i r fz han
        split at he
        · rename_i obl' hv
          cases he
          rw [evCall_mono (by simpa [seen_] using h) (by simpa [seen_] using hm) hv]
        · cases he
      · cases he
    | invoke r n => simp only [clsOf] at hc; cases hc
    | builtin b =>
      cases b <;> simp only [clsOf] at hc
      case append => split at hc <;> cases hc
      all_goals cases hc

theorem evBox_heap {N : Nat} {st : St} {d : Nat} {l : List C} {p : V × List Prop × St} (h : evBox N st d l = some p) : ∀ id b, hget p.2.2.heap id = some b → id = d ∨ hget st.heap id = some b := by
  unfold evBox at h
  split at h
  · cases h
    intro id b hb
    simp only [St.new, hget_hins] at hb
    split at hb
    · rename_i e; exact .inl e.symm
    · exact .inr hb
  · cases h

/-- What makes a block leaves no other ones than were there. -/
theorem evOp_N_heap {P : Program} {N : Nat} {T : Tab} {st : St} {o : Oper} {ra : RA} {i : Nat} {p : V × List Prop × St} (hc : clsOf ra i o.op = 3) (h : evOp P N T o st (klook ra.an i) = some p) : ∀ id b, hget p.2.2.heap id = some b → id = o.dst.getD 0 ∨ hget st.heap id = some b := by
  obtain ⟨dst, op, type, pos, after, guard⟩ := o
  simp only at hc
  have hnew : ∀ {d : Nat} {b0 : B}, ∀ id b, hget (st.new d b0).heap id = some b → id = d ∨ hget st.heap id = some b := by
    intro d b0 id b hb
    simp only [St.new, hget_hins] at hb
    split at hb
    · rename_i e; exact .inl e.symm
    · exact .inr hb
  cases op <;> (try (simp only [clsOf] at hc)) <;> (try (exact absurd hc (by decide)))
  case move x => split at hc <;> cases hc
  case assign x => split at hc <;> cases hc
  case alloc e =>
    simp only [evOp] at h
    repeat' split at h
    all_goals first | (cases h; done) | exact evBox_heap h
  case box e x =>
    simp only [evOp] at h
    repeat' split at h
    all_goals first | (cases h; done) | exact evBox_heap h
  case makeSlice t l c =>
    split at hc
    · cases hc
    rename_i hx
    simp only [evOp] at h
    split at h
    · rename_i hk; exact absurd hk (hx _ _)
    · cases h
    unfold evMake at h
    repeat' split at h
    all_goals first | (cases h; done) | (cases h; exact hnew)
  case buildSlice t n ps =>
    split at hc
    · rename_i n' c' hno
      simp only [evOp] at h
      unfold evLitSlice at h
      rw [hno] at h
      repeat' split at h
      all_goals first | (cases h; done) | (cases h; exact hnew) | (cases h; exact fun id b hb => .inr hb)
    · cases hc
  case call c =>
    obtain ⟨callee, args, tys⟩ := c
    cases callee with
    | value f => simp only [clsOf] at hc; cases hc
    | invoke r n => simp only [clsOf] at hc; cases hc
    | builtin b =>
      cases b <;> (try (simp only [clsOf] at hc)) <;> (try (exact absurd hc (by decide)))
      case append =>
        split at hc
        · cases hc
        rename_i hno
        simp only [evOp] at h
        split at h
        rotate_left
        · cases h
        split at h
        rotate_left
        · cases h
        unfold evAppend at h
        repeat' split at h
        all_goals first | (cases h; done) | (cases h; exact hnew) | skip
        all_goals
          cases h
          intro id b hb
          simp only [hget_cons, hget_hdel] at hb
          split at hb
          · rename_i e; exact .inl e.symm
          · split at hb
            · cases hb
            · exact .inr hb

/-- An operation that makes a block and lets none go. -/
def noKill : Op → Bool
  | .alloc _ | .box .. | .makeSlice .. | .buildSlice .. => true
  | _ => false

/-- What makes a block and lets none go leaves all that were there. -/
theorem evOp_N_keeps {P : Program} {N : Nat} {T : Tab} {st : St} {o : Oper} {ra : RA} {i : Nat} {p : V × List Prop × St} (hc : clsOf ra i o.op = 3) (hk : noKill o.op = true) (hq : hget st.heap (o.dst.getD 0) = none) (h : evOp P N T o st (klook ra.an i) = some p) :
    ∀ id b, hget st.heap id = some b → hget p.2.2.heap id = some b := by
  obtain ⟨dst, op, type, pos, after, guard⟩ := o
  simp only at hc hk hq
  have hnew : ∀ {b0 : B}, ∀ id b, hget st.heap id = some b → hget (st.new (dst.getD 0) b0).heap id = some b := by
    intro b0 id b hb
    simp only [St.new, hget_hins]
    rw [if_neg]
    · exact hb
    · rintro rfl
      rw [hq] at hb
      cases hb
  have hbox : ∀ {l : List C} {p : V × List Prop × St}, evBox N st (dst.getD 0) l = some p → ∀ id b, hget st.heap id = some b → hget p.2.2.heap id = some b := by
    intro l p h
    unfold evBox at h
    split at h
    · cases h; exact hnew
    · cases h
  cases op <;> (try (simp only [noKill] at hk)) <;> (try (exact absurd hk (by decide)))
  case alloc e =>
    simp only [evOp] at h
    repeat' split at h
    all_goals first | (cases h; done) | exact hbox h
  case box e x =>
    simp only [evOp] at h
    repeat' split at h
    all_goals first | (cases h; done) | exact hbox h
  case makeSlice t l c =>
    simp only [clsOf] at hc
    split at hc
    · cases hc
    rename_i hx
    simp only [evOp] at h
    split at h
    · rename_i hk; exact absurd hk (hx _ _)
    · cases h
    unfold evMake at h
    repeat' split at h
    all_goals first | (cases h; done) | (cases h; exact hnew)
  case buildSlice t n ps =>
    simp only [clsOf] at hc
    split at hc
    · rename_i n' c' hno
      simp only [evOp] at h
      unfold evLitSlice at h
      rw [hno] at h
      repeat' split at h
      all_goals first | (cases h; done) | (cases h; exact hnew) | (cases h; exact fun id b hb => hb)
    · cases hc

theorem ofVal_says (x : Value) (d : Nat) : (V.ofVal x).says d = false := by
  unfold V.ofVal
  split
  · split
    · simp only [V.says]
      rw [← Bool.not_eq_true, List.any_eq_true]
      rintro ⟨c, hc, h2⟩
      obtain ⟨y, _, rfl⟩ := List.mem_map.1 hc
      simp [C.says] at h2
    · simp [V.says, C.says]
  · simp [V.says, C.says]
  · simp [V.says, C.says]

end Go.Proofs.Ytgedafbejcpioaa
