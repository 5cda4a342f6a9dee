/-
  AN EVALUATOR OF WALKS, over whatever program: the walk from one place to another.
-/
import Derived.Test.YtaakonlnlfbfkaaAmS
namespace Go.Proofs.Ytaakonlnlfbfkaa
open Go.RowKit
set_option linter.unusedSimpArgs false
set_option linter.unusedVariables false

/-! ### The walk from one place to another -/
/-- What is known of the program. -/
def AllOk (P : Program) (T : Tab) : Prop := TabOk P T ∧ P.follows .mixedOrders = true

def stepK (P : Program) (N : Nat) (T : Tab) (items : List It) (st : St) (ras : List RA) (bs : List Bool) : Option (List It × St × List RA × List Bool × List Prop) := match items with
  | .code .skip :: k => some (k, st, ras, bs, [])
  | .code (.seq x y) :: k => some (.code x :: .code y :: k, st, ras, bs, [])
  | .code (.block id x) :: k => some (.code x :: .endB id :: k, st, ras, bs, [])
  | .code (.loop x) :: k => some (.code x :: .endL x :: k, st, ras, bs, [])
  | .code (.exit id) :: k => match exitK id k with
    | some k' => some (k', st, ras, bs, [])
    | none => none
  | .code (.cond c x y) :: k => match evo st c, bs with
    | .one (.lit (.bool e)), b :: bs' => some (.code (match b with | true => x | false => y) :: k, st, ras, bs', [e = b])
    | _, _ => none
  | .code (.region _ ops false) :: k => match ras with
    | ra :: ras' => match runOps P N T ops ra 0 ops.toList st with
      | some (st', obl) => some (k, st', ras', bs, obl)
      | none => none
    | [] => none
  | .code (.region _ ops true) :: k => match ras with
    | ra :: ras' => match drawRun P N T ops ra ra.ct st with
      | some (st', obl) => some (k, st', ras', bs, obl)
      | none => none
    | [] => none
  | .endB _ :: k => some (k, st, ras, bs, [])
  | .endL x :: k => some (.code (.loop x) :: k, st, ras, bs, [])
  | _ => none

def runK (P : Program) (N : Nat) (T : Tab) : Nat → List It → St → List RA → List Bool → Option (List It × St × List Prop)
  | 0, items, st, _, _ => some (items, st, [])
  | n + 1, items, st, ras, bs => match stepK P N T items st ras bs with
    | none => none
    | some (it1, st1, ras1, bs1, o1) => match runK P N T n it1 st1 ras1 bs1 with
      | none => none
      | some (it2, st2, o2) => some (it2, st2, o1 ++ o2)

section
variable {P : Program} {N : Nat} {T : Tab} {S0 : Nat → Prop} {w0 : Start} {Q : Exit → Act → World → Prop}

theorem stepK_good (hT : AllOk P T) (hE : Ends Q) {items it' : List It} {st st' : St} {ras ras' : List RA} {bs bs' : List Bool} {obl : List Prop} (h : stepK P N T items st ras bs = some (it', st', ras', bs', obl)) (ho : ∀ q ∈ obl, q) (hk : Good P N S0 w0 Q it' st') : Good P N S0 w0 Q items st := by
  unfold stepK at h
  split at h
  · cases h; exact good_skip hk
  · cases h; exact good_seq hk
  · cases h; exact good_block hk
  · cases h; exact good_loop hE hk
  · split at h
    · rename_i hx
      cases h
      exact good_exit hx hk
    · cases h
  · split at h
    · rename_i e b bs1 hv
      cases h
      refine good_cond hv (ho _ List.mem_cons_self) ?_
      cases b <;> exact hk
    · cases h
  · split at h
    · split at h
      · rename_i hr
        cases h
        exact good_region hT.1 hr ho hk
      · cases h
    · cases h
  · split at h
    · split at h
      · rename_i hr
        cases h
        exact fun a w hs => draw_wp hT.1 hT.2 hs hr ho fun a' w' hs' => hk a' w' hs'
      · cases h
    · cases h
  · cases h; exact good_endB hk
  · cases h; exact good_endL hk
  · cases h

theorem runK_good (hT : AllOk P T) (hE : Ends Q) : ∀ {n : Nat} {items it' : List It} {st st' : St} {ras : List RA} {bs : List Bool} {obl : List Prop}, runK P N T n items st ras bs = some (it', st', obl) → (∀ q ∈ obl, q) → Good P N S0 w0 Q it' st' → Good P N S0 w0 Q items st
  | 0, items, it', st, st', ras, bs, obl, h, ho, hk => by cases h; exact hk
  | n + 1, items, it', st, st', ras, bs, obl, h, ho, hk => by
    simp only [runK] at h
    split at h
    · cases h
    rename_i it1 st1 ras1 bs1 o1 h1
    split at h
    · cases h
    rename_i it2 st2 o2 h2
    cases h
    exact stepK_good hT hE h1 (fun q hq => ho q (List.mem_append.2 (.inl hq))) (runK_good hT hE h2 (fun q hq => ho q (List.mem_append.2 (.inr hq))) hk)

theorem good_norm {items : List It} {na : NA} {st st' : St} {obl : List Prop} (h : norm N na st = some (st', obl)) (ho : ∀ q ∈ obl, q) (hk : Good P N S0 w0 Q items st') : Good P N S0 w0 Q items st := fun a w hs => hk a w (hs.norm h ho)
end

/-- All of them hold. -/
def allOf : List Prop → Prop
  | [] => True
  | p :: l => p ∧ allOf l

theorem allOf_mem : ∀ {l : List Prop}, allOf l → ∀ q ∈ l, q
  | [], _, q, h => by cases h
  | p :: l, h, q, hq => by
    rcases List.mem_cons.1 hq with rfl | hq
    · exact h.1
    · exact allOf_mem h.2 q hq

/-- A walk to a place where ways meet. -/
def toK (P : Program) (N : Nat) (T : Tab) (n : Nat) (items : List It) (st : St) (ras : List RA) (bs : List Bool) (na : NA) : Option (List It × St × List Prop) := match runK P N T n items st ras bs with
  | some (it, st1, obl) => match norm N na st1 with
    | some (st2, o2) => some (it, st2, obl ++ o2)
    | none => none
  | none => none

theorem toK_good {P : Program} {N : Nat} {T : Tab} {S0 : Nat → Prop} {w0 : Start} {Q : Exit → Act → World → Prop} (hT : AllOk P T) (hE : Ends Q) (n : Nat) (items it' : List It) (st st' : St) (ras : List RA) (bs : List Bool) (na : NA) (obl : List Prop)
    (h : toK P N T n items st ras bs na = some (it', st', obl)) (ho : allOf obl) (hk : Good P N S0 w0 Q it' st') : Good P N S0 w0 Q items st := by
  unfold toK at h
  split at h
  · rename_i it st1 o h1
    split at h
    · rename_i st2 o2 h2
      cases h
      exact runK_good hT hE h1 (fun q hq => allOf_mem ho q (List.mem_append.2 (.inl hq))) (good_norm h2 (fun q hq => allOf_mem ho q (List.mem_append.2 (.inr hq))) hk)
    · cases h
  · cases h

/-- A walk to the function's end. -/
def toEnd (P : Program) (N : Nat) (T : Tab) (n : Nat) (items : List It) (st : St) (ras : List RA) (bs : List Bool) (fz : List Nat) (dh dn : List (Nat × List (Nat × C))) (rs : List ResultVar) : Option (V × List Prop) := match runK P N T n items st ras bs with
  | some (.code .ret :: _, st1, obl) => match tidy N fz dh dn st1 with
    | some st2 => match evRes T st2 rs with
      | some v => some (v, obl)
      | none => none
    | none => none
  | some ([], st1, obl) => match tidy N fz dh dn st1 with
    | some st2 => match evRes T st2 rs with
      | some v => some (v, obl)
      | none => none
    | none => none
  | _ => none

theorem toEnd_good {P : Program} {N : Nat} {T : Tab} {S0 : Nat → Prop} {w0 : Start} {fn : Func} {res : V} (hT : AllOk P T) (n : Nat) (items : List It) (st : St) (ras : List RA) (bs : List Bool) (fz : List Nat) (dh dn : List (Nat × List (Nat × C))) (obl : List Prop)
    (h : toEnd P N T n items st ras bs fz dh dn fn.results.toList = some (res, obl)) (hp : res.pure = true) (ho : allOf obl) : Good P N S0 w0 (bodyPost P fn (Post S0 w0 res)) items st := by
  unfold toEnd at h
  split at h
  · rename_i h1
    split at h
    · rename_i st2 h2
      split at h
      · rename_i v h3
        cases h
        exact runK_good hT Post.ends h1 (allOf_mem ho) fun a w hs => wp_ret (contK_ret (post_of hT.1 (hs.tidied h2) h3 hp) _)
      · cases h
    · cases h
  · rename_i h1
    split at h
    · rename_i st2 h2
      split at h
      · rename_i v h3
        cases h
        exact runK_good hT Post.ends h1 (allOf_mem ho) fun a w hs => post_of hT.1 (hs.tidied h2) h3 hp
      · cases h
    · cases h
  · cases h

/-- A walk to the end of a function that is lent blocks, or that gives some of its own. -/
def toEndH (P : Program) (N : Nat) (T : Tab) (n : Nat) (items : List It) (st : St) (ras : List RA) (bs : List Bool) (na : NA) (rs : List ResultVar) : Option (V × List (Nat × B) × List Prop) := match runK P N T n items st ras bs with
  | some (.code .ret :: _, st1, obl) => match norm N na st1 with
    | some (st2, o2) => match evRes T st2 rs with
      | some v => some (v, st2.heap, obl ++ o2)
      | none => none
    | none => none
  | some ([], st1, obl) => match norm N na st1 with
    | some (st2, o2) => match evRes T st2 rs with
      | some v => some (v, st2.heap, obl ++ o2)
      | none => none
    | none => none
  | _ => none

theorem toEndH_good {P : Program} {N : Nat} {T : Tab} {S0 : Nat → Prop} {w0 : Start} {fn : Func} {res : V} {h1 : List (Nat × B)} (hT : AllOk P T) (n : Nat) (items : List It) (st : St) (ras : List RA) (bs : List Bool) (na : NA) (obl : List Prop)
    (h : toEndH P N T n items st ras bs na fn.results.toList = some (res, h1, obl)) (ho : allOf obl) : Good P N S0 w0 (bodyPost P fn (HPost S0 w0 h1 res)) items st := by
  unfold toEndH at h
  split at h
  · rename_i e1
    split at h
    · rename_i st2 o2 h2
      split at h
      · rename_i v h3
        cases h
        exact runK_good hT HPost.ends e1 (fun q hq => allOf_mem ho q (List.mem_append.2 (.inl hq))) fun a w hs => wp_ret (contK_ret (hpost_of hT.1 (hs.norm h2 fun q hq => allOf_mem ho q (List.mem_append.2 (.inr hq))) h3 fun _ _ e => e) _)
      · cases h
    · cases h
  · rename_i e1
    split at h
    · rename_i st2 o2 h2
      split at h
      · rename_i v h3
        cases h
        exact runK_good hT HPost.ends e1 (fun q hq => allOf_mem ho q (List.mem_append.2 (.inl hq))) fun a w hs => hpost_of hT.1 (hs.norm h2 fun q hq => allOf_mem ho q (List.mem_append.2 (.inr hq))) h3 fun _ _ e => e
      · cases h
    · cases h
  · cases h

/-- What is to do at a place of the body. -/
def nav : List Nat → Code → List It → Option (List It)
  | [], c, k => some (.code c :: k)
  | 0 :: l, .seq x y, k => nav l x (.code y :: k)
  | _ :: l, .seq _ y, k => nav l y k
  | _ :: l, .block id x, k => nav l x (.endB id :: k)
  | 0 :: l, .cond _ x _, k => nav l x k
  | _ :: l, .cond _ _ y, k => nav l y k
  | _ :: l, .loop x, k => nav l x (.endL x :: k)
  | _, _, _ => none

def bodyOf (fn : Func) : Code := fn.body.getD .skip

def at_ (l : List Nat) (c : Code) : List It := (nav l c []).getD []


end Go.Proofs.Ytaakonlnlfbfkaa
