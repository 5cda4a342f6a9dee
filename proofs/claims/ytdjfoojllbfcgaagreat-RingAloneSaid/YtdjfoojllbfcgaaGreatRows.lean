/-
  No cell of these rows narrows 'for every input' (looked for: loops, veiled, ifaces, maps, wideKeys, modest, calm, conditions, laid).
  DERIVED. THE GIVEN ROWS OF THIS SEAT. 8 by the template 'for every input the law returns true; each argument reads behind the call as it read before'; 0 by the template 'total and deterministic' (their statements: YtdjfoojllbfcgaaGreatTotals.lean).
  GIVEN WITH THE SEED: the statements are not yours to turn. If you find one false, say at which input.
  Laid BY PROGRAM, IN A SANDBOX (cutbox-rows.mjs): the forced cells as the released guide's own fill.sh prints them over the translation 5648997f9da3ef3b… (all of the seat's roots in one cut). By AI agents, Wed Nov 11 2026. No macro, syntax, notation, axiom, sorry.
-/
import Derived.Test.YtdjfoojllbfcgaaGreatChecked
import GoSem.Claim
import GoSem.ClaimJoined
import GoSem.ClaimMapViews
import Derived.JoinedTies
import Derived.KernelRfl
namespace Go.Proofs.YtdjfoojllbfcgaaGreat
/- THE CELL 'sum', in the pinned program and in every row, IS THE sha256 OF THE DUMP (.gsa) THAT YtdjfoojllbfcgaaGreatProg.lean LOADS. Nothing in Lean hashes anything: it is a label: what it is worth is what the hold of that sum in a sandbox is worth. -/
noncomputable def Tryz.pinned : Pinned := { name := "ytdjfoojllbfcgaagreat", sum := "5648997f9da3ef3b3e51cd357f2512e6339cf908c6d5fce82f21548524870427", checked := Tryz.checked }
namespace Rows
def none {H : Type} : Left H := { results := [], args := [] }

/-- 'doormanlaw40.LeaveNext': WHATEVER THE INPUT: true; the input reads as it did. -/
def leaveNextSpec : ChangeSpec := { name := "leaveNext", fn := fun _ => fun
  | [d1, d2, d3] => { results := [.lit (.bool true)], args := [d1, d2, d3] }
  | _ => none }
def leaveNextRow : OpenClaim := { program := "ytdjfoojllbfcgaagreat", sum := "5648997f9da3ef3b3e51cd357f2512e6339cf908c6d5fce82f21548524870427", func := "doorman/doormanlaw40.LeaveNext", spec := "leaveNext", inPlace := ["slices.overlaps[doorman/api.Ban]"], unfollowed := true, recurses := true, plainKeys := false, apart := false }
def LeaveNextSaid : Prop := leaveNextRow.holds Tryz.pinned (OpenSpec.ofChange leaveNextSpec)

/-- ITS FALSE NEIGHBOUR: 'it returns false'. Refute it at one input. -/
def leaveNextWrong : ChangeSpec := { name := "leaveNext", fn := fun _ => fun
  | [d1, d2, d3] => { results := [.lit (.bool false)], args := [d1, d2, d3] }
  | _ => none }
def LeaveNextWrongFalsely : Prop := leaveNextRow.holds Tryz.pinned (OpenSpec.ofChange leaveNextWrong)

/-- 'doormanlaw40.LeaveAlone': WHATEVER THE INPUT: true; the input reads as it did. -/
def leaveAloneSpec : ChangeSpec := { name := "leaveAlone", fn := fun _ => fun
  | [d1, d2, d3] => { results := [.lit (.bool true)], args := [d1, d2, d3] }
  | _ => none }
def leaveAloneRow : OpenClaim := { program := "ytdjfoojllbfcgaagreat", sum := "5648997f9da3ef3b3e51cd357f2512e6339cf908c6d5fce82f21548524870427", func := "doorman/doormanlaw40.LeaveAlone", spec := "leaveAlone", inPlace := ["slices.overlaps[doorman/api.Ban]"], unfollowed := true, recurses := true, plainKeys := false, apart := false }
def LeaveAloneSaid : Prop := leaveAloneRow.holds Tryz.pinned (OpenSpec.ofChange leaveAloneSpec)

/-- ITS FALSE NEIGHBOUR: 'it returns false'. Refute it at one input. -/
def leaveAloneWrong : ChangeSpec := { name := "leaveAlone", fn := fun _ => fun
  | [d1, d2, d3] => { results := [.lit (.bool false)], args := [d1, d2, d3] }
  | _ => none }
def LeaveAloneWrongFalsely : Prop := leaveAloneRow.holds Tryz.pinned (OpenSpec.ofChange leaveAloneWrong)

/-- 'doormanlaw39.AdmitNext': WHATEVER THE INPUT: true; the input reads as it did. -/
def admitNextSpec : ChangeSpec := { name := "admitNext", fn := fun _ => fun
  | [d1, d2, d3] => { results := [.lit (.bool true)], args := [d1, d2, d3] }
  | _ => none }
def admitNextRow : OpenClaim := { program := "ytdjfoojllbfcgaagreat", sum := "5648997f9da3ef3b3e51cd357f2512e6339cf908c6d5fce82f21548524870427", func := "doorman/doormanlaw39.AdmitNext", spec := "admitNext", unfollowed := true, recurses := true, plainKeys := false, apart := false }
def AdmitNextSaid : Prop := admitNextRow.holds Tryz.pinned (OpenSpec.ofChange admitNextSpec)

/-- ITS FALSE NEIGHBOUR: 'it returns false'. Refute it at one input. -/
def admitNextWrong : ChangeSpec := { name := "admitNext", fn := fun _ => fun
  | [d1, d2, d3] => { results := [.lit (.bool false)], args := [d1, d2, d3] }
  | _ => none }
def AdmitNextWrongFalsely : Prop := admitNextRow.holds Tryz.pinned (OpenSpec.ofChange admitNextWrong)

/-- 'doormanlaw39.AdmitAlone': WHATEVER THE INPUT: true; the input reads as it did. -/
def admitAloneSpec : ChangeSpec := { name := "admitAlone", fn := fun _ => fun
  | [d1, d2, d3] => { results := [.lit (.bool true)], args := [d1, d2, d3] }
  | _ => none }
def admitAloneRow : OpenClaim := { program := "ytdjfoojllbfcgaagreat", sum := "5648997f9da3ef3b3e51cd357f2512e6339cf908c6d5fce82f21548524870427", func := "doorman/doormanlaw39.AdmitAlone", spec := "admitAlone", unfollowed := true, recurses := true, plainKeys := false, apart := false }
def AdmitAloneSaid : Prop := admitAloneRow.holds Tryz.pinned (OpenSpec.ofChange admitAloneSpec)

/-- ITS FALSE NEIGHBOUR: 'it returns false'. Refute it at one input. -/
def admitAloneWrong : ChangeSpec := { name := "admitAlone", fn := fun _ => fun
  | [d1, d2, d3] => { results := [.lit (.bool false)], args := [d1, d2, d3] }
  | _ => none }
def AdmitAloneWrongFalsely : Prop := admitAloneRow.holds Tryz.pinned (OpenSpec.ofChange admitAloneWrong)

/-- 'doormanlaw42.RuleNext': WHATEVER THE INPUT: true; the input reads as it did. -/
def ruleNextSpec : ChangeSpec := { name := "ruleNext", fn := fun _ => fun
  | [d1, d2, d3] => { results := [.lit (.bool true)], args := [d1, d2, d3] }
  | _ => none }
def ruleNextRow : OpenClaim := { program := "ytdjfoojllbfcgaagreat", sum := "5648997f9da3ef3b3e51cd357f2512e6339cf908c6d5fce82f21548524870427", func := "doorman/doormanlaw42.RuleNext", spec := "ruleNext", inPlace := ["slices.overlaps[doorman/api.Ban]"], unfollowed := true, recurses := true, plainKeys := false, apart := false }
def RuleNextSaid : Prop := ruleNextRow.holds Tryz.pinned (OpenSpec.ofChange ruleNextSpec)

/-- ITS FALSE NEIGHBOUR: 'it returns false'. Refute it at one input. -/
def ruleNextWrong : ChangeSpec := { name := "ruleNext", fn := fun _ => fun
  | [d1, d2, d3] => { results := [.lit (.bool false)], args := [d1, d2, d3] }
  | _ => none }
def RuleNextWrongFalsely : Prop := ruleNextRow.holds Tryz.pinned (OpenSpec.ofChange ruleNextWrong)

/-- 'doormanlaw42.RuleAlone': WHATEVER THE INPUT: true; the input reads as it did. -/
def ruleAloneSpec : ChangeSpec := { name := "ruleAlone", fn := fun _ => fun
  | [d1, d2, d3] => { results := [.lit (.bool true)], args := [d1, d2, d3] }
  | _ => none }
def ruleAloneRow : OpenClaim := { program := "ytdjfoojllbfcgaagreat", sum := "5648997f9da3ef3b3e51cd357f2512e6339cf908c6d5fce82f21548524870427", func := "doorman/doormanlaw42.RuleAlone", spec := "ruleAlone", inPlace := ["slices.overlaps[doorman/api.Ban]"], unfollowed := true, recurses := true, plainKeys := false, apart := false }
def RuleAloneSaid : Prop := ruleAloneRow.holds Tryz.pinned (OpenSpec.ofChange ruleAloneSpec)

/-- ITS FALSE NEIGHBOUR: 'it returns false'. Refute it at one input. -/
def ruleAloneWrong : ChangeSpec := { name := "ruleAlone", fn := fun _ => fun
  | [d1, d2, d3] => { results := [.lit (.bool false)], args := [d1, d2, d3] }
  | _ => none }
def RuleAloneWrongFalsely : Prop := ruleAloneRow.holds Tryz.pinned (OpenSpec.ofChange ruleAloneWrong)

/-- 'doormanlaw41.RingNext': WHATEVER THE INPUT: true; the input reads as it did. -/
def ringNextSpec : ChangeSpec := { name := "ringNext", fn := fun _ => fun
  | [d1, d2, d3] => { results := [.lit (.bool true)], args := [d1, d2, d3] }
  | _ => none }
def ringNextRow : OpenClaim := { program := "ytdjfoojllbfcgaagreat", sum := "5648997f9da3ef3b3e51cd357f2512e6339cf908c6d5fce82f21548524870427", func := "doorman/doormanlaw41.RingNext", spec := "ringNext", inPlace := ["slices.overlaps[doorman/api.Entry]"], unfollowed := true, recurses := true, plainKeys := false, apart := false }
def RingNextSaid : Prop := ringNextRow.holds Tryz.pinned (OpenSpec.ofChange ringNextSpec)

/-- ITS FALSE NEIGHBOUR: 'it returns false'. Refute it at one input. -/
def ringNextWrong : ChangeSpec := { name := "ringNext", fn := fun _ => fun
  | [d1, d2, d3] => { results := [.lit (.bool false)], args := [d1, d2, d3] }
  | _ => none }
def RingNextWrongFalsely : Prop := ringNextRow.holds Tryz.pinned (OpenSpec.ofChange ringNextWrong)

/-- 'doormanlaw41.RingAlone': WHATEVER THE INPUT: true; the input reads as it did. -/
def ringAloneSpec : ChangeSpec := { name := "ringAlone", fn := fun _ => fun
  | [d1, d2, d3] => { results := [.lit (.bool true)], args := [d1, d2, d3] }
  | _ => none }
def ringAloneRow : OpenClaim := { program := "ytdjfoojllbfcgaagreat", sum := "5648997f9da3ef3b3e51cd357f2512e6339cf908c6d5fce82f21548524870427", func := "doorman/doormanlaw41.RingAlone", spec := "ringAlone", inPlace := ["slices.overlaps[doorman/api.Entry]"], unfollowed := true, recurses := true, plainKeys := false, apart := false }
def RingAloneSaid : Prop := ringAloneRow.holds Tryz.pinned (OpenSpec.ofChange ringAloneSpec)

/-- ITS FALSE NEIGHBOUR: 'it returns false'. Refute it at one input. -/
def ringAloneWrong : ChangeSpec := { name := "ringAlone", fn := fun _ => fun
  | [d1, d2, d3] => { results := [.lit (.bool false)], args := [d1, d2, d3] }
  | _ => none }
def RingAloneWrongFalsely : Prop := ringAloneRow.holds Tryz.pinned (OpenSpec.ofChange ringAloneWrong)

/- THE SECOND FORM. 'bulk': how many values and letters a reading holds, each counted each time it is reached (what is shared counts as often as it is met; a slice's spare places count too). A statement '..UptoSaid' is the law's where the arguments, and the package variables that the reading takes, are together of bulk at most 1048576: NARROWER than '..Said'. Prove '..Said' where nothing that the law and all that it calls make is longer than what came in: it says more and counts as full. Else prove '..UptoSaid'. A law counts once. -/
mutual
def uptoBulk {H : Type} : DataW H → Nat
  | .lit (.string bytes) => bytes.length + 1
  | .lit _ => 1
  | .nil => 1
  | .ptr d => uptoBulk d + 1
  | .slice elems spare => uptoBulkAll elems + uptoBulkAll spare + 1
  | .agg parts => uptoBulkAll parts + 1
  | .iface _ d => uptoBulk d + 1
  | .map entries => uptoBulkEntries entries + 1
  | .held _ => 1
def uptoBulkAll {H : Type} : List (DataW H) → Nat
  | [] => 0
  | d :: r => uptoBulk d + uptoBulkAll r
def uptoBulkEntries {H : Type} : List (Lit × DataW H) → Nat
  | [] => 0
  | x :: r => uptoBulkEntry x + uptoBulkEntries r
def uptoBulkEntry {H : Type} : Lit × DataW H → Nat
  | (.string bytes, d) => bytes.length + uptoBulk d + 1
  | (_, d) => uptoBulk d + 1
 end
def uptoSmall : (H : Type) → List (DataW H) → Bool := fun _ ds => decide (uptoBulkAll ds ≤ 1048576)
def OpenSpec.upto (s : _root_.Go.ChangeSpec) : _root_.Go.OpenSpec := { _root_.Go.OpenSpec.ofChange s with cond := some uptoSmall }

/-- 'doormanlaw40.LeaveNext', WHERE WHAT IT READS IS OF BULK AT MOST 1048576: true; the input reads as it did. -/
def leaveNextUptoRow : OpenClaim := { program := "ytdjfoojllbfcgaagreat", sum := "5648997f9da3ef3b3e51cd357f2512e6339cf908c6d5fce82f21548524870427", func := "doorman/doormanlaw40.LeaveNext", spec := "leaveNext", inPlace := ["slices.overlaps[doorman/api.Ban]"], unfollowed := true, recurses := true, plainKeys := false, apart := false, narrowed := true }
def LeaveNextUptoSaid : Prop := leaveNextUptoRow.holds Tryz.pinned (OpenSpec.upto leaveNextSpec)

/-- 'doormanlaw40.LeaveAlone', WHERE WHAT IT READS IS OF BULK AT MOST 1048576: true; the input reads as it did. -/
def leaveAloneUptoRow : OpenClaim := { program := "ytdjfoojllbfcgaagreat", sum := "5648997f9da3ef3b3e51cd357f2512e6339cf908c6d5fce82f21548524870427", func := "doorman/doormanlaw40.LeaveAlone", spec := "leaveAlone", inPlace := ["slices.overlaps[doorman/api.Ban]"], unfollowed := true, recurses := true, plainKeys := false, apart := false, narrowed := true }
def LeaveAloneUptoSaid : Prop := leaveAloneUptoRow.holds Tryz.pinned (OpenSpec.upto leaveAloneSpec)

/-- 'doormanlaw39.AdmitNext', WHERE WHAT IT READS IS OF BULK AT MOST 1048576: true; the input reads as it did. -/
def admitNextUptoRow : OpenClaim := { program := "ytdjfoojllbfcgaagreat", sum := "5648997f9da3ef3b3e51cd357f2512e6339cf908c6d5fce82f21548524870427", func := "doorman/doormanlaw39.AdmitNext", spec := "admitNext", unfollowed := true, recurses := true, plainKeys := false, apart := false, narrowed := true }
def AdmitNextUptoSaid : Prop := admitNextUptoRow.holds Tryz.pinned (OpenSpec.upto admitNextSpec)

/-- 'doormanlaw39.AdmitAlone', WHERE WHAT IT READS IS OF BULK AT MOST 1048576: true; the input reads as it did. -/
def admitAloneUptoRow : OpenClaim := { program := "ytdjfoojllbfcgaagreat", sum := "5648997f9da3ef3b3e51cd357f2512e6339cf908c6d5fce82f21548524870427", func := "doorman/doormanlaw39.AdmitAlone", spec := "admitAlone", unfollowed := true, recurses := true, plainKeys := false, apart := false, narrowed := true }
def AdmitAloneUptoSaid : Prop := admitAloneUptoRow.holds Tryz.pinned (OpenSpec.upto admitAloneSpec)

/-- 'doormanlaw42.RuleNext', WHERE WHAT IT READS IS OF BULK AT MOST 1048576: true; the input reads as it did. -/
def ruleNextUptoRow : OpenClaim := { program := "ytdjfoojllbfcgaagreat", sum := "5648997f9da3ef3b3e51cd357f2512e6339cf908c6d5fce82f21548524870427", func := "doorman/doormanlaw42.RuleNext", spec := "ruleNext", inPlace := ["slices.overlaps[doorman/api.Ban]"], unfollowed := true, recurses := true, plainKeys := false, apart := false, narrowed := true }
def RuleNextUptoSaid : Prop := ruleNextUptoRow.holds Tryz.pinned (OpenSpec.upto ruleNextSpec)

/-- 'doormanlaw42.RuleAlone', WHERE WHAT IT READS IS OF BULK AT MOST 1048576: true; the input reads as it did. -/
def ruleAloneUptoRow : OpenClaim := { program := "ytdjfoojllbfcgaagreat", sum := "5648997f9da3ef3b3e51cd357f2512e6339cf908c6d5fce82f21548524870427", func := "doorman/doormanlaw42.RuleAlone", spec := "ruleAlone", inPlace := ["slices.overlaps[doorman/api.Ban]"], unfollowed := true, recurses := true, plainKeys := false, apart := false, narrowed := true }
def RuleAloneUptoSaid : Prop := ruleAloneUptoRow.holds Tryz.pinned (OpenSpec.upto ruleAloneSpec)

/-- 'doormanlaw41.RingNext', WHERE WHAT IT READS IS OF BULK AT MOST 1048576: true; the input reads as it did. -/
def ringNextUptoRow : OpenClaim := { program := "ytdjfoojllbfcgaagreat", sum := "5648997f9da3ef3b3e51cd357f2512e6339cf908c6d5fce82f21548524870427", func := "doorman/doormanlaw41.RingNext", spec := "ringNext", inPlace := ["slices.overlaps[doorman/api.Entry]"], unfollowed := true, recurses := true, plainKeys := false, apart := false, narrowed := true }
def RingNextUptoSaid : Prop := ringNextUptoRow.holds Tryz.pinned (OpenSpec.upto ringNextSpec)

/-- 'doormanlaw41.RingAlone', WHERE WHAT IT READS IS OF BULK AT MOST 1048576: true; the input reads as it did. -/
def ringAloneUptoRow : OpenClaim := { program := "ytdjfoojllbfcgaagreat", sum := "5648997f9da3ef3b3e51cd357f2512e6339cf908c6d5fce82f21548524870427", func := "doorman/doormanlaw41.RingAlone", spec := "ringAlone", inPlace := ["slices.overlaps[doorman/api.Entry]"], unfollowed := true, recurses := true, plainKeys := false, apart := false, narrowed := true }
def RingAloneUptoSaid : Prop := ringAloneUptoRow.holds Tryz.pinned (OpenSpec.upto ringAloneSpec)

end Rows
end Go.Proofs.YtdjfoojllbfcgaaGreat
