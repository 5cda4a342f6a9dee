/-
  No cell of these rows narrows 'for every input' (looked for: loops, veiled, ifaces, maps, wideKeys, modest, calm, conditions, laid).
  DERIVED. THE GIVEN ROWS OF THIS SEAT. 6 by the template 'for every input the law returns true; each argument reads behind the call as it read before'; 0 by the template 'total and deterministic' (their statements: YtnbkjjoodmmneaaTotals.lean).
  GIVEN WITH THE SEED: the statements are not yours to turn. If you find one false, say at which input.
  Laid BY PROGRAM, IN A SANDBOX (cutbox-rows.mjs): the forced cells as the released guide's own fill.sh prints them over the translation e14c0fbd9afa1c2f… (all of the seat's roots in one cut). By AI agents, Wed Nov 11 2026. No macro, syntax, notation, axiom, sorry.
-/
import Derived.Test.YtnbkjjoodmmneaaChecked
import GoSem.Claim
import GoSem.ClaimJoined
import GoSem.ClaimMapViews
import Derived.JoinedTies
import Derived.KernelRfl
namespace Go.Proofs.Ytnbkjjoodmmneaa
/- THE CELL 'sum', in the pinned program and in every row, IS THE sha256 OF THE DUMP (.gsa) THAT YtnbkjjoodmmneaaProg.lean LOADS. Nothing in Lean hashes anything: it is a label: what it is worth is what the hold of that sum in a sandbox is worth. -/
noncomputable def Try.pinned : Pinned := { name := "ytnbkjjoodmmneaa", sum := "e14c0fbd9afa1c2fb2975a22f06f495a55458fc7bb17f1bc89c9f717c74354c5", checked := Try.checked }
namespace Rows
def none {H : Type} : Left H := { results := [], args := [] }

/-- 'doormanlaw48.StuckTells': WHATEVER THE INPUT: true; the input reads as it did. -/
def stuckTellsSpec : ChangeSpec := { name := "stuckTells", fn := fun _ => fun
  | [d1, d2] => { results := [.lit (.bool true)], args := [d1, d2] }
  | _ => none }
def stuckTellsRow : OpenClaim := { program := "ytnbkjjoodmmneaa", sum := "e14c0fbd9afa1c2fb2975a22f06f495a55458fc7bb17f1bc89c9f717c74354c5", func := "doorman/doormanlaw48.StuckTells", spec := "stuckTells", unfollowed := true, recurses := true, plainKeys := false, apart := false }
def StuckTellsSaid : Prop := stuckTellsRow.holds Try.pinned (OpenSpec.ofChange stuckTellsSpec)

/-- ITS FALSE NEIGHBOUR: 'it returns false'. Refute it at one input. -/
def stuckTellsWrong : ChangeSpec := { name := "stuckTells", fn := fun _ => fun
  | [d1, d2] => { results := [.lit (.bool false)], args := [d1, d2] }
  | _ => none }
def StuckTellsWrongFalsely : Prop := stuckTellsRow.holds Try.pinned (OpenSpec.ofChange stuckTellsWrong)

/-- 'doormanlaw47.RaceTells': WHATEVER THE INPUT: true; the input reads as it did. -/
def raceTellsSpec : ChangeSpec := { name := "raceTells", fn := fun _ => fun
  | [d] => { results := [.lit (.bool true)], args := [d] }
  | _ => none }
def raceTellsRow : OpenClaim := { program := "ytnbkjjoodmmneaa", sum := "e14c0fbd9afa1c2fb2975a22f06f495a55458fc7bb17f1bc89c9f717c74354c5", func := "doorman/doormanlaw47.RaceTells", spec := "raceTells", plainKeys := false, apart := false }
def RaceTellsSaid : Prop := raceTellsRow.holds Try.pinned (OpenSpec.ofChange raceTellsSpec)

/-- ITS FALSE NEIGHBOUR: 'it returns false'. Refute it at one input. -/
def raceTellsWrong : ChangeSpec := { name := "raceTells", fn := fun _ => fun
  | [d] => { results := [.lit (.bool false)], args := [d] }
  | _ => none }
def RaceTellsWrongFalsely : Prop := raceTellsRow.holds Try.pinned (OpenSpec.ofChange raceTellsWrong)

/-- 'doormanlaw38.TapeDrills': WHATEVER THE INPUT: true; the input reads as it did. -/
def tapeDrillsSpec : ChangeSpec := { name := "tapeDrills", fn := fun _ => fun
  | [d1, d2] => { results := [.lit (.bool true)], args := [d1, d2] }
  | _ => none }
def tapeDrillsRow : OpenClaim := { program := "ytnbkjjoodmmneaa", sum := "e14c0fbd9afa1c2fb2975a22f06f495a55458fc7bb17f1bc89c9f717c74354c5", func := "doorman/doormanlaw38.TapeDrills", spec := "tapeDrills", unfollowed := true, recurses := true, plainKeys := false, apart := false }
def TapeDrillsSaid : Prop := tapeDrillsRow.holds Try.pinned (OpenSpec.ofChange tapeDrillsSpec)

/-- ITS FALSE NEIGHBOUR: 'it returns false'. Refute it at one input. -/
def tapeDrillsWrong : ChangeSpec := { name := "tapeDrills", fn := fun _ => fun
  | [d1, d2] => { results := [.lit (.bool false)], args := [d1, d2] }
  | _ => none }
def TapeDrillsWrongFalsely : Prop := tapeDrillsRow.holds Try.pinned (OpenSpec.ofChange tapeDrillsWrong)

/-- 'doormanlaw38.TapeAhead': WHATEVER THE INPUT: true; the input reads as it did. -/
def tapeAheadSpec : ChangeSpec := { name := "tapeAhead", fn := fun _ => fun
  | [d1, d2, d3] => { results := [.lit (.bool true)], args := [d1, d2, d3] }
  | _ => none }
def tapeAheadRow : OpenClaim := { program := "ytnbkjjoodmmneaa", sum := "e14c0fbd9afa1c2fb2975a22f06f495a55458fc7bb17f1bc89c9f717c74354c5", func := "doorman/doormanlaw38.TapeAhead", spec := "tapeAhead", unfollowed := true, recurses := true, plainKeys := false, apart := false }
def TapeAheadSaid : Prop := tapeAheadRow.holds Try.pinned (OpenSpec.ofChange tapeAheadSpec)

/-- ITS FALSE NEIGHBOUR: 'it returns false'. Refute it at one input. -/
def tapeAheadWrong : ChangeSpec := { name := "tapeAhead", fn := fun _ => fun
  | [d1, d2, d3] => { results := [.lit (.bool false)], args := [d1, d2, d3] }
  | _ => none }
def TapeAheadWrongFalsely : Prop := tapeAheadRow.holds Try.pinned (OpenSpec.ofChange tapeAheadWrong)

/-- 'doormanlaw38.TapeParts': WHATEVER THE INPUT: true; the input reads as it did. -/
def tapePartsSpec : ChangeSpec := { name := "tapeParts", fn := fun _ => fun
  | [d] => { results := [.lit (.bool true)], args := [d] }
  | _ => none }
def tapePartsRow : OpenClaim := { program := "ytnbkjjoodmmneaa", sum := "e14c0fbd9afa1c2fb2975a22f06f495a55458fc7bb17f1bc89c9f717c74354c5", func := "doorman/doormanlaw38.TapeParts", spec := "tapeParts", unfollowed := true, recurses := true, plainKeys := false, apart := false }
def TapePartsSaid : Prop := tapePartsRow.holds Try.pinned (OpenSpec.ofChange tapePartsSpec)

/-- ITS FALSE NEIGHBOUR: 'it returns false'. Refute it at one input. -/
def tapePartsWrong : ChangeSpec := { name := "tapeParts", fn := fun _ => fun
  | [d] => { results := [.lit (.bool false)], args := [d] }
  | _ => none }
def TapePartsWrongFalsely : Prop := tapePartsRow.holds Try.pinned (OpenSpec.ofChange tapePartsWrong)

/-- 'doormanlaw38.TapeCounts': WHATEVER THE INPUT: true; the input reads as it did. -/
def tapeCountsSpec : ChangeSpec := { name := "tapeCounts", fn := fun _ => fun
  | [d] => { results := [.lit (.bool true)], args := [d] }
  | _ => none }
def tapeCountsRow : OpenClaim := { program := "ytnbkjjoodmmneaa", sum := "e14c0fbd9afa1c2fb2975a22f06f495a55458fc7bb17f1bc89c9f717c74354c5", func := "doorman/doormanlaw38.TapeCounts", spec := "tapeCounts", unfollowed := true, recurses := true, plainKeys := false, apart := false }
def TapeCountsSaid : Prop := tapeCountsRow.holds Try.pinned (OpenSpec.ofChange tapeCountsSpec)

/-- ITS FALSE NEIGHBOUR: 'it returns false'. Refute it at one input. -/
def tapeCountsWrong : ChangeSpec := { name := "tapeCounts", fn := fun _ => fun
  | [d] => { results := [.lit (.bool false)], args := [d] }
  | _ => none }
def TapeCountsWrongFalsely : Prop := tapeCountsRow.holds Try.pinned (OpenSpec.ofChange tapeCountsWrong)

/- THE SECOND FORM. 'bulk': how many values and letters a reading holds, each counted each time it is reached (what is shared counts as often as it is met; a slice's spare places count too). A statement '..UptoSaid' is the law's where the arguments, and the package variables that the reading takes, are together of bulk at most 1048576: NARROWER than '..Said'. Prove '..Said' where nothing that the law and all that it calls make is longer than what came in: it says more and counts as full. Else prove '..UptoSaid'. A law counts once. -/
mutual
def uptoBulk {H : Type} : DataW H → Nat
  | .lit (.string bytes) => bytes.length + 1
  | .lit _ => 1
  | .nil => 1
  | .ptr d => uptoBulk d + 1
  | .slice elems spare => uptoBulkAll elems + uptoBulkAll spare + 1
  | .agg parts => uptoBulkAll parts + 1
  | .iface _ d => uptoBulk d + 1
  | .map entries => uptoBulkEntries entries + 1
  | .held _ => 1
def uptoBulkAll {H : Type} : List (DataW H) → Nat
  | [] => 0
  | d :: r => uptoBulk d + uptoBulkAll r
def uptoBulkEntries {H : Type} : List (Lit × DataW H) → Nat
  | [] => 0
  | x :: r => uptoBulkEntry x + uptoBulkEntries r
def uptoBulkEntry {H : Type} : Lit × DataW H → Nat
  | (.string bytes, d) => bytes.length + uptoBulk d + 1
  | (_, d) => uptoBulk d + 1
 end
def uptoSmall : (H : Type) → List (DataW H) → Bool := fun _ ds => decide (uptoBulkAll ds ≤ 1048576)
def OpenSpec.upto (s : _root_.Go.ChangeSpec) : _root_.Go.OpenSpec := { _root_.Go.OpenSpec.ofChange s with cond := some uptoSmall }

/-- 'doormanlaw48.StuckTells', WHERE WHAT IT READS IS OF BULK AT MOST 1048576: true; the input reads as it did. -/
def stuckTellsUptoRow : OpenClaim := { program := "ytnbkjjoodmmneaa", sum := "e14c0fbd9afa1c2fb2975a22f06f495a55458fc7bb17f1bc89c9f717c74354c5", func := "doorman/doormanlaw48.StuckTells", spec := "stuckTells", unfollowed := true, recurses := true, plainKeys := false, apart := false, narrowed := true }
def StuckTellsUptoSaid : Prop := stuckTellsUptoRow.holds Try.pinned (OpenSpec.upto stuckTellsSpec)

/-- 'doormanlaw47.RaceTells', WHERE WHAT IT READS IS OF BULK AT MOST 1048576: true; the input reads as it did. -/
def raceTellsUptoRow : OpenClaim := { program := "ytnbkjjoodmmneaa", sum := "e14c0fbd9afa1c2fb2975a22f06f495a55458fc7bb17f1bc89c9f717c74354c5", func := "doorman/doormanlaw47.RaceTells", spec := "raceTells", plainKeys := false, apart := false, narrowed := true }
def RaceTellsUptoSaid : Prop := raceTellsUptoRow.holds Try.pinned (OpenSpec.upto raceTellsSpec)

/-- 'doormanlaw38.TapeDrills', WHERE WHAT IT READS IS OF BULK AT MOST 1048576: true; the input reads as it did. -/
def tapeDrillsUptoRow : OpenClaim := { program := "ytnbkjjoodmmneaa", sum := "e14c0fbd9afa1c2fb2975a22f06f495a55458fc7bb17f1bc89c9f717c74354c5", func := "doorman/doormanlaw38.TapeDrills", spec := "tapeDrills", unfollowed := true, recurses := true, plainKeys := false, apart := false, narrowed := true }
def TapeDrillsUptoSaid : Prop := tapeDrillsUptoRow.holds Try.pinned (OpenSpec.upto tapeDrillsSpec)

/-- 'doormanlaw38.TapeAhead', WHERE WHAT IT READS IS OF BULK AT MOST 1048576: true; the input reads as it did. -/
def tapeAheadUptoRow : OpenClaim := { program := "ytnbkjjoodmmneaa", sum := "e14c0fbd9afa1c2fb2975a22f06f495a55458fc7bb17f1bc89c9f717c74354c5", func := "doorman/doormanlaw38.TapeAhead", spec := "tapeAhead", unfollowed := true, recurses := true, plainKeys := false, apart := false, narrowed := true }
def TapeAheadUptoSaid : Prop := tapeAheadUptoRow.holds Try.pinned (OpenSpec.upto tapeAheadSpec)

/-- 'doormanlaw38.TapeParts', WHERE WHAT IT READS IS OF BULK AT MOST 1048576: true; the input reads as it did. -/
def tapePartsUptoRow : OpenClaim := { program := "ytnbkjjoodmmneaa", sum := "e14c0fbd9afa1c2fb2975a22f06f495a55458fc7bb17f1bc89c9f717c74354c5", func := "doorman/doormanlaw38.TapeParts", spec := "tapeParts", unfollowed := true, recurses := true, plainKeys := false, apart := false, narrowed := true }
def TapePartsUptoSaid : Prop := tapePartsUptoRow.holds Try.pinned (OpenSpec.upto tapePartsSpec)

/-- 'doormanlaw38.TapeCounts', WHERE WHAT IT READS IS OF BULK AT MOST 1048576: true; the input reads as it did. -/
def tapeCountsUptoRow : OpenClaim := { program := "ytnbkjjoodmmneaa", sum := "e14c0fbd9afa1c2fb2975a22f06f495a55458fc7bb17f1bc89c9f717c74354c5", func := "doorman/doormanlaw38.TapeCounts", spec := "tapeCounts", unfollowed := true, recurses := true, plainKeys := false, apart := false, narrowed := true }
def TapeCountsUptoSaid : Prop := tapeCountsUptoRow.holds Try.pinned (OpenSpec.upto tapeCountsSpec)

end Rows
end Go.Proofs.Ytnbkjjoodmmneaa
