/-
  No cell of these rows narrows 'for every input' (looked for: loops, veiled, ifaces, maps, wideKeys, modest, calm, conditions, laid).
  DERIVED. THE GIVEN ROWS OF THIS SEAT. 6 by the template 'for every input the law returns true; each argument reads behind the call as it read before'; 0 by the template 'total and deterministic' (their statements: YtocebogaopjkfaaTotals.lean).
  GIVEN WITH THE SEED: the statements are not yours to turn. If you find one false, say at which input.
  Laid BY PROGRAM, IN A SANDBOX (cutbox-rows.mjs): the forced cells as the released guide's own fill.sh prints them over the translation 080ad0f02e7a2ebc… (all of the seat's roots in one cut). By AI agents, Wed Nov 11 2026. No macro, syntax, notation, axiom, sorry.
-/
import Derived.Test.YtocebogaopjkfaaChecked
import GoSem.Claim
import GoSem.ClaimJoined
import GoSem.ClaimMapViews
import Derived.JoinedTies
import Derived.KernelRfl
namespace Go.Proofs.Ytocebogaopjkfaa
/- THE CELL 'sum', in the pinned program and in every row, IS THE sha256 OF THE DUMP (.gsa) THAT YtocebogaopjkfaaProg.lean LOADS. Nothing in Lean hashes anything: it is a label: what it is worth is what the hold of that sum in a sandbox is worth. -/
noncomputable def Try.pinned : Pinned := { name := "ytocebogaopjkfaa", sum := "080ad0f02e7a2ebc25d2c3ceccb4298773fa1fbffa7048d9abf495265fd8abd5", checked := Try.checked }
namespace Rows
def none {H : Type} : Left H := { results := [], args := [] }

/-- 'doormanlaw51.GateTells': WHATEVER THE INPUT: true; the input reads as it did. -/
def gateTellsSpec : ChangeSpec := { name := "gateTells", fn := fun _ => fun
  | [d1, d2] => { results := [.lit (.bool true)], args := [d1, d2] }
  | _ => none }
def gateTellsRow : OpenClaim := { program := "ytocebogaopjkfaa", sum := "080ad0f02e7a2ebc25d2c3ceccb4298773fa1fbffa7048d9abf495265fd8abd5", func := "doorman/doormanlaw51.GateTells", spec := "gateTells", plainKeys := false, apart := false }
def GateTellsSaid : Prop := gateTellsRow.holds Try.pinned (OpenSpec.ofChange gateTellsSpec)

/-- ITS FALSE NEIGHBOUR: 'it returns false'. Refute it at one input. -/
def gateTellsWrong : ChangeSpec := { name := "gateTells", fn := fun _ => fun
  | [d1, d2] => { results := [.lit (.bool false)], args := [d1, d2] }
  | _ => none }
def GateTellsWrongFalsely : Prop := gateTellsRow.holds Try.pinned (OpenSpec.ofChange gateTellsWrong)

/-- 'doormanlaw48.StuckTells': WHATEVER THE INPUT: true; the input reads as it did. -/
def stuckTellsSpec : ChangeSpec := { name := "stuckTells", fn := fun _ => fun
  | [d1, d2] => { results := [.lit (.bool true)], args := [d1, d2] }
  | _ => none }
def stuckTellsRow : OpenClaim := { program := "ytocebogaopjkfaa", sum := "080ad0f02e7a2ebc25d2c3ceccb4298773fa1fbffa7048d9abf495265fd8abd5", func := "doorman/doormanlaw48.StuckTells", spec := "stuckTells", unfollowed := true, recurses := true, plainKeys := false, apart := false }
def StuckTellsSaid : Prop := stuckTellsRow.holds Try.pinned (OpenSpec.ofChange stuckTellsSpec)

/-- ITS FALSE NEIGHBOUR: 'it returns false'. Refute it at one input. -/
def stuckTellsWrong : ChangeSpec := { name := "stuckTells", fn := fun _ => fun
  | [d1, d2] => { results := [.lit (.bool false)], args := [d1, d2] }
  | _ => none }
def StuckTellsWrongFalsely : Prop := stuckTellsRow.holds Try.pinned (OpenSpec.ofChange stuckTellsWrong)

/-- 'doormanlaw02.DecTells': WHATEVER THE INPUT: true; the input reads as it did. -/
def decTellsSpec : ChangeSpec := { name := "decTells", fn := fun _ => fun
  | [d1, d2, d3] => { results := [.lit (.bool true)], args := [d1, d2, d3] }
  | _ => none }
def decTellsRow : OpenClaim := { program := "ytocebogaopjkfaa", sum := "080ad0f02e7a2ebc25d2c3ceccb4298773fa1fbffa7048d9abf495265fd8abd5", func := "doorman/doormanlaw02.DecTells", spec := "decTells", recurses := true, plainKeys := false, apart := false }
def DecTellsSaid : Prop := decTellsRow.holds Try.pinned (OpenSpec.ofChange decTellsSpec)

/-- ITS FALSE NEIGHBOUR: 'it returns false'. Refute it at one input. -/
def decTellsWrong : ChangeSpec := { name := "decTells", fn := fun _ => fun
  | [d1, d2, d3] => { results := [.lit (.bool false)], args := [d1, d2, d3] }
  | _ => none }
def DecTellsWrongFalsely : Prop := decTellsRow.holds Try.pinned (OpenSpec.ofChange decTellsWrong)

/-- 'doormanlaw02.DecHex': WHATEVER THE INPUT: true; the input reads as it did. -/
def decHexSpec : ChangeSpec := { name := "decHex", fn := fun _ => fun
  | [d1, d2] => { results := [.lit (.bool true)], args := [d1, d2] }
  | _ => none }
def decHexRow : OpenClaim := { program := "ytocebogaopjkfaa", sum := "080ad0f02e7a2ebc25d2c3ceccb4298773fa1fbffa7048d9abf495265fd8abd5", func := "doorman/doormanlaw02.DecHex", spec := "decHex", recurses := true, plainKeys := false, apart := false }
def DecHexSaid : Prop := decHexRow.holds Try.pinned (OpenSpec.ofChange decHexSpec)

/-- ITS FALSE NEIGHBOUR: 'it returns false'. Refute it at one input. -/
def decHexWrong : ChangeSpec := { name := "decHex", fn := fun _ => fun
  | [d1, d2] => { results := [.lit (.bool false)], args := [d1, d2] }
  | _ => none }
def DecHexWrongFalsely : Prop := decHexRow.holds Try.pinned (OpenSpec.ofChange decHexWrong)

/-- 'doormanlaw02.DecBack': WHATEVER THE INPUT: true; the input reads as it did. -/
def decBackSpec : ChangeSpec := { name := "decBack", fn := fun _ => fun
  | [d1, d2, d3] => { results := [.lit (.bool true)], args := [d1, d2, d3] }
  | _ => none }
def decBackRow : OpenClaim := { program := "ytocebogaopjkfaa", sum := "080ad0f02e7a2ebc25d2c3ceccb4298773fa1fbffa7048d9abf495265fd8abd5", func := "doorman/doormanlaw02.DecBack", spec := "decBack", plainKeys := false, apart := false }
def DecBackSaid : Prop := decBackRow.holds Try.pinned (OpenSpec.ofChange decBackSpec)

/-- ITS FALSE NEIGHBOUR: 'it returns false'. Refute it at one input. -/
def decBackWrong : ChangeSpec := { name := "decBack", fn := fun _ => fun
  | [d1, d2, d3] => { results := [.lit (.bool false)], args := [d1, d2, d3] }
  | _ => none }
def DecBackWrongFalsely : Prop := decBackRow.holds Try.pinned (OpenSpec.ofChange decBackWrong)

/-- 'doormanlaw47.RaceTells': WHATEVER THE INPUT: true; the input reads as it did. -/
def raceTellsSpec : ChangeSpec := { name := "raceTells", fn := fun _ => fun
  | [d] => { results := [.lit (.bool true)], args := [d] }
  | _ => none }
def raceTellsRow : OpenClaim := { program := "ytocebogaopjkfaa", sum := "080ad0f02e7a2ebc25d2c3ceccb4298773fa1fbffa7048d9abf495265fd8abd5", func := "doorman/doormanlaw47.RaceTells", spec := "raceTells", plainKeys := false, apart := false }
def RaceTellsSaid : Prop := raceTellsRow.holds Try.pinned (OpenSpec.ofChange raceTellsSpec)

/-- ITS FALSE NEIGHBOUR: 'it returns false'. Refute it at one input. -/
def raceTellsWrong : ChangeSpec := { name := "raceTells", fn := fun _ => fun
  | [d] => { results := [.lit (.bool false)], args := [d] }
  | _ => none }
def RaceTellsWrongFalsely : Prop := raceTellsRow.holds Try.pinned (OpenSpec.ofChange raceTellsWrong)

/- THE SECOND FORM. 'bulk': how many values and letters a reading holds, each counted each time it is reached (what is shared counts as often as it is met; a slice's spare places count too). A statement '..UptoSaid' is the law's where the arguments, and the package variables that the reading takes, are together of bulk at most 1048576: NARROWER than '..Said'. Prove '..Said' where nothing that the law and all that it calls make is longer than what came in: it says more and counts as full. Else prove '..UptoSaid'. A law counts once. -/
mutual
def uptoBulk {H : Type} : DataW H → Nat
  | .lit (.string bytes) => bytes.length + 1
  | .lit _ => 1
  | .nil => 1
  | .ptr d => uptoBulk d + 1
  | .slice elems spare => uptoBulkAll elems + uptoBulkAll spare + 1
  | .agg parts => uptoBulkAll parts + 1
  | .iface _ d => uptoBulk d + 1
  | .map entries => uptoBulkEntries entries + 1
  | .held _ => 1
def uptoBulkAll {H : Type} : List (DataW H) → Nat
  | [] => 0
  | d :: r => uptoBulk d + uptoBulkAll r
def uptoBulkEntries {H : Type} : List (Lit × DataW H) → Nat
  | [] => 0
  | x :: r => uptoBulkEntry x + uptoBulkEntries r
def uptoBulkEntry {H : Type} : Lit × DataW H → Nat
  | (.string bytes, d) => bytes.length + uptoBulk d + 1
  | (_, d) => uptoBulk d + 1
 end
def uptoSmall : (H : Type) → List (DataW H) → Bool := fun _ ds => decide (uptoBulkAll ds ≤ 1048576)
def OpenSpec.upto (s : _root_.Go.ChangeSpec) : _root_.Go.OpenSpec := { _root_.Go.OpenSpec.ofChange s with cond := some uptoSmall }

/-- 'doormanlaw51.GateTells', WHERE WHAT IT READS IS OF BULK AT MOST 1048576: true; the input reads as it did. -/
def gateTellsUptoRow : OpenClaim := { program := "ytocebogaopjkfaa", sum := "080ad0f02e7a2ebc25d2c3ceccb4298773fa1fbffa7048d9abf495265fd8abd5", func := "doorman/doormanlaw51.GateTells", spec := "gateTells", plainKeys := false, apart := false, narrowed := true }
def GateTellsUptoSaid : Prop := gateTellsUptoRow.holds Try.pinned (OpenSpec.upto gateTellsSpec)

/-- 'doormanlaw48.StuckTells', WHERE WHAT IT READS IS OF BULK AT MOST 1048576: true; the input reads as it did. -/
def stuckTellsUptoRow : OpenClaim := { program := "ytocebogaopjkfaa", sum := "080ad0f02e7a2ebc25d2c3ceccb4298773fa1fbffa7048d9abf495265fd8abd5", func := "doorman/doormanlaw48.StuckTells", spec := "stuckTells", unfollowed := true, recurses := true, plainKeys := false, apart := false, narrowed := true }
def StuckTellsUptoSaid : Prop := stuckTellsUptoRow.holds Try.pinned (OpenSpec.upto stuckTellsSpec)

/-- 'doormanlaw02.DecTells', WHERE WHAT IT READS IS OF BULK AT MOST 1048576: true; the input reads as it did. -/
def decTellsUptoRow : OpenClaim := { program := "ytocebogaopjkfaa", sum := "080ad0f02e7a2ebc25d2c3ceccb4298773fa1fbffa7048d9abf495265fd8abd5", func := "doorman/doormanlaw02.DecTells", spec := "decTells", recurses := true, plainKeys := false, apart := false, narrowed := true }
def DecTellsUptoSaid : Prop := decTellsUptoRow.holds Try.pinned (OpenSpec.upto decTellsSpec)

/-- 'doormanlaw02.DecHex', WHERE WHAT IT READS IS OF BULK AT MOST 1048576: true; the input reads as it did. -/
def decHexUptoRow : OpenClaim := { program := "ytocebogaopjkfaa", sum := "080ad0f02e7a2ebc25d2c3ceccb4298773fa1fbffa7048d9abf495265fd8abd5", func := "doorman/doormanlaw02.DecHex", spec := "decHex", recurses := true, plainKeys := false, apart := false, narrowed := true }
def DecHexUptoSaid : Prop := decHexUptoRow.holds Try.pinned (OpenSpec.upto decHexSpec)

/-- 'doormanlaw02.DecBack', WHERE WHAT IT READS IS OF BULK AT MOST 1048576: true; the input reads as it did. -/
def decBackUptoRow : OpenClaim := { program := "ytocebogaopjkfaa", sum := "080ad0f02e7a2ebc25d2c3ceccb4298773fa1fbffa7048d9abf495265fd8abd5", func := "doorman/doormanlaw02.DecBack", spec := "decBack", plainKeys := false, apart := false, narrowed := true }
def DecBackUptoSaid : Prop := decBackUptoRow.holds Try.pinned (OpenSpec.upto decBackSpec)

/-- 'doormanlaw47.RaceTells', WHERE WHAT IT READS IS OF BULK AT MOST 1048576: true; the input reads as it did. -/
def raceTellsUptoRow : OpenClaim := { program := "ytocebogaopjkfaa", sum := "080ad0f02e7a2ebc25d2c3ceccb4298773fa1fbffa7048d9abf495265fd8abd5", func := "doorman/doormanlaw47.RaceTells", spec := "raceTells", plainKeys := false, apart := false, narrowed := true }
def RaceTellsUptoSaid : Prop := raceTellsUptoRow.holds Try.pinned (OpenSpec.upto raceTellsSpec)

end Rows
end Go.Proofs.Ytocebogaopjkfaa
