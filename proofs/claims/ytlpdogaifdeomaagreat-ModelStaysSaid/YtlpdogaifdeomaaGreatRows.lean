/-
  No cell of these rows narrows 'for every input' (looked for: loops, veiled, ifaces, maps, wideKeys, modest, calm, conditions, laid).
  DERIVED. THE GIVEN ROWS OF THIS SEAT. 2 by the template 'for every input the law returns true; each argument reads behind the call as it read before'; 0 by the template 'total and deterministic' (their statements: YtlpdogaifdeomaaGreatTotals.lean).
  GIVEN WITH THE SEED: the statements are not yours to turn. If you find one false, say at which input.
  Laid BY PROGRAM, IN A SANDBOX (cutbox-rows.mjs): the forced cells as the released guide's own fill.sh prints them over the translation d8aafc4601394ae0… (all of the seat's roots in one cut). By AI agents, Wed Nov 11 2026. No macro, syntax, notation, axiom, sorry.
-/
import Derived.Test.YtlpdogaifdeomaaGreatChecked
import GoSem.Claim
import GoSem.ClaimJoined
import GoSem.ClaimMapViews
import Derived.JoinedTies
import Derived.KernelRfl
namespace Go.Proofs.YtlpdogaifdeomaaGreat
/- THE CELL 'sum', in the pinned program and in every row, IS THE sha256 OF THE DUMP (.gsa) THAT YtlpdogaifdeomaaGreatProg.lean LOADS. Nothing in Lean hashes anything: it is a label: what it is worth is what the hold of that sum in a sandbox is worth. -/
noncomputable def Tryz.pinned : Pinned := { name := "ytlpdogaifdeomaagreat", sum := "d8aafc4601394ae04110a31f12cb90e2a69115d66f6e046249a34ebf6ec9eb20", checked := Tryz.checked }
namespace Rows
def none {H : Type} : Left H := { results := [], args := [] }

/-- 'doormanlaw35.ModelStays': WHATEVER THE INPUT: true; the input reads as it did. -/
def modelStaysSpec : ChangeSpec := { name := "modelStays", fn := fun _ => fun
  | [d1, d2] => { results := [.lit (.bool true)], args := [d1, d2] }
  | _ => none }
def modelStaysRow : OpenClaim := { program := "ytlpdogaifdeomaagreat", sum := "d8aafc4601394ae04110a31f12cb90e2a69115d66f6e046249a34ebf6ec9eb20", func := "doorman/doormanlaw35.ModelStays", spec := "modelStays", inPlace := ["slices.overlaps[doorman/api.Peer]", "slices.overlaps[doorman/api.Ban]", "slices.overlaps[doorman/api.Entry]"], unfollowed := true, recurses := true, plainKeys := false, apart := false }
def ModelStaysSaid : Prop := modelStaysRow.holds Tryz.pinned (OpenSpec.ofChange modelStaysSpec)

/-- ITS FALSE NEIGHBOUR: 'it returns false'. Refute it at one input. -/
def modelStaysWrong : ChangeSpec := { name := "modelStays", fn := fun _ => fun
  | [d1, d2] => { results := [.lit (.bool false)], args := [d1, d2] }
  | _ => none }
def ModelStaysWrongFalsely : Prop := modelStaysRow.holds Tryz.pinned (OpenSpec.ofChange modelStaysWrong)

/-- 'doormanlaw35.ModelBans': WHATEVER THE INPUT: true; the input reads as it did. -/
def modelBansSpec : ChangeSpec := { name := "modelBans", fn := fun _ => fun
  | [d1, d2] => { results := [.lit (.bool true)], args := [d1, d2] }
  | _ => none }
def modelBansRow : OpenClaim := { program := "ytlpdogaifdeomaagreat", sum := "d8aafc4601394ae04110a31f12cb90e2a69115d66f6e046249a34ebf6ec9eb20", func := "doorman/doormanlaw35.ModelBans", spec := "modelBans", inPlace := ["slices.overlaps[doorman/api.Peer]", "slices.overlaps[doorman/api.Ban]", "slices.overlaps[doorman/api.Entry]"], unfollowed := true, recurses := true, plainKeys := false, apart := false }
def ModelBansSaid : Prop := modelBansRow.holds Tryz.pinned (OpenSpec.ofChange modelBansSpec)

/-- ITS FALSE NEIGHBOUR: 'it returns false'. Refute it at one input. -/
def modelBansWrong : ChangeSpec := { name := "modelBans", fn := fun _ => fun
  | [d1, d2] => { results := [.lit (.bool false)], args := [d1, d2] }
  | _ => none }
def ModelBansWrongFalsely : Prop := modelBansRow.holds Tryz.pinned (OpenSpec.ofChange modelBansWrong)

/- THE SECOND FORM. 'bulk': how many values and letters a reading holds, each counted each time it is reached (what is shared counts as often as it is met; a slice's spare places count too). A statement '..UptoSaid' is the law's where the arguments, and the package variables that the reading takes, are together of bulk at most 1048576: NARROWER than '..Said'. Prove '..Said' where nothing that the law and all that it calls make is longer than what came in: it says more and counts as full. Else prove '..UptoSaid'. A law counts once. -/
mutual
def uptoBulk {H : Type} : DataW H → Nat
  | .lit (.string bytes) => bytes.length + 1
  | .lit _ => 1
  | .nil => 1
  | .ptr d => uptoBulk d + 1
  | .slice elems spare => uptoBulkAll elems + uptoBulkAll spare + 1
  | .agg parts => uptoBulkAll parts + 1
  | .iface _ d => uptoBulk d + 1
  | .map entries => uptoBulkEntries entries + 1
  | .held _ => 1
def uptoBulkAll {H : Type} : List (DataW H) → Nat
  | [] => 0
  | d :: r => uptoBulk d + uptoBulkAll r
def uptoBulkEntries {H : Type} : List (Lit × DataW H) → Nat
  | [] => 0
  | x :: r => uptoBulkEntry x + uptoBulkEntries r
def uptoBulkEntry {H : Type} : Lit × DataW H → Nat
  | (.string bytes, d) => bytes.length + uptoBulk d + 1
  | (_, d) => uptoBulk d + 1
 end
def uptoSmall : (H : Type) → List (DataW H) → Bool := fun _ ds => decide (uptoBulkAll ds ≤ 1048576)
def OpenSpec.upto (s : _root_.Go.ChangeSpec) : _root_.Go.OpenSpec := { _root_.Go.OpenSpec.ofChange s with cond := some uptoSmall }

/-- 'doormanlaw35.ModelStays', WHERE WHAT IT READS IS OF BULK AT MOST 1048576: true; the input reads as it did. -/
def modelStaysUptoRow : OpenClaim := { program := "ytlpdogaifdeomaagreat", sum := "d8aafc4601394ae04110a31f12cb90e2a69115d66f6e046249a34ebf6ec9eb20", func := "doorman/doormanlaw35.ModelStays", spec := "modelStays", inPlace := ["slices.overlaps[doorman/api.Peer]", "slices.overlaps[doorman/api.Ban]", "slices.overlaps[doorman/api.Entry]"], unfollowed := true, recurses := true, plainKeys := false, apart := false, narrowed := true }
def ModelStaysUptoSaid : Prop := modelStaysUptoRow.holds Tryz.pinned (OpenSpec.upto modelStaysSpec)

/-- 'doormanlaw35.ModelBans', WHERE WHAT IT READS IS OF BULK AT MOST 1048576: true; the input reads as it did. -/
def modelBansUptoRow : OpenClaim := { program := "ytlpdogaifdeomaagreat", sum := "d8aafc4601394ae04110a31f12cb90e2a69115d66f6e046249a34ebf6ec9eb20", func := "doorman/doormanlaw35.ModelBans", spec := "modelBans", inPlace := ["slices.overlaps[doorman/api.Peer]", "slices.overlaps[doorman/api.Ban]", "slices.overlaps[doorman/api.Entry]"], unfollowed := true, recurses := true, plainKeys := false, apart := false, narrowed := true }
def ModelBansUptoSaid : Prop := modelBansUptoRow.holds Tryz.pinned (OpenSpec.upto modelBansSpec)

end Rows
end Go.Proofs.YtlpdogaifdeomaaGreat
