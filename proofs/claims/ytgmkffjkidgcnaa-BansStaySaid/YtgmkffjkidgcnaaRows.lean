/-
  No cell of these rows narrows 'for every input' (looked for: loops, veiled, ifaces, maps, wideKeys, modest, calm, conditions, laid).
  DERIVED. THE GIVEN ROWS OF THIS SEAT. 12 by the template 'for every input the law returns true; each argument reads behind the call as it read before'; 0 by the template 'total and deterministic' (their statements: YtgmkffjkidgcnaaTotals.lean).
  GIVEN WITH THE SEED: the statements are not yours to turn. If you find one false, say at which input.
  Laid BY PROGRAM, IN A SANDBOX (cutbox-rows.mjs): the forced cells as the released guide's own fill.sh prints them over the translation 3924942cf58465a5… (all of the seat's roots in one cut). By AI agents, Wed Nov 11 2026. No macro, syntax, notation, axiom, sorry.
-/
import Derived.Test.YtgmkffjkidgcnaaChecked
import GoSem.Claim
import GoSem.ClaimJoined
import GoSem.ClaimMapViews
import Derived.JoinedTies
import Derived.KernelRfl
namespace Go.Proofs.Ytgmkffjkidgcnaa
/- THE CELL 'sum', in the pinned program and in every row, IS THE sha256 OF THE DUMP (.gsa) THAT YtgmkffjkidgcnaaProg.lean LOADS. Nothing in Lean hashes anything: it is a label: what it is worth is what the hold of that sum in a sandbox is worth. -/
noncomputable def Try.pinned : Pinned := { name := "ytgmkffjkidgcnaa", sum := "3924942cf58465a5f8cb729156496153b07fd3b5b635d4207f83d8cce0227b54", checked := Try.checked }
namespace Rows
def none {H : Type} : Left H := { results := [], args := [] }

/-- 'doormanlaw11.TriePlays': WHATEVER THE INPUT: true; the input reads as it did. -/
def triePlaysSpec : ChangeSpec := { name := "triePlays", fn := fun _ => fun
  | [d1, d2, d3] => { results := [.lit (.bool true)], args := [d1, d2, d3] }
  | _ => none }
def triePlaysRow : OpenClaim := { program := "ytgmkffjkidgcnaa", sum := "3924942cf58465a5f8cb729156496153b07fd3b5b635d4207f83d8cce0227b54", func := "doorman/doormanlaw11.TriePlays", spec := "triePlays", unfollowed := true, recurses := true, apart := false }
def TriePlaysSaid : Prop := triePlaysRow.holds Try.pinned (OpenSpec.ofChange triePlaysSpec)

/-- ITS FALSE NEIGHBOUR: 'it returns false'. Refute it at one input. -/
def triePlaysWrong : ChangeSpec := { name := "triePlays", fn := fun _ => fun
  | [d1, d2, d3] => { results := [.lit (.bool false)], args := [d1, d2, d3] }
  | _ => none }
def TriePlaysWrongFalsely : Prop := triePlaysRow.holds Try.pinned (OpenSpec.ofChange triePlaysWrong)

/-- 'doormanlaw11.TrieStays': WHATEVER THE INPUT: true; the input reads as it did. -/
def trieStaysSpec : ChangeSpec := { name := "trieStays", fn := fun _ => fun
  | [d1, d2] => { results := [.lit (.bool true)], args := [d1, d2] }
  | _ => none }
def trieStaysRow : OpenClaim := { program := "ytgmkffjkidgcnaa", sum := "3924942cf58465a5f8cb729156496153b07fd3b5b635d4207f83d8cce0227b54", func := "doorman/doormanlaw11.TrieStays", spec := "trieStays", unfollowed := true, recurses := true, apart := false }
def TrieStaysSaid : Prop := trieStaysRow.holds Try.pinned (OpenSpec.ofChange trieStaysSpec)

/-- ITS FALSE NEIGHBOUR: 'it returns false'. Refute it at one input. -/
def trieStaysWrong : ChangeSpec := { name := "trieStays", fn := fun _ => fun
  | [d1, d2] => { results := [.lit (.bool false)], args := [d1, d2] }
  | _ => none }
def TrieStaysWrongFalsely : Prop := trieStaysRow.holds Try.pinned (OpenSpec.ofChange trieStaysWrong)

/-- 'doormanlaw11.TrieForm': WHATEVER THE INPUT: true; the input reads as it did. -/
def trieFormSpec : ChangeSpec := { name := "trieForm", fn := fun _ => fun
  | [d1, d2] => { results := [.lit (.bool true)], args := [d1, d2] }
  | _ => none }
def trieFormRow : OpenClaim := { program := "ytgmkffjkidgcnaa", sum := "3924942cf58465a5f8cb729156496153b07fd3b5b635d4207f83d8cce0227b54", func := "doorman/doormanlaw11.TrieForm", spec := "trieForm", unfollowed := true, recurses := true, apart := false }
def TrieFormSaid : Prop := trieFormRow.holds Try.pinned (OpenSpec.ofChange trieFormSpec)

/-- ITS FALSE NEIGHBOUR: 'it returns false'. Refute it at one input. -/
def trieFormWrong : ChangeSpec := { name := "trieForm", fn := fun _ => fun
  | [d1, d2] => { results := [.lit (.bool false)], args := [d1, d2] }
  | _ => none }
def TrieFormWrongFalsely : Prop := trieFormRow.holds Try.pinned (OpenSpec.ofChange trieFormWrong)

/-- 'doormanlaw26.BookDowns': WHATEVER THE INPUT: true; the input reads as it did. -/
def bookDownsSpec : ChangeSpec := { name := "bookDowns", fn := fun _ => fun
  | [d1, d2] => { results := [.lit (.bool true)], args := [d1, d2] }
  | _ => none }
def bookDownsRow : OpenClaim := { program := "ytgmkffjkidgcnaa", sum := "3924942cf58465a5f8cb729156496153b07fd3b5b635d4207f83d8cce0227b54", func := "doorman/doormanlaw26.BookDowns", spec := "bookDowns", inPlace := ["slices.overlaps[doorman/api.Entry]"], unfollowed := true, recurses := true, apart := false }
def BookDownsSaid : Prop := bookDownsRow.holds Try.pinned (OpenSpec.ofChange bookDownsSpec)

/-- ITS FALSE NEIGHBOUR: 'it returns false'. Refute it at one input. -/
def bookDownsWrong : ChangeSpec := { name := "bookDowns", fn := fun _ => fun
  | [d1, d2] => { results := [.lit (.bool false)], args := [d1, d2] }
  | _ => none }
def BookDownsWrongFalsely : Prop := bookDownsRow.holds Try.pinned (OpenSpec.ofChange bookDownsWrong)

/-- 'doormanlaw26.BookTells': WHATEVER THE INPUT: true; the input reads as it did. -/
def bookTellsSpec : ChangeSpec := { name := "bookTells", fn := fun _ => fun
  | [d1, d2, d3] => { results := [.lit (.bool true)], args := [d1, d2, d3] }
  | _ => none }
def bookTellsRow : OpenClaim := { program := "ytgmkffjkidgcnaa", sum := "3924942cf58465a5f8cb729156496153b07fd3b5b635d4207f83d8cce0227b54", func := "doorman/doormanlaw26.BookTells", spec := "bookTells", inPlace := ["slices.overlaps[doorman/api.Entry]"], unfollowed := true, recurses := true, apart := false }
def BookTellsSaid : Prop := bookTellsRow.holds Try.pinned (OpenSpec.ofChange bookTellsSpec)

/-- ITS FALSE NEIGHBOUR: 'it returns false'. Refute it at one input. -/
def bookTellsWrong : ChangeSpec := { name := "bookTells", fn := fun _ => fun
  | [d1, d2, d3] => { results := [.lit (.bool false)], args := [d1, d2, d3] }
  | _ => none }
def BookTellsWrongFalsely : Prop := bookTellsRow.holds Try.pinned (OpenSpec.ofChange bookTellsWrong)

/-- 'doormanlaw26.BookStays': WHATEVER THE INPUT: true; the input reads as it did. -/
def bookStaysSpec : ChangeSpec := { name := "bookStays", fn := fun _ => fun
  | [d1, d2] => { results := [.lit (.bool true)], args := [d1, d2] }
  | _ => none }
def bookStaysRow : OpenClaim := { program := "ytgmkffjkidgcnaa", sum := "3924942cf58465a5f8cb729156496153b07fd3b5b635d4207f83d8cce0227b54", func := "doorman/doormanlaw26.BookStays", spec := "bookStays", inPlace := ["slices.overlaps[doorman/api.Entry]"], unfollowed := true, recurses := true, apart := false }
def BookStaysSaid : Prop := bookStaysRow.holds Try.pinned (OpenSpec.ofChange bookStaysSpec)

/-- ITS FALSE NEIGHBOUR: 'it returns false'. Refute it at one input. -/
def bookStaysWrong : ChangeSpec := { name := "bookStays", fn := fun _ => fun
  | [d1, d2] => { results := [.lit (.bool false)], args := [d1, d2] }
  | _ => none }
def BookStaysWrongFalsely : Prop := bookStaysRow.holds Try.pinned (OpenSpec.ofChange bookStaysWrong)

/-- 'doormanlaw13.BansUntil': WHATEVER THE INPUT: true; the input reads as it did. -/
def bansUntilSpec : ChangeSpec := { name := "bansUntil", fn := fun _ => fun
  | [d1, d2, d3] => { results := [.lit (.bool true)], args := [d1, d2, d3] }
  | _ => none }
def bansUntilRow : OpenClaim := { program := "ytgmkffjkidgcnaa", sum := "3924942cf58465a5f8cb729156496153b07fd3b5b635d4207f83d8cce0227b54", func := "doorman/doormanlaw13.BansUntil", spec := "bansUntil", inPlace := ["slices.overlaps[doorman/api.Ban]"], unfollowed := true, recurses := true, apart := false }
def BansUntilSaid : Prop := bansUntilRow.holds Try.pinned (OpenSpec.ofChange bansUntilSpec)

/-- ITS FALSE NEIGHBOUR: 'it returns false'. Refute it at one input. -/
def bansUntilWrong : ChangeSpec := { name := "bansUntil", fn := fun _ => fun
  | [d1, d2, d3] => { results := [.lit (.bool false)], args := [d1, d2, d3] }
  | _ => none }
def BansUntilWrongFalsely : Prop := bansUntilRow.holds Try.pinned (OpenSpec.ofChange bansUntilWrong)

/-- 'doormanlaw13.BansTells': WHATEVER THE INPUT: true; the input reads as it did. -/
def bansTellsSpec : ChangeSpec := { name := "bansTells", fn := fun _ => fun
  | [d1, d2, d3] => { results := [.lit (.bool true)], args := [d1, d2, d3] }
  | _ => none }
def bansTellsRow : OpenClaim := { program := "ytgmkffjkidgcnaa", sum := "3924942cf58465a5f8cb729156496153b07fd3b5b635d4207f83d8cce0227b54", func := "doorman/doormanlaw13.BansTells", spec := "bansTells", inPlace := ["slices.overlaps[doorman/api.Ban]"], unfollowed := true, recurses := true, apart := false }
def BansTellsSaid : Prop := bansTellsRow.holds Try.pinned (OpenSpec.ofChange bansTellsSpec)

/-- ITS FALSE NEIGHBOUR: 'it returns false'. Refute it at one input. -/
def bansTellsWrong : ChangeSpec := { name := "bansTells", fn := fun _ => fun
  | [d1, d2, d3] => { results := [.lit (.bool false)], args := [d1, d2, d3] }
  | _ => none }
def BansTellsWrongFalsely : Prop := bansTellsRow.holds Try.pinned (OpenSpec.ofChange bansTellsWrong)

/-- 'doormanlaw13.BansStay': WHATEVER THE INPUT: true; the input reads as it did. -/
def bansStaySpec : ChangeSpec := { name := "bansStay", fn := fun _ => fun
  | [d1, d2] => { results := [.lit (.bool true)], args := [d1, d2] }
  | _ => none }
def bansStayRow : OpenClaim := { program := "ytgmkffjkidgcnaa", sum := "3924942cf58465a5f8cb729156496153b07fd3b5b635d4207f83d8cce0227b54", func := "doorman/doormanlaw13.BansStay", spec := "bansStay", inPlace := ["slices.overlaps[doorman/api.Ban]"], unfollowed := true, recurses := true, apart := false }
def BansStaySaid : Prop := bansStayRow.holds Try.pinned (OpenSpec.ofChange bansStaySpec)

/-- ITS FALSE NEIGHBOUR: 'it returns false'. Refute it at one input. -/
def bansStayWrong : ChangeSpec := { name := "bansStay", fn := fun _ => fun
  | [d1, d2] => { results := [.lit (.bool false)], args := [d1, d2] }
  | _ => none }
def BansStayWrongFalsely : Prop := bansStayRow.holds Try.pinned (OpenSpec.ofChange bansStayWrong)

/-- 'doormanlaw27.SpreadTells': WHATEVER THE INPUT: true; the input reads as it did. -/
def spreadTellsSpec : ChangeSpec := { name := "spreadTells", fn := fun _ => fun
  | [d1, d2, d3] => { results := [.lit (.bool true)], args := [d1, d2, d3] }
  | _ => none }
def spreadTellsRow : OpenClaim := { program := "ytgmkffjkidgcnaa", sum := "3924942cf58465a5f8cb729156496153b07fd3b5b635d4207f83d8cce0227b54", func := "doorman/doormanlaw27.SpreadTells", spec := "spreadTells", unfollowed := true, recurses := true, apart := false }
def SpreadTellsSaid : Prop := spreadTellsRow.holds Try.pinned (OpenSpec.ofChange spreadTellsSpec)

/-- ITS FALSE NEIGHBOUR: 'it returns false'. Refute it at one input. -/
def spreadTellsWrong : ChangeSpec := { name := "spreadTells", fn := fun _ => fun
  | [d1, d2, d3] => { results := [.lit (.bool false)], args := [d1, d2, d3] }
  | _ => none }
def SpreadTellsWrongFalsely : Prop := spreadTellsRow.holds Try.pinned (OpenSpec.ofChange spreadTellsWrong)

/-- 'doormanlaw27.SpreadOnce': WHATEVER THE INPUT: true; the input reads as it did. -/
def spreadOnceSpec : ChangeSpec := { name := "spreadOnce", fn := fun _ => fun
  | [d] => { results := [.lit (.bool true)], args := [d] }
  | _ => none }
def spreadOnceRow : OpenClaim := { program := "ytgmkffjkidgcnaa", sum := "3924942cf58465a5f8cb729156496153b07fd3b5b635d4207f83d8cce0227b54", func := "doorman/doormanlaw27.SpreadOnce", spec := "spreadOnce", unfollowed := true, recurses := true, apart := false }
def SpreadOnceSaid : Prop := spreadOnceRow.holds Try.pinned (OpenSpec.ofChange spreadOnceSpec)

/-- ITS FALSE NEIGHBOUR: 'it returns false'. Refute it at one input. -/
def spreadOnceWrong : ChangeSpec := { name := "spreadOnce", fn := fun _ => fun
  | [d] => { results := [.lit (.bool false)], args := [d] }
  | _ => none }
def SpreadOnceWrongFalsely : Prop := spreadOnceRow.holds Try.pinned (OpenSpec.ofChange spreadOnceWrong)

/-- 'doormanlaw28.DialSound': WHATEVER THE INPUT: true; the input reads as it did. -/
def dialSoundSpec : ChangeSpec := { name := "dialSound", fn := fun _ => fun
  | [d1, d2] => { results := [.lit (.bool true)], args := [d1, d2] }
  | _ => none }
def dialSoundRow : OpenClaim := { program := "ytgmkffjkidgcnaa", sum := "3924942cf58465a5f8cb729156496153b07fd3b5b635d4207f83d8cce0227b54", func := "doorman/doormanlaw28.DialSound", spec := "dialSound", unfollowed := true, recurses := true, apart := false }
def DialSoundSaid : Prop := dialSoundRow.holds Try.pinned (OpenSpec.ofChange dialSoundSpec)

/-- ITS FALSE NEIGHBOUR: 'it returns false'. Refute it at one input. -/
def dialSoundWrong : ChangeSpec := { name := "dialSound", fn := fun _ => fun
  | [d1, d2] => { results := [.lit (.bool false)], args := [d1, d2] }
  | _ => none }
def DialSoundWrongFalsely : Prop := dialSoundRow.holds Try.pinned (OpenSpec.ofChange dialSoundWrong)

/- THE SECOND FORM. 'bulk': how many values and letters a reading holds, each counted each time it is reached (what is shared counts as often as it is met; a slice's spare places count too). A statement '..UptoSaid' is the law's where the arguments, and the package variables that the reading takes, are together of bulk at most 1048576: NARROWER than '..Said'. Prove '..Said' where nothing that the law and all that it calls make is longer than what came in: it says more and counts as full. Else prove '..UptoSaid'. A law counts once. -/
mutual
def uptoBulk {H : Type} : DataW H → Nat
  | .lit (.string bytes) => bytes.length + 1
  | .lit _ => 1
  | .nil => 1
  | .ptr d => uptoBulk d + 1
  | .slice elems spare => uptoBulkAll elems + uptoBulkAll spare + 1
  | .agg parts => uptoBulkAll parts + 1
  | .iface _ d => uptoBulk d + 1
  | .map entries => uptoBulkEntries entries + 1
  | .held _ => 1
def uptoBulkAll {H : Type} : List (DataW H) → Nat
  | [] => 0
  | d :: r => uptoBulk d + uptoBulkAll r
def uptoBulkEntries {H : Type} : List (Lit × DataW H) → Nat
  | [] => 0
  | x :: r => uptoBulkEntry x + uptoBulkEntries r
def uptoBulkEntry {H : Type} : Lit × DataW H → Nat
  | (.string bytes, d) => bytes.length + uptoBulk d + 1
  | (_, d) => uptoBulk d + 1
 end
def uptoSmall : (H : Type) → List (DataW H) → Bool := fun _ ds => decide (uptoBulkAll ds ≤ 1048576)
def OpenSpec.upto (s : _root_.Go.ChangeSpec) : _root_.Go.OpenSpec := { _root_.Go.OpenSpec.ofChange s with cond := some uptoSmall }

/-- 'doormanlaw11.TriePlays', WHERE WHAT IT READS IS OF BULK AT MOST 1048576: true; the input reads as it did. -/
def triePlaysUptoRow : OpenClaim := { program := "ytgmkffjkidgcnaa", sum := "3924942cf58465a5f8cb729156496153b07fd3b5b635d4207f83d8cce0227b54", func := "doorman/doormanlaw11.TriePlays", spec := "triePlays", unfollowed := true, recurses := true, apart := false, narrowed := true }
def TriePlaysUptoSaid : Prop := triePlaysUptoRow.holds Try.pinned (OpenSpec.upto triePlaysSpec)

/-- 'doormanlaw11.TrieStays', WHERE WHAT IT READS IS OF BULK AT MOST 1048576: true; the input reads as it did. -/
def trieStaysUptoRow : OpenClaim := { program := "ytgmkffjkidgcnaa", sum := "3924942cf58465a5f8cb729156496153b07fd3b5b635d4207f83d8cce0227b54", func := "doorman/doormanlaw11.TrieStays", spec := "trieStays", unfollowed := true, recurses := true, apart := false, narrowed := true }
def TrieStaysUptoSaid : Prop := trieStaysUptoRow.holds Try.pinned (OpenSpec.upto trieStaysSpec)

/-- 'doormanlaw11.TrieForm', WHERE WHAT IT READS IS OF BULK AT MOST 1048576: true; the input reads as it did. -/
def trieFormUptoRow : OpenClaim := { program := "ytgmkffjkidgcnaa", sum := "3924942cf58465a5f8cb729156496153b07fd3b5b635d4207f83d8cce0227b54", func := "doorman/doormanlaw11.TrieForm", spec := "trieForm", unfollowed := true, recurses := true, apart := false, narrowed := true }
def TrieFormUptoSaid : Prop := trieFormUptoRow.holds Try.pinned (OpenSpec.upto trieFormSpec)

/-- 'doormanlaw26.BookDowns', WHERE WHAT IT READS IS OF BULK AT MOST 1048576: true; the input reads as it did. -/
def bookDownsUptoRow : OpenClaim := { program := "ytgmkffjkidgcnaa", sum := "3924942cf58465a5f8cb729156496153b07fd3b5b635d4207f83d8cce0227b54", func := "doorman/doormanlaw26.BookDowns", spec := "bookDowns", inPlace := ["slices.overlaps[doorman/api.Entry]"], unfollowed := true, recurses := true, apart := false, narrowed := true }
def BookDownsUptoSaid : Prop := bookDownsUptoRow.holds Try.pinned (OpenSpec.upto bookDownsSpec)

/-- 'doormanlaw26.BookTells', WHERE WHAT IT READS IS OF BULK AT MOST 1048576: true; the input reads as it did. -/
def bookTellsUptoRow : OpenClaim := { program := "ytgmkffjkidgcnaa", sum := "3924942cf58465a5f8cb729156496153b07fd3b5b635d4207f83d8cce0227b54", func := "doorman/doormanlaw26.BookTells", spec := "bookTells", inPlace := ["slices.overlaps[doorman/api.Entry]"], unfollowed := true, recurses := true, apart := false, narrowed := true }
def BookTellsUptoSaid : Prop := bookTellsUptoRow.holds Try.pinned (OpenSpec.upto bookTellsSpec)

/-- 'doormanlaw26.BookStays', WHERE WHAT IT READS IS OF BULK AT MOST 1048576: true; the input reads as it did. -/
def bookStaysUptoRow : OpenClaim := { program := "ytgmkffjkidgcnaa", sum := "3924942cf58465a5f8cb729156496153b07fd3b5b635d4207f83d8cce0227b54", func := "doorman/doormanlaw26.BookStays", spec := "bookStays", inPlace := ["slices.overlaps[doorman/api.Entry]"], unfollowed := true, recurses := true, apart := false, narrowed := true }
def BookStaysUptoSaid : Prop := bookStaysUptoRow.holds Try.pinned (OpenSpec.upto bookStaysSpec)

/-- 'doormanlaw13.BansUntil', WHERE WHAT IT READS IS OF BULK AT MOST 1048576: true; the input reads as it did. -/
def bansUntilUptoRow : OpenClaim := { program := "ytgmkffjkidgcnaa", sum := "3924942cf58465a5f8cb729156496153b07fd3b5b635d4207f83d8cce0227b54", func := "doorman/doormanlaw13.BansUntil", spec := "bansUntil", inPlace := ["slices.overlaps[doorman/api.Ban]"], unfollowed := true, recurses := true, apart := false, narrowed := true }
def BansUntilUptoSaid : Prop := bansUntilUptoRow.holds Try.pinned (OpenSpec.upto bansUntilSpec)

/-- 'doormanlaw13.BansTells', WHERE WHAT IT READS IS OF BULK AT MOST 1048576: true; the input reads as it did. -/
def bansTellsUptoRow : OpenClaim := { program := "ytgmkffjkidgcnaa", sum := "3924942cf58465a5f8cb729156496153b07fd3b5b635d4207f83d8cce0227b54", func := "doorman/doormanlaw13.BansTells", spec := "bansTells", inPlace := ["slices.overlaps[doorman/api.Ban]"], unfollowed := true, recurses := true, apart := false, narrowed := true }
def BansTellsUptoSaid : Prop := bansTellsUptoRow.holds Try.pinned (OpenSpec.upto bansTellsSpec)

/-- 'doormanlaw13.BansStay', WHERE WHAT IT READS IS OF BULK AT MOST 1048576: true; the input reads as it did. -/
def bansStayUptoRow : OpenClaim := { program := "ytgmkffjkidgcnaa", sum := "3924942cf58465a5f8cb729156496153b07fd3b5b635d4207f83d8cce0227b54", func := "doorman/doormanlaw13.BansStay", spec := "bansStay", inPlace := ["slices.overlaps[doorman/api.Ban]"], unfollowed := true, recurses := true, apart := false, narrowed := true }
def BansStayUptoSaid : Prop := bansStayUptoRow.holds Try.pinned (OpenSpec.upto bansStaySpec)

/-- 'doormanlaw27.SpreadTells', WHERE WHAT IT READS IS OF BULK AT MOST 1048576: true; the input reads as it did. -/
def spreadTellsUptoRow : OpenClaim := { program := "ytgmkffjkidgcnaa", sum := "3924942cf58465a5f8cb729156496153b07fd3b5b635d4207f83d8cce0227b54", func := "doorman/doormanlaw27.SpreadTells", spec := "spreadTells", unfollowed := true, recurses := true, apart := false, narrowed := true }
def SpreadTellsUptoSaid : Prop := spreadTellsUptoRow.holds Try.pinned (OpenSpec.upto spreadTellsSpec)

/-- 'doormanlaw27.SpreadOnce', WHERE WHAT IT READS IS OF BULK AT MOST 1048576: true; the input reads as it did. -/
def spreadOnceUptoRow : OpenClaim := { program := "ytgmkffjkidgcnaa", sum := "3924942cf58465a5f8cb729156496153b07fd3b5b635d4207f83d8cce0227b54", func := "doorman/doormanlaw27.SpreadOnce", spec := "spreadOnce", unfollowed := true, recurses := true, apart := false, narrowed := true }
def SpreadOnceUptoSaid : Prop := spreadOnceUptoRow.holds Try.pinned (OpenSpec.upto spreadOnceSpec)

/-- 'doormanlaw28.DialSound', WHERE WHAT IT READS IS OF BULK AT MOST 1048576: true; the input reads as it did. -/
def dialSoundUptoRow : OpenClaim := { program := "ytgmkffjkidgcnaa", sum := "3924942cf58465a5f8cb729156496153b07fd3b5b635d4207f83d8cce0227b54", func := "doorman/doormanlaw28.DialSound", spec := "dialSound", unfollowed := true, recurses := true, apart := false, narrowed := true }
def DialSoundUptoSaid : Prop := dialSoundUptoRow.holds Try.pinned (OpenSpec.upto dialSoundSpec)

end Rows
end Go.Proofs.Ytgmkffjkidgcnaa
