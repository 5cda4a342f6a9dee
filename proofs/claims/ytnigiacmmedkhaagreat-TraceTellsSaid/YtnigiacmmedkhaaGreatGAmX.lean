import Derived.Test.YtnigiacmmedkhaaGreatGAmY
import Derived.Lib.AppendZerosOnto
import Derived.Lib.Overlaps
import Derived.Laws.IdiomCopy
import Derived.Laws.Externs
import Derived.WalkKit
namespace Go.Proofs.YtnigiacmmedkhaaGreat
open Go.RowKit Go.Lib
set_option linter.unusedSimpArgs false
set_option linter.unusedVariables false
end Go.Proofs.YtnigiacmmedkhaaGreat
