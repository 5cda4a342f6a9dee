import Derived.Shelf.SlSortCmp.NoneTotal
import Derived.Test.YtmnloegcpaahcaaGreatCAmX
namespace Go.Proofs.YtmnloegcpaahcaaGreat
open Go.RowKit Go.Lib Go.Shelf Go.Sort
set_option linter.unusedSimpArgs false
set_option linter.unusedVariables false
end Go.Proofs.YtmnloegcpaahcaaGreat
