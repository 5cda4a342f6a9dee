import Derived.Shelf.SlSortCmp.NoneTotal
import Derived.Test.YtmnloegcpaahcaaGreatProg
namespace Go.Proofs.YtmnloegcpaahcaaGreat
open Go.Shelf
end Go.Proofs.YtmnloegcpaahcaaGreat
