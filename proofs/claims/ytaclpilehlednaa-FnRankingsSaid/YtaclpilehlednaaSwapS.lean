/- How many swaps part two rankings: the count, by the reference. -/
import Derived.Test.YtaclpilehlednaaPlainSwap
import Derived.Test.YtaclpilehlednaaRank2
namespace Go.Proofs.Ytaclpilehlednaa
open Go.RowKit
end Go.Proofs.Ytaclpilehlednaa
