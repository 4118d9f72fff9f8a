/- How many swaps part two rankings: what the reference computes. -/
import Derived.Test.YtaclpilehlednaaSwapS
namespace Go.Proofs.Ytaclpilehlednaa
open Go.RowKit
end Go.Proofs.Ytaclpilehlednaa
