/- Whether a ranking is peaked on an axis: what the reference computes. -/
import Derived.Test.YtadacfammhianaaPeakS
namespace Go.Proofs.Ytadacfammhianaa
open Go.RowKit
end Go.Proofs.Ytadacfammhianaa
