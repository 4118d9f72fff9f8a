/- Whether a list is a ranking of its own length: what the program computes. -/
import Derived.Test.YtadacfammhianaaRank2
import Derived.Test.YtadacfammhianaaPlainPerm
namespace Go.Proofs.Ytadacfammhianaa
open Go.RowKit

end Go.Proofs.Ytadacfammhianaa
