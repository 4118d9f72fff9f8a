/- Profiles that are copied vote by vote: what the program's and the reference's functions compute. -/
import Derived.Test.YtaclpilehlednaaStepV
import Derived.Test.YtaclpilehlednaaPlainV
import Derived.Test.YtaclpilehlednaaRev
namespace Go.Proofs.Ytaclpilehlednaa
open Go.RowKit
set_option maxRecDepth 100000

end Go.Proofs.Ytaclpilehlednaa
