/- ClaimsOf, AreFair, TightSites: both packages say the same. -/
import Derived.Test.YtgcbdpehnonghaaA7
namespace Go.Proofs.Ytgcbdpehnonghaa
open Go.Vc
set_option maxRecDepth 100000
set_option linter.unusedSimpArgs false
set_option linter.unusedVariables false

end Go.Proofs.Ytgcbdpehnonghaa
