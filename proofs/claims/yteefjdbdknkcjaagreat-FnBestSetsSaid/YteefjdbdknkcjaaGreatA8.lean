/- ClaimsOf, AreFair, TightSites: both packages say the same. -/
import Derived.Test.YteefjdbdknkcjaaGreatA7
namespace Go.Proofs.YteefjdbdknkcjaaGreat
open Go.Vc
set_option maxRecDepth 100000
set_option linter.unusedSimpArgs false
set_option linter.unusedVariables false

end Go.Proofs.YteefjdbdknkcjaaGreat
