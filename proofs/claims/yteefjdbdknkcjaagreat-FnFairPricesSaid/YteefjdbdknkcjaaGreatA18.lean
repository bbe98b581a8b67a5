/- Swaps of sites: both packages say the same. -/
import Derived.Test.YteefjdbdknkcjaaGreatA16
import Derived.Test.YteefjdbdknkcjaaGreatPlD
namespace Go.Proofs.YteefjdbdknkcjaaGreat
open Go.Vc
set_option maxRecDepth 100000
set_option linter.unusedSimpArgs false
set_option linter.unusedVariables false

end Go.Proofs.YteefjdbdknkcjaaGreat
