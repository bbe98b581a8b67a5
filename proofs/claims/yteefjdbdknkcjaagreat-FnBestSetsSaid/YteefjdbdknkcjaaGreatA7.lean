/- Claims, fair prices, tight sites: both packages say the same. -/
import Derived.Test.YteefjdbdknkcjaaGreatA6
import Derived.Test.YteefjdbdknkcjaaGreatPlF
namespace Go.Proofs.YteefjdbdknkcjaaGreat
open Go.Vc
set_option maxRecDepth 100000
set_option linter.unusedSimpArgs false
set_option linter.unusedVariables false

end Go.Proofs.YteefjdbdknkcjaaGreat
