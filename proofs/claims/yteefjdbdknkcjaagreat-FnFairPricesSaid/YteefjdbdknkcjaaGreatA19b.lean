/- What a median asks of its arguments: both packages say the same. -/
import Derived.Test.YteefjdbdknkcjaaGreatA9
import Derived.Test.YteefjdbdknkcjaaGreatPlD
namespace Go.Proofs.YteefjdbdknkcjaaGreat
open Go.Vc
set_option maxRecDepth 100000
set_option linter.unusedSimpArgs false
set_option linter.unusedVariables false

end Go.Proofs.YteefjdbdknkcjaaGreat
