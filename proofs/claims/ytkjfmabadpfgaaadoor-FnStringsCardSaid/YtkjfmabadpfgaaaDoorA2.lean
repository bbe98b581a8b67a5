/- The law package's helpers keep their contracts: sizes, copies, comparisons, marks. -/
import Derived.Test.YtkjfmabadpfgaaaDoorTy
import Derived.Test.YtkjfmabadpfgaaaDoorPl
namespace Go.Proofs.YtkjfmabadpfgaaaDoor
open Go.Vc
set_option maxRecDepth 100000
set_option linter.unusedSimpArgs false
set_option linter.unusedVariables false


end Go.Proofs.YtkjfmabadpfgaaaDoor
