/- Contracts of CommonRanges of the reference. No conditions. -/
import Derived.Test.YtaackmiodkpnoaaDoorRngF
import Derived.Deep.RegionHeld3
namespace Go.Proofs.YtaackmiodkpnoaaDoor
open Go.ChangeShapes Go.WideShapes Go.ChangeAt Go.RowKit Go.Sort RM
set_option linter.unusedVariables false
end Go.Proofs.YtaackmiodkpnoaaDoor
