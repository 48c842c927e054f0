/- DrawSpeedAllowed. -/
import Derived.Test.YtapafambhidlhaaDoorD4
namespace Go.Proofs.YtapafambhidlhaaDoor
open Go.ChangeShapes Go.WideShapes Go.ChangeAt Go.RowKit
set_option linter.unusedVariables false
set_option linter.unusedSimpArgs false

end Go.Proofs.YtapafambhidlhaaDoor
