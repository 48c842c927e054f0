/- DrawSpeedAllowed. -/
import Derived.Test.YthemojobalcopaaGreatDoorD4
namespace Go.Proofs.YthemojobalcopaaGreatDoor
open Go.ChangeShapes Go.WideShapes Go.ChangeAt Go.RowKit
set_option linter.unusedVariables false
set_option linter.unusedSimpArgs false

end Go.Proofs.YthemojobalcopaaGreatDoor
