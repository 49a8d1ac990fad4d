import Derived.Test.Qxb6500275aGreatDoorXw6
import Derived.Test.Qxb6500275aGreatDoorKf
set_option maxRecDepth 1000000
set_option linter.unusedVariables false
namespace Go.Proofs.Qxb6500275aGreatDoor
open Go Go.RowKit
end Go.Proofs.Qxb6500275aGreatDoor
