/- garnerlaw17: a Step that comes in: nine cells. -/
import Derived.Test.YtgglbholbkdgfaaGreatDoorBL
import Derived.Deep.Strs
set_option linter.unusedVariables false
set_option linter.unusedSimpArgs false
namespace Go.Proofs.YtgglbholbkdgfaaGreatDoor
open Go.ChangeShapes Go.WideShapes Go.ChangeAt Go.RowKit
end Go.Proofs.YtgglbholbkdgfaaGreatDoor
