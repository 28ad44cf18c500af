/- garnerlaw17: QuorumFew's runs by the kernel. -/
import Derived.Test.YtgglbholbkdgfaaGreatDoorK25
set_option linter.unusedVariables false
set_option linter.unusedSimpArgs false
namespace Go.Proofs.YtgglbholbkdgfaaGreatDoor
open Go.RowKit
set_option maxRecDepth 100000 in
theorem few3 : fewB 3 0 = true := by decide +kernel
set_option maxRecDepth 100000 in
theorem few5 : fewB 5 0 = true := by decide +kernel
end Go.Proofs.YtgglbholbkdgfaaGreatDoor
