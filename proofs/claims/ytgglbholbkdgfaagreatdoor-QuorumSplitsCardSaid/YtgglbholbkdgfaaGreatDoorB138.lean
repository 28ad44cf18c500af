/- garnerlaw17: QuorumSplits' run by the kernel. -/
import Derived.Test.YtgglbholbkdgfaaGreatDoorK25
set_option linter.unusedVariables false
set_option linter.unusedSimpArgs false
namespace Go.Proofs.YtgglbholbkdgfaaGreatDoor
open Go.RowKit
set_option maxRecDepth 100000 in
theorem split_yes2 : splitB 0 2 20 9 = true := by decide +kernel
set_option maxRecDepth 100000 in
theorem split_yes3 : splitB 0 2 30 9 = true := by decide +kernel
end Go.Proofs.YtgglbholbkdgfaaGreatDoor
