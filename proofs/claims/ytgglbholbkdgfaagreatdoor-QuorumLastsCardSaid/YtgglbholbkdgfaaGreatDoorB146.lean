/- garnerlaw17: QuorumLasts' runs by the kernel (printed by gen141.py). -/
import Derived.Test.YtgglbholbkdgfaaGreatDoorK29
set_option linter.unusedVariables false
set_option linter.unusedSimpArgs false
namespace Go.Proofs.YtgglbholbkdgfaaGreatDoor
open Go.RowKit
set_option maxRecDepth 100000 in
theorem run5_9 : stageB 5 9 (ticksOf 9) (stT 5 tbl5 9) (stT 5 tbl5 10) = true := by decide +kernel
set_option maxRecDepth 100000 in
theorem run5_10 : stageB 5 10 (ticksOf 10) (stT 5 tbl5 10) (stT 5 tbl5 11) = true := by decide +kernel
set_option maxRecDepth 100000 in
theorem run5_11 : stageB 5 11 (ticksOf 11) (stT 5 tbl5 11) (stT 5 tbl5 12) = true := by decide +kernel
set_option maxRecDepth 100000 in
theorem run5_12 : stageE 5 12 (ticksOf 12) (stT 5 tbl5 12) = true := by decide +kernel
end Go.Proofs.YtgglbholbkdgfaaGreatDoor
