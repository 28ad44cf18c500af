/- garnerlaw17: QuorumLasts' runs by the kernel (printed by gen141.py). -/
import Derived.Test.YtgglbholbkdgfaaGreatDoorK29
set_option linter.unusedVariables false
set_option linter.unusedSimpArgs false
namespace Go.Proofs.YtgglbholbkdgfaaGreatDoor
open Go.RowKit
set_option maxRecDepth 100000 in
theorem run5_0 : stageB 5 0 (ticksOf 0) (stT 5 tbl5 0) (stT 5 tbl5 1) = true := by decide +kernel
set_option maxRecDepth 100000 in
theorem run5_1 : stageB 5 1 (ticksOf 1) (stT 5 tbl5 1) (stT 5 tbl5 2) = true := by decide +kernel
set_option maxRecDepth 100000 in
theorem run5_2 : stageB 5 2 (ticksOf 2) (stT 5 tbl5 2) (stT 5 tbl5 3) = true := by decide +kernel
set_option maxRecDepth 100000 in
theorem run5_3 : stageB 5 3 (ticksOf 3) (stT 5 tbl5 3) (stT 5 tbl5 4) = true := by decide +kernel
set_option maxRecDepth 100000 in
theorem run5_4 : stageB 5 4 (ticksOf 4) (stT 5 tbl5 4) (stT 5 tbl5 5) = true := by decide +kernel
end Go.Proofs.YtgglbholbkdgfaaGreatDoor
