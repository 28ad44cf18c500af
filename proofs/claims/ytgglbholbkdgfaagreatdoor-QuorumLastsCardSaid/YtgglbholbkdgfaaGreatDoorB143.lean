/- garnerlaw17: QuorumLasts' runs by the kernel (printed by gen141.py). -/
import Derived.Test.YtgglbholbkdgfaaGreatDoorK29
set_option linter.unusedVariables false
set_option linter.unusedSimpArgs false
namespace Go.Proofs.YtgglbholbkdgfaaGreatDoor
open Go.RowKit
set_option maxRecDepth 100000 in
theorem run3_5 : stageB 3 5 (ticksOf 5) (stT 3 tbl3 5) (stT 3 tbl3 6) = true := by decide +kernel
set_option maxRecDepth 100000 in
theorem run3_6 : stageB 3 6 (ticksOf 6) (stT 3 tbl3 6) (stT 3 tbl3 7) = true := by decide +kernel
set_option maxRecDepth 100000 in
theorem run3_7 : stageB 3 7 (ticksOf 7) (stT 3 tbl3 7) (stT 3 tbl3 8) = true := by decide +kernel
set_option maxRecDepth 100000 in
theorem run3_8 : stageB 3 8 (ticksOf 8) (stT 3 tbl3 8) (stT 3 tbl3 9) = true := by decide +kernel
set_option maxRecDepth 100000 in
theorem run3_9 : stageB 3 9 (ticksOf 9) (stT 3 tbl3 9) (stT 3 tbl3 10) = true := by decide +kernel
set_option maxRecDepth 100000 in
theorem run3_10 : stageB 3 10 (ticksOf 10) (stT 3 tbl3 10) (stT 3 tbl3 11) = true := by decide +kernel
set_option maxRecDepth 100000 in
theorem run3_11 : stageB 3 11 (ticksOf 11) (stT 3 tbl3 11) (stT 3 tbl3 12) = true := by decide +kernel
set_option maxRecDepth 100000 in
theorem run3_12 : stageE 3 12 (ticksOf 12) (stT 3 tbl3 12) = true := by decide +kernel
end Go.Proofs.YtgglbholbkdgfaaGreatDoor
