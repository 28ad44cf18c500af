/- garnerlaw17: QuorumLasts' runs by the kernel (printed by gen141.py). -/
import Derived.Test.YtgglbholbkdgfaaGreatDoorK29
set_option linter.unusedVariables false
set_option linter.unusedSimpArgs false
namespace Go.Proofs.YtgglbholbkdgfaaGreatDoor
open Go.RowKit
set_option maxRecDepth 100000 in
theorem run5_5 : stageB 5 5 (ticksOf 5) (stT 5 tbl5 5) (stT 5 tbl5 6) = true := by decide +kernel
set_option maxRecDepth 100000 in
theorem run5_6 : stageB 5 6 (ticksOf 6) (stT 5 tbl5 6) (stT 5 tbl5 7) = true := by decide +kernel
set_option maxRecDepth 100000 in
theorem run5_7 : stageB 5 7 (ticksOf 7) (stT 5 tbl5 7) (stT 5 tbl5 8) = true := by decide +kernel
set_option maxRecDepth 100000 in
theorem run5_8 : stageB 5 8 (ticksOf 8) (stT 5 tbl5 8) (stT 5 tbl5 9) = true := by decide +kernel
end Go.Proofs.YtgglbholbkdgfaaGreatDoor
