/- garnerlaw17: QuorumLasts' runs by the kernel (printed by gen141.py). -/
import Derived.Test.YtgglbholbkdgfaaGreatDoorK29
set_option linter.unusedVariables false
set_option linter.unusedSimpArgs false
namespace Go.Proofs.YtgglbholbkdgfaaGreatDoor
open Go.RowKit
set_option maxRecDepth 100000 in
theorem run1_0 : stageB 1 0 (ticksOf 0) (stT 1 tbl1 0) (stT 1 tbl1 1) = true := by decide +kernel
set_option maxRecDepth 100000 in
theorem run1_1 : stageB 1 1 (ticksOf 1) (stT 1 tbl1 1) (stT 1 tbl1 2) = true := by decide +kernel
set_option maxRecDepth 100000 in
theorem run1_2 : stageB 1 2 (ticksOf 2) (stT 1 tbl1 2) (stT 1 tbl1 3) = true := by decide +kernel
set_option maxRecDepth 100000 in
theorem run1_3 : stageB 1 3 (ticksOf 3) (stT 1 tbl1 3) (stT 1 tbl1 4) = true := by decide +kernel
set_option maxRecDepth 100000 in
theorem run1_4 : stageB 1 4 (ticksOf 4) (stT 1 tbl1 4) (stT 1 tbl1 5) = true := by decide +kernel
set_option maxRecDepth 100000 in
theorem run1_5 : stageB 1 5 (ticksOf 5) (stT 1 tbl1 5) (stT 1 tbl1 6) = true := by decide +kernel
set_option maxRecDepth 100000 in
theorem run1_6 : stageB 1 6 (ticksOf 6) (stT 1 tbl1 6) (stT 1 tbl1 7) = true := by decide +kernel
set_option maxRecDepth 100000 in
theorem run1_7 : stageB 1 7 (ticksOf 7) (stT 1 tbl1 7) (stT 1 tbl1 8) = true := by decide +kernel
set_option maxRecDepth 100000 in
theorem run1_8 : stageB 1 8 (ticksOf 8) (stT 1 tbl1 8) (stT 1 tbl1 9) = true := by decide +kernel
set_option maxRecDepth 100000 in
theorem run1_9 : stageB 1 9 (ticksOf 9) (stT 1 tbl1 9) (stT 1 tbl1 10) = true := by decide +kernel
set_option maxRecDepth 100000 in
theorem run1_10 : stageB 1 10 (ticksOf 10) (stT 1 tbl1 10) (stT 1 tbl1 11) = true := by decide +kernel
set_option maxRecDepth 100000 in
theorem run1_11 : stageB 1 11 (ticksOf 11) (stT 1 tbl1 11) (stT 1 tbl1 12) = true := by decide +kernel
set_option maxRecDepth 100000 in
theorem run1_12 : stageE 1 12 (ticksOf 12) (stT 1 tbl1 12) = true := by decide +kernel
set_option maxRecDepth 100000 in
theorem run3_0 : stageB 3 0 (ticksOf 0) (stT 3 tbl3 0) (stT 3 tbl3 1) = true := by decide +kernel
set_option maxRecDepth 100000 in
theorem run3_1 : stageB 3 1 (ticksOf 1) (stT 3 tbl3 1) (stT 3 tbl3 2) = true := by decide +kernel
set_option maxRecDepth 100000 in
theorem run3_2 : stageB 3 2 (ticksOf 2) (stT 3 tbl3 2) (stT 3 tbl3 3) = true := by decide +kernel
set_option maxRecDepth 100000 in
theorem run3_3 : stageB 3 3 (ticksOf 3) (stT 3 tbl3 3) (stT 3 tbl3 4) = true := by decide +kernel
set_option maxRecDepth 100000 in
theorem run3_4 : stageB 3 4 (ticksOf 4) (stT 3 tbl3 4) (stT 3 tbl3 5) = true := by decide +kernel
end Go.Proofs.YtgglbholbkdgfaaGreatDoor
