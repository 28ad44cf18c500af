/- Joined texts: B62 B63 B64 B65. Each has its own head. -/
import Derived.Test.YtgglbholbkdgfaaGreatDoorK11
set_option linter.unusedVariables false
set_option linter.unusedSimpArgs false
namespace Go.Proofs.YtgglbholbkdgfaaGreatDoor
open Go.RowKit
end Go.Proofs.YtgglbholbkdgfaaGreatDoor
namespace Go.Proofs.YtgglbholbkdgfaaGreatDoor
open Go.RowKit
end Go.Proofs.YtgglbholbkdgfaaGreatDoor
namespace Go.Proofs.YtgglbholbkdgfaaGreatDoor
open Go.RowKit
/-- A node of five without entries. -/
def Bare (N : PNode) : Prop := N.id = 0 ∧ N.n = 5 ∧ N.log = []
theorem Bare.bytes {N : PNode} (h : Bare N) : N.bytes = 0 := by unfold PNode.bytes; rw [h.2.2]; rfl
end Go.Proofs.YtgglbholbkdgfaaGreatDoor
namespace Go.Proofs.YtgglbholbkdgfaaGreatDoor
open Go.RowKit
end Go.Proofs.YtgglbholbkdgfaaGreatDoor
