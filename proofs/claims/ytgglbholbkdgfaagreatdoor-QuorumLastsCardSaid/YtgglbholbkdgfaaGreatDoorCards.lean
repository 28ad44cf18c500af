/-
  DERIVED. GIVEN WITH THE SEED: THE CARDS: each row of YtgglbholbkdgfaaGreatDoorRows.lean that lists a variable, with what it lists TIED to the program's text (the seventh form; the later family's looks); each row that meets fmt, with fmt's text TOLD by the authors' own Lean function (tested against real Go, not proved from fmt's source: count such statements apart). THE CARD IS WHAT COUNTS. Prove the row's statement (the work); the ties are given (YtgglbholbkdgfaaGreatDoorTie.lean); close each card by the builder's one call (the guide's Derived/Test/ToyasCard.lean, 'card_holds'). Laid BY PROGRAM, IN A SANDBOX (cutbox-door.mjs). By AI agents, Wed Nov 11 2026. No macro, syntax, notation, axiom, sorry.
-/
import Derived.Test.YtgglbholbkdgfaaGreatDoorRows
import GoSem.ClaimSeven
namespace Go.Proofs.YtgglbholbkdgfaaGreatDoor
namespace Rows

/-- THE TIED CARD OF 'garnerlaw16.RaftWaits'. -/
def raftWaitsCard : Claim7 := { stood := { row := raftWaitsRow, standIns := [], harness := (true, "2e7b50270fc83d92a8690a3860086bd921614e57363d22d11365f8a858094a00"), looks := false }, kinds := [], alts := [], laidByText := true, laidKinds := [.data, .data, .data], laidTests := true, laidLooks := .later }
def RaftWaitsCardSaid : Prop := Claim7.holds Tryz.pinned (.plain (OpenSpec.ofChange raftWaitsSpec)) raftWaitsCard

/-- THE TIED CARD OF 'garnerlaw16.RaftOld'. -/
def raftOldCard : Claim7 := { stood := { row := raftOldRow, standIns := [], harness := (true, "2e7b50270fc83d92a8690a3860086bd921614e57363d22d11365f8a858094a00"), looks := false }, kinds := [], alts := [], laidByText := true, laidKinds := [.data, .data, .data], laidTests := true, laidLooks := .later }
def RaftOldCardSaid : Prop := Claim7.holds Tryz.pinned (.plain (OpenSpec.ofChange raftOldSpec)) raftOldCard

/-- THE TIED CARD OF 'garnerlaw16.RaftVotes'. -/
def raftVotesCard : Claim7 := { stood := { row := raftVotesRow, standIns := [], harness := (true, "2e7b50270fc83d92a8690a3860086bd921614e57363d22d11365f8a858094a00"), looks := false }, kinds := [], alts := [], laidByText := true, laidKinds := [.data, .data, .data], laidTests := true, laidLooks := .later }
def RaftVotesCardSaid : Prop := Claim7.holds Tryz.pinned (.plain (OpenSpec.ofChange raftVotesSpec)) raftVotesCard

/-- THE TIED CARD OF 'garnerlaw16.RaftKeeps'. -/
def raftKeepsCard : Claim7 := { stood := { row := raftKeepsRow, standIns := [], harness := (true, "2e7b50270fc83d92a8690a3860086bd921614e57363d22d11365f8a858094a00"), looks := false }, kinds := [], alts := [], laidByText := true, laidKinds := [.data, .data, .data], laidTests := true, laidLooks := .later }
def RaftKeepsCardSaid : Prop := Claim7.holds Tryz.pinned (.plain (OpenSpec.ofChange raftKeepsSpec)) raftKeepsCard

/-- THE TIED CARD OF 'garnerlaw16.RaftOfNothing'. -/
def raftOfNothingCard : Claim7 := { stood := { row := raftOfNothingRow, standIns := [], harness := (true, "2e7b50270fc83d92a8690a3860086bd921614e57363d22d11365f8a858094a00"), looks := false }, kinds := [], alts := [], laidByText := true, laidKinds := [.data, .data, .data], laidTests := true, laidLooks := .later }
def RaftOfNothingCardSaid : Prop := Claim7.holds Tryz.pinned (.plain (OpenSpec.ofChange raftOfNothingSpec)) raftOfNothingCard

/-- THE TIED CARD OF 'garnerlaw17.QuorumAgrees'. -/
def quorumAgreesCard : Claim7 := { stood := { row := quorumAgreesRow, standIns := [], harness := (true, "2e7b50270fc83d92a8690a3860086bd921614e57363d22d11365f8a858094a00"), looks := false }, kinds := [], alts := [], laidByText := true, laidKinds := [.data, .data, .data], laidTests := true, laidLooks := .later }
def QuorumAgreesCardSaid : Prop := Claim7.holds Tryz.pinned (.plain (OpenSpec.ofChange quorumAgreesSpec)) quorumAgreesCard

/-- THE TIED CARD OF 'garnerlaw17.QuorumGoesOn'. -/
def quorumGoesOnCard : Claim7 := { stood := { row := quorumGoesOnRow, standIns := [], harness := (true, "2e7b50270fc83d92a8690a3860086bd921614e57363d22d11365f8a858094a00"), looks := false }, kinds := [], alts := [], laidByText := true, laidKinds := [.data, .data, .data], laidTests := true, laidLooks := .later }
def QuorumGoesOnCardSaid : Prop := Claim7.holds Tryz.pinned (.plain (OpenSpec.ofChange quorumGoesOnSpec)) quorumGoesOnCard

/-- THE TIED CARD OF 'garnerlaw17.QuorumFew'. -/
def quorumFewCard : Claim7 := { stood := { row := quorumFewRow, standIns := [], harness := (true, "2e7b50270fc83d92a8690a3860086bd921614e57363d22d11365f8a858094a00"), looks := false }, kinds := [], alts := [], laidByText := true, laidKinds := [.data, .data, .data], laidTests := true, laidLooks := .later }
def QuorumFewCardSaid : Prop := Claim7.holds Tryz.pinned (.plain (OpenSpec.ofChange quorumFewSpec)) quorumFewCard

/-- THE TIED CARD OF 'garnerlaw17.QuorumLasts'. -/
def quorumLastsCard : Claim7 := { stood := { row := quorumLastsRow, standIns := [], harness := (true, "2e7b50270fc83d92a8690a3860086bd921614e57363d22d11365f8a858094a00"), looks := false }, kinds := [], alts := [], laidByText := true, laidKinds := [.data, .data, .data], laidTests := true, laidLooks := .later }
def QuorumLastsCardSaid : Prop := Claim7.holds Tryz.pinned (.plain (OpenSpec.ofChange quorumLastsSpec)) quorumLastsCard

/-- THE TIED CARD OF 'garnerlaw17.QuorumSplits'. -/
def quorumSplitsCard : Claim7 := { stood := { row := quorumSplitsRow, standIns := [], harness := (true, "2e7b50270fc83d92a8690a3860086bd921614e57363d22d11365f8a858094a00"), looks := false }, kinds := [], alts := [], laidByText := true, laidKinds := [.data, .data, .data], laidTests := true, laidLooks := .later }
def QuorumSplitsCardSaid : Prop := Claim7.holds Tryz.pinned (.plain (OpenSpec.ofChange quorumSplitsSpec)) quorumSplitsCard

/-- THE TIED CARD OF 'garnerlaw17.QuorumOfNothing'. -/
def quorumOfNothingCard : Claim7 := { stood := { row := quorumOfNothingRow, standIns := [], harness := (true, "2e7b50270fc83d92a8690a3860086bd921614e57363d22d11365f8a858094a00"), looks := false }, kinds := [], alts := [], laidByText := true, laidKinds := [.data, .data, .data], laidTests := true, laidLooks := .later }
def QuorumOfNothingCardSaid : Prop := Claim7.holds Tryz.pinned (.plain (OpenSpec.ofChange quorumOfNothingSpec)) quorumOfNothingCard

/-- THE SECOND FORM's CARD OF 'garnerlaw16.RaftWaits'. -/
def raftWaitsUptoCard : Claim7 := { stood := { row := raftWaitsUptoRow, standIns := [], harness := (true, "2e7b50270fc83d92a8690a3860086bd921614e57363d22d11365f8a858094a00"), looks := false }, kinds := [], alts := [], laidByText := true, laidKinds := [.data, .data, .data], laidTests := true, laidLooks := .later }
def RaftWaitsUptoCardSaid : Prop := Claim7.holds Tryz.pinned (.plain (OpenSpec.upto raftWaitsSpec)) raftWaitsUptoCard

/-- THE SECOND FORM's CARD OF 'garnerlaw16.RaftOld'. -/
def raftOldUptoCard : Claim7 := { stood := { row := raftOldUptoRow, standIns := [], harness := (true, "2e7b50270fc83d92a8690a3860086bd921614e57363d22d11365f8a858094a00"), looks := false }, kinds := [], alts := [], laidByText := true, laidKinds := [.data, .data, .data], laidTests := true, laidLooks := .later }
def RaftOldUptoCardSaid : Prop := Claim7.holds Tryz.pinned (.plain (OpenSpec.upto raftOldSpec)) raftOldUptoCard

/-- THE SECOND FORM's CARD OF 'garnerlaw16.RaftVotes'. -/
def raftVotesUptoCard : Claim7 := { stood := { row := raftVotesUptoRow, standIns := [], harness := (true, "2e7b50270fc83d92a8690a3860086bd921614e57363d22d11365f8a858094a00"), looks := false }, kinds := [], alts := [], laidByText := true, laidKinds := [.data, .data, .data], laidTests := true, laidLooks := .later }
def RaftVotesUptoCardSaid : Prop := Claim7.holds Tryz.pinned (.plain (OpenSpec.upto raftVotesSpec)) raftVotesUptoCard

/-- THE SECOND FORM's CARD OF 'garnerlaw16.RaftKeeps'. -/
def raftKeepsUptoCard : Claim7 := { stood := { row := raftKeepsUptoRow, standIns := [], harness := (true, "2e7b50270fc83d92a8690a3860086bd921614e57363d22d11365f8a858094a00"), looks := false }, kinds := [], alts := [], laidByText := true, laidKinds := [.data, .data, .data], laidTests := true, laidLooks := .later }
def RaftKeepsUptoCardSaid : Prop := Claim7.holds Tryz.pinned (.plain (OpenSpec.upto raftKeepsSpec)) raftKeepsUptoCard

/-- THE SECOND FORM's CARD OF 'garnerlaw16.RaftOfNothing'. -/
def raftOfNothingUptoCard : Claim7 := { stood := { row := raftOfNothingUptoRow, standIns := [], harness := (true, "2e7b50270fc83d92a8690a3860086bd921614e57363d22d11365f8a858094a00"), looks := false }, kinds := [], alts := [], laidByText := true, laidKinds := [.data, .data, .data], laidTests := true, laidLooks := .later }
def RaftOfNothingUptoCardSaid : Prop := Claim7.holds Tryz.pinned (.plain (OpenSpec.upto raftOfNothingSpec)) raftOfNothingUptoCard

/-- THE SECOND FORM's CARD OF 'garnerlaw17.QuorumAgrees'. -/
def quorumAgreesUptoCard : Claim7 := { stood := { row := quorumAgreesUptoRow, standIns := [], harness := (true, "2e7b50270fc83d92a8690a3860086bd921614e57363d22d11365f8a858094a00"), looks := false }, kinds := [], alts := [], laidByText := true, laidKinds := [.data, .data, .data], laidTests := true, laidLooks := .later }
def QuorumAgreesUptoCardSaid : Prop := Claim7.holds Tryz.pinned (.plain (OpenSpec.upto quorumAgreesSpec)) quorumAgreesUptoCard

/-- THE SECOND FORM's CARD OF 'garnerlaw17.QuorumGoesOn'. -/
def quorumGoesOnUptoCard : Claim7 := { stood := { row := quorumGoesOnUptoRow, standIns := [], harness := (true, "2e7b50270fc83d92a8690a3860086bd921614e57363d22d11365f8a858094a00"), looks := false }, kinds := [], alts := [], laidByText := true, laidKinds := [.data, .data, .data], laidTests := true, laidLooks := .later }
def QuorumGoesOnUptoCardSaid : Prop := Claim7.holds Tryz.pinned (.plain (OpenSpec.upto quorumGoesOnSpec)) quorumGoesOnUptoCard

/-- THE SECOND FORM's CARD OF 'garnerlaw17.QuorumFew'. -/
def quorumFewUptoCard : Claim7 := { stood := { row := quorumFewUptoRow, standIns := [], harness := (true, "2e7b50270fc83d92a8690a3860086bd921614e57363d22d11365f8a858094a00"), looks := false }, kinds := [], alts := [], laidByText := true, laidKinds := [.data, .data, .data], laidTests := true, laidLooks := .later }
def QuorumFewUptoCardSaid : Prop := Claim7.holds Tryz.pinned (.plain (OpenSpec.upto quorumFewSpec)) quorumFewUptoCard

/-- THE SECOND FORM's CARD OF 'garnerlaw17.QuorumLasts'. -/
def quorumLastsUptoCard : Claim7 := { stood := { row := quorumLastsUptoRow, standIns := [], harness := (true, "2e7b50270fc83d92a8690a3860086bd921614e57363d22d11365f8a858094a00"), looks := false }, kinds := [], alts := [], laidByText := true, laidKinds := [.data, .data, .data], laidTests := true, laidLooks := .later }
def QuorumLastsUptoCardSaid : Prop := Claim7.holds Tryz.pinned (.plain (OpenSpec.upto quorumLastsSpec)) quorumLastsUptoCard

/-- THE SECOND FORM's CARD OF 'garnerlaw17.QuorumSplits'. -/
def quorumSplitsUptoCard : Claim7 := { stood := { row := quorumSplitsUptoRow, standIns := [], harness := (true, "2e7b50270fc83d92a8690a3860086bd921614e57363d22d11365f8a858094a00"), looks := false }, kinds := [], alts := [], laidByText := true, laidKinds := [.data, .data, .data], laidTests := true, laidLooks := .later }
def QuorumSplitsUptoCardSaid : Prop := Claim7.holds Tryz.pinned (.plain (OpenSpec.upto quorumSplitsSpec)) quorumSplitsUptoCard

/-- THE SECOND FORM's CARD OF 'garnerlaw17.QuorumOfNothing'. -/
def quorumOfNothingUptoCard : Claim7 := { stood := { row := quorumOfNothingUptoRow, standIns := [], harness := (true, "2e7b50270fc83d92a8690a3860086bd921614e57363d22d11365f8a858094a00"), looks := false }, kinds := [], alts := [], laidByText := true, laidKinds := [.data, .data, .data], laidTests := true, laidLooks := .later }
def QuorumOfNothingUptoCardSaid : Prop := Claim7.holds Tryz.pinned (.plain (OpenSpec.upto quorumOfNothingSpec)) quorumOfNothingUptoCard
end Rows
end Go.Proofs.YtgglbholbkdgfaaGreatDoor
