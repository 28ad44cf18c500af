/-
  NARROWER THAN 'FOR EVERY INPUT', by the rows' own cells (each row's printed sentence says how): RaftWaits: laid · RaftOld: laid · RaftVotes: laid · RaftKeeps: laid · RaftOfNothing: laid · QuorumAgrees: laid · QuorumGoesOn: laid · QuorumFew: laid · QuorumLasts: laid · QuorumSplits: laid · QuorumOfNothing: laid.
  DERIVED. THE GIVEN ROWS OF THIS SEAT. 11 by the template 'for every input the law returns true; each argument reads behind the call as it read before'; 0 by the template 'total and deterministic' (their statements: YtgglbholbkdgfaaGreatDoorTotals.lean).
  GIVEN WITH THE SEED: the statements are not yours to turn. If you find one false, say at which input.
  Laid BY PROGRAM, IN A SANDBOX (cutbox-rows.mjs): the forced cells as the released guide's own fill.sh prints them over the translation 833212677e192116… (all of the seat's roots in one cut). By AI agents, Wed Nov 11 2026. No macro, syntax, notation, axiom, sorry.
-/
import Derived.Test.YtgglbholbkdgfaaGreatDoorChecked
import GoSem.Claim
import GoSem.ClaimJoined
import GoSem.ClaimMapViews
import Derived.JoinedTies
import Derived.KernelRfl
namespace Go.Proofs.YtgglbholbkdgfaaGreatDoor
/- THE CELL 'sum', in the pinned program and in every row, IS THE sha256 OF THE DUMP (.gsa) THAT YtgglbholbkdgfaaGreatDoorProg.lean LOADS. Nothing in Lean hashes anything: it is a label: what it is worth is what the hold of that sum in a sandbox is worth. -/
noncomputable def Tryz.pinned : Pinned := { name := "ytgglbholbkdgfaagreatdoor", sum := "833212677e192116f2678f6c337f0d8670ebf26e7b665ab8c58d6c4f6f1c08e6", checked := Tryz.checked }
namespace Rows
def none {H : Type} : Left H := { results := [], args := [] }

/- WHAT THE LISTED PACKAGE-LEVEL VARIABLES READ AS WHEN THE CALL BEGINS. Each datum BY PROGRAM (the guide's laid-datum.mjs) off the statement by which the dump's own 'gosem.cut.vars' lays the variable. In a bare row this is a premise. The card (YtgglbholbkdgfaaGreatDoorCards.lean) ties it to the program's text. -/
def laid_math_bits_deBruijn32tab {H : Type} : DataW H := .agg [.lit (.int .u8 0), .lit (.int .u8 1), .lit (.int .u8 28), .lit (.int .u8 2), .lit (.int .u8 29), .lit (.int .u8 14), .lit (.int .u8 24), .lit (.int .u8 3), .lit (.int .u8 30), .lit (.int .u8 22), .lit (.int .u8 20), .lit (.int .u8 15), .lit (.int .u8 25), .lit (.int .u8 17), .lit (.int .u8 4), .lit (.int .u8 8), .lit (.int .u8 31), .lit (.int .u8 27), .lit (.int .u8 13), .lit (.int .u8 23), .lit (.int .u8 21), .lit (.int .u8 19), .lit (.int .u8 16), .lit (.int .u8 7), .lit (.int .u8 26), .lit (.int .u8 12), .lit (.int .u8 18), .lit (.int .u8 6), .lit (.int .u8 11), .lit (.int .u8 5), .lit (.int .u8 10), .lit (.int .u8 9)]
def laid_math_bits_deBruijn64tab {H : Type} : DataW H := .agg [.lit (.int .u8 0), .lit (.int .u8 1), .lit (.int .u8 56), .lit (.int .u8 2), .lit (.int .u8 57), .lit (.int .u8 49), .lit (.int .u8 28), .lit (.int .u8 3), .lit (.int .u8 61), .lit (.int .u8 58), .lit (.int .u8 42), .lit (.int .u8 50), .lit (.int .u8 38), .lit (.int .u8 29), .lit (.int .u8 17), .lit (.int .u8 4), .lit (.int .u8 62), .lit (.int .u8 47), .lit (.int .u8 59), .lit (.int .u8 36), .lit (.int .u8 45), .lit (.int .u8 43), .lit (.int .u8 51), .lit (.int .u8 22), .lit (.int .u8 53), .lit (.int .u8 39), .lit (.int .u8 33), .lit (.int .u8 30), .lit (.int .u8 24), .lit (.int .u8 18), .lit (.int .u8 12), .lit (.int .u8 5), .lit (.int .u8 63), .lit (.int .u8 55), .lit (.int .u8 48), .lit (.int .u8 27), .lit (.int .u8 60), .lit (.int .u8 41), .lit (.int .u8 37), .lit (.int .u8 16), .lit (.int .u8 46), .lit (.int .u8 35), .lit (.int .u8 44), .lit (.int .u8 21), .lit (.int .u8 52), .lit (.int .u8 32), .lit (.int .u8 23), .lit (.int .u8 11), .lit (.int .u8 54), .lit (.int .u8 26), .lit (.int .u8 40), .lit (.int .u8 15), .lit (.int .u8 34), .lit (.int .u8 20), .lit (.int .u8 31), .lit (.int .u8 10), .lit (.int .u8 25), .lit (.int .u8 14), .lit (.int .u8 19), .lit (.int .u8 9), .lit (.int .u8 13), .lit (.int .u8 8), .lit (.int .u8 7), .lit (.int .u8 6)]
def laid_internal_strconv_uint64pow10 {H : Type} : DataW H := .agg [.lit (.int .u64 1), .lit (.int .u64 10), .lit (.int .u64 100), .lit (.int .u64 1000), .lit (.int .u64 10000), .lit (.int .u64 100000), .lit (.int .u64 1000000), .lit (.int .u64 10000000), .lit (.int .u64 100000000), .lit (.int .u64 1000000000), .lit (.int .u64 10000000000), .lit (.int .u64 100000000000), .lit (.int .u64 1000000000000), .lit (.int .u64 10000000000000), .lit (.int .u64 100000000000000), .lit (.int .u64 1000000000000000), .lit (.int .u64 10000000000000000), .lit (.int .u64 100000000000000000), .lit (.int .u64 1000000000000000000), .lit (.int .u64 10000000000000000000)]

/-- 'garnerlaw16.RaftWaits': WHATEVER THE INPUT: true; the input reads as it did. -/
def raftWaitsSpec : ChangeSpec := { name := "raftWaits", fn := fun _ => fun
  | [d1, d2, d3] => { results := [.lit (.bool true)], args := [d1, d2, d3] }
  | _ => none }
def raftWaitsRow : OpenClaim := { program := "ytgglbholbkdgfaagreatdoor", sum := "833212677e192116f2678f6c337f0d8670ebf26e7b665ab8c58d6c4f6f1c08e6", func := "garner/garnerlaw16.RaftWaits", spec := "raftWaits", inPlace := ["internal/abi.NoEscape", "internal/bytealg.MakeNoZero"], unfollowed := true, recurses := true, named := ["internal/strconv.uint64pow10", "math/bits.deBruijn32tab", "math/bits.deBruijn64tab"], apart := false, laid := [("math/bits.deBruijn32tab", laid_math_bits_deBruijn32tab), ("math/bits.deBruijn64tab", laid_math_bits_deBruijn64tab), ("internal/strconv.uint64pow10", laid_internal_strconv_uint64pow10)] }
def RaftWaitsSaid : Prop := raftWaitsRow.holds Tryz.pinned (OpenSpec.ofChange raftWaitsSpec)

/-- ITS FALSE NEIGHBOUR: 'it returns false'. Refute it at one input. -/
def raftWaitsWrong : ChangeSpec := { name := "raftWaits", fn := fun _ => fun
  | [d1, d2, d3] => { results := [.lit (.bool false)], args := [d1, d2, d3] }
  | _ => none }
def RaftWaitsWrongFalsely : Prop := raftWaitsRow.holds Tryz.pinned (OpenSpec.ofChange raftWaitsWrong)

/-- 'garnerlaw16.RaftOld': WHATEVER THE INPUT: true; the input reads as it did. -/
def raftOldSpec : ChangeSpec := { name := "raftOld", fn := fun _ => fun
  | [d1, d2, d3, d4] => { results := [.lit (.bool true)], args := [d1, d2, d3, d4] }
  | _ => none }
def raftOldRow : OpenClaim := { program := "ytgglbholbkdgfaagreatdoor", sum := "833212677e192116f2678f6c337f0d8670ebf26e7b665ab8c58d6c4f6f1c08e6", func := "garner/garnerlaw16.RaftOld", spec := "raftOld", inPlace := ["internal/abi.NoEscape", "internal/bytealg.MakeNoZero"], unfollowed := true, recurses := true, named := ["internal/strconv.uint64pow10", "math/bits.deBruijn32tab", "math/bits.deBruijn64tab"], apart := false, laid := [("math/bits.deBruijn32tab", laid_math_bits_deBruijn32tab), ("math/bits.deBruijn64tab", laid_math_bits_deBruijn64tab), ("internal/strconv.uint64pow10", laid_internal_strconv_uint64pow10)] }
def RaftOldSaid : Prop := raftOldRow.holds Tryz.pinned (OpenSpec.ofChange raftOldSpec)

/-- ITS FALSE NEIGHBOUR: 'it returns false'. Refute it at one input. -/
def raftOldWrong : ChangeSpec := { name := "raftOld", fn := fun _ => fun
  | [d1, d2, d3, d4] => { results := [.lit (.bool false)], args := [d1, d2, d3, d4] }
  | _ => none }
def RaftOldWrongFalsely : Prop := raftOldRow.holds Tryz.pinned (OpenSpec.ofChange raftOldWrong)

/-- 'garnerlaw16.RaftVotes': WHATEVER THE INPUT: true; the input reads as it did. -/
def raftVotesSpec : ChangeSpec := { name := "raftVotes", fn := fun _ => fun
  | [d1, d2] => { results := [.lit (.bool true)], args := [d1, d2] }
  | _ => none }
def raftVotesRow : OpenClaim := { program := "ytgglbholbkdgfaagreatdoor", sum := "833212677e192116f2678f6c337f0d8670ebf26e7b665ab8c58d6c4f6f1c08e6", func := "garner/garnerlaw16.RaftVotes", spec := "raftVotes", inPlace := ["internal/abi.NoEscape", "internal/bytealg.MakeNoZero"], unfollowed := true, recurses := true, named := ["internal/strconv.uint64pow10", "math/bits.deBruijn32tab", "math/bits.deBruijn64tab"], apart := false, laid := [("math/bits.deBruijn32tab", laid_math_bits_deBruijn32tab), ("math/bits.deBruijn64tab", laid_math_bits_deBruijn64tab), ("internal/strconv.uint64pow10", laid_internal_strconv_uint64pow10)] }
def RaftVotesSaid : Prop := raftVotesRow.holds Tryz.pinned (OpenSpec.ofChange raftVotesSpec)

/-- ITS FALSE NEIGHBOUR: 'it returns false'. Refute it at one input. -/
def raftVotesWrong : ChangeSpec := { name := "raftVotes", fn := fun _ => fun
  | [d1, d2] => { results := [.lit (.bool false)], args := [d1, d2] }
  | _ => none }
def RaftVotesWrongFalsely : Prop := raftVotesRow.holds Tryz.pinned (OpenSpec.ofChange raftVotesWrong)

/-- 'garnerlaw16.RaftKeeps': WHATEVER THE INPUT: true; the input reads as it did. -/
def raftKeepsSpec : ChangeSpec := { name := "raftKeeps", fn := fun _ => fun
  | [d1, d2, d3] => { results := [.lit (.bool true)], args := [d1, d2, d3] }
  | _ => none }
def raftKeepsRow : OpenClaim := { program := "ytgglbholbkdgfaagreatdoor", sum := "833212677e192116f2678f6c337f0d8670ebf26e7b665ab8c58d6c4f6f1c08e6", func := "garner/garnerlaw16.RaftKeeps", spec := "raftKeeps", inPlace := ["internal/abi.NoEscape", "internal/bytealg.MakeNoZero"], unfollowed := true, recurses := true, named := ["internal/strconv.uint64pow10", "math/bits.deBruijn32tab", "math/bits.deBruijn64tab"], apart := false, laid := [("math/bits.deBruijn32tab", laid_math_bits_deBruijn32tab), ("math/bits.deBruijn64tab", laid_math_bits_deBruijn64tab), ("internal/strconv.uint64pow10", laid_internal_strconv_uint64pow10)] }
def RaftKeepsSaid : Prop := raftKeepsRow.holds Tryz.pinned (OpenSpec.ofChange raftKeepsSpec)

/-- ITS FALSE NEIGHBOUR: 'it returns false'. Refute it at one input. -/
def raftKeepsWrong : ChangeSpec := { name := "raftKeeps", fn := fun _ => fun
  | [d1, d2, d3] => { results := [.lit (.bool false)], args := [d1, d2, d3] }
  | _ => none }
def RaftKeepsWrongFalsely : Prop := raftKeepsRow.holds Tryz.pinned (OpenSpec.ofChange raftKeepsWrong)

/-- 'garnerlaw16.RaftOfNothing': WHATEVER THE INPUT: true; the input reads as it did. -/
def raftOfNothingSpec : ChangeSpec := { name := "raftOfNothing", fn := fun _ => fun
  | [d1, d2, d3] => { results := [.lit (.bool true)], args := [d1, d2, d3] }
  | _ => none }
def raftOfNothingRow : OpenClaim := { program := "ytgglbholbkdgfaagreatdoor", sum := "833212677e192116f2678f6c337f0d8670ebf26e7b665ab8c58d6c4f6f1c08e6", func := "garner/garnerlaw16.RaftOfNothing", spec := "raftOfNothing", inPlace := ["internal/abi.NoEscape", "internal/bytealg.MakeNoZero"], unfollowed := true, recurses := true, named := ["internal/strconv.uint64pow10", "math/bits.deBruijn32tab", "math/bits.deBruijn64tab"], apart := false, laid := [("math/bits.deBruijn32tab", laid_math_bits_deBruijn32tab), ("math/bits.deBruijn64tab", laid_math_bits_deBruijn64tab), ("internal/strconv.uint64pow10", laid_internal_strconv_uint64pow10)] }
def RaftOfNothingSaid : Prop := raftOfNothingRow.holds Tryz.pinned (OpenSpec.ofChange raftOfNothingSpec)

/-- ITS FALSE NEIGHBOUR: 'it returns false'. Refute it at one input. -/
def raftOfNothingWrong : ChangeSpec := { name := "raftOfNothing", fn := fun _ => fun
  | [d1, d2, d3] => { results := [.lit (.bool false)], args := [d1, d2, d3] }
  | _ => none }
def RaftOfNothingWrongFalsely : Prop := raftOfNothingRow.holds Tryz.pinned (OpenSpec.ofChange raftOfNothingWrong)

/-- 'garnerlaw17.QuorumAgrees': WHATEVER THE INPUT: true; the input reads as it did. -/
def quorumAgreesSpec : ChangeSpec := { name := "quorumAgrees", fn := fun _ => fun
  | [d1, d2] => { results := [.lit (.bool true)], args := [d1, d2] }
  | _ => none }
def quorumAgreesRow : OpenClaim := { program := "ytgglbholbkdgfaagreatdoor", sum := "833212677e192116f2678f6c337f0d8670ebf26e7b665ab8c58d6c4f6f1c08e6", func := "garner/garnerlaw17.QuorumAgrees", spec := "quorumAgrees", inPlace := ["internal/abi.NoEscape", "internal/bytealg.MakeNoZero"], unfollowed := true, recurses := true, named := ["internal/strconv.uint64pow10", "math/bits.deBruijn32tab", "math/bits.deBruijn64tab"], apart := false, laid := [("math/bits.deBruijn32tab", laid_math_bits_deBruijn32tab), ("math/bits.deBruijn64tab", laid_math_bits_deBruijn64tab), ("internal/strconv.uint64pow10", laid_internal_strconv_uint64pow10)] }
def QuorumAgreesSaid : Prop := quorumAgreesRow.holds Tryz.pinned (OpenSpec.ofChange quorumAgreesSpec)

/-- ITS FALSE NEIGHBOUR: 'it returns false'. Refute it at one input. -/
def quorumAgreesWrong : ChangeSpec := { name := "quorumAgrees", fn := fun _ => fun
  | [d1, d2] => { results := [.lit (.bool false)], args := [d1, d2] }
  | _ => none }
def QuorumAgreesWrongFalsely : Prop := quorumAgreesRow.holds Tryz.pinned (OpenSpec.ofChange quorumAgreesWrong)

/-- 'garnerlaw17.QuorumGoesOn': WHATEVER THE INPUT: true; the input reads as it did. -/
def quorumGoesOnSpec : ChangeSpec := { name := "quorumGoesOn", fn := fun _ => fun
  | [d1, d2, d3] => { results := [.lit (.bool true)], args := [d1, d2, d3] }
  | _ => none }
def quorumGoesOnRow : OpenClaim := { program := "ytgglbholbkdgfaagreatdoor", sum := "833212677e192116f2678f6c337f0d8670ebf26e7b665ab8c58d6c4f6f1c08e6", func := "garner/garnerlaw17.QuorumGoesOn", spec := "quorumGoesOn", inPlace := ["internal/abi.NoEscape", "internal/bytealg.MakeNoZero"], unfollowed := true, recurses := true, named := ["internal/strconv.uint64pow10", "math/bits.deBruijn32tab", "math/bits.deBruijn64tab"], apart := false, laid := [("math/bits.deBruijn32tab", laid_math_bits_deBruijn32tab), ("math/bits.deBruijn64tab", laid_math_bits_deBruijn64tab), ("internal/strconv.uint64pow10", laid_internal_strconv_uint64pow10)] }
def QuorumGoesOnSaid : Prop := quorumGoesOnRow.holds Tryz.pinned (OpenSpec.ofChange quorumGoesOnSpec)

/-- ITS FALSE NEIGHBOUR: 'it returns false'. Refute it at one input. -/
def quorumGoesOnWrong : ChangeSpec := { name := "quorumGoesOn", fn := fun _ => fun
  | [d1, d2, d3] => { results := [.lit (.bool false)], args := [d1, d2, d3] }
  | _ => none }
def QuorumGoesOnWrongFalsely : Prop := quorumGoesOnRow.holds Tryz.pinned (OpenSpec.ofChange quorumGoesOnWrong)

/-- 'garnerlaw17.QuorumFew': WHATEVER THE INPUT: true; the input reads as it did. -/
def quorumFewSpec : ChangeSpec := { name := "quorumFew", fn := fun _ => fun
  | [d1, d2, d3] => { results := [.lit (.bool true)], args := [d1, d2, d3] }
  | _ => none }
def quorumFewRow : OpenClaim := { program := "ytgglbholbkdgfaagreatdoor", sum := "833212677e192116f2678f6c337f0d8670ebf26e7b665ab8c58d6c4f6f1c08e6", func := "garner/garnerlaw17.QuorumFew", spec := "quorumFew", inPlace := ["internal/abi.NoEscape", "internal/bytealg.MakeNoZero"], unfollowed := true, recurses := true, named := ["internal/strconv.uint64pow10", "math/bits.deBruijn32tab", "math/bits.deBruijn64tab"], apart := false, laid := [("math/bits.deBruijn32tab", laid_math_bits_deBruijn32tab), ("math/bits.deBruijn64tab", laid_math_bits_deBruijn64tab), ("internal/strconv.uint64pow10", laid_internal_strconv_uint64pow10)] }
def QuorumFewSaid : Prop := quorumFewRow.holds Tryz.pinned (OpenSpec.ofChange quorumFewSpec)

/-- ITS FALSE NEIGHBOUR: 'it returns false'. Refute it at one input. -/
def quorumFewWrong : ChangeSpec := { name := "quorumFew", fn := fun _ => fun
  | [d1, d2, d3] => { results := [.lit (.bool false)], args := [d1, d2, d3] }
  | _ => none }
def QuorumFewWrongFalsely : Prop := quorumFewRow.holds Tryz.pinned (OpenSpec.ofChange quorumFewWrong)

/-- 'garnerlaw17.QuorumLasts': WHATEVER THE INPUT: true; the input reads as it did. -/
def quorumLastsSpec : ChangeSpec := { name := "quorumLasts", fn := fun _ => fun
  | [d1, d2, d3] => { results := [.lit (.bool true)], args := [d1, d2, d3] }
  | _ => none }
def quorumLastsRow : OpenClaim := { program := "ytgglbholbkdgfaagreatdoor", sum := "833212677e192116f2678f6c337f0d8670ebf26e7b665ab8c58d6c4f6f1c08e6", func := "garner/garnerlaw17.QuorumLasts", spec := "quorumLasts", inPlace := ["internal/abi.NoEscape", "internal/bytealg.MakeNoZero"], unfollowed := true, recurses := true, named := ["internal/strconv.uint64pow10", "math/bits.deBruijn32tab", "math/bits.deBruijn64tab"], apart := false, laid := [("math/bits.deBruijn32tab", laid_math_bits_deBruijn32tab), ("math/bits.deBruijn64tab", laid_math_bits_deBruijn64tab), ("internal/strconv.uint64pow10", laid_internal_strconv_uint64pow10)] }
def QuorumLastsSaid : Prop := quorumLastsRow.holds Tryz.pinned (OpenSpec.ofChange quorumLastsSpec)

/-- ITS FALSE NEIGHBOUR: 'it returns false'. Refute it at one input. -/
def quorumLastsWrong : ChangeSpec := { name := "quorumLasts", fn := fun _ => fun
  | [d1, d2, d3] => { results := [.lit (.bool false)], args := [d1, d2, d3] }
  | _ => none }
def QuorumLastsWrongFalsely : Prop := quorumLastsRow.holds Tryz.pinned (OpenSpec.ofChange quorumLastsWrong)

/-- 'garnerlaw17.QuorumSplits': WHATEVER THE INPUT: true; the input reads as it did. -/
def quorumSplitsSpec : ChangeSpec := { name := "quorumSplits", fn := fun _ => fun
  | [d1, d2, d3] => { results := [.lit (.bool true)], args := [d1, d2, d3] }
  | _ => none }
def quorumSplitsRow : OpenClaim := { program := "ytgglbholbkdgfaagreatdoor", sum := "833212677e192116f2678f6c337f0d8670ebf26e7b665ab8c58d6c4f6f1c08e6", func := "garner/garnerlaw17.QuorumSplits", spec := "quorumSplits", inPlace := ["internal/abi.NoEscape", "internal/bytealg.MakeNoZero"], unfollowed := true, recurses := true, named := ["internal/strconv.uint64pow10", "math/bits.deBruijn32tab", "math/bits.deBruijn64tab"], apart := false, laid := [("math/bits.deBruijn32tab", laid_math_bits_deBruijn32tab), ("math/bits.deBruijn64tab", laid_math_bits_deBruijn64tab), ("internal/strconv.uint64pow10", laid_internal_strconv_uint64pow10)] }
def QuorumSplitsSaid : Prop := quorumSplitsRow.holds Tryz.pinned (OpenSpec.ofChange quorumSplitsSpec)

/-- ITS FALSE NEIGHBOUR: 'it returns false'. Refute it at one input. -/
def quorumSplitsWrong : ChangeSpec := { name := "quorumSplits", fn := fun _ => fun
  | [d1, d2, d3] => { results := [.lit (.bool false)], args := [d1, d2, d3] }
  | _ => none }
def QuorumSplitsWrongFalsely : Prop := quorumSplitsRow.holds Tryz.pinned (OpenSpec.ofChange quorumSplitsWrong)

/-- 'garnerlaw17.QuorumOfNothing': WHATEVER THE INPUT: true; the input reads as it did. -/
def quorumOfNothingSpec : ChangeSpec := { name := "quorumOfNothing", fn := fun _ => fun
  | [d1, d2] => { results := [.lit (.bool true)], args := [d1, d2] }
  | _ => none }
def quorumOfNothingRow : OpenClaim := { program := "ytgglbholbkdgfaagreatdoor", sum := "833212677e192116f2678f6c337f0d8670ebf26e7b665ab8c58d6c4f6f1c08e6", func := "garner/garnerlaw17.QuorumOfNothing", spec := "quorumOfNothing", inPlace := ["internal/abi.NoEscape", "internal/bytealg.MakeNoZero"], unfollowed := true, recurses := true, named := ["internal/strconv.uint64pow10", "math/bits.deBruijn32tab", "math/bits.deBruijn64tab"], apart := false, laid := [("math/bits.deBruijn32tab", laid_math_bits_deBruijn32tab), ("math/bits.deBruijn64tab", laid_math_bits_deBruijn64tab), ("internal/strconv.uint64pow10", laid_internal_strconv_uint64pow10)] }
def QuorumOfNothingSaid : Prop := quorumOfNothingRow.holds Tryz.pinned (OpenSpec.ofChange quorumOfNothingSpec)

/-- ITS FALSE NEIGHBOUR: 'it returns false'. Refute it at one input. -/
def quorumOfNothingWrong : ChangeSpec := { name := "quorumOfNothing", fn := fun _ => fun
  | [d1, d2] => { results := [.lit (.bool false)], args := [d1, d2] }
  | _ => none }
def QuorumOfNothingWrongFalsely : Prop := quorumOfNothingRow.holds Tryz.pinned (OpenSpec.ofChange quorumOfNothingWrong)

/- THE SECOND FORM. 'bulk': how many values and letters a reading holds, each counted each time it is reached (what is shared counts as often as it is met; a slice's spare places count too). A statement '..UptoSaid' is the law's where the arguments, and the package variables that the reading takes, are together of bulk at most 1048576: NARROWER than '..Said'. Prove '..Said' where nothing that the law and all that it calls make is longer than what came in: it says more and counts as full. Else prove '..UptoSaid'. A law counts once. -/
mutual
def uptoBulk {H : Type} : DataW H → Nat
  | .lit (.string bytes) => bytes.length + 1
  | .lit _ => 1
  | .nil => 1
  | .ptr d => uptoBulk d + 1
  | .slice elems spare => uptoBulkAll elems + uptoBulkAll spare + 1
  | .agg parts => uptoBulkAll parts + 1
  | .iface _ d => uptoBulk d + 1
  | .map entries => uptoBulkEntries entries + 1
  | .held _ => 1
def uptoBulkAll {H : Type} : List (DataW H) → Nat
  | [] => 0
  | d :: r => uptoBulk d + uptoBulkAll r
def uptoBulkEntries {H : Type} : List (Lit × DataW H) → Nat
  | [] => 0
  | x :: r => uptoBulkEntry x + uptoBulkEntries r
def uptoBulkEntry {H : Type} : Lit × DataW H → Nat
  | (.string bytes, d) => bytes.length + uptoBulk d + 1
  | (_, d) => uptoBulk d + 1
 end
def uptoSmall : (H : Type) → List (DataW H) → Bool := fun _ ds => decide (uptoBulkAll ds ≤ 1048576)
def OpenSpec.upto (s : _root_.Go.ChangeSpec) : _root_.Go.OpenSpec := { _root_.Go.OpenSpec.ofChange s with cond := some uptoSmall }

/-- 'garnerlaw16.RaftWaits', WHERE WHAT IT READS IS OF BULK AT MOST 1048576: true; the input reads as it did. -/
def raftWaitsUptoRow : OpenClaim := { program := "ytgglbholbkdgfaagreatdoor", sum := "833212677e192116f2678f6c337f0d8670ebf26e7b665ab8c58d6c4f6f1c08e6", func := "garner/garnerlaw16.RaftWaits", spec := "raftWaits", inPlace := ["internal/abi.NoEscape", "internal/bytealg.MakeNoZero"], unfollowed := true, recurses := true, named := ["internal/strconv.uint64pow10", "math/bits.deBruijn32tab", "math/bits.deBruijn64tab"], apart := false, laid := [("math/bits.deBruijn32tab", laid_math_bits_deBruijn32tab), ("math/bits.deBruijn64tab", laid_math_bits_deBruijn64tab), ("internal/strconv.uint64pow10", laid_internal_strconv_uint64pow10)], narrowed := true }
def RaftWaitsUptoSaid : Prop := raftWaitsUptoRow.holds Tryz.pinned (OpenSpec.upto raftWaitsSpec)

/-- 'garnerlaw16.RaftOld', WHERE WHAT IT READS IS OF BULK AT MOST 1048576: true; the input reads as it did. -/
def raftOldUptoRow : OpenClaim := { program := "ytgglbholbkdgfaagreatdoor", sum := "833212677e192116f2678f6c337f0d8670ebf26e7b665ab8c58d6c4f6f1c08e6", func := "garner/garnerlaw16.RaftOld", spec := "raftOld", inPlace := ["internal/abi.NoEscape", "internal/bytealg.MakeNoZero"], unfollowed := true, recurses := true, named := ["internal/strconv.uint64pow10", "math/bits.deBruijn32tab", "math/bits.deBruijn64tab"], apart := false, laid := [("math/bits.deBruijn32tab", laid_math_bits_deBruijn32tab), ("math/bits.deBruijn64tab", laid_math_bits_deBruijn64tab), ("internal/strconv.uint64pow10", laid_internal_strconv_uint64pow10)], narrowed := true }
def RaftOldUptoSaid : Prop := raftOldUptoRow.holds Tryz.pinned (OpenSpec.upto raftOldSpec)

/-- 'garnerlaw16.RaftVotes', WHERE WHAT IT READS IS OF BULK AT MOST 1048576: true; the input reads as it did. -/
def raftVotesUptoRow : OpenClaim := { program := "ytgglbholbkdgfaagreatdoor", sum := "833212677e192116f2678f6c337f0d8670ebf26e7b665ab8c58d6c4f6f1c08e6", func := "garner/garnerlaw16.RaftVotes", spec := "raftVotes", inPlace := ["internal/abi.NoEscape", "internal/bytealg.MakeNoZero"], unfollowed := true, recurses := true, named := ["internal/strconv.uint64pow10", "math/bits.deBruijn32tab", "math/bits.deBruijn64tab"], apart := false, laid := [("math/bits.deBruijn32tab", laid_math_bits_deBruijn32tab), ("math/bits.deBruijn64tab", laid_math_bits_deBruijn64tab), ("internal/strconv.uint64pow10", laid_internal_strconv_uint64pow10)], narrowed := true }
def RaftVotesUptoSaid : Prop := raftVotesUptoRow.holds Tryz.pinned (OpenSpec.upto raftVotesSpec)

/-- 'garnerlaw16.RaftKeeps', WHERE WHAT IT READS IS OF BULK AT MOST 1048576: true; the input reads as it did. -/
def raftKeepsUptoRow : OpenClaim := { program := "ytgglbholbkdgfaagreatdoor", sum := "833212677e192116f2678f6c337f0d8670ebf26e7b665ab8c58d6c4f6f1c08e6", func := "garner/garnerlaw16.RaftKeeps", spec := "raftKeeps", inPlace := ["internal/abi.NoEscape", "internal/bytealg.MakeNoZero"], unfollowed := true, recurses := true, named := ["internal/strconv.uint64pow10", "math/bits.deBruijn32tab", "math/bits.deBruijn64tab"], apart := false, laid := [("math/bits.deBruijn32tab", laid_math_bits_deBruijn32tab), ("math/bits.deBruijn64tab", laid_math_bits_deBruijn64tab), ("internal/strconv.uint64pow10", laid_internal_strconv_uint64pow10)], narrowed := true }
def RaftKeepsUptoSaid : Prop := raftKeepsUptoRow.holds Tryz.pinned (OpenSpec.upto raftKeepsSpec)

/-- 'garnerlaw16.RaftOfNothing', WHERE WHAT IT READS IS OF BULK AT MOST 1048576: true; the input reads as it did. -/
def raftOfNothingUptoRow : OpenClaim := { program := "ytgglbholbkdgfaagreatdoor", sum := "833212677e192116f2678f6c337f0d8670ebf26e7b665ab8c58d6c4f6f1c08e6", func := "garner/garnerlaw16.RaftOfNothing", spec := "raftOfNothing", inPlace := ["internal/abi.NoEscape", "internal/bytealg.MakeNoZero"], unfollowed := true, recurses := true, named := ["internal/strconv.uint64pow10", "math/bits.deBruijn32tab", "math/bits.deBruijn64tab"], apart := false, laid := [("math/bits.deBruijn32tab", laid_math_bits_deBruijn32tab), ("math/bits.deBruijn64tab", laid_math_bits_deBruijn64tab), ("internal/strconv.uint64pow10", laid_internal_strconv_uint64pow10)], narrowed := true }
def RaftOfNothingUptoSaid : Prop := raftOfNothingUptoRow.holds Tryz.pinned (OpenSpec.upto raftOfNothingSpec)

/-- 'garnerlaw17.QuorumAgrees', WHERE WHAT IT READS IS OF BULK AT MOST 1048576: true; the input reads as it did. -/
def quorumAgreesUptoRow : OpenClaim := { program := "ytgglbholbkdgfaagreatdoor", sum := "833212677e192116f2678f6c337f0d8670ebf26e7b665ab8c58d6c4f6f1c08e6", func := "garner/garnerlaw17.QuorumAgrees", spec := "quorumAgrees", inPlace := ["internal/abi.NoEscape", "internal/bytealg.MakeNoZero"], unfollowed := true, recurses := true, named := ["internal/strconv.uint64pow10", "math/bits.deBruijn32tab", "math/bits.deBruijn64tab"], apart := false, laid := [("math/bits.deBruijn32tab", laid_math_bits_deBruijn32tab), ("math/bits.deBruijn64tab", laid_math_bits_deBruijn64tab), ("internal/strconv.uint64pow10", laid_internal_strconv_uint64pow10)], narrowed := true }
def QuorumAgreesUptoSaid : Prop := quorumAgreesUptoRow.holds Tryz.pinned (OpenSpec.upto quorumAgreesSpec)

/-- 'garnerlaw17.QuorumGoesOn', WHERE WHAT IT READS IS OF BULK AT MOST 1048576: true; the input reads as it did. -/
def quorumGoesOnUptoRow : OpenClaim := { program := "ytgglbholbkdgfaagreatdoor", sum := "833212677e192116f2678f6c337f0d8670ebf26e7b665ab8c58d6c4f6f1c08e6", func := "garner/garnerlaw17.QuorumGoesOn", spec := "quorumGoesOn", inPlace := ["internal/abi.NoEscape", "internal/bytealg.MakeNoZero"], unfollowed := true, recurses := true, named := ["internal/strconv.uint64pow10", "math/bits.deBruijn32tab", "math/bits.deBruijn64tab"], apart := false, laid := [("math/bits.deBruijn32tab", laid_math_bits_deBruijn32tab), ("math/bits.deBruijn64tab", laid_math_bits_deBruijn64tab), ("internal/strconv.uint64pow10", laid_internal_strconv_uint64pow10)], narrowed := true }
def QuorumGoesOnUptoSaid : Prop := quorumGoesOnUptoRow.holds Tryz.pinned (OpenSpec.upto quorumGoesOnSpec)

/-- 'garnerlaw17.QuorumFew', WHERE WHAT IT READS IS OF BULK AT MOST 1048576: true; the input reads as it did. -/
def quorumFewUptoRow : OpenClaim := { program := "ytgglbholbkdgfaagreatdoor", sum := "833212677e192116f2678f6c337f0d8670ebf26e7b665ab8c58d6c4f6f1c08e6", func := "garner/garnerlaw17.QuorumFew", spec := "quorumFew", inPlace := ["internal/abi.NoEscape", "internal/bytealg.MakeNoZero"], unfollowed := true, recurses := true, named := ["internal/strconv.uint64pow10", "math/bits.deBruijn32tab", "math/bits.deBruijn64tab"], apart := false, laid := [("math/bits.deBruijn32tab", laid_math_bits_deBruijn32tab), ("math/bits.deBruijn64tab", laid_math_bits_deBruijn64tab), ("internal/strconv.uint64pow10", laid_internal_strconv_uint64pow10)], narrowed := true }
def QuorumFewUptoSaid : Prop := quorumFewUptoRow.holds Tryz.pinned (OpenSpec.upto quorumFewSpec)

/-- 'garnerlaw17.QuorumLasts', WHERE WHAT IT READS IS OF BULK AT MOST 1048576: true; the input reads as it did. -/
def quorumLastsUptoRow : OpenClaim := { program := "ytgglbholbkdgfaagreatdoor", sum := "833212677e192116f2678f6c337f0d8670ebf26e7b665ab8c58d6c4f6f1c08e6", func := "garner/garnerlaw17.QuorumLasts", spec := "quorumLasts", inPlace := ["internal/abi.NoEscape", "internal/bytealg.MakeNoZero"], unfollowed := true, recurses := true, named := ["internal/strconv.uint64pow10", "math/bits.deBruijn32tab", "math/bits.deBruijn64tab"], apart := false, laid := [("math/bits.deBruijn32tab", laid_math_bits_deBruijn32tab), ("math/bits.deBruijn64tab", laid_math_bits_deBruijn64tab), ("internal/strconv.uint64pow10", laid_internal_strconv_uint64pow10)], narrowed := true }
def QuorumLastsUptoSaid : Prop := quorumLastsUptoRow.holds Tryz.pinned (OpenSpec.upto quorumLastsSpec)

/-- 'garnerlaw17.QuorumSplits', WHERE WHAT IT READS IS OF BULK AT MOST 1048576: true; the input reads as it did. -/
def quorumSplitsUptoRow : OpenClaim := { program := "ytgglbholbkdgfaagreatdoor", sum := "833212677e192116f2678f6c337f0d8670ebf26e7b665ab8c58d6c4f6f1c08e6", func := "garner/garnerlaw17.QuorumSplits", spec := "quorumSplits", inPlace := ["internal/abi.NoEscape", "internal/bytealg.MakeNoZero"], unfollowed := true, recurses := true, named := ["internal/strconv.uint64pow10", "math/bits.deBruijn32tab", "math/bits.deBruijn64tab"], apart := false, laid := [("math/bits.deBruijn32tab", laid_math_bits_deBruijn32tab), ("math/bits.deBruijn64tab", laid_math_bits_deBruijn64tab), ("internal/strconv.uint64pow10", laid_internal_strconv_uint64pow10)], narrowed := true }
def QuorumSplitsUptoSaid : Prop := quorumSplitsUptoRow.holds Tryz.pinned (OpenSpec.upto quorumSplitsSpec)

/-- 'garnerlaw17.QuorumOfNothing', WHERE WHAT IT READS IS OF BULK AT MOST 1048576: true; the input reads as it did. -/
def quorumOfNothingUptoRow : OpenClaim := { program := "ytgglbholbkdgfaagreatdoor", sum := "833212677e192116f2678f6c337f0d8670ebf26e7b665ab8c58d6c4f6f1c08e6", func := "garner/garnerlaw17.QuorumOfNothing", spec := "quorumOfNothing", inPlace := ["internal/abi.NoEscape", "internal/bytealg.MakeNoZero"], unfollowed := true, recurses := true, named := ["internal/strconv.uint64pow10", "math/bits.deBruijn32tab", "math/bits.deBruijn64tab"], apart := false, laid := [("math/bits.deBruijn32tab", laid_math_bits_deBruijn32tab), ("math/bits.deBruijn64tab", laid_math_bits_deBruijn64tab), ("internal/strconv.uint64pow10", laid_internal_strconv_uint64pow10)], narrowed := true }
def QuorumOfNothingUptoSaid : Prop := quorumOfNothingUptoRow.holds Tryz.pinned (OpenSpec.upto quorumOfNothingSpec)

end Rows
end Go.Proofs.YtgglbholbkdgfaaGreatDoor
