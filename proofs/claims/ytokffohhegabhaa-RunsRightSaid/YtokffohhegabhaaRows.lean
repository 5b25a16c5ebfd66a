/-
  No cell of these rows narrows 'for every input' (looked for: loops, veiled, ifaces, maps, wideKeys, modest, calm, conditions, laid).
  DERIVED. THE GIVEN ROWS OF THIS SEAT. 20 by the template 'for every input the law returns true; each argument reads behind the call as it read before'; 0 by the template 'total and deterministic' (their statements: YtokffohhegabhaaTotals.lean).
  GIVEN WITH THE SEED: the statements are not yours to turn. If you find one false, say at which input.
  Laid BY PROGRAM, IN A SANDBOX (cutbox-rows.mjs): the forced cells as the released guide's own fill.sh prints them over the translation 3f8bb86522e69a9b… (all of the seat's roots in one cut). By AI agents, Wed Nov 11 2026. No macro, syntax, notation, axiom, sorry.
-/
import Derived.Test.YtokffohhegabhaaChecked
import GoSem.Claim
import GoSem.ClaimJoined
import GoSem.ClaimMapViews
import Derived.JoinedTies
import Derived.KernelRfl
namespace Go.Proofs.Ytokffohhegabhaa
/- THE CELL 'sum', in the pinned program and in every row, IS THE sha256 OF THE DUMP (.gsa) THAT YtokffohhegabhaaProg.lean LOADS. Nothing in Lean hashes anything: it is a label: what it is worth is what the hold of that sum in a sandbox is worth. -/
noncomputable def Try.pinned : Pinned := { name := "ytokffohhegabhaa", sum := "3f8bb86522e69a9bb961183dae5f091f78d60c6386bc6b0bd876676a8f80eba7", checked := Try.checked }
namespace Rows
def none {H : Type} : Left H := { results := [], args := [] }

/-- 'garretlaw19.PickLeast': WHATEVER THE INPUT: true; the input reads as it did. -/
def pickLeastSpec : ChangeSpec := { name := "pickLeast", fn := fun _ => fun
  | [d1, d2] => { results := [.lit (.bool true)], args := [d1, d2] }
  | _ => none }
def pickLeastRow : OpenClaim := { program := "ytokffohhegabhaa", sum := "3f8bb86522e69a9bb961183dae5f091f78d60c6386bc6b0bd876676a8f80eba7", func := "garret/garretlaw19.PickLeast", spec := "pickLeast", unfollowed := true, recurses := true, plainKeys := false, apart := false }
def PickLeastSaid : Prop := pickLeastRow.holds Try.pinned (OpenSpec.ofChange pickLeastSpec)

/-- ITS FALSE NEIGHBOUR: 'it returns false'. Refute it at one input. -/
def pickLeastWrong : ChangeSpec := { name := "pickLeast", fn := fun _ => fun
  | [d1, d2] => { results := [.lit (.bool false)], args := [d1, d2] }
  | _ => none }
def PickLeastWrongFalsely : Prop := pickLeastRow.holds Try.pinned (OpenSpec.ofChange pickLeastWrong)

/-- 'garretlaw19.PickTwins': WHATEVER THE INPUT: true; the input reads as it did. -/
def pickTwinsSpec : ChangeSpec := { name := "pickTwins", fn := fun _ => fun
  | [d1, d2, d3] => { results := [.lit (.bool true)], args := [d1, d2, d3] }
  | _ => none }
def pickTwinsRow : OpenClaim := { program := "ytokffohhegabhaa", sum := "3f8bb86522e69a9bb961183dae5f091f78d60c6386bc6b0bd876676a8f80eba7", func := "garret/garretlaw19.PickTwins", spec := "pickTwins", unfollowed := true, recurses := true, plainKeys := false, apart := false }
def PickTwinsSaid : Prop := pickTwinsRow.holds Try.pinned (OpenSpec.ofChange pickTwinsSpec)

/-- ITS FALSE NEIGHBOUR: 'it returns false'. Refute it at one input. -/
def pickTwinsWrong : ChangeSpec := { name := "pickTwins", fn := fun _ => fun
  | [d1, d2, d3] => { results := [.lit (.bool false)], args := [d1, d2, d3] }
  | _ => none }
def PickTwinsWrongFalsely : Prop := pickTwinsRow.holds Try.pinned (OpenSpec.ofChange pickTwinsWrong)

/-- 'garretlaw19.PickTells': WHATEVER THE INPUT: true; the input reads as it did. -/
def pickTellsSpec : ChangeSpec := { name := "pickTells", fn := fun _ => fun
  | [d1, d2, d3, d4] => { results := [.lit (.bool true)], args := [d1, d2, d3, d4] }
  | _ => none }
def pickTellsRow : OpenClaim := { program := "ytokffohhegabhaa", sum := "3f8bb86522e69a9bb961183dae5f091f78d60c6386bc6b0bd876676a8f80eba7", func := "garret/garretlaw19.PickTells", spec := "pickTells", unfollowed := true, recurses := true, plainKeys := false, apart := false }
def PickTellsSaid : Prop := pickTellsRow.holds Try.pinned (OpenSpec.ofChange pickTellsSpec)

/-- ITS FALSE NEIGHBOUR: 'it returns false'. Refute it at one input. -/
def pickTellsWrong : ChangeSpec := { name := "pickTells", fn := fun _ => fun
  | [d1, d2, d3, d4] => { results := [.lit (.bool false)], args := [d1, d2, d3, d4] }
  | _ => none }
def PickTellsWrongFalsely : Prop := pickTellsRow.holds Try.pinned (OpenSpec.ofChange pickTellsWrong)

/-- 'garretlaw19.PickBegun': WHATEVER THE INPUT: true; the input reads as it did. -/
def pickBegunSpec : ChangeSpec := { name := "pickBegun", fn := fun _ => fun
  | [d1, d2, d3] => { results := [.lit (.bool true)], args := [d1, d2, d3] }
  | _ => none }
def pickBegunRow : OpenClaim := { program := "ytokffohhegabhaa", sum := "3f8bb86522e69a9bb961183dae5f091f78d60c6386bc6b0bd876676a8f80eba7", func := "garret/garretlaw19.PickBegun", spec := "pickBegun", unfollowed := true, recurses := true, plainKeys := false, apart := false }
def PickBegunSaid : Prop := pickBegunRow.holds Try.pinned (OpenSpec.ofChange pickBegunSpec)

/-- ITS FALSE NEIGHBOUR: 'it returns false'. Refute it at one input. -/
def pickBegunWrong : ChangeSpec := { name := "pickBegun", fn := fun _ => fun
  | [d1, d2, d3] => { results := [.lit (.bool false)], args := [d1, d2, d3] }
  | _ => none }
def PickBegunWrongFalsely : Prop := pickBegunRow.holds Try.pinned (OpenSpec.ofChange pickBegunWrong)

/-- 'garretlaw19.PickBad': WHATEVER THE INPUT: true; the input reads as it did. -/
def pickBadSpec : ChangeSpec := { name := "pickBad", fn := fun _ => fun
  | [d1, d2, d3] => { results := [.lit (.bool true)], args := [d1, d2, d3] }
  | _ => none }
def pickBadRow : OpenClaim := { program := "ytokffohhegabhaa", sum := "3f8bb86522e69a9bb961183dae5f091f78d60c6386bc6b0bd876676a8f80eba7", func := "garret/garretlaw19.PickBad", spec := "pickBad", unfollowed := true, recurses := true, plainKeys := false, apart := false }
def PickBadSaid : Prop := pickBadRow.holds Try.pinned (OpenSpec.ofChange pickBadSpec)

/-- ITS FALSE NEIGHBOUR: 'it returns false'. Refute it at one input. -/
def pickBadWrong : ChangeSpec := { name := "pickBad", fn := fun _ => fun
  | [d1, d2, d3] => { results := [.lit (.bool false)], args := [d1, d2, d3] }
  | _ => none }
def PickBadWrongFalsely : Prop := pickBadRow.holds Try.pinned (OpenSpec.ofChange pickBadWrong)

/-- 'garretlaw09.RunsWhole': WHATEVER THE INPUT: true; the input reads as it did. -/
def runsWholeSpec : ChangeSpec := { name := "runsWhole", fn := fun _ => fun
  | [d1, d2, d3, d4, d5] => { results := [.lit (.bool true)], args := [d1, d2, d3, d4, d5] }
  | _ => none }
def runsWholeRow : OpenClaim := { program := "ytokffohhegabhaa", sum := "3f8bb86522e69a9bb961183dae5f091f78d60c6386bc6b0bd876676a8f80eba7", func := "garret/garretlaw09.RunsWhole", spec := "runsWhole", unfollowed := true, recurses := true, plainKeys := false, apart := false }
def RunsWholeSaid : Prop := runsWholeRow.holds Try.pinned (OpenSpec.ofChange runsWholeSpec)

/-- ITS FALSE NEIGHBOUR: 'it returns false'. Refute it at one input. -/
def runsWholeWrong : ChangeSpec := { name := "runsWhole", fn := fun _ => fun
  | [d1, d2, d3, d4, d5] => { results := [.lit (.bool false)], args := [d1, d2, d3, d4, d5] }
  | _ => none }
def RunsWholeWrongFalsely : Prop := runsWholeRow.holds Try.pinned (OpenSpec.ofChange runsWholeWrong)

/-- 'garretlaw09.RunsPlay': WHATEVER THE INPUT: true; the input reads as it did. -/
def runsPlaySpec : ChangeSpec := { name := "runsPlay", fn := fun _ => fun
  | [d] => { results := [.lit (.bool true)], args := [d] }
  | _ => none }
def runsPlayRow : OpenClaim := { program := "ytokffohhegabhaa", sum := "3f8bb86522e69a9bb961183dae5f091f78d60c6386bc6b0bd876676a8f80eba7", func := "garret/garretlaw09.RunsPlay", spec := "runsPlay", unfollowed := true, recurses := true, plainKeys := false, apart := false }
def RunsPlaySaid : Prop := runsPlayRow.holds Try.pinned (OpenSpec.ofChange runsPlaySpec)

/-- ITS FALSE NEIGHBOUR: 'it returns false'. Refute it at one input. -/
def runsPlayWrong : ChangeSpec := { name := "runsPlay", fn := fun _ => fun
  | [d] => { results := [.lit (.bool false)], args := [d] }
  | _ => none }
def RunsPlayWrongFalsely : Prop := runsPlayRow.holds Try.pinned (OpenSpec.ofChange runsPlayWrong)

/-- 'garretlaw09.RunsRight': WHATEVER THE INPUT: true; the input reads as it did. -/
def runsRightSpec : ChangeSpec := { name := "runsRight", fn := fun _ => fun
  | [d] => { results := [.lit (.bool true)], args := [d] }
  | _ => none }
def runsRightRow : OpenClaim := { program := "ytokffohhegabhaa", sum := "3f8bb86522e69a9bb961183dae5f091f78d60c6386bc6b0bd876676a8f80eba7", func := "garret/garretlaw09.RunsRight", spec := "runsRight", unfollowed := true, recurses := true, plainKeys := false, apart := false }
def RunsRightSaid : Prop := runsRightRow.holds Try.pinned (OpenSpec.ofChange runsRightSpec)

/-- ITS FALSE NEIGHBOUR: 'it returns false'. Refute it at one input. -/
def runsRightWrong : ChangeSpec := { name := "runsRight", fn := fun _ => fun
  | [d] => { results := [.lit (.bool false)], args := [d] }
  | _ => none }
def RunsRightWrongFalsely : Prop := runsRightRow.holds Try.pinned (OpenSpec.ofChange runsRightWrong)

/-- 'garretlaw12.InodeTells': WHATEVER THE INPUT: true; the input reads as it did. -/
def inodeTellsSpec : ChangeSpec := { name := "inodeTells", fn := fun _ => fun
  | [d1, d2, d3, d4] => { results := [.lit (.bool true)], args := [d1, d2, d3, d4] }
  | _ => none }
def inodeTellsRow : OpenClaim := { program := "ytokffohhegabhaa", sum := "3f8bb86522e69a9bb961183dae5f091f78d60c6386bc6b0bd876676a8f80eba7", func := "garret/garretlaw12.InodeTells", spec := "inodeTells", inPlace := ["internal/bytealg.IndexByteString"], unfollowed := true, recurses := true, plainKeys := false, apart := false }
def InodeTellsSaid : Prop := inodeTellsRow.holds Try.pinned (OpenSpec.ofChange inodeTellsSpec)

/-- ITS FALSE NEIGHBOUR: 'it returns false'. Refute it at one input. -/
def inodeTellsWrong : ChangeSpec := { name := "inodeTells", fn := fun _ => fun
  | [d1, d2, d3, d4] => { results := [.lit (.bool false)], args := [d1, d2, d3, d4] }
  | _ => none }
def InodeTellsWrongFalsely : Prop := inodeTellsRow.holds Try.pinned (OpenSpec.ofChange inodeTellsWrong)

/-- 'garretlaw12.InodeNew': WHATEVER THE INPUT: true; the input reads as it did. -/
def inodeNewSpec : ChangeSpec := { name := "inodeNew", fn := fun _ => fun
  | [d1, d2, d3] => { results := [.lit (.bool true)], args := [d1, d2, d3] }
  | _ => none }
def inodeNewRow : OpenClaim := { program := "ytokffohhegabhaa", sum := "3f8bb86522e69a9bb961183dae5f091f78d60c6386bc6b0bd876676a8f80eba7", func := "garret/garretlaw12.InodeNew", spec := "inodeNew", inPlace := ["internal/bytealg.IndexByteString"], plainKeys := false, apart := false }
def InodeNewSaid : Prop := inodeNewRow.holds Try.pinned (OpenSpec.ofChange inodeNewSpec)

/-- ITS FALSE NEIGHBOUR: 'it returns false'. Refute it at one input. -/
def inodeNewWrong : ChangeSpec := { name := "inodeNew", fn := fun _ => fun
  | [d1, d2, d3] => { results := [.lit (.bool false)], args := [d1, d2, d3] }
  | _ => none }
def InodeNewWrongFalsely : Prop := inodeNewRow.holds Try.pinned (OpenSpec.ofChange inodeNewWrong)

/-- 'garretlaw12.InodeNeeds': WHATEVER THE INPUT: true; the input reads as it did. -/
def inodeNeedsSpec : ChangeSpec := { name := "inodeNeeds", fn := fun _ => fun
  | [d1, d2] => { results := [.lit (.bool true)], args := [d1, d2] }
  | _ => none }
def inodeNeedsRow : OpenClaim := { program := "ytokffohhegabhaa", sum := "3f8bb86522e69a9bb961183dae5f091f78d60c6386bc6b0bd876676a8f80eba7", func := "garret/garretlaw12.InodeNeeds", spec := "inodeNeeds", inPlace := ["internal/bytealg.IndexByteString"], plainKeys := false, apart := false }
def InodeNeedsSaid : Prop := inodeNeedsRow.holds Try.pinned (OpenSpec.ofChange inodeNeedsSpec)

/-- ITS FALSE NEIGHBOUR: 'it returns false'. Refute it at one input. -/
def inodeNeedsWrong : ChangeSpec := { name := "inodeNeeds", fn := fun _ => fun
  | [d1, d2] => { results := [.lit (.bool false)], args := [d1, d2] }
  | _ => none }
def InodeNeedsWrongFalsely : Prop := inodeNeedsRow.holds Try.pinned (OpenSpec.ofChange inodeNeedsWrong)

/-- 'garretlaw12.InodeStats': WHATEVER THE INPUT: true; the input reads as it did. -/
def inodeStatsSpec : ChangeSpec := { name := "inodeStats", fn := fun _ => fun
  | [d1, d2, d3] => { results := [.lit (.bool true)], args := [d1, d2, d3] }
  | _ => none }
def inodeStatsRow : OpenClaim := { program := "ytokffohhegabhaa", sum := "3f8bb86522e69a9bb961183dae5f091f78d60c6386bc6b0bd876676a8f80eba7", func := "garret/garretlaw12.InodeStats", spec := "inodeStats", inPlace := ["internal/bytealg.IndexByteString"], plainKeys := false, apart := false }
def InodeStatsSaid : Prop := inodeStatsRow.holds Try.pinned (OpenSpec.ofChange inodeStatsSpec)

/-- ITS FALSE NEIGHBOUR: 'it returns false'. Refute it at one input. -/
def inodeStatsWrong : ChangeSpec := { name := "inodeStats", fn := fun _ => fun
  | [d1, d2, d3] => { results := [.lit (.bool false)], args := [d1, d2, d3] }
  | _ => none }
def InodeStatsWrongFalsely : Prop := inodeStatsRow.holds Try.pinned (OpenSpec.ofChange inodeStatsWrong)

/-- 'garretlaw11.EntriesFull': WHATEVER THE INPUT: true; the input reads as it did. -/
def entriesFullSpec : ChangeSpec := { name := "entriesFull", fn := fun _ => fun
  | [d] => { results := [.lit (.bool true)], args := [d] }
  | _ => none }
def entriesFullRow : OpenClaim := { program := "ytokffohhegabhaa", sum := "3f8bb86522e69a9bb961183dae5f091f78d60c6386bc6b0bd876676a8f80eba7", func := "garret/garretlaw11.EntriesFull", spec := "entriesFull", inPlace := ["slices.overlaps[garret/api.Entry]"], unfollowed := true, recurses := true, plainKeys := false, apart := false }
def EntriesFullSaid : Prop := entriesFullRow.holds Try.pinned (OpenSpec.ofChange entriesFullSpec)

/-- ITS FALSE NEIGHBOUR: 'it returns false'. Refute it at one input. -/
def entriesFullWrong : ChangeSpec := { name := "entriesFull", fn := fun _ => fun
  | [d] => { results := [.lit (.bool false)], args := [d] }
  | _ => none }
def EntriesFullWrongFalsely : Prop := entriesFullRow.holds Try.pinned (OpenSpec.ofChange entriesFullWrong)

/-- 'garretlaw11.EntriesTell': WHATEVER THE INPUT: true; the input reads as it did. -/
def entriesTellSpec : ChangeSpec := { name := "entriesTell", fn := fun _ => fun
  | [d1, d2, d3] => { results := [.lit (.bool true)], args := [d1, d2, d3] }
  | _ => none }
def entriesTellRow : OpenClaim := { program := "ytokffohhegabhaa", sum := "3f8bb86522e69a9bb961183dae5f091f78d60c6386bc6b0bd876676a8f80eba7", func := "garret/garretlaw11.EntriesTell", spec := "entriesTell", inPlace := ["slices.overlaps[garret/api.Entry]"], unfollowed := true, recurses := true, plainKeys := false, apart := false }
def EntriesTellSaid : Prop := entriesTellRow.holds Try.pinned (OpenSpec.ofChange entriesTellSpec)

/-- ITS FALSE NEIGHBOUR: 'it returns false'. Refute it at one input. -/
def entriesTellWrong : ChangeSpec := { name := "entriesTell", fn := fun _ => fun
  | [d1, d2, d3] => { results := [.lit (.bool false)], args := [d1, d2, d3] }
  | _ => none }
def EntriesTellWrongFalsely : Prop := entriesTellRow.holds Try.pinned (OpenSpec.ofChange entriesTellWrong)

/-- 'garretlaw11.EntriesPlay': WHATEVER THE INPUT: true; the input reads as it did. -/
def entriesPlaySpec : ChangeSpec := { name := "entriesPlay", fn := fun _ => fun
  | [d1, d2] => { results := [.lit (.bool true)], args := [d1, d2] }
  | _ => none }
def entriesPlayRow : OpenClaim := { program := "ytokffohhegabhaa", sum := "3f8bb86522e69a9bb961183dae5f091f78d60c6386bc6b0bd876676a8f80eba7", func := "garret/garretlaw11.EntriesPlay", spec := "entriesPlay", inPlace := ["slices.overlaps[garret/api.Entry]"], unfollowed := true, recurses := true, plainKeys := false, apart := false }
def EntriesPlaySaid : Prop := entriesPlayRow.holds Try.pinned (OpenSpec.ofChange entriesPlaySpec)

/-- ITS FALSE NEIGHBOUR: 'it returns false'. Refute it at one input. -/
def entriesPlayWrong : ChangeSpec := { name := "entriesPlay", fn := fun _ => fun
  | [d1, d2] => { results := [.lit (.bool false)], args := [d1, d2] }
  | _ => none }
def EntriesPlayWrongFalsely : Prop := entriesPlayRow.holds Try.pinned (OpenSpec.ofChange entriesPlayWrong)

/-- 'garretlaw11.EntriesOrder': WHATEVER THE INPUT: true; the input reads as it did. -/
def entriesOrderSpec : ChangeSpec := { name := "entriesOrder", fn := fun _ => fun
  | [d1, d2, d3] => { results := [.lit (.bool true)], args := [d1, d2, d3] }
  | _ => none }
def entriesOrderRow : OpenClaim := { program := "ytokffohhegabhaa", sum := "3f8bb86522e69a9bb961183dae5f091f78d60c6386bc6b0bd876676a8f80eba7", func := "garret/garretlaw11.EntriesOrder", spec := "entriesOrder", inPlace := ["slices.overlaps[garret/api.Entry]"], unfollowed := true, recurses := true, plainKeys := false, apart := false }
def EntriesOrderSaid : Prop := entriesOrderRow.holds Try.pinned (OpenSpec.ofChange entriesOrderSpec)

/-- ITS FALSE NEIGHBOUR: 'it returns false'. Refute it at one input. -/
def entriesOrderWrong : ChangeSpec := { name := "entriesOrder", fn := fun _ => fun
  | [d1, d2, d3] => { results := [.lit (.bool false)], args := [d1, d2, d3] }
  | _ => none }
def EntriesOrderWrongFalsely : Prop := entriesOrderRow.holds Try.pinned (OpenSpec.ofChange entriesOrderWrong)

/-- 'garretlaw14.StateSound': WHATEVER THE INPUT: true; the input reads as it did. -/
def stateSoundSpec : ChangeSpec := { name := "stateSound", fn := fun _ => fun
  | [d1, d2, d3] => { results := [.lit (.bool true)], args := [d1, d2, d3] }
  | _ => none }
def stateSoundRow : OpenClaim := { program := "ytokffohhegabhaa", sum := "3f8bb86522e69a9bb961183dae5f091f78d60c6386bc6b0bd876676a8f80eba7", func := "garret/garretlaw14.StateSound", spec := "stateSound", inPlace := ["internal/bytealg.IndexByteString", "slices.overlaps[garret/api.Inode]", "slices.overlaps[int]"], unfollowed := true, recurses := true, plainKeys := false, apart := false }
def StateSoundSaid : Prop := stateSoundRow.holds Try.pinned (OpenSpec.ofChange stateSoundSpec)

/-- ITS FALSE NEIGHBOUR: 'it returns false'. Refute it at one input. -/
def stateSoundWrong : ChangeSpec := { name := "stateSound", fn := fun _ => fun
  | [d1, d2, d3] => { results := [.lit (.bool false)], args := [d1, d2, d3] }
  | _ => none }
def StateSoundWrongFalsely : Prop := stateSoundRow.holds Try.pinned (OpenSpec.ofChange stateSoundWrong)

/-- 'garretlaw14.StateOnce': WHATEVER THE INPUT: true; the input reads as it did. -/
def stateOnceSpec : ChangeSpec := { name := "stateOnce", fn := fun _ => fun
  | [d1, d2] => { results := [.lit (.bool true)], args := [d1, d2] }
  | _ => none }
def stateOnceRow : OpenClaim := { program := "ytokffohhegabhaa", sum := "3f8bb86522e69a9bb961183dae5f091f78d60c6386bc6b0bd876676a8f80eba7", func := "garret/garretlaw14.StateOnce", spec := "stateOnce", inPlace := ["slices.overlaps[garret/api.Inode]", "slices.overlaps[int]", "internal/bytealg.IndexByteString"], unfollowed := true, recurses := true, plainKeys := false, apart := false }
def StateOnceSaid : Prop := stateOnceRow.holds Try.pinned (OpenSpec.ofChange stateOnceSpec)

/-- ITS FALSE NEIGHBOUR: 'it returns false'. Refute it at one input. -/
def stateOnceWrong : ChangeSpec := { name := "stateOnce", fn := fun _ => fun
  | [d1, d2] => { results := [.lit (.bool false)], args := [d1, d2] }
  | _ => none }
def StateOnceWrongFalsely : Prop := stateOnceRow.holds Try.pinned (OpenSpec.ofChange stateOnceWrong)

/-- 'garretlaw14.StateTells': WHATEVER THE INPUT: true; the input reads as it did. -/
def stateTellsSpec : ChangeSpec := { name := "stateTells", fn := fun _ => fun
  | [d1, d2, d3, d4] => { results := [.lit (.bool true)], args := [d1, d2, d3, d4] }
  | _ => none }
def stateTellsRow : OpenClaim := { program := "ytokffohhegabhaa", sum := "3f8bb86522e69a9bb961183dae5f091f78d60c6386bc6b0bd876676a8f80eba7", func := "garret/garretlaw14.StateTells", spec := "stateTells", inPlace := ["internal/bytealg.IndexByteString", "slices.overlaps[garret/api.Inode]", "slices.overlaps[int]"], unfollowed := true, recurses := true, plainKeys := false, apart := false }
def StateTellsSaid : Prop := stateTellsRow.holds Try.pinned (OpenSpec.ofChange stateTellsSpec)

/-- ITS FALSE NEIGHBOUR: 'it returns false'. Refute it at one input. -/
def stateTellsWrong : ChangeSpec := { name := "stateTells", fn := fun _ => fun
  | [d1, d2, d3, d4] => { results := [.lit (.bool false)], args := [d1, d2, d3, d4] }
  | _ => none }
def StateTellsWrongFalsely : Prop := stateTellsRow.holds Try.pinned (OpenSpec.ofChange stateTellsWrong)

/-- 'garretlaw14.StateWhole': WHATEVER THE INPUT: true; the input reads as it did. -/
def stateWholeSpec : ChangeSpec := { name := "stateWhole", fn := fun _ => fun
  | [d1, d2] => { results := [.lit (.bool true)], args := [d1, d2] }
  | _ => none }
def stateWholeRow : OpenClaim := { program := "ytokffohhegabhaa", sum := "3f8bb86522e69a9bb961183dae5f091f78d60c6386bc6b0bd876676a8f80eba7", func := "garret/garretlaw14.StateWhole", spec := "stateWhole", inPlace := ["internal/bytealg.IndexByteString", "slices.overlaps[garret/api.Inode]", "slices.overlaps[int]"], unfollowed := true, recurses := true, plainKeys := false, apart := false }
def StateWholeSaid : Prop := stateWholeRow.holds Try.pinned (OpenSpec.ofChange stateWholeSpec)

/-- ITS FALSE NEIGHBOUR: 'it returns false'. Refute it at one input. -/
def stateWholeWrong : ChangeSpec := { name := "stateWhole", fn := fun _ => fun
  | [d1, d2] => { results := [.lit (.bool false)], args := [d1, d2] }
  | _ => none }
def StateWholeWrongFalsely : Prop := stateWholeRow.holds Try.pinned (OpenSpec.ofChange stateWholeWrong)

/- THE SECOND FORM. 'bulk': how many values and letters a reading holds, each counted each time it is reached (what is shared counts as often as it is met; a slice's spare places count too). A statement '..UptoSaid' is the law's where the arguments, and the package variables that the reading takes, are together of bulk at most 1048576: NARROWER than '..Said'. Prove '..Said' where nothing that the law and all that it calls make is longer than what came in: it says more and counts as full. Else prove '..UptoSaid'. A law counts once. -/
mutual
def uptoBulk {H : Type} : DataW H → Nat
  | .lit (.string bytes) => bytes.length + 1
  | .lit _ => 1
  | .nil => 1
  | .ptr d => uptoBulk d + 1
  | .slice elems spare => uptoBulkAll elems + uptoBulkAll spare + 1
  | .agg parts => uptoBulkAll parts + 1
  | .iface _ d => uptoBulk d + 1
  | .map entries => uptoBulkEntries entries + 1
  | .held _ => 1
def uptoBulkAll {H : Type} : List (DataW H) → Nat
  | [] => 0
  | d :: r => uptoBulk d + uptoBulkAll r
def uptoBulkEntries {H : Type} : List (Lit × DataW H) → Nat
  | [] => 0
  | x :: r => uptoBulkEntry x + uptoBulkEntries r
def uptoBulkEntry {H : Type} : Lit × DataW H → Nat
  | (.string bytes, d) => bytes.length + uptoBulk d + 1
  | (_, d) => uptoBulk d + 1
 end
def uptoSmall : (H : Type) → List (DataW H) → Bool := fun _ ds => decide (uptoBulkAll ds ≤ 1048576)
def OpenSpec.upto (s : _root_.Go.ChangeSpec) : _root_.Go.OpenSpec := { _root_.Go.OpenSpec.ofChange s with cond := some uptoSmall }

/-- 'garretlaw19.PickLeast', WHERE WHAT IT READS IS OF BULK AT MOST 1048576: true; the input reads as it did. -/
def pickLeastUptoRow : OpenClaim := { program := "ytokffohhegabhaa", sum := "3f8bb86522e69a9bb961183dae5f091f78d60c6386bc6b0bd876676a8f80eba7", func := "garret/garretlaw19.PickLeast", spec := "pickLeast", unfollowed := true, recurses := true, plainKeys := false, apart := false, narrowed := true }
def PickLeastUptoSaid : Prop := pickLeastUptoRow.holds Try.pinned (OpenSpec.upto pickLeastSpec)

/-- 'garretlaw19.PickTwins', WHERE WHAT IT READS IS OF BULK AT MOST 1048576: true; the input reads as it did. -/
def pickTwinsUptoRow : OpenClaim := { program := "ytokffohhegabhaa", sum := "3f8bb86522e69a9bb961183dae5f091f78d60c6386bc6b0bd876676a8f80eba7", func := "garret/garretlaw19.PickTwins", spec := "pickTwins", unfollowed := true, recurses := true, plainKeys := false, apart := false, narrowed := true }
def PickTwinsUptoSaid : Prop := pickTwinsUptoRow.holds Try.pinned (OpenSpec.upto pickTwinsSpec)

/-- 'garretlaw19.PickTells', WHERE WHAT IT READS IS OF BULK AT MOST 1048576: true; the input reads as it did. -/
def pickTellsUptoRow : OpenClaim := { program := "ytokffohhegabhaa", sum := "3f8bb86522e69a9bb961183dae5f091f78d60c6386bc6b0bd876676a8f80eba7", func := "garret/garretlaw19.PickTells", spec := "pickTells", unfollowed := true, recurses := true, plainKeys := false, apart := false, narrowed := true }
def PickTellsUptoSaid : Prop := pickTellsUptoRow.holds Try.pinned (OpenSpec.upto pickTellsSpec)

/-- 'garretlaw19.PickBegun', WHERE WHAT IT READS IS OF BULK AT MOST 1048576: true; the input reads as it did. -/
def pickBegunUptoRow : OpenClaim := { program := "ytokffohhegabhaa", sum := "3f8bb86522e69a9bb961183dae5f091f78d60c6386bc6b0bd876676a8f80eba7", func := "garret/garretlaw19.PickBegun", spec := "pickBegun", unfollowed := true, recurses := true, plainKeys := false, apart := false, narrowed := true }
def PickBegunUptoSaid : Prop := pickBegunUptoRow.holds Try.pinned (OpenSpec.upto pickBegunSpec)

/-- 'garretlaw19.PickBad', WHERE WHAT IT READS IS OF BULK AT MOST 1048576: true; the input reads as it did. -/
def pickBadUptoRow : OpenClaim := { program := "ytokffohhegabhaa", sum := "3f8bb86522e69a9bb961183dae5f091f78d60c6386bc6b0bd876676a8f80eba7", func := "garret/garretlaw19.PickBad", spec := "pickBad", unfollowed := true, recurses := true, plainKeys := false, apart := false, narrowed := true }
def PickBadUptoSaid : Prop := pickBadUptoRow.holds Try.pinned (OpenSpec.upto pickBadSpec)

/-- 'garretlaw09.RunsWhole', WHERE WHAT IT READS IS OF BULK AT MOST 1048576: true; the input reads as it did. -/
def runsWholeUptoRow : OpenClaim := { program := "ytokffohhegabhaa", sum := "3f8bb86522e69a9bb961183dae5f091f78d60c6386bc6b0bd876676a8f80eba7", func := "garret/garretlaw09.RunsWhole", spec := "runsWhole", unfollowed := true, recurses := true, plainKeys := false, apart := false, narrowed := true }
def RunsWholeUptoSaid : Prop := runsWholeUptoRow.holds Try.pinned (OpenSpec.upto runsWholeSpec)

/-- 'garretlaw09.RunsPlay', WHERE WHAT IT READS IS OF BULK AT MOST 1048576: true; the input reads as it did. -/
def runsPlayUptoRow : OpenClaim := { program := "ytokffohhegabhaa", sum := "3f8bb86522e69a9bb961183dae5f091f78d60c6386bc6b0bd876676a8f80eba7", func := "garret/garretlaw09.RunsPlay", spec := "runsPlay", unfollowed := true, recurses := true, plainKeys := false, apart := false, narrowed := true }
def RunsPlayUptoSaid : Prop := runsPlayUptoRow.holds Try.pinned (OpenSpec.upto runsPlaySpec)

/-- 'garretlaw09.RunsRight', WHERE WHAT IT READS IS OF BULK AT MOST 1048576: true; the input reads as it did. -/
def runsRightUptoRow : OpenClaim := { program := "ytokffohhegabhaa", sum := "3f8bb86522e69a9bb961183dae5f091f78d60c6386bc6b0bd876676a8f80eba7", func := "garret/garretlaw09.RunsRight", spec := "runsRight", unfollowed := true, recurses := true, plainKeys := false, apart := false, narrowed := true }
def RunsRightUptoSaid : Prop := runsRightUptoRow.holds Try.pinned (OpenSpec.upto runsRightSpec)

/-- 'garretlaw12.InodeTells', WHERE WHAT IT READS IS OF BULK AT MOST 1048576: true; the input reads as it did. -/
def inodeTellsUptoRow : OpenClaim := { program := "ytokffohhegabhaa", sum := "3f8bb86522e69a9bb961183dae5f091f78d60c6386bc6b0bd876676a8f80eba7", func := "garret/garretlaw12.InodeTells", spec := "inodeTells", inPlace := ["internal/bytealg.IndexByteString"], unfollowed := true, recurses := true, plainKeys := false, apart := false, narrowed := true }
def InodeTellsUptoSaid : Prop := inodeTellsUptoRow.holds Try.pinned (OpenSpec.upto inodeTellsSpec)

/-- 'garretlaw12.InodeNew', WHERE WHAT IT READS IS OF BULK AT MOST 1048576: true; the input reads as it did. -/
def inodeNewUptoRow : OpenClaim := { program := "ytokffohhegabhaa", sum := "3f8bb86522e69a9bb961183dae5f091f78d60c6386bc6b0bd876676a8f80eba7", func := "garret/garretlaw12.InodeNew", spec := "inodeNew", inPlace := ["internal/bytealg.IndexByteString"], plainKeys := false, apart := false, narrowed := true }
def InodeNewUptoSaid : Prop := inodeNewUptoRow.holds Try.pinned (OpenSpec.upto inodeNewSpec)

/-- 'garretlaw12.InodeNeeds', WHERE WHAT IT READS IS OF BULK AT MOST 1048576: true; the input reads as it did. -/
def inodeNeedsUptoRow : OpenClaim := { program := "ytokffohhegabhaa", sum := "3f8bb86522e69a9bb961183dae5f091f78d60c6386bc6b0bd876676a8f80eba7", func := "garret/garretlaw12.InodeNeeds", spec := "inodeNeeds", inPlace := ["internal/bytealg.IndexByteString"], plainKeys := false, apart := false, narrowed := true }
def InodeNeedsUptoSaid : Prop := inodeNeedsUptoRow.holds Try.pinned (OpenSpec.upto inodeNeedsSpec)

/-- 'garretlaw12.InodeStats', WHERE WHAT IT READS IS OF BULK AT MOST 1048576: true; the input reads as it did. -/
def inodeStatsUptoRow : OpenClaim := { program := "ytokffohhegabhaa", sum := "3f8bb86522e69a9bb961183dae5f091f78d60c6386bc6b0bd876676a8f80eba7", func := "garret/garretlaw12.InodeStats", spec := "inodeStats", inPlace := ["internal/bytealg.IndexByteString"], plainKeys := false, apart := false, narrowed := true }
def InodeStatsUptoSaid : Prop := inodeStatsUptoRow.holds Try.pinned (OpenSpec.upto inodeStatsSpec)

/-- 'garretlaw11.EntriesFull', WHERE WHAT IT READS IS OF BULK AT MOST 1048576: true; the input reads as it did. -/
def entriesFullUptoRow : OpenClaim := { program := "ytokffohhegabhaa", sum := "3f8bb86522e69a9bb961183dae5f091f78d60c6386bc6b0bd876676a8f80eba7", func := "garret/garretlaw11.EntriesFull", spec := "entriesFull", inPlace := ["slices.overlaps[garret/api.Entry]"], unfollowed := true, recurses := true, plainKeys := false, apart := false, narrowed := true }
def EntriesFullUptoSaid : Prop := entriesFullUptoRow.holds Try.pinned (OpenSpec.upto entriesFullSpec)

/-- 'garretlaw11.EntriesTell', WHERE WHAT IT READS IS OF BULK AT MOST 1048576: true; the input reads as it did. -/
def entriesTellUptoRow : OpenClaim := { program := "ytokffohhegabhaa", sum := "3f8bb86522e69a9bb961183dae5f091f78d60c6386bc6b0bd876676a8f80eba7", func := "garret/garretlaw11.EntriesTell", spec := "entriesTell", inPlace := ["slices.overlaps[garret/api.Entry]"], unfollowed := true, recurses := true, plainKeys := false, apart := false, narrowed := true }
def EntriesTellUptoSaid : Prop := entriesTellUptoRow.holds Try.pinned (OpenSpec.upto entriesTellSpec)

/-- 'garretlaw11.EntriesPlay', WHERE WHAT IT READS IS OF BULK AT MOST 1048576: true; the input reads as it did. -/
def entriesPlayUptoRow : OpenClaim := { program := "ytokffohhegabhaa", sum := "3f8bb86522e69a9bb961183dae5f091f78d60c6386bc6b0bd876676a8f80eba7", func := "garret/garretlaw11.EntriesPlay", spec := "entriesPlay", inPlace := ["slices.overlaps[garret/api.Entry]"], unfollowed := true, recurses := true, plainKeys := false, apart := false, narrowed := true }
def EntriesPlayUptoSaid : Prop := entriesPlayUptoRow.holds Try.pinned (OpenSpec.upto entriesPlaySpec)

/-- 'garretlaw11.EntriesOrder', WHERE WHAT IT READS IS OF BULK AT MOST 1048576: true; the input reads as it did. -/
def entriesOrderUptoRow : OpenClaim := { program := "ytokffohhegabhaa", sum := "3f8bb86522e69a9bb961183dae5f091f78d60c6386bc6b0bd876676a8f80eba7", func := "garret/garretlaw11.EntriesOrder", spec := "entriesOrder", inPlace := ["slices.overlaps[garret/api.Entry]"], unfollowed := true, recurses := true, plainKeys := false, apart := false, narrowed := true }
def EntriesOrderUptoSaid : Prop := entriesOrderUptoRow.holds Try.pinned (OpenSpec.upto entriesOrderSpec)

/-- 'garretlaw14.StateSound', WHERE WHAT IT READS IS OF BULK AT MOST 1048576: true; the input reads as it did. -/
def stateSoundUptoRow : OpenClaim := { program := "ytokffohhegabhaa", sum := "3f8bb86522e69a9bb961183dae5f091f78d60c6386bc6b0bd876676a8f80eba7", func := "garret/garretlaw14.StateSound", spec := "stateSound", inPlace := ["internal/bytealg.IndexByteString", "slices.overlaps[garret/api.Inode]", "slices.overlaps[int]"], unfollowed := true, recurses := true, plainKeys := false, apart := false, narrowed := true }
def StateSoundUptoSaid : Prop := stateSoundUptoRow.holds Try.pinned (OpenSpec.upto stateSoundSpec)

/-- 'garretlaw14.StateOnce', WHERE WHAT IT READS IS OF BULK AT MOST 1048576: true; the input reads as it did. -/
def stateOnceUptoRow : OpenClaim := { program := "ytokffohhegabhaa", sum := "3f8bb86522e69a9bb961183dae5f091f78d60c6386bc6b0bd876676a8f80eba7", func := "garret/garretlaw14.StateOnce", spec := "stateOnce", inPlace := ["slices.overlaps[garret/api.Inode]", "slices.overlaps[int]", "internal/bytealg.IndexByteString"], unfollowed := true, recurses := true, plainKeys := false, apart := false, narrowed := true }
def StateOnceUptoSaid : Prop := stateOnceUptoRow.holds Try.pinned (OpenSpec.upto stateOnceSpec)

/-- 'garretlaw14.StateTells', WHERE WHAT IT READS IS OF BULK AT MOST 1048576: true; the input reads as it did. -/
def stateTellsUptoRow : OpenClaim := { program := "ytokffohhegabhaa", sum := "3f8bb86522e69a9bb961183dae5f091f78d60c6386bc6b0bd876676a8f80eba7", func := "garret/garretlaw14.StateTells", spec := "stateTells", inPlace := ["internal/bytealg.IndexByteString", "slices.overlaps[garret/api.Inode]", "slices.overlaps[int]"], unfollowed := true, recurses := true, plainKeys := false, apart := false, narrowed := true }
def StateTellsUptoSaid : Prop := stateTellsUptoRow.holds Try.pinned (OpenSpec.upto stateTellsSpec)

/-- 'garretlaw14.StateWhole', WHERE WHAT IT READS IS OF BULK AT MOST 1048576: true; the input reads as it did. -/
def stateWholeUptoRow : OpenClaim := { program := "ytokffohhegabhaa", sum := "3f8bb86522e69a9bb961183dae5f091f78d60c6386bc6b0bd876676a8f80eba7", func := "garret/garretlaw14.StateWhole", spec := "stateWhole", inPlace := ["internal/bytealg.IndexByteString", "slices.overlaps[garret/api.Inode]", "slices.overlaps[int]"], unfollowed := true, recurses := true, plainKeys := false, apart := false, narrowed := true }
def StateWholeUptoSaid : Prop := stateWholeUptoRow.holds Try.pinned (OpenSpec.upto stateWholeSpec)

end Rows
end Go.Proofs.Ytokffohhegabhaa
