/-
  No cell of these rows narrows 'for every input' (looked for: loops, veiled, ifaces, maps, wideKeys, modest, calm, conditions, laid).
  DERIVED. THE GIVEN ROWS OF THIS SEAT. 8 by the template 'for every input the law returns true; each argument reads behind the call as it read before'; 0 by the template 'total and deterministic' (their statements: YtidfcdomeacppaaTotals.lean).
  GIVEN WITH THE SEED: the statements are not yours to turn. If you find one false, say at which input.
  Laid BY PROGRAM, IN A SANDBOX (cutbox-rows.mjs): the forced cells as the released guide's own fill.sh prints them over the translation 5d3f0df4218d30f8… (all of the seat's roots in one cut). By AI agents, Wed Nov 11 2026. No macro, syntax, notation, axiom, sorry.
-/
import Derived.Test.YtidfcdomeacppaaChecked
import GoSem.Claim
import GoSem.ClaimJoined
import GoSem.ClaimMapViews
import Derived.JoinedTies
import Derived.KernelRfl
namespace Go.Proofs.Ytidfcdomeacppaa
/- THE CELL 'sum', in the pinned program and in every row, IS THE sha256 OF THE DUMP (.gsa) THAT YtidfcdomeacppaaProg.lean LOADS. Nothing in Lean hashes anything: it is a label: what it is worth is what the hold of that sum in a sandbox is worth. -/
noncomputable def Try.pinned : Pinned := { name := "ytidfcdomeacppaa", sum := "5d3f0df4218d30f8773d216c8f28476fef4d19976e8057bf14270bf5967674dc", checked := Try.checked }
namespace Rows
def none {H : Type} : Left H := { results := [], args := [] }

/-- 'garretlaw12.InodeTells': WHATEVER THE INPUT: true; the input reads as it did. -/
def inodeTellsSpec : ChangeSpec := { name := "inodeTells", fn := fun _ => fun
  | [d1, d2, d3, d4] => { results := [.lit (.bool true)], args := [d1, d2, d3, d4] }
  | _ => none }
def inodeTellsRow : OpenClaim := { program := "ytidfcdomeacppaa", sum := "5d3f0df4218d30f8773d216c8f28476fef4d19976e8057bf14270bf5967674dc", func := "garret/garretlaw12.InodeTells", spec := "inodeTells", inPlace := ["internal/bytealg.IndexByteString"], unfollowed := true, recurses := true, plainKeys := false, apart := false }
def InodeTellsSaid : Prop := inodeTellsRow.holds Try.pinned (OpenSpec.ofChange inodeTellsSpec)

/-- ITS FALSE NEIGHBOUR: 'it returns false'. Refute it at one input. -/
def inodeTellsWrong : ChangeSpec := { name := "inodeTells", fn := fun _ => fun
  | [d1, d2, d3, d4] => { results := [.lit (.bool false)], args := [d1, d2, d3, d4] }
  | _ => none }
def InodeTellsWrongFalsely : Prop := inodeTellsRow.holds Try.pinned (OpenSpec.ofChange inodeTellsWrong)

/-- 'garretlaw12.InodeNew': WHATEVER THE INPUT: true; the input reads as it did. -/
def inodeNewSpec : ChangeSpec := { name := "inodeNew", fn := fun _ => fun
  | [d1, d2, d3] => { results := [.lit (.bool true)], args := [d1, d2, d3] }
  | _ => none }
def inodeNewRow : OpenClaim := { program := "ytidfcdomeacppaa", sum := "5d3f0df4218d30f8773d216c8f28476fef4d19976e8057bf14270bf5967674dc", func := "garret/garretlaw12.InodeNew", spec := "inodeNew", inPlace := ["internal/bytealg.IndexByteString"], plainKeys := false, apart := false }
def InodeNewSaid : Prop := inodeNewRow.holds Try.pinned (OpenSpec.ofChange inodeNewSpec)

/-- ITS FALSE NEIGHBOUR: 'it returns false'. Refute it at one input. -/
def inodeNewWrong : ChangeSpec := { name := "inodeNew", fn := fun _ => fun
  | [d1, d2, d3] => { results := [.lit (.bool false)], args := [d1, d2, d3] }
  | _ => none }
def InodeNewWrongFalsely : Prop := inodeNewRow.holds Try.pinned (OpenSpec.ofChange inodeNewWrong)

/-- 'garretlaw12.InodeNeeds': WHATEVER THE INPUT: true; the input reads as it did. -/
def inodeNeedsSpec : ChangeSpec := { name := "inodeNeeds", fn := fun _ => fun
  | [d1, d2] => { results := [.lit (.bool true)], args := [d1, d2] }
  | _ => none }
def inodeNeedsRow : OpenClaim := { program := "ytidfcdomeacppaa", sum := "5d3f0df4218d30f8773d216c8f28476fef4d19976e8057bf14270bf5967674dc", func := "garret/garretlaw12.InodeNeeds", spec := "inodeNeeds", inPlace := ["internal/bytealg.IndexByteString"], plainKeys := false, apart := false }
def InodeNeedsSaid : Prop := inodeNeedsRow.holds Try.pinned (OpenSpec.ofChange inodeNeedsSpec)

/-- ITS FALSE NEIGHBOUR: 'it returns false'. Refute it at one input. -/
def inodeNeedsWrong : ChangeSpec := { name := "inodeNeeds", fn := fun _ => fun
  | [d1, d2] => { results := [.lit (.bool false)], args := [d1, d2] }
  | _ => none }
def InodeNeedsWrongFalsely : Prop := inodeNeedsRow.holds Try.pinned (OpenSpec.ofChange inodeNeedsWrong)

/-- 'garretlaw12.InodeStats': WHATEVER THE INPUT: true; the input reads as it did. -/
def inodeStatsSpec : ChangeSpec := { name := "inodeStats", fn := fun _ => fun
  | [d1, d2, d3] => { results := [.lit (.bool true)], args := [d1, d2, d3] }
  | _ => none }
def inodeStatsRow : OpenClaim := { program := "ytidfcdomeacppaa", sum := "5d3f0df4218d30f8773d216c8f28476fef4d19976e8057bf14270bf5967674dc", func := "garret/garretlaw12.InodeStats", spec := "inodeStats", inPlace := ["internal/bytealg.IndexByteString"], plainKeys := false, apart := false }
def InodeStatsSaid : Prop := inodeStatsRow.holds Try.pinned (OpenSpec.ofChange inodeStatsSpec)

/-- ITS FALSE NEIGHBOUR: 'it returns false'. Refute it at one input. -/
def inodeStatsWrong : ChangeSpec := { name := "inodeStats", fn := fun _ => fun
  | [d1, d2, d3] => { results := [.lit (.bool false)], args := [d1, d2, d3] }
  | _ => none }
def InodeStatsWrongFalsely : Prop := inodeStatsRow.holds Try.pinned (OpenSpec.ofChange inodeStatsWrong)

/-- 'garretlaw11.EntriesFull': WHATEVER THE INPUT: true; the input reads as it did. -/
def entriesFullSpec : ChangeSpec := { name := "entriesFull", fn := fun _ => fun
  | [d] => { results := [.lit (.bool true)], args := [d] }
  | _ => none }
def entriesFullRow : OpenClaim := { program := "ytidfcdomeacppaa", sum := "5d3f0df4218d30f8773d216c8f28476fef4d19976e8057bf14270bf5967674dc", func := "garret/garretlaw11.EntriesFull", spec := "entriesFull", inPlace := ["slices.overlaps[garret/api.Entry]"], unfollowed := true, recurses := true, plainKeys := false, apart := false }
def EntriesFullSaid : Prop := entriesFullRow.holds Try.pinned (OpenSpec.ofChange entriesFullSpec)

/-- ITS FALSE NEIGHBOUR: 'it returns false'. Refute it at one input. -/
def entriesFullWrong : ChangeSpec := { name := "entriesFull", fn := fun _ => fun
  | [d] => { results := [.lit (.bool false)], args := [d] }
  | _ => none }
def EntriesFullWrongFalsely : Prop := entriesFullRow.holds Try.pinned (OpenSpec.ofChange entriesFullWrong)

/-- 'garretlaw11.EntriesTell': WHATEVER THE INPUT: true; the input reads as it did. -/
def entriesTellSpec : ChangeSpec := { name := "entriesTell", fn := fun _ => fun
  | [d1, d2, d3] => { results := [.lit (.bool true)], args := [d1, d2, d3] }
  | _ => none }
def entriesTellRow : OpenClaim := { program := "ytidfcdomeacppaa", sum := "5d3f0df4218d30f8773d216c8f28476fef4d19976e8057bf14270bf5967674dc", func := "garret/garretlaw11.EntriesTell", spec := "entriesTell", inPlace := ["slices.overlaps[garret/api.Entry]"], unfollowed := true, recurses := true, plainKeys := false, apart := false }
def EntriesTellSaid : Prop := entriesTellRow.holds Try.pinned (OpenSpec.ofChange entriesTellSpec)

/-- ITS FALSE NEIGHBOUR: 'it returns false'. Refute it at one input. -/
def entriesTellWrong : ChangeSpec := { name := "entriesTell", fn := fun _ => fun
  | [d1, d2, d3] => { results := [.lit (.bool false)], args := [d1, d2, d3] }
  | _ => none }
def EntriesTellWrongFalsely : Prop := entriesTellRow.holds Try.pinned (OpenSpec.ofChange entriesTellWrong)

/-- 'garretlaw11.EntriesPlay': WHATEVER THE INPUT: true; the input reads as it did. -/
def entriesPlaySpec : ChangeSpec := { name := "entriesPlay", fn := fun _ => fun
  | [d1, d2] => { results := [.lit (.bool true)], args := [d1, d2] }
  | _ => none }
def entriesPlayRow : OpenClaim := { program := "ytidfcdomeacppaa", sum := "5d3f0df4218d30f8773d216c8f28476fef4d19976e8057bf14270bf5967674dc", func := "garret/garretlaw11.EntriesPlay", spec := "entriesPlay", inPlace := ["slices.overlaps[garret/api.Entry]"], unfollowed := true, recurses := true, plainKeys := false, apart := false }
def EntriesPlaySaid : Prop := entriesPlayRow.holds Try.pinned (OpenSpec.ofChange entriesPlaySpec)

/-- ITS FALSE NEIGHBOUR: 'it returns false'. Refute it at one input. -/
def entriesPlayWrong : ChangeSpec := { name := "entriesPlay", fn := fun _ => fun
  | [d1, d2] => { results := [.lit (.bool false)], args := [d1, d2] }
  | _ => none }
def EntriesPlayWrongFalsely : Prop := entriesPlayRow.holds Try.pinned (OpenSpec.ofChange entriesPlayWrong)

/-- 'garretlaw11.EntriesOrder': WHATEVER THE INPUT: true; the input reads as it did. -/
def entriesOrderSpec : ChangeSpec := { name := "entriesOrder", fn := fun _ => fun
  | [d1, d2, d3] => { results := [.lit (.bool true)], args := [d1, d2, d3] }
  | _ => none }
def entriesOrderRow : OpenClaim := { program := "ytidfcdomeacppaa", sum := "5d3f0df4218d30f8773d216c8f28476fef4d19976e8057bf14270bf5967674dc", func := "garret/garretlaw11.EntriesOrder", spec := "entriesOrder", inPlace := ["slices.overlaps[garret/api.Entry]"], unfollowed := true, recurses := true, plainKeys := false, apart := false }
def EntriesOrderSaid : Prop := entriesOrderRow.holds Try.pinned (OpenSpec.ofChange entriesOrderSpec)

/-- ITS FALSE NEIGHBOUR: 'it returns false'. Refute it at one input. -/
def entriesOrderWrong : ChangeSpec := { name := "entriesOrder", fn := fun _ => fun
  | [d1, d2, d3] => { results := [.lit (.bool false)], args := [d1, d2, d3] }
  | _ => none }
def EntriesOrderWrongFalsely : Prop := entriesOrderRow.holds Try.pinned (OpenSpec.ofChange entriesOrderWrong)

/- THE SECOND FORM. 'bulk': how many values and letters a reading holds, each counted each time it is reached (what is shared counts as often as it is met; a slice's spare places count too). A statement '..UptoSaid' is the law's where the arguments, and the package variables that the reading takes, are together of bulk at most 1048576: NARROWER than '..Said'. Prove '..Said' where nothing that the law and all that it calls make is longer than what came in: it says more and counts as full. Else prove '..UptoSaid'. A law counts once. -/
mutual
def uptoBulk {H : Type} : DataW H → Nat
  | .lit (.string bytes) => bytes.length + 1
  | .lit _ => 1
  | .nil => 1
  | .ptr d => uptoBulk d + 1
  | .slice elems spare => uptoBulkAll elems + uptoBulkAll spare + 1
  | .agg parts => uptoBulkAll parts + 1
  | .iface _ d => uptoBulk d + 1
  | .map entries => uptoBulkEntries entries + 1
  | .held _ => 1
def uptoBulkAll {H : Type} : List (DataW H) → Nat
  | [] => 0
  | d :: r => uptoBulk d + uptoBulkAll r
def uptoBulkEntries {H : Type} : List (Lit × DataW H) → Nat
  | [] => 0
  | x :: r => uptoBulkEntry x + uptoBulkEntries r
def uptoBulkEntry {H : Type} : Lit × DataW H → Nat
  | (.string bytes, d) => bytes.length + uptoBulk d + 1
  | (_, d) => uptoBulk d + 1
 end
def uptoSmall : (H : Type) → List (DataW H) → Bool := fun _ ds => decide (uptoBulkAll ds ≤ 1048576)
def OpenSpec.upto (s : _root_.Go.ChangeSpec) : _root_.Go.OpenSpec := { _root_.Go.OpenSpec.ofChange s with cond := some uptoSmall }

/-- 'garretlaw12.InodeTells', WHERE WHAT IT READS IS OF BULK AT MOST 1048576: true; the input reads as it did. -/
def inodeTellsUptoRow : OpenClaim := { program := "ytidfcdomeacppaa", sum := "5d3f0df4218d30f8773d216c8f28476fef4d19976e8057bf14270bf5967674dc", func := "garret/garretlaw12.InodeTells", spec := "inodeTells", inPlace := ["internal/bytealg.IndexByteString"], unfollowed := true, recurses := true, plainKeys := false, apart := false, narrowed := true }
def InodeTellsUptoSaid : Prop := inodeTellsUptoRow.holds Try.pinned (OpenSpec.upto inodeTellsSpec)

/-- 'garretlaw12.InodeNew', WHERE WHAT IT READS IS OF BULK AT MOST 1048576: true; the input reads as it did. -/
def inodeNewUptoRow : OpenClaim := { program := "ytidfcdomeacppaa", sum := "5d3f0df4218d30f8773d216c8f28476fef4d19976e8057bf14270bf5967674dc", func := "garret/garretlaw12.InodeNew", spec := "inodeNew", inPlace := ["internal/bytealg.IndexByteString"], plainKeys := false, apart := false, narrowed := true }
def InodeNewUptoSaid : Prop := inodeNewUptoRow.holds Try.pinned (OpenSpec.upto inodeNewSpec)

/-- 'garretlaw12.InodeNeeds', WHERE WHAT IT READS IS OF BULK AT MOST 1048576: true; the input reads as it did. -/
def inodeNeedsUptoRow : OpenClaim := { program := "ytidfcdomeacppaa", sum := "5d3f0df4218d30f8773d216c8f28476fef4d19976e8057bf14270bf5967674dc", func := "garret/garretlaw12.InodeNeeds", spec := "inodeNeeds", inPlace := ["internal/bytealg.IndexByteString"], plainKeys := false, apart := false, narrowed := true }
def InodeNeedsUptoSaid : Prop := inodeNeedsUptoRow.holds Try.pinned (OpenSpec.upto inodeNeedsSpec)

/-- 'garretlaw12.InodeStats', WHERE WHAT IT READS IS OF BULK AT MOST 1048576: true; the input reads as it did. -/
def inodeStatsUptoRow : OpenClaim := { program := "ytidfcdomeacppaa", sum := "5d3f0df4218d30f8773d216c8f28476fef4d19976e8057bf14270bf5967674dc", func := "garret/garretlaw12.InodeStats", spec := "inodeStats", inPlace := ["internal/bytealg.IndexByteString"], plainKeys := false, apart := false, narrowed := true }
def InodeStatsUptoSaid : Prop := inodeStatsUptoRow.holds Try.pinned (OpenSpec.upto inodeStatsSpec)

/-- 'garretlaw11.EntriesFull', WHERE WHAT IT READS IS OF BULK AT MOST 1048576: true; the input reads as it did. -/
def entriesFullUptoRow : OpenClaim := { program := "ytidfcdomeacppaa", sum := "5d3f0df4218d30f8773d216c8f28476fef4d19976e8057bf14270bf5967674dc", func := "garret/garretlaw11.EntriesFull", spec := "entriesFull", inPlace := ["slices.overlaps[garret/api.Entry]"], unfollowed := true, recurses := true, plainKeys := false, apart := false, narrowed := true }
def EntriesFullUptoSaid : Prop := entriesFullUptoRow.holds Try.pinned (OpenSpec.upto entriesFullSpec)

/-- 'garretlaw11.EntriesTell', WHERE WHAT IT READS IS OF BULK AT MOST 1048576: true; the input reads as it did. -/
def entriesTellUptoRow : OpenClaim := { program := "ytidfcdomeacppaa", sum := "5d3f0df4218d30f8773d216c8f28476fef4d19976e8057bf14270bf5967674dc", func := "garret/garretlaw11.EntriesTell", spec := "entriesTell", inPlace := ["slices.overlaps[garret/api.Entry]"], unfollowed := true, recurses := true, plainKeys := false, apart := false, narrowed := true }
def EntriesTellUptoSaid : Prop := entriesTellUptoRow.holds Try.pinned (OpenSpec.upto entriesTellSpec)

/-- 'garretlaw11.EntriesPlay', WHERE WHAT IT READS IS OF BULK AT MOST 1048576: true; the input reads as it did. -/
def entriesPlayUptoRow : OpenClaim := { program := "ytidfcdomeacppaa", sum := "5d3f0df4218d30f8773d216c8f28476fef4d19976e8057bf14270bf5967674dc", func := "garret/garretlaw11.EntriesPlay", spec := "entriesPlay", inPlace := ["slices.overlaps[garret/api.Entry]"], unfollowed := true, recurses := true, plainKeys := false, apart := false, narrowed := true }
def EntriesPlayUptoSaid : Prop := entriesPlayUptoRow.holds Try.pinned (OpenSpec.upto entriesPlaySpec)

/-- 'garretlaw11.EntriesOrder', WHERE WHAT IT READS IS OF BULK AT MOST 1048576: true; the input reads as it did. -/
def entriesOrderUptoRow : OpenClaim := { program := "ytidfcdomeacppaa", sum := "5d3f0df4218d30f8773d216c8f28476fef4d19976e8057bf14270bf5967674dc", func := "garret/garretlaw11.EntriesOrder", spec := "entriesOrder", inPlace := ["slices.overlaps[garret/api.Entry]"], unfollowed := true, recurses := true, plainKeys := false, apart := false, narrowed := true }
def EntriesOrderUptoSaid : Prop := entriesOrderUptoRow.holds Try.pinned (OpenSpec.upto entriesOrderSpec)

end Rows
end Go.Proofs.Ytidfcdomeacppaa
