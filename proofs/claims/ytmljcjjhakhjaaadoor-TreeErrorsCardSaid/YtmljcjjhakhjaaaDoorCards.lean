/-
  DERIVED. GIVEN WITH THE SEED: THE CARDS: each row of YtmljcjjhakhjaaaDoorRows.lean that lists a variable, with what it lists TIED to the program's text (the seventh form; the later family's looks); each row that meets fmt, with fmt's text TOLD by the authors' own Lean function (tested against real Go, not proved from fmt's source: count such statements apart). THE CARD IS WHAT COUNTS. Prove the row's statement (the work); the ties are given (YtmljcjjhakhjaaaDoorTie.lean); close each card by the builder's one call (the guide's Derived/Test/ToyasCard.lean, 'card_holds'). Laid BY PROGRAM, IN A SANDBOX (cutbox-door.mjs). By AI agents, Wed Nov 11 2026. No macro, syntax, notation, axiom, sorry.
-/
import Derived.Test.YtmljcjjhakhjaaaDoorRows
import GoSem.ClaimSeven
namespace Go.Proofs.YtmljcjjhakhjaaaDoor
namespace Rows

/-- THE TIED CARD OF 'garretlaw16.TreeFull'. -/
def treeFullCard : Claim7 := { stood := { row := treeFullRow, standIns := [], harness := (true, "9e4ef942cbbbf85a5bc7561872db231a0de57f08882b4a8b355bc3466524b502"), looks := false }, kinds := [], alts := [], laidByText := true, laidKinds := [.data, .pinned], laidTests := true, laidLooks := .later }
def TreeFullCardSaid : Prop := Claim7.holds Tryd.pinned (.plain (OpenSpec.ofChange treeFullSpec)) treeFullCard

/-- THE TIED CARD OF 'garretlaw16.TreeLets'. -/
def treeLetsCard : Claim7 := { stood := { row := treeLetsRow, standIns := [], harness := (true, "9e4ef942cbbbf85a5bc7561872db231a0de57f08882b4a8b355bc3466524b502"), looks := false }, kinds := [], alts := [], laidByText := true, laidKinds := [.data, .pinned], laidTests := true, laidLooks := .later }
def TreeLetsCardSaid : Prop := Claim7.holds Tryd.pinned (.plain (OpenSpec.ofChange treeLetsSpec)) treeLetsCard

/-- THE TIED CARD OF 'garretlaw16.TreeSound'. -/
def treeSoundCard : Claim7 := { stood := { row := treeSoundRow, standIns := [], harness := (true, "9e4ef942cbbbf85a5bc7561872db231a0de57f08882b4a8b355bc3466524b502"), looks := false }, kinds := [], alts := [], laidByText := true, laidKinds := [.data, .pinned], laidTests := true, laidLooks := .later }
def TreeSoundCardSaid : Prop := Claim7.holds Tryd.pinned (.plain (OpenSpec.ofChange treeSoundSpec)) treeSoundCard

/-- THE TIED CARD OF 'garretlaw16.TreeErrors'. -/
def treeErrorsCard : Claim7 := { stood := { row := treeErrorsRow, standIns := [], harness := (true, "9e4ef942cbbbf85a5bc7561872db231a0de57f08882b4a8b355bc3466524b502"), looks := false }, kinds := [], alts := [], laidByText := true, laidKinds := [.data, .pinned], laidTests := true, laidLooks := .later }
def TreeErrorsCardSaid : Prop := Claim7.holds Tryd.pinned (.plain (OpenSpec.ofChange treeErrorsSpec)) treeErrorsCard

/-- THE SECOND FORM's CARD OF 'garretlaw16.TreeFull'. -/
def treeFullUptoCard : Claim7 := { stood := { row := treeFullUptoRow, standIns := [], harness := (true, "9e4ef942cbbbf85a5bc7561872db231a0de57f08882b4a8b355bc3466524b502"), looks := false }, kinds := [], alts := [], laidByText := true, laidKinds := [.data, .pinned], laidTests := true, laidLooks := .later }
def TreeFullUptoCardSaid : Prop := Claim7.holds Tryd.pinned (.plain (OpenSpec.upto treeFullSpec)) treeFullUptoCard

/-- THE SECOND FORM's CARD OF 'garretlaw16.TreeLets'. -/
def treeLetsUptoCard : Claim7 := { stood := { row := treeLetsUptoRow, standIns := [], harness := (true, "9e4ef942cbbbf85a5bc7561872db231a0de57f08882b4a8b355bc3466524b502"), looks := false }, kinds := [], alts := [], laidByText := true, laidKinds := [.data, .pinned], laidTests := true, laidLooks := .later }
def TreeLetsUptoCardSaid : Prop := Claim7.holds Tryd.pinned (.plain (OpenSpec.upto treeLetsSpec)) treeLetsUptoCard

/-- THE SECOND FORM's CARD OF 'garretlaw16.TreeSound'. -/
def treeSoundUptoCard : Claim7 := { stood := { row := treeSoundUptoRow, standIns := [], harness := (true, "9e4ef942cbbbf85a5bc7561872db231a0de57f08882b4a8b355bc3466524b502"), looks := false }, kinds := [], alts := [], laidByText := true, laidKinds := [.data, .pinned], laidTests := true, laidLooks := .later }
def TreeSoundUptoCardSaid : Prop := Claim7.holds Tryd.pinned (.plain (OpenSpec.upto treeSoundSpec)) treeSoundUptoCard

/-- THE SECOND FORM's CARD OF 'garretlaw16.TreeErrors'. -/
def treeErrorsUptoCard : Claim7 := { stood := { row := treeErrorsUptoRow, standIns := [], harness := (true, "9e4ef942cbbbf85a5bc7561872db231a0de57f08882b4a8b355bc3466524b502"), looks := false }, kinds := [], alts := [], laidByText := true, laidKinds := [.data, .pinned], laidTests := true, laidLooks := .later }
def TreeErrorsUptoCardSaid : Prop := Claim7.holds Tryd.pinned (.plain (OpenSpec.upto treeErrorsSpec)) treeErrorsUptoCard
end Rows
end Go.Proofs.YtmljcjjhakhjaaaDoor
