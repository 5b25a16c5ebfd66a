/-
  DERIVED. GIVEN WITH THE SEED: THE CARDS: each row of YtcnbnehammbncaaDoorRows.lean that lists a variable, with what it lists TIED to the program's text (the seventh form; the later family's looks); each row that meets fmt, with fmt's text TOLD by the authors' own Lean function (tested against real Go, not proved from fmt's source: count such statements apart). THE CARD IS WHAT COUNTS. Prove the row's statement (the work); the ties are given (YtcnbnehammbncaaDoorTie.lean); close each card by the builder's one call (the guide's Derived/Test/ToyasCard.lean, 'card_holds'). Laid BY PROGRAM, IN A SANDBOX (cutbox-door.mjs). By AI agents, Wed Nov 11 2026. No macro, syntax, notation, axiom, sorry.
-/
import Derived.Test.YtcnbnehammbncaaDoorRows
import GoSem.ClaimSeven
namespace Go.Proofs.YtcnbnehammbncaaDoor
namespace Rows

/-- THE TIED CARD OF 'garretlaw15.PathTells'. -/
def pathTellsCard : Claim7 := { stood := { row := pathTellsRow, standIns := [], harness := (true, "7be587ff68057e9ba21f5d597c60326bf621d7174cd70e4c92cbb151be2e3298"), looks := false }, kinds := [], alts := [], laidByText := true, laidKinds := [.data, .pinned], laidTests := true, laidLooks := .later }
def PathTellsCardSaid : Prop := Claim7.holds Tryd.pinned (.plain (OpenSpec.ofChange pathTellsSpec)) pathTellsCard

/-- THE TIED CARD OF 'garretlaw15.PathLinks'. -/
def pathLinksCard : Claim7 := { stood := { row := pathLinksRow, standIns := [], harness := (true, "7be587ff68057e9ba21f5d597c60326bf621d7174cd70e4c92cbb151be2e3298"), looks := false }, kinds := [], alts := [], laidByText := true, laidKinds := [.data, .pinned], laidTests := true, laidLooks := .later }
def PathLinksCardSaid : Prop := Claim7.holds Tryd.pinned (.plain (OpenSpec.ofChange pathLinksSpec)) pathLinksCard

/-- THE TIED CARD OF 'garretlaw15.PathEnds'. -/
def pathEndsCard : Claim7 := { stood := { row := pathEndsRow, standIns := [], harness := (true, "7be587ff68057e9ba21f5d597c60326bf621d7174cd70e4c92cbb151be2e3298"), looks := false }, kinds := [], alts := [], laidByText := true, laidKinds := [.data, .pinned], laidTests := true, laidLooks := .later }
def PathEndsCardSaid : Prop := Claim7.holds Tryd.pinned (.plain (OpenSpec.ofChange pathEndsSpec)) pathEndsCard

/-- THE TIED CARD OF 'garretlaw15.PathInside'. -/
def pathInsideCard : Claim7 := { stood := { row := pathInsideRow, standIns := [], harness := (true, "7be587ff68057e9ba21f5d597c60326bf621d7174cd70e4c92cbb151be2e3298"), looks := false }, kinds := [], alts := [], laidByText := true, laidKinds := [.data, .pinned], laidTests := true, laidLooks := .later }
def PathInsideCardSaid : Prop := Claim7.holds Tryd.pinned (.plain (OpenSpec.ofChange pathInsideSpec)) pathInsideCard

/-- THE TIED CARD OF 'garretlaw15.PathSame'. -/
def pathSameCard : Claim7 := { stood := { row := pathSameRow, standIns := [], harness := (true, "7be587ff68057e9ba21f5d597c60326bf621d7174cd70e4c92cbb151be2e3298"), looks := false }, kinds := [], alts := [], laidByText := true, laidKinds := [.data, .pinned], laidTests := true, laidLooks := .later }
def PathSameCardSaid : Prop := Claim7.holds Tryd.pinned (.plain (OpenSpec.ofChange pathSameSpec)) pathSameCard

/-- THE SECOND FORM's CARD OF 'garretlaw15.PathTells'. -/
def pathTellsUptoCard : Claim7 := { stood := { row := pathTellsUptoRow, standIns := [], harness := (true, "7be587ff68057e9ba21f5d597c60326bf621d7174cd70e4c92cbb151be2e3298"), looks := false }, kinds := [], alts := [], laidByText := true, laidKinds := [.data, .pinned], laidTests := true, laidLooks := .later }
def PathTellsUptoCardSaid : Prop := Claim7.holds Tryd.pinned (.plain (OpenSpec.upto pathTellsSpec)) pathTellsUptoCard

/-- THE SECOND FORM's CARD OF 'garretlaw15.PathLinks'. -/
def pathLinksUptoCard : Claim7 := { stood := { row := pathLinksUptoRow, standIns := [], harness := (true, "7be587ff68057e9ba21f5d597c60326bf621d7174cd70e4c92cbb151be2e3298"), looks := false }, kinds := [], alts := [], laidByText := true, laidKinds := [.data, .pinned], laidTests := true, laidLooks := .later }
def PathLinksUptoCardSaid : Prop := Claim7.holds Tryd.pinned (.plain (OpenSpec.upto pathLinksSpec)) pathLinksUptoCard

/-- THE SECOND FORM's CARD OF 'garretlaw15.PathEnds'. -/
def pathEndsUptoCard : Claim7 := { stood := { row := pathEndsUptoRow, standIns := [], harness := (true, "7be587ff68057e9ba21f5d597c60326bf621d7174cd70e4c92cbb151be2e3298"), looks := false }, kinds := [], alts := [], laidByText := true, laidKinds := [.data, .pinned], laidTests := true, laidLooks := .later }
def PathEndsUptoCardSaid : Prop := Claim7.holds Tryd.pinned (.plain (OpenSpec.upto pathEndsSpec)) pathEndsUptoCard

/-- THE SECOND FORM's CARD OF 'garretlaw15.PathInside'. -/
def pathInsideUptoCard : Claim7 := { stood := { row := pathInsideUptoRow, standIns := [], harness := (true, "7be587ff68057e9ba21f5d597c60326bf621d7174cd70e4c92cbb151be2e3298"), looks := false }, kinds := [], alts := [], laidByText := true, laidKinds := [.data, .pinned], laidTests := true, laidLooks := .later }
def PathInsideUptoCardSaid : Prop := Claim7.holds Tryd.pinned (.plain (OpenSpec.upto pathInsideSpec)) pathInsideUptoCard

/-- THE SECOND FORM's CARD OF 'garretlaw15.PathSame'. -/
def pathSameUptoCard : Claim7 := { stood := { row := pathSameUptoRow, standIns := [], harness := (true, "7be587ff68057e9ba21f5d597c60326bf621d7174cd70e4c92cbb151be2e3298"), looks := false }, kinds := [], alts := [], laidByText := true, laidKinds := [.data, .pinned], laidTests := true, laidLooks := .later }
def PathSameUptoCardSaid : Prop := Claim7.holds Tryd.pinned (.plain (OpenSpec.upto pathSameSpec)) pathSameUptoCard
end Rows
end Go.Proofs.YtcnbnehammbncaaDoor
