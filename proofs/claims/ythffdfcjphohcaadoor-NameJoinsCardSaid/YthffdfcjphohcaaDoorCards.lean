/-
  DERIVED. GIVEN WITH THE SEED: THE CARDS: each row of YthffdfcjphohcaaDoorRows.lean that lists a variable, with what it lists TIED to the program's text (the seventh form; the later family's looks); each row that meets fmt, with fmt's text TOLD by the authors' own Lean function (tested against real Go, not proved from fmt's source: count such statements apart). THE CARD IS WHAT COUNTS. Prove the row's statement (the work); the ties are given (YthffdfcjphohcaaDoorTie.lean); close each card by the builder's one call (the guide's Derived/Test/ToyasCard.lean, 'card_holds'). Laid BY PROGRAM, IN A SANDBOX (cutbox-door.mjs). By AI agents, Wed Nov 11 2026. No macro, syntax, notation, axiom, sorry.
-/
import Derived.Test.YthffdfcjphohcaaDoorRows
import GoSem.ClaimSeven
namespace Go.Proofs.YthffdfcjphohcaaDoor
namespace Rows

/-- THE TIED CARD OF 'garretlaw10.NameTells'. -/
def nameTellsCard : Claim7 := { stood := { row := nameTellsRow, standIns := [], harness := (true, "4d69192d03f2b8b856897ebb623cc29540855ab235752c86e9fd98476c586ab6"), looks := false }, kinds := [], alts := [], laidByText := true, laidKinds := [.data, .pinned], laidTests := true, laidLooks := .later }
def NameTellsCardSaid : Prop := Claim7.holds Tryd.pinned (.plain (OpenSpec.ofChange nameTellsSpec)) nameTellsCard

/-- THE TIED CARD OF 'garretlaw10.NameJoins'. -/
def nameJoinsCard : Claim7 := { stood := { row := nameJoinsRow, standIns := [], harness := (true, "4d69192d03f2b8b856897ebb623cc29540855ab235752c86e9fd98476c586ab6"), looks := false }, kinds := [], alts := [], laidByText := true, laidKinds := [.data, .pinned], laidTests := true, laidLooks := .later }
def NameJoinsCardSaid : Prop := Claim7.holds Tryd.pinned (.plain (OpenSpec.ofChange nameJoinsSpec)) nameJoinsCard

/-- THE TIED CARD OF 'garretlaw10.NameBounds'. -/
def nameBoundsCard : Claim7 := { stood := { row := nameBoundsRow, standIns := [], harness := (true, "4d69192d03f2b8b856897ebb623cc29540855ab235752c86e9fd98476c586ab6"), looks := false }, kinds := [], alts := [], laidByText := true, laidKinds := [.data, .pinned], laidTests := true, laidLooks := .later }
def NameBoundsCardSaid : Prop := Claim7.holds Tryd.pinned (.plain (OpenSpec.ofChange nameBoundsSpec)) nameBoundsCard

/-- THE TIED CARD OF 'garretlaw10.NameDots'. -/
def nameDotsCard : Claim7 := { stood := { row := nameDotsRow, standIns := [], harness := (true, "4d69192d03f2b8b856897ebb623cc29540855ab235752c86e9fd98476c586ab6"), looks := false }, kinds := [], alts := [], laidByText := true, laidKinds := [.data, .pinned], laidTests := true, laidLooks := .later }
def NameDotsCardSaid : Prop := Claim7.holds Tryd.pinned (.plain (OpenSpec.ofChange nameDotsSpec)) nameDotsCard

/-- THE TIED CARD OF 'garretlaw10.NameParts'. -/
def namePartsCard : Claim7 := { stood := { row := namePartsRow, standIns := [], harness := (true, "4d69192d03f2b8b856897ebb623cc29540855ab235752c86e9fd98476c586ab6"), looks := false }, kinds := [], alts := [], laidByText := true, laidKinds := [.data, .pinned], laidTests := true, laidLooks := .later }
def NamePartsCardSaid : Prop := Claim7.holds Tryd.pinned (.plain (OpenSpec.ofChange namePartsSpec)) namePartsCard

/-- THE SECOND FORM's CARD OF 'garretlaw10.NameTells'. -/
def nameTellsUptoCard : Claim7 := { stood := { row := nameTellsUptoRow, standIns := [], harness := (true, "4d69192d03f2b8b856897ebb623cc29540855ab235752c86e9fd98476c586ab6"), looks := false }, kinds := [], alts := [], laidByText := true, laidKinds := [.data, .pinned], laidTests := true, laidLooks := .later }
def NameTellsUptoCardSaid : Prop := Claim7.holds Tryd.pinned (.plain (OpenSpec.upto nameTellsSpec)) nameTellsUptoCard

/-- THE SECOND FORM's CARD OF 'garretlaw10.NameJoins'. -/
def nameJoinsUptoCard : Claim7 := { stood := { row := nameJoinsUptoRow, standIns := [], harness := (true, "4d69192d03f2b8b856897ebb623cc29540855ab235752c86e9fd98476c586ab6"), looks := false }, kinds := [], alts := [], laidByText := true, laidKinds := [.data, .pinned], laidTests := true, laidLooks := .later }
def NameJoinsUptoCardSaid : Prop := Claim7.holds Tryd.pinned (.plain (OpenSpec.upto nameJoinsSpec)) nameJoinsUptoCard

/-- THE SECOND FORM's CARD OF 'garretlaw10.NameBounds'. -/
def nameBoundsUptoCard : Claim7 := { stood := { row := nameBoundsUptoRow, standIns := [], harness := (true, "4d69192d03f2b8b856897ebb623cc29540855ab235752c86e9fd98476c586ab6"), looks := false }, kinds := [], alts := [], laidByText := true, laidKinds := [.data, .pinned], laidTests := true, laidLooks := .later }
def NameBoundsUptoCardSaid : Prop := Claim7.holds Tryd.pinned (.plain (OpenSpec.upto nameBoundsSpec)) nameBoundsUptoCard

/-- THE SECOND FORM's CARD OF 'garretlaw10.NameDots'. -/
def nameDotsUptoCard : Claim7 := { stood := { row := nameDotsUptoRow, standIns := [], harness := (true, "4d69192d03f2b8b856897ebb623cc29540855ab235752c86e9fd98476c586ab6"), looks := false }, kinds := [], alts := [], laidByText := true, laidKinds := [.data, .pinned], laidTests := true, laidLooks := .later }
def NameDotsUptoCardSaid : Prop := Claim7.holds Tryd.pinned (.plain (OpenSpec.upto nameDotsSpec)) nameDotsUptoCard

/-- THE SECOND FORM's CARD OF 'garretlaw10.NameParts'. -/
def namePartsUptoCard : Claim7 := { stood := { row := namePartsUptoRow, standIns := [], harness := (true, "4d69192d03f2b8b856897ebb623cc29540855ab235752c86e9fd98476c586ab6"), looks := false }, kinds := [], alts := [], laidByText := true, laidKinds := [.data, .pinned], laidTests := true, laidLooks := .later }
def NamePartsUptoCardSaid : Prop := Claim7.holds Tryd.pinned (.plain (OpenSpec.upto namePartsSpec)) namePartsUptoCard
end Rows
end Go.Proofs.YthffdfcjphohcaaDoor
