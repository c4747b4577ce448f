/-
  DERIVED. GIVEN WITH THE SEED: THE CARDS: each row of YthdedeijapoihaaGreatDoorRows.lean that lists a variable, with what it lists TIED to the program's text (the seventh form; the later family's looks); each row that meets fmt, with fmt's text TOLD by the authors' own Lean function (tested against real Go, not proved from fmt's source: count such statements apart). THE CARD IS WHAT COUNTS. Prove the row's statement (the work); the ties are given (YthdedeijapoihaaGreatDoorTie.lean); close each card by the builder's one call (the guide's Derived/Test/ToyasCard.lean, 'card_holds'). Laid BY PROGRAM, IN A SANDBOX (cutbox-door.mjs). By AI agents, Wed Nov 11 2026. No macro, syntax, notation, axiom, sorry.
-/
import Derived.Test.YthdedeijapoihaaGreatDoorRows
import GoSem.ClaimSeven
namespace Go.Proofs.YthdedeijapoihaaGreatDoor
namespace Rows

/-- THE TIED CARD OF 'tidepoollaw20.DeltaMakes'. -/
def deltaMakesCard : Claim7 := { stood := { row := deltaMakesRow, standIns := [], harness := (true, "b393f4d180d00c343edd1a98f076c0b5acd6f2e4f63b738e1d87ac1bfee47c57"), looks := false }, kinds := [], alts := [], laidByText := true, laidKinds := [.data, .pinned], laidTests := true, laidLooks := .later }
def DeltaMakesCardSaid : Prop := Claim7.holds Tryz.pinned (.plain (OpenSpec.ofChange deltaMakesSpec)) deltaMakesCard

/-- THE TIED CARD OF 'tidepoollaw20.DeltaParts'. -/
def deltaPartsCard : Claim7 := { stood := { row := deltaPartsRow, standIns := [], harness := (true, "b393f4d180d00c343edd1a98f076c0b5acd6f2e4f63b738e1d87ac1bfee47c57"), looks := false }, kinds := [], alts := [], laidByText := true, laidKinds := [.data, .pinned], laidTests := true, laidLooks := .later }
def DeltaPartsCardSaid : Prop := Claim7.holds Tryz.pinned (.plain (OpenSpec.ofChange deltaPartsSpec)) deltaPartsCard

/-- THE TIED CARD OF 'tidepoollaw20.DeltaKnown'. -/
def deltaKnownCard : Claim7 := { stood := { row := deltaKnownRow, standIns := [], harness := (true, "b393f4d180d00c343edd1a98f076c0b5acd6f2e4f63b738e1d87ac1bfee47c57"), looks := false }, kinds := [], alts := [], laidByText := true, laidKinds := [.data, .pinned], laidTests := true, laidLooks := .later }
def DeltaKnownCardSaid : Prop := Claim7.holds Tryz.pinned (.plain (OpenSpec.ofChange deltaKnownSpec)) deltaKnownCard

/-- THE SECOND FORM's CARD OF 'tidepoollaw20.DeltaMakes'. -/
def deltaMakesUptoCard : Claim7 := { stood := { row := deltaMakesUptoRow, standIns := [], harness := (true, "b393f4d180d00c343edd1a98f076c0b5acd6f2e4f63b738e1d87ac1bfee47c57"), looks := false }, kinds := [], alts := [], laidByText := true, laidKinds := [.data, .pinned], laidTests := true, laidLooks := .later }
def DeltaMakesUptoCardSaid : Prop := Claim7.holds Tryz.pinned (.plain (OpenSpec.upto deltaMakesSpec)) deltaMakesUptoCard

/-- THE SECOND FORM's CARD OF 'tidepoollaw20.DeltaParts'. -/
def deltaPartsUptoCard : Claim7 := { stood := { row := deltaPartsUptoRow, standIns := [], harness := (true, "b393f4d180d00c343edd1a98f076c0b5acd6f2e4f63b738e1d87ac1bfee47c57"), looks := false }, kinds := [], alts := [], laidByText := true, laidKinds := [.data, .pinned], laidTests := true, laidLooks := .later }
def DeltaPartsUptoCardSaid : Prop := Claim7.holds Tryz.pinned (.plain (OpenSpec.upto deltaPartsSpec)) deltaPartsUptoCard

/-- THE SECOND FORM's CARD OF 'tidepoollaw20.DeltaKnown'. -/
def deltaKnownUptoCard : Claim7 := { stood := { row := deltaKnownUptoRow, standIns := [], harness := (true, "b393f4d180d00c343edd1a98f076c0b5acd6f2e4f63b738e1d87ac1bfee47c57"), looks := false }, kinds := [], alts := [], laidByText := true, laidKinds := [.data, .pinned], laidTests := true, laidLooks := .later }
def DeltaKnownUptoCardSaid : Prop := Claim7.holds Tryz.pinned (.plain (OpenSpec.upto deltaKnownSpec)) deltaKnownUptoCard
end Rows
end Go.Proofs.YthdedeijapoihaaGreatDoor
