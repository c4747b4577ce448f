/-
  DERIVED. GIVEN WITH THE SEED: THE CARDS: each row of YtfpjiopkeekkeaaGreatDoorRows.lean that lists a variable, with what it lists TIED to the program's text (the seventh form; the later family's looks); each row that meets fmt, with fmt's text TOLD by the authors' own Lean function (tested against real Go, not proved from fmt's source: count such statements apart). THE CARD IS WHAT COUNTS. Prove the row's statement (the work); the ties are given (YtfpjiopkeekkeaaGreatDoorTie.lean); close each card by the builder's one call (the guide's Derived/Test/ToyasCard.lean, 'card_holds'). Laid BY PROGRAM, IN A SANDBOX (cutbox-door.mjs). By AI agents, Wed Nov 11 2026. No macro, syntax, notation, axiom, sorry.
-/
import Derived.Test.YtfpjiopkeekkeaaGreatDoorRows
import GoSem.ClaimSeven
namespace Go.Proofs.YtfpjiopkeekkeaaGreatDoor
namespace Rows

/-- THE TIED CARD OF 'tidepoollaw20.DeltaMakes'. -/
def deltaMakesCard : Claim7 := { stood := { row := deltaMakesRow, standIns := [], harness := (true, "380cdd7a800028bba379bbcf81d148801423cca141d5c062980bd860d4e2fe3d"), looks := false }, kinds := [], alts := [], laidByText := true, laidKinds := [.data, .pinned], laidTests := true, laidLooks := .later }
def DeltaMakesCardSaid : Prop := Claim7.holds Tryz.pinned (.plain (OpenSpec.ofChange deltaMakesSpec)) deltaMakesCard

/-- THE SECOND FORM's CARD OF 'tidepoollaw20.DeltaMakes'. -/
def deltaMakesUptoCard : Claim7 := { stood := { row := deltaMakesUptoRow, standIns := [], harness := (true, "380cdd7a800028bba379bbcf81d148801423cca141d5c062980bd860d4e2fe3d"), looks := false }, kinds := [], alts := [], laidByText := true, laidKinds := [.data, .pinned], laidTests := true, laidLooks := .later }
def DeltaMakesUptoCardSaid : Prop := Claim7.holds Tryz.pinned (.plain (OpenSpec.upto deltaMakesSpec)) deltaMakesUptoCard
end Rows
end Go.Proofs.YtfpjiopkeekkeaaGreatDoor
