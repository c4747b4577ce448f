/-
  DERIVED. GIVEN WITH THE SEED: THE CARDS: each row of YtnfimpnakkngbacGreatDoorRows.lean that lists a variable, with what it lists TIED to the program's text (the seventh form; the later family's looks); each row that meets fmt, with fmt's text TOLD by the authors' own Lean function (tested against real Go, not proved from fmt's source: count such statements apart). THE CARD IS WHAT COUNTS. Prove the row's statement (the work); the ties are given (YtnfimpnakkngbacGreatDoorTie.lean); close each card by the builder's one call (the guide's Derived/Test/ToyasCard.lean, 'card_holds'). Laid BY PROGRAM, IN A SANDBOX (cutbox-door.mjs). By AI agents, Wed Nov 11 2026. No macro, syntax, notation, axiom, sorry.
-/
import Derived.Test.YtnfimpnakkngbacGreatDoorRows
import GoSem.ClaimSeven
namespace Go.Proofs.YtnfimpnakkngbacGreatDoor
namespace Rows

/-- THE TIED CARD OF 'tidepoollaw24.VacuumNone'. -/
def vacuumNoneCard : Claim7 := { stood := { row := vacuumNoneRow, standIns := [], harness := (true, "410f18b68d241959381985f34b62668b9fe2a49776df608a995dfd036a536eed"), looks := false }, kinds := [], alts := [], laidByText := true, laidKinds := [.data, .pinned], laidTests := true, laidLooks := .later }
def VacuumNoneCardSaid : Prop := Claim7.holds Tryz.pinned (.plain (OpenSpec.ofChange vacuumNoneSpec)) vacuumNoneCard

/-- THE SECOND FORM's CARD OF 'tidepoollaw24.VacuumNone'. -/
def vacuumNoneUptoCard : Claim7 := { stood := { row := vacuumNoneUptoRow, standIns := [], harness := (true, "410f18b68d241959381985f34b62668b9fe2a49776df608a995dfd036a536eed"), looks := false }, kinds := [], alts := [], laidByText := true, laidKinds := [.data, .pinned], laidTests := true, laidLooks := .later }
def VacuumNoneUptoCardSaid : Prop := Claim7.holds Tryz.pinned (.plain (OpenSpec.upto vacuumNoneSpec)) vacuumNoneUptoCard
end Rows
end Go.Proofs.YtnfimpnakkngbacGreatDoor
