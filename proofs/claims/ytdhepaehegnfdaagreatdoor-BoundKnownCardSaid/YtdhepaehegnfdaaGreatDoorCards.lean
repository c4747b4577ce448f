/-
  DERIVED. GIVEN WITH THE SEED: THE CARDS: each row of YtdhepaehegnfdaaGreatDoorRows.lean that lists a variable, with what it lists TIED to the program's text (the seventh form; the later family's looks); each row that meets fmt, with fmt's text TOLD by the authors' own Lean function (tested against real Go, not proved from fmt's source: count such statements apart). THE CARD IS WHAT COUNTS. Prove the row's statement (the work); the ties are given (YtdhepaehegnfdaaGreatDoorTie.lean); close each card by the builder's one call (the guide's Derived/Test/ToyasCard.lean, 'card_holds'). Laid BY PROGRAM, IN A SANDBOX (cutbox-door.mjs). By AI agents, Wed Nov 11 2026. No macro, syntax, notation, axiom, sorry.
-/
import Derived.Test.YtdhepaehegnfdaaGreatDoorRows
import GoSem.ClaimSeven
namespace Go.Proofs.YtdhepaehegnfdaaGreatDoor
namespace Rows

/-- THE TIED CARD OF 'tidepoollaw10.BoundKnown'. -/
def boundKnownCard : Claim7 := { stood := { row := boundKnownRow, standIns := [], harness := (true, "7bf7ba6b43c8b5614621dccf15d6d08bf2fa63b9500181132daf065d14e18c01"), looks := false }, kinds := [], alts := [], laidByText := true, laidKinds := [.data, .pinned], laidTests := true, laidLooks := .later }
def BoundKnownCardSaid : Prop := Claim7.holds Tryz.pinned (.plain (OpenSpec.ofChange boundKnownSpec)) boundKnownCard

/-- THE SECOND FORM's CARD OF 'tidepoollaw10.BoundKnown'. -/
def boundKnownUptoCard : Claim7 := { stood := { row := boundKnownUptoRow, standIns := [], harness := (true, "7bf7ba6b43c8b5614621dccf15d6d08bf2fa63b9500181132daf065d14e18c01"), looks := false }, kinds := [], alts := [], laidByText := true, laidKinds := [.data, .pinned], laidTests := true, laidLooks := .later }
def BoundKnownUptoCardSaid : Prop := Claim7.holds Tryz.pinned (.plain (OpenSpec.upto boundKnownSpec)) boundKnownUptoCard
end Rows
end Go.Proofs.YtdhepaehegnfdaaGreatDoor
