/-
  DERIVED. GIVEN WITH THE SEED: THE CARDS: each row of YtnfimpnakkngbaaGreatDoorRows.lean that lists a variable, with what it lists TIED to the program's text (the seventh form; the later family's looks); each row that meets fmt, with fmt's text TOLD by the authors' own Lean function (tested against real Go, not proved from fmt's source: count such statements apart). THE CARD IS WHAT COUNTS. Prove the row's statement (the work); the ties are given (YtnfimpnakkngbaaGreatDoorTie.lean); close each card by the builder's one call (the guide's Derived/Test/ToyasCard.lean, 'card_holds'). Laid BY PROGRAM, IN A SANDBOX (cutbox-door.mjs). By AI agents, Wed Nov 11 2026. No macro, syntax, notation, axiom, sorry.
-/
import Derived.Test.YtnfimpnakkngbaaGreatDoorRows
import GoSem.ClaimSeven
namespace Go.Proofs.YtnfimpnakkngbaaGreatDoor
namespace Rows

/-- THE TIED CARD OF 'tidepoollaw25.QueryNone'. -/
def queryNoneCard : Claim7 := { stood := { row := queryNoneRow, standIns := [], harness := (true, "e7b994d8849894ae18367e0132ae69720f4c31c8b7ba298154f0a6afe4a65e32"), looks := false }, kinds := [], alts := [], laidByText := true, laidKinds := [.data, .pinned], laidTests := true, laidLooks := .later }
def QueryNoneCardSaid : Prop := Claim7.holds Tryz.pinned (.plain (OpenSpec.ofChange queryNoneSpec)) queryNoneCard

/-- THE SECOND FORM's CARD OF 'tidepoollaw25.QueryNone'. -/
def queryNoneUptoCard : Claim7 := { stood := { row := queryNoneUptoRow, standIns := [], harness := (true, "e7b994d8849894ae18367e0132ae69720f4c31c8b7ba298154f0a6afe4a65e32"), looks := false }, kinds := [], alts := [], laidByText := true, laidKinds := [.data, .pinned], laidTests := true, laidLooks := .later }
def QueryNoneUptoCardSaid : Prop := Claim7.holds Tryz.pinned (.plain (OpenSpec.upto queryNoneSpec)) queryNoneUptoCard
end Rows
end Go.Proofs.YtnfimpnakkngbaaGreatDoor
