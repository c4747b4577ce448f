/-
  DERIVED. GIVEN WITH THE SEED: THE CARDS: each row of YthgndhfpfblphaaDoorRows.lean that lists a variable, with what it lists TIED to the program's text (the seventh form; the later family's looks); each row that meets fmt, with fmt's text TOLD by the authors' own Lean function (tested against real Go, not proved from fmt's source: count such statements apart). THE CARD IS WHAT COUNTS. Prove the row's statement (the work); the ties are given (YthgndhfpfblphaaDoorTie.lean); close each card by the builder's one call (the guide's Derived/Test/ToyasCard.lean, 'card_holds'). Laid BY PROGRAM, IN A SANDBOX (cutbox-door.mjs). By AI agents, Wed Nov 11 2026. No macro, syntax, notation, axiom, sorry.
-/
import Derived.Test.YthgndhfpfblphaaDoorRows
import GoSem.ClaimSeven
namespace Go.Proofs.YthgndhfpfblphaaDoor
namespace Rows

/-- THE TIED CARD OF 'tidepoollaw10.BoundSorts'. -/
def boundSortsCard : Claim7 := { stood := { row := boundSortsRow, standIns := [], harness := (true, "3e059849c9dbafc00d73421860cd75d8b34f0b059185f56ba3f35da3ef14f5aa"), looks := false }, kinds := [], alts := [], laidByText := true, laidKinds := [.data, .pinned], laidTests := true, laidLooks := .later }
def BoundSortsCardSaid : Prop := Claim7.holds Tryd.pinned (.plain (OpenSpec.ofChange boundSortsSpec)) boundSortsCard

/-- THE SECOND FORM's CARD OF 'tidepoollaw10.BoundSorts'. -/
def boundSortsUptoCard : Claim7 := { stood := { row := boundSortsUptoRow, standIns := [], harness := (true, "3e059849c9dbafc00d73421860cd75d8b34f0b059185f56ba3f35da3ef14f5aa"), looks := false }, kinds := [], alts := [], laidByText := true, laidKinds := [.data, .pinned], laidTests := true, laidLooks := .later }
def BoundSortsUptoCardSaid : Prop := Claim7.holds Tryd.pinned (.plain (OpenSpec.upto boundSortsSpec)) boundSortsUptoCard
end Rows
end Go.Proofs.YthgndhfpfblphaaDoor
