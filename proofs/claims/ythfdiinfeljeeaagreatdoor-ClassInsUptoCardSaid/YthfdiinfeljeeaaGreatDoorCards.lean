/-
  DERIVED. GIVEN WITH THE SEED: THE CARDS: each row of YthfdiinfeljeeaaGreatDoorRows.lean that lists a variable, with what it lists TIED to the program's text (the seventh form; the later family's looks); each row that meets fmt, with fmt's text TOLD by the authors' own Lean function (tested against real Go, not proved from fmt's source: count such statements apart). THE CARD IS WHAT COUNTS. Prove the row's statement (the work); the ties are given (YthfdiinfeljeeaaGreatDoorTie.lean); close each card by the builder's one call (the guide's Derived/Test/ToyasCard.lean, 'card_holds'). Laid BY PROGRAM, IN A SANDBOX (cutbox-door.mjs). By AI agents, Wed Nov 11 2026. No macro, syntax, notation, axiom, sorry.
-/
import Derived.Test.YthfdiinfeljeeaaGreatDoorRows
import GoSem.ClaimSeven
namespace Go.Proofs.YthfdiinfeljeeaaGreatDoor
namespace Rows

/-- THE TIED CARD OF 'hornbeamlaw19.ClassIns'. -/
def classInsCard : Claim7 := { stood := { row := classInsRow, standIns := [], harness := (true, "d2ad92a40a85c199b298c464f4b72995a6f93aa14b204a0fcb59354f600e3de4"), looks := false }, kinds := [], alts := [], laidByText := true, laidKinds := [.data, .pinned], laidTests := true, laidLooks := .later }
def ClassInsCardSaid : Prop := Claim7.holds Tryz.pinned (.plain (OpenSpec.ofChange classInsSpec)) classInsCard

/-- THE SECOND FORM's CARD OF 'hornbeamlaw19.ClassIns'. -/
def classInsUptoCard : Claim7 := { stood := { row := classInsUptoRow, standIns := [], harness := (true, "d2ad92a40a85c199b298c464f4b72995a6f93aa14b204a0fcb59354f600e3de4"), looks := false }, kinds := [], alts := [], laidByText := true, laidKinds := [.data, .pinned], laidTests := true, laidLooks := .later }
def ClassInsUptoCardSaid : Prop := Claim7.holds Tryz.pinned (.plain (OpenSpec.upto classInsSpec)) classInsUptoCard
end Rows
end Go.Proofs.YthfdiinfeljeeaaGreatDoor
