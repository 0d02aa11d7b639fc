/-
  DERIVED. GIVEN WITH THE SEED: THE CARDS: each row of YthgehafkbbdefaaGreatDoorRows.lean that lists a variable, with what it lists TIED to the program's text (the seventh form; the later family's looks); each row that meets fmt, with fmt's text TOLD by the authors' own Lean function (tested against real Go, not proved from fmt's source: count such statements apart). THE CARD IS WHAT COUNTS. Prove the row's statement (the work); the ties are given (YthgehafkbbdefaaGreatDoorTie.lean); close each card by the builder's one call (the guide's Derived/Test/ToyasCard.lean, 'card_holds'). Laid BY PROGRAM, IN A SANDBOX (cutbox-door.mjs). By AI agents, Wed Nov 11 2026. No macro, syntax, notation, axiom, sorry.
-/
import Derived.Test.YthgehafkbbdefaaGreatDoorRows
import GoSem.ClaimSeven
namespace Go.Proofs.YthgehafkbbdefaaGreatDoor
namespace Rows

/-- THE TIED CARD OF 'hornbeamlaw16.BuilderZero'. -/
def builderZeroCard : Claim7 := { stood := { row := builderZeroRow, standIns := [], harness := (true, "a86ee93b8065534fae25d2136644dd8e60ef4d7c7d820860c975faff69796fad"), looks := false }, kinds := [], alts := [], laidByText := true, laidKinds := [.data, .data, .data, .pinned, .pinned], laidTests := true, laidLooks := .later }
def BuilderZeroCardSaid : Prop := Claim7.holds Tryz.pinned (.plain (OpenSpec.ofChange builderZeroSpec)) builderZeroCard

/-- THE SECOND FORM's CARD OF 'hornbeamlaw16.BuilderZero'. -/
def builderZeroUptoCard : Claim7 := { stood := { row := builderZeroUptoRow, standIns := [], harness := (true, "a86ee93b8065534fae25d2136644dd8e60ef4d7c7d820860c975faff69796fad"), looks := false }, kinds := [], alts := [], laidByText := true, laidKinds := [.data, .data, .data, .pinned, .pinned], laidTests := true, laidLooks := .later }
def BuilderZeroUptoCardSaid : Prop := Claim7.holds Tryz.pinned (.plain (OpenSpec.upto builderZeroSpec)) builderZeroUptoCard
end Rows
end Go.Proofs.YthgehafkbbdefaaGreatDoor
