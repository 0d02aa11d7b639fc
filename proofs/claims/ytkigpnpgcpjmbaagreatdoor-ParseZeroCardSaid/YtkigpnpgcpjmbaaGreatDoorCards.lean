/-
  DERIVED. GIVEN WITH THE SEED: THE CARDS: each row of YtkigpnpgcpjmbaaGreatDoorRows.lean that lists a variable, with what it lists TIED to the program's text (the seventh form; the later family's looks); each row that meets fmt, with fmt's text TOLD by the authors' own Lean function (tested against real Go, not proved from fmt's source: count such statements apart). THE CARD IS WHAT COUNTS. Prove the row's statement (the work); the ties are given (YtkigpnpgcpjmbaaGreatDoorTie.lean); close each card by the builder's one call (the guide's Derived/Test/ToyasCard.lean, 'card_holds'). Laid BY PROGRAM, IN A SANDBOX (cutbox-door.mjs). By AI agents, Wed Nov 11 2026. No macro, syntax, notation, axiom, sorry.
-/
import Derived.Test.YtkigpnpgcpjmbaaGreatDoorRows
import GoSem.ClaimSeven
namespace Go.Proofs.YtkigpnpgcpjmbaaGreatDoor
namespace Rows

/-- THE TIED CARD OF 'hornbeamlaw18.ParseZero'. -/
def parseZeroCard : Claim7 := { stood := { row := parseZeroRow, standIns := [], harness := (true, "d7ec64dbbcd8cfdbc97bfd19e9e2363e4dd2ccf3c4480003b05b9ee7637db513"), looks := true }, kinds := [], alts := [], laidByText := true, laidKinds := [.data, .handle, .listed, .data, .pinned], laidTests := true, laidLooks := .later }
def ParseZeroCardSaid : Prop := Claim7.holds Tryz.pinned (.plain (OpenSpec.ofChange parseZeroSpec)) parseZeroCard

/-- THE SECOND FORM's CARD OF 'hornbeamlaw18.ParseZero'. -/
def parseZeroUptoCard : Claim7 := { stood := { row := parseZeroUptoRow, standIns := [], harness := (true, "d7ec64dbbcd8cfdbc97bfd19e9e2363e4dd2ccf3c4480003b05b9ee7637db513"), looks := true }, kinds := [], alts := [], laidByText := true, laidKinds := [.data, .handle, .listed, .data, .pinned], laidTests := true, laidLooks := .later }
def ParseZeroUptoCardSaid : Prop := Claim7.holds Tryz.pinned (.plain (OpenSpec.upto parseZeroSpec)) parseZeroUptoCard
end Rows
end Go.Proofs.YtkigpnpgcpjmbaaGreatDoor
