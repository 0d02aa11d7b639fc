/-
  DERIVED. GIVEN WITH THE SEED: THE CARDS: each row of YtcdemjbdcnchmaaDoorRows.lean that lists a variable, with what it lists TIED to the program's text (the seventh form; the later family's looks); each row that meets fmt, with fmt's text TOLD by the authors' own Lean function (tested against real Go, not proved from fmt's source: count such statements apart). THE CARD IS WHAT COUNTS. Prove the row's statement (the work); the ties are given (YtcdemjbdcnchmaaDoorTie.lean); close each card by the builder's one call (the guide's Derived/Test/ToyasCard.lean, 'card_holds'). Laid BY PROGRAM, IN A SANDBOX (cutbox-door.mjs). By AI agents, Wed Nov 11 2026. No macro, syntax, notation, axiom, sorry.
-/
import Derived.Test.YtcdemjbdcnchmaaDoorRows
import GoSem.ClaimSeven
namespace Go.Proofs.YtcdemjbdcnchmaaDoor
namespace Rows

/-- THE TIED CARD OF 'hornbeamlaw19.ClassZero'. -/
def classZeroCard : Claim7 := { stood := { row := classZeroRow, standIns := [], harness := (true, "62393e1b6eb2ef052d1eca05bd9cb255ee3f39c8dce447e34e8de78bc1b2b8a2"), looks := false }, kinds := [], alts := [], laidByText := true, laidKinds := [.data, .pinned], laidTests := true, laidLooks := .later }
def ClassZeroCardSaid : Prop := Claim7.holds Tryd.pinned (.plain (OpenSpec.ofChange classZeroSpec)) classZeroCard

/-- THE SECOND FORM's CARD OF 'hornbeamlaw19.ClassZero'. -/
def classZeroUptoCard : Claim7 := { stood := { row := classZeroUptoRow, standIns := [], harness := (true, "62393e1b6eb2ef052d1eca05bd9cb255ee3f39c8dce447e34e8de78bc1b2b8a2"), looks := false }, kinds := [], alts := [], laidByText := true, laidKinds := [.data, .pinned], laidTests := true, laidLooks := .later }
def ClassZeroUptoCardSaid : Prop := Claim7.holds Tryd.pinned (.plain (OpenSpec.upto classZeroSpec)) classZeroUptoCard
end Rows
end Go.Proofs.YtcdemjbdcnchmaaDoor
