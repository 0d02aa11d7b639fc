/-
  DERIVED. GIVEN WITH THE SEED: THE CARDS: each row of YtpicgchcdbginaaDoorRows.lean that lists a variable, with what it lists TIED to the program's text (the seventh form; the later family's looks); each row that meets fmt, with fmt's text TOLD by the authors' own Lean function (tested against real Go, not proved from fmt's source: count such statements apart). THE CARD IS WHAT COUNTS. Prove the row's statement (the work); the ties are given (YtpicgchcdbginaaDoorTie.lean); close each card by the builder's one call (the guide's Derived/Test/ToyasCard.lean, 'card_holds'). Laid BY PROGRAM, IN A SANDBOX (cutbox-door.mjs). By AI agents, Wed Nov 11 2026. No macro, syntax, notation, axiom, sorry.
-/
import Derived.Test.YtpicgchcdbginaaDoorRows
import GoSem.ClaimSeven
namespace Go.Proofs.YtpicgchcdbginaaDoor
namespace Rows

/-- THE TIED CARD OF 'hornbeamlaw11.AdjustPoints'. -/
def adjustPointsCard : Claim7 := { stood := { row := adjustPointsRow, standIns := [], harness := (true, "65afc0a34c39b0697fdf6609233bbbd244f2b33b0c3daf9fdc3932b45f2654c6"), looks := false }, kinds := [], alts := [], laidByText := true, laidKinds := [.data, .pinned], laidTests := true, laidLooks := .later }
def AdjustPointsCardSaid : Prop := Claim7.holds Tryd.pinned (.plain (OpenSpec.ofChange adjustPointsSpec)) adjustPointsCard

/-- THE TIED CARD OF 'hornbeamlaw11.AdjustBreaks'. -/
def adjustBreaksCard : Claim7 := { stood := { row := adjustBreaksRow, standIns := [], harness := (true, "65afc0a34c39b0697fdf6609233bbbd244f2b33b0c3daf9fdc3932b45f2654c6"), looks := false }, kinds := [], alts := [], laidByText := true, laidKinds := [.data, .pinned], laidTests := true, laidLooks := .later }
def AdjustBreaksCardSaid : Prop := Claim7.holds Tryd.pinned (.plain (OpenSpec.ofChange adjustBreaksSpec)) adjustBreaksCard

/-- THE SECOND FORM's CARD OF 'hornbeamlaw11.AdjustPoints'. -/
def adjustPointsUptoCard : Claim7 := { stood := { row := adjustPointsUptoRow, standIns := [], harness := (true, "65afc0a34c39b0697fdf6609233bbbd244f2b33b0c3daf9fdc3932b45f2654c6"), looks := false }, kinds := [], alts := [], laidByText := true, laidKinds := [.data, .pinned], laidTests := true, laidLooks := .later }
def AdjustPointsUptoCardSaid : Prop := Claim7.holds Tryd.pinned (.plain (OpenSpec.upto adjustPointsSpec)) adjustPointsUptoCard

/-- THE SECOND FORM's CARD OF 'hornbeamlaw11.AdjustBreaks'. -/
def adjustBreaksUptoCard : Claim7 := { stood := { row := adjustBreaksUptoRow, standIns := [], harness := (true, "65afc0a34c39b0697fdf6609233bbbd244f2b33b0c3daf9fdc3932b45f2654c6"), looks := false }, kinds := [], alts := [], laidByText := true, laidKinds := [.data, .pinned], laidTests := true, laidLooks := .later }
def AdjustBreaksUptoCardSaid : Prop := Claim7.holds Tryd.pinned (.plain (OpenSpec.upto adjustBreaksSpec)) adjustBreaksUptoCard
end Rows
end Go.Proofs.YtpicgchcdbginaaDoor
