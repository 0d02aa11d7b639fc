/-
  DERIVED. GIVEN WITH THE SEED: THE CARDS: each row of YtcmhfcnjfhcpdaaDoorRows.lean that lists a variable, with what it lists TIED to the program's text (the seventh form; the later family's looks); each row that meets fmt, with fmt's text TOLD by the authors' own Lean function (tested against real Go, not proved from fmt's source: count such statements apart). THE CARD IS WHAT COUNTS. Prove the row's statement (the work); the ties are given (YtcmhfcnjfhcpdaaDoorTie.lean); close each card by the builder's one call (the guide's Derived/Test/ToyasCard.lean, 'card_holds'). Laid BY PROGRAM, IN A SANDBOX (cutbox-door.mjs). By AI agents, Wed Nov 11 2026. No macro, syntax, notation, axiom, sorry.
-/
import Derived.Test.YtcmhfcnjfhcpdaaDoorRows
import GoSem.ClaimSeven
namespace Go.Proofs.YtcmhfcnjfhcpdaaDoor
namespace Rows

/-- THE TIED CARD OF 'hornbeamlaw06.SniffContents'. -/
def sniffContentsCard : Claim7 := { stood := { row := sniffContentsRow, standIns := [], harness := (true, "0618512c256a12fd0de09d18287cf4b0c66db0d48f1624154017caf28a8994ef"), looks := false }, kinds := [], alts := [], laidByText := true, laidKinds := [.data, .listed, .data, .pinned], laidTests := true, laidLooks := .later }
def SniffContentsCardSaid : Prop := Claim7.holds Tryd.pinned (.plain (OpenSpec.ofChange sniffContentsSpec)) sniffContentsCard

/-- THE TIED CARD OF 'hornbeamlaw06.SniffPlain'. -/
def sniffPlainCard : Claim7 := { stood := { row := sniffPlainRow, standIns := [], harness := (true, "0618512c256a12fd0de09d18287cf4b0c66db0d48f1624154017caf28a8994ef"), looks := false }, kinds := [], alts := [], laidByText := true, laidKinds := [.data, .listed, .data, .pinned], laidTests := true, laidLooks := .later }
def SniffPlainCardSaid : Prop := Claim7.holds Tryd.pinned (.plain (OpenSpec.ofChange sniffPlainSpec)) sniffPlainCard

/-- THE TIED CARD OF 'hornbeamlaw06.SniffMeta'. -/
def sniffMetaCard : Claim7 := { stood := { row := sniffMetaRow, standIns := [], harness := (true, "0618512c256a12fd0de09d18287cf4b0c66db0d48f1624154017caf28a8994ef"), looks := false }, kinds := [], alts := [], laidByText := true, laidKinds := [.data, .listed, .data, .pinned], laidTests := true, laidLooks := .later }
def SniffMetaCardSaid : Prop := Claim7.holds Tryd.pinned (.plain (OpenSpec.ofChange sniffMetaSpec)) sniffMetaCard

/-- THE TIED CARD OF 'hornbeamlaw06.SniffMarks'. -/
def sniffMarksCard : Claim7 := { stood := { row := sniffMarksRow, standIns := [], harness := (true, "0618512c256a12fd0de09d18287cf4b0c66db0d48f1624154017caf28a8994ef"), looks := false }, kinds := [], alts := [], laidByText := true, laidKinds := [.data, .listed, .data, .pinned], laidTests := true, laidLooks := .later }
def SniffMarksCardSaid : Prop := Claim7.holds Tryd.pinned (.plain (OpenSpec.ofChange sniffMarksSpec)) sniffMarksCard

/-- THE TIED CARD OF 'hornbeamlaw06.SniffBound'. -/
def sniffBoundCard : Claim7 := { stood := { row := sniffBoundRow, standIns := [], harness := (true, "0618512c256a12fd0de09d18287cf4b0c66db0d48f1624154017caf28a8994ef"), looks := false }, kinds := [], alts := [], laidByText := true, laidKinds := [.data, .listed, .data, .pinned], laidTests := true, laidLooks := .later }
def SniffBoundCardSaid : Prop := Claim7.holds Tryd.pinned (.plain (OpenSpec.ofChange sniffBoundSpec)) sniffBoundCard

/-- THE SECOND FORM's CARD OF 'hornbeamlaw06.SniffContents'. -/
def sniffContentsUptoCard : Claim7 := { stood := { row := sniffContentsUptoRow, standIns := [], harness := (true, "0618512c256a12fd0de09d18287cf4b0c66db0d48f1624154017caf28a8994ef"), looks := false }, kinds := [], alts := [], laidByText := true, laidKinds := [.data, .listed, .data, .pinned], laidTests := true, laidLooks := .later }
def SniffContentsUptoCardSaid : Prop := Claim7.holds Tryd.pinned (.plain (OpenSpec.upto sniffContentsSpec)) sniffContentsUptoCard

/-- THE SECOND FORM's CARD OF 'hornbeamlaw06.SniffPlain'. -/
def sniffPlainUptoCard : Claim7 := { stood := { row := sniffPlainUptoRow, standIns := [], harness := (true, "0618512c256a12fd0de09d18287cf4b0c66db0d48f1624154017caf28a8994ef"), looks := false }, kinds := [], alts := [], laidByText := true, laidKinds := [.data, .listed, .data, .pinned], laidTests := true, laidLooks := .later }
def SniffPlainUptoCardSaid : Prop := Claim7.holds Tryd.pinned (.plain (OpenSpec.upto sniffPlainSpec)) sniffPlainUptoCard

/-- THE SECOND FORM's CARD OF 'hornbeamlaw06.SniffMeta'. -/
def sniffMetaUptoCard : Claim7 := { stood := { row := sniffMetaUptoRow, standIns := [], harness := (true, "0618512c256a12fd0de09d18287cf4b0c66db0d48f1624154017caf28a8994ef"), looks := false }, kinds := [], alts := [], laidByText := true, laidKinds := [.data, .listed, .data, .pinned], laidTests := true, laidLooks := .later }
def SniffMetaUptoCardSaid : Prop := Claim7.holds Tryd.pinned (.plain (OpenSpec.upto sniffMetaSpec)) sniffMetaUptoCard

/-- THE SECOND FORM's CARD OF 'hornbeamlaw06.SniffMarks'. -/
def sniffMarksUptoCard : Claim7 := { stood := { row := sniffMarksUptoRow, standIns := [], harness := (true, "0618512c256a12fd0de09d18287cf4b0c66db0d48f1624154017caf28a8994ef"), looks := false }, kinds := [], alts := [], laidByText := true, laidKinds := [.data, .listed, .data, .pinned], laidTests := true, laidLooks := .later }
def SniffMarksUptoCardSaid : Prop := Claim7.holds Tryd.pinned (.plain (OpenSpec.upto sniffMarksSpec)) sniffMarksUptoCard

/-- THE SECOND FORM's CARD OF 'hornbeamlaw06.SniffBound'. -/
def sniffBoundUptoCard : Claim7 := { stood := { row := sniffBoundUptoRow, standIns := [], harness := (true, "0618512c256a12fd0de09d18287cf4b0c66db0d48f1624154017caf28a8994ef"), looks := false }, kinds := [], alts := [], laidByText := true, laidKinds := [.data, .listed, .data, .pinned], laidTests := true, laidLooks := .later }
def SniffBoundUptoCardSaid : Prop := Claim7.holds Tryd.pinned (.plain (OpenSpec.upto sniffBoundSpec)) sniffBoundUptoCard
end Rows
end Go.Proofs.YtcmhfcnjfhcpdaaDoor
