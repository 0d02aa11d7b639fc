/-
  DERIVED. GIVEN WITH THE SEED: THE CARDS: each row of YtnphjniefklnaaaDoorRows.lean that lists a variable, with what it lists TIED to the program's text (the seventh form; the later family's looks); each row that meets fmt, with fmt's text TOLD by the authors' own Lean function (tested against real Go, not proved from fmt's source: count such statements apart). THE CARD IS WHAT COUNTS. Prove the row's statement (the work); the ties are given (YtnphjniefklnaaaDoorTie.lean); close each card by the builder's one call (the guide's Derived/Test/ToyasCard.lean, 'card_holds'). Laid BY PROGRAM, IN A SANDBOX (cutbox-door.mjs). By AI agents, Wed Nov 11 2026. No macro, syntax, notation, axiom, sorry.
-/
import Derived.Test.YtnphjniefklnaaaDoorRows
import GoSem.ClaimSeven
namespace Go.Proofs.YtnphjniefklnaaaDoor
namespace Rows

/-- THE TIED CARD OF 'hornbeamlaw04.LabelOf'. -/
def labelOfCard : Claim7 := { stood := { row := labelOfRow, standIns := [], harness := (true, "0e1d9ea0ca1282939277426bd0840741654746be3bfd142c808044a417aac039"), looks := false }, kinds := [], alts := [], laidByText := true, laidKinds := [.data, .listed, .data, .pinned], laidTests := true, laidLooks := .later }
def LabelOfCardSaid : Prop := Claim7.holds Tryd.pinned (.plain (OpenSpec.ofChange labelOfSpec)) labelOfCard

/-- THE TIED CARD OF 'hornbeamlaw04.LabelLong'. -/
def labelLongCard : Claim7 := { stood := { row := labelLongRow, standIns := [], harness := (true, "0e1d9ea0ca1282939277426bd0840741654746be3bfd142c808044a417aac039"), looks := false }, kinds := [], alts := [], laidByText := true, laidKinds := [.data, .listed, .data, .pinned], laidTests := true, laidLooks := .later }
def LabelLongCardSaid : Prop := Claim7.holds Tryd.pinned (.plain (OpenSpec.ofChange labelLongSpec)) labelLongCard

/-- THE TIED CARD OF 'hornbeamlaw04.LabelBack'. -/
def labelBackCard : Claim7 := { stood := { row := labelBackRow, standIns := [], harness := (true, "0e1d9ea0ca1282939277426bd0840741654746be3bfd142c808044a417aac039"), looks := false }, kinds := [], alts := [], laidByText := true, laidKinds := [.data, .listed, .data, .pinned], laidTests := true, laidLooks := .later }
def LabelBackCardSaid : Prop := Claim7.holds Tryd.pinned (.plain (OpenSpec.ofChange labelBackSpec)) labelBackCard

/-- THE TIED CARD OF 'hornbeamlaw04.LabelApart'. -/
def labelApartCard : Claim7 := { stood := { row := labelApartRow, standIns := [], harness := (true, "0e1d9ea0ca1282939277426bd0840741654746be3bfd142c808044a417aac039"), looks := false }, kinds := [], alts := [], laidByText := true, laidKinds := [.data, .listed, .data, .pinned], laidTests := true, laidLooks := .later }
def LabelApartCardSaid : Prop := Claim7.holds Tryd.pinned (.plain (OpenSpec.ofChange labelApartSpec)) labelApartCard

/-- THE TIED CARD OF 'hornbeamlaw04.LabelNames'. -/
def labelNamesCard : Claim7 := { stood := { row := labelNamesRow, standIns := [], harness := (true, "0e1d9ea0ca1282939277426bd0840741654746be3bfd142c808044a417aac039"), looks := false }, kinds := [], alts := [], laidByText := true, laidKinds := [.data, .listed, .data, .pinned], laidTests := true, laidLooks := .later }
def LabelNamesCardSaid : Prop := Claim7.holds Tryd.pinned (.plain (OpenSpec.ofChange labelNamesSpec)) labelNamesCard

/-- THE SECOND FORM's CARD OF 'hornbeamlaw04.LabelOf'. -/
def labelOfUptoCard : Claim7 := { stood := { row := labelOfUptoRow, standIns := [], harness := (true, "0e1d9ea0ca1282939277426bd0840741654746be3bfd142c808044a417aac039"), looks := false }, kinds := [], alts := [], laidByText := true, laidKinds := [.data, .listed, .data, .pinned], laidTests := true, laidLooks := .later }
def LabelOfUptoCardSaid : Prop := Claim7.holds Tryd.pinned (.plain (OpenSpec.upto labelOfSpec)) labelOfUptoCard

/-- THE SECOND FORM's CARD OF 'hornbeamlaw04.LabelLong'. -/
def labelLongUptoCard : Claim7 := { stood := { row := labelLongUptoRow, standIns := [], harness := (true, "0e1d9ea0ca1282939277426bd0840741654746be3bfd142c808044a417aac039"), looks := false }, kinds := [], alts := [], laidByText := true, laidKinds := [.data, .listed, .data, .pinned], laidTests := true, laidLooks := .later }
def LabelLongUptoCardSaid : Prop := Claim7.holds Tryd.pinned (.plain (OpenSpec.upto labelLongSpec)) labelLongUptoCard

/-- THE SECOND FORM's CARD OF 'hornbeamlaw04.LabelBack'. -/
def labelBackUptoCard : Claim7 := { stood := { row := labelBackUptoRow, standIns := [], harness := (true, "0e1d9ea0ca1282939277426bd0840741654746be3bfd142c808044a417aac039"), looks := false }, kinds := [], alts := [], laidByText := true, laidKinds := [.data, .listed, .data, .pinned], laidTests := true, laidLooks := .later }
def LabelBackUptoCardSaid : Prop := Claim7.holds Tryd.pinned (.plain (OpenSpec.upto labelBackSpec)) labelBackUptoCard

/-- THE SECOND FORM's CARD OF 'hornbeamlaw04.LabelApart'. -/
def labelApartUptoCard : Claim7 := { stood := { row := labelApartUptoRow, standIns := [], harness := (true, "0e1d9ea0ca1282939277426bd0840741654746be3bfd142c808044a417aac039"), looks := false }, kinds := [], alts := [], laidByText := true, laidKinds := [.data, .listed, .data, .pinned], laidTests := true, laidLooks := .later }
def LabelApartUptoCardSaid : Prop := Claim7.holds Tryd.pinned (.plain (OpenSpec.upto labelApartSpec)) labelApartUptoCard

/-- THE SECOND FORM's CARD OF 'hornbeamlaw04.LabelNames'. -/
def labelNamesUptoCard : Claim7 := { stood := { row := labelNamesUptoRow, standIns := [], harness := (true, "0e1d9ea0ca1282939277426bd0840741654746be3bfd142c808044a417aac039"), looks := false }, kinds := [], alts := [], laidByText := true, laidKinds := [.data, .listed, .data, .pinned], laidTests := true, laidLooks := .later }
def LabelNamesUptoCardSaid : Prop := Claim7.holds Tryd.pinned (.plain (OpenSpec.upto labelNamesSpec)) labelNamesUptoCard
end Rows
end Go.Proofs.YtnphjniefklnaaaDoor
