/-
  No cell of these rows narrows 'for every input' (looked for: loops, veiled, ifaces, maps, wideKeys, modest, calm, conditions, laid).
  DERIVED. THE GIVEN ROWS OF THIS SEAT. 8 by the template 'for every input the law returns true; each argument reads behind the call as it read before'; 0 by the template 'total and deterministic' (their statements: YtmfifaigphnbmaaTotals.lean).
  GIVEN WITH THE SEED: the statements are not yours to turn. If you find one false, say at which input.
  Laid BY PROGRAM, IN A SANDBOX (cutbox-rows.mjs): the forced cells as the released guide's own fill.sh prints them over the translation 800969e1afa03bdc… (all of the seat's roots in one cut). By AI agents, Wed Nov 11 2026. No macro, syntax, notation, axiom, sorry.
-/
import Derived.Test.YtmfifaigphnbmaaChecked
import GoSem.Claim
import GoSem.ClaimJoined
import GoSem.ClaimMapViews
import Derived.JoinedTies
import Derived.KernelRfl
namespace Go.Proofs.Ytmfifaigphnbmaa
/- THE CELL 'sum', in the pinned program and in every row, IS THE sha256 OF THE DUMP (.gsa) THAT YtmfifaigphnbmaaProg.lean LOADS. Nothing in Lean hashes anything: it is a label: what it is worth is what the hold of that sum in a sandbox is worth. -/
noncomputable def Try.pinned : Pinned := { name := "ytmfifaigphnbmaa", sum := "800969e1afa03bdc1bfab6b6822973c1a8c039f85f124a4337542babdd7f1a89", checked := Try.checked }
namespace Rows
def none {H : Type} : Left H := { results := [], args := [] }

/-- 'hornbeamlaw05.DecodeZero': WHATEVER THE INPUT: true; the input reads as it did. -/
def decodeZeroSpec : ChangeSpec := { name := "decodeZero", fn := fun _ => fun
  | [d] => { results := [.lit (.bool true)], args := [d] }
  | _ => none }
def decodeZeroRow : OpenClaim := { program := "ytmfifaigphnbmaa", sum := "800969e1afa03bdc1bfab6b6822973c1a8c039f85f124a4337542babdd7f1a89", func := "hornbeam/hornbeamlaw05.DecodeZero", spec := "decodeZero", unfollowed := true, recurses := true, apart := false }
def DecodeZeroSaid : Prop := decodeZeroRow.holds Try.pinned (OpenSpec.ofChange decodeZeroSpec)

/-- ITS FALSE NEIGHBOUR: 'it returns false'. Refute it at one input. -/
def decodeZeroWrong : ChangeSpec := { name := "decodeZero", fn := fun _ => fun
  | [d] => { results := [.lit (.bool false)], args := [d] }
  | _ => none }
def DecodeZeroWrongFalsely : Prop := decodeZeroRow.holds Try.pinned (OpenSpec.ofChange decodeZeroWrong)

/-- 'hornbeamlaw05.DecodeTexts': WHATEVER THE INPUT: true; the input reads as it did. -/
def decodeTextsSpec : ChangeSpec := { name := "decodeTexts", fn := fun _ => fun
  | [d1, d2] => { results := [.lit (.bool true)], args := [d1, d2] }
  | _ => none }
def decodeTextsRow : OpenClaim := { program := "ytmfifaigphnbmaa", sum := "800969e1afa03bdc1bfab6b6822973c1a8c039f85f124a4337542babdd7f1a89", func := "hornbeam/hornbeamlaw05.DecodeTexts", spec := "decodeTexts", unfollowed := true, recurses := true, apart := false }
def DecodeTextsSaid : Prop := decodeTextsRow.holds Try.pinned (OpenSpec.ofChange decodeTextsSpec)

/-- ITS FALSE NEIGHBOUR: 'it returns false'. Refute it at one input. -/
def decodeTextsWrong : ChangeSpec := { name := "decodeTexts", fn := fun _ => fun
  | [d1, d2] => { results := [.lit (.bool false)], args := [d1, d2] }
  | _ => none }
def DecodeTextsWrongFalsely : Prop := decodeTextsRow.holds Try.pinned (OpenSpec.ofChange decodeTextsWrong)

/-- 'hornbeamlaw05.DecodeChunks': WHATEVER THE INPUT: true; the input reads as it did. -/
def decodeChunksSpec : ChangeSpec := { name := "decodeChunks", fn := fun _ => fun
  | [d1, d2, d3] => { results := [.lit (.bool true)], args := [d1, d2, d3] }
  | _ => none }
def decodeChunksRow : OpenClaim := { program := "ytmfifaigphnbmaa", sum := "800969e1afa03bdc1bfab6b6822973c1a8c039f85f124a4337542babdd7f1a89", func := "hornbeam/hornbeamlaw05.DecodeChunks", spec := "decodeChunks", unfollowed := true, recurses := true, apart := false }
def DecodeChunksSaid : Prop := decodeChunksRow.holds Try.pinned (OpenSpec.ofChange decodeChunksSpec)

/-- ITS FALSE NEIGHBOUR: 'it returns false'. Refute it at one input. -/
def decodeChunksWrong : ChangeSpec := { name := "decodeChunks", fn := fun _ => fun
  | [d1, d2, d3] => { results := [.lit (.bool false)], args := [d1, d2, d3] }
  | _ => none }
def DecodeChunksWrongFalsely : Prop := decodeChunksRow.holds Try.pinned (OpenSpec.ofChange decodeChunksWrong)

/-- 'hornbeamlaw05.DecodeSingles': WHATEVER THE INPUT: true; the input reads as it did. -/
def decodeSinglesSpec : ChangeSpec := { name := "decodeSingles", fn := fun _ => fun
  | [d1, d2, d3] => { results := [.lit (.bool true)], args := [d1, d2, d3] }
  | _ => none }
def decodeSinglesRow : OpenClaim := { program := "ytmfifaigphnbmaa", sum := "800969e1afa03bdc1bfab6b6822973c1a8c039f85f124a4337542babdd7f1a89", func := "hornbeam/hornbeamlaw05.DecodeSingles", spec := "decodeSingles", unfollowed := true, recurses := true, apart := false }
def DecodeSinglesSaid : Prop := decodeSinglesRow.holds Try.pinned (OpenSpec.ofChange decodeSinglesSpec)

/-- ITS FALSE NEIGHBOUR: 'it returns false'. Refute it at one input. -/
def decodeSinglesWrong : ChangeSpec := { name := "decodeSingles", fn := fun _ => fun
  | [d1, d2, d3] => { results := [.lit (.bool false)], args := [d1, d2, d3] }
  | _ => none }
def DecodeSinglesWrongFalsely : Prop := decodeSinglesRow.holds Try.pinned (OpenSpec.ofChange decodeSinglesWrong)

/-- 'hornbeamlaw05.DecodeSixteen': WHATEVER THE INPUT: true; the input reads as it did. -/
def decodeSixteenSpec : ChangeSpec := { name := "decodeSixteen", fn := fun _ => fun
  | [d1, d2] => { results := [.lit (.bool true)], args := [d1, d2] }
  | _ => none }
def decodeSixteenRow : OpenClaim := { program := "ytmfifaigphnbmaa", sum := "800969e1afa03bdc1bfab6b6822973c1a8c039f85f124a4337542babdd7f1a89", func := "hornbeam/hornbeamlaw05.DecodeSixteen", spec := "decodeSixteen", unfollowed := true, recurses := true, apart := false }
def DecodeSixteenSaid : Prop := decodeSixteenRow.holds Try.pinned (OpenSpec.ofChange decodeSixteenSpec)

/-- ITS FALSE NEIGHBOUR: 'it returns false'. Refute it at one input. -/
def decodeSixteenWrong : ChangeSpec := { name := "decodeSixteen", fn := fun _ => fun
  | [d1, d2] => { results := [.lit (.bool false)], args := [d1, d2] }
  | _ => none }
def DecodeSixteenWrongFalsely : Prop := decodeSixteenRow.holds Try.pinned (OpenSpec.ofChange decodeSixteenWrong)

/-- 'hornbeamlaw05.DecodeMarks': WHATEVER THE INPUT: true; the input reads as it did. -/
def decodeMarksSpec : ChangeSpec := { name := "decodeMarks", fn := fun _ => fun
  | [d] => { results := [.lit (.bool true)], args := [d] }
  | _ => none }
def decodeMarksRow : OpenClaim := { program := "ytmfifaigphnbmaa", sum := "800969e1afa03bdc1bfab6b6822973c1a8c039f85f124a4337542babdd7f1a89", func := "hornbeam/hornbeamlaw05.DecodeMarks", spec := "decodeMarks", unfollowed := true, recurses := true, apart := false }
def DecodeMarksSaid : Prop := decodeMarksRow.holds Try.pinned (OpenSpec.ofChange decodeMarksSpec)

/-- ITS FALSE NEIGHBOUR: 'it returns false'. Refute it at one input. -/
def decodeMarksWrong : ChangeSpec := { name := "decodeMarks", fn := fun _ => fun
  | [d] => { results := [.lit (.bool false)], args := [d] }
  | _ => none }
def DecodeMarksWrongFalsely : Prop := decodeMarksRow.holds Try.pinned (OpenSpec.ofChange decodeMarksWrong)

/-- 'hornbeamlaw05.DecodeUTF8s': WHATEVER THE INPUT: true; the input reads as it did. -/
def decodeUTF8sSpec : ChangeSpec := { name := "decodeUTF8s", fn := fun _ => fun
  | [d] => { results := [.lit (.bool true)], args := [d] }
  | _ => none }
def decodeUTF8sRow : OpenClaim := { program := "ytmfifaigphnbmaa", sum := "800969e1afa03bdc1bfab6b6822973c1a8c039f85f124a4337542babdd7f1a89", func := "hornbeam/hornbeamlaw05.DecodeUTF8s", spec := "decodeUTF8s", unfollowed := true, recurses := true, apart := false }
def DecodeUTF8sSaid : Prop := decodeUTF8sRow.holds Try.pinned (OpenSpec.ofChange decodeUTF8sSpec)

/-- ITS FALSE NEIGHBOUR: 'it returns false'. Refute it at one input. -/
def decodeUTF8sWrong : ChangeSpec := { name := "decodeUTF8s", fn := fun _ => fun
  | [d] => { results := [.lit (.bool false)], args := [d] }
  | _ => none }
def DecodeUTF8sWrongFalsely : Prop := decodeUTF8sRow.holds Try.pinned (OpenSpec.ofChange decodeUTF8sWrong)

/-- 'hornbeamlaw05.DecodeBack': WHATEVER THE INPUT: true; the input reads as it did. -/
def decodeBackSpec : ChangeSpec := { name := "decodeBack", fn := fun _ => fun
  | [d1, d2, d3] => { results := [.lit (.bool true)], args := [d1, d2, d3] }
  | _ => none }
def decodeBackRow : OpenClaim := { program := "ytmfifaigphnbmaa", sum := "800969e1afa03bdc1bfab6b6822973c1a8c039f85f124a4337542babdd7f1a89", func := "hornbeam/hornbeamlaw05.DecodeBack", spec := "decodeBack", unfollowed := true, recurses := true, apart := false }
def DecodeBackSaid : Prop := decodeBackRow.holds Try.pinned (OpenSpec.ofChange decodeBackSpec)

/-- ITS FALSE NEIGHBOUR: 'it returns false'. Refute it at one input. -/
def decodeBackWrong : ChangeSpec := { name := "decodeBack", fn := fun _ => fun
  | [d1, d2, d3] => { results := [.lit (.bool false)], args := [d1, d2, d3] }
  | _ => none }
def DecodeBackWrongFalsely : Prop := decodeBackRow.holds Try.pinned (OpenSpec.ofChange decodeBackWrong)

/- THE SECOND FORM. 'bulk': how many values and letters a reading holds, each counted each time it is reached (what is shared counts as often as it is met; a slice's spare places count too). A statement '..UptoSaid' is the law's where the arguments, and the package variables that the reading takes, are together of bulk at most 1048576: NARROWER than '..Said'. Prove '..Said' where nothing that the law and all that it calls make is longer than what came in: it says more and counts as full. Else prove '..UptoSaid'. A law counts once. -/
mutual
def uptoBulk {H : Type} : DataW H → Nat
  | .lit (.string bytes) => bytes.length + 1
  | .lit _ => 1
  | .nil => 1
  | .ptr d => uptoBulk d + 1
  | .slice elems spare => uptoBulkAll elems + uptoBulkAll spare + 1
  | .agg parts => uptoBulkAll parts + 1
  | .iface _ d => uptoBulk d + 1
  | .map entries => uptoBulkEntries entries + 1
  | .held _ => 1
def uptoBulkAll {H : Type} : List (DataW H) → Nat
  | [] => 0
  | d :: r => uptoBulk d + uptoBulkAll r
def uptoBulkEntries {H : Type} : List (Lit × DataW H) → Nat
  | [] => 0
  | x :: r => uptoBulkEntry x + uptoBulkEntries r
def uptoBulkEntry {H : Type} : Lit × DataW H → Nat
  | (.string bytes, d) => bytes.length + uptoBulk d + 1
  | (_, d) => uptoBulk d + 1
 end
def uptoSmall : (H : Type) → List (DataW H) → Bool := fun _ ds => decide (uptoBulkAll ds ≤ 1048576)
def OpenSpec.upto (s : _root_.Go.ChangeSpec) : _root_.Go.OpenSpec := { _root_.Go.OpenSpec.ofChange s with cond := some uptoSmall }

/-- 'hornbeamlaw05.DecodeZero', WHERE WHAT IT READS IS OF BULK AT MOST 1048576: true; the input reads as it did. -/
def decodeZeroUptoRow : OpenClaim := { program := "ytmfifaigphnbmaa", sum := "800969e1afa03bdc1bfab6b6822973c1a8c039f85f124a4337542babdd7f1a89", func := "hornbeam/hornbeamlaw05.DecodeZero", spec := "decodeZero", unfollowed := true, recurses := true, apart := false, narrowed := true }
def DecodeZeroUptoSaid : Prop := decodeZeroUptoRow.holds Try.pinned (OpenSpec.upto decodeZeroSpec)

/-- 'hornbeamlaw05.DecodeTexts', WHERE WHAT IT READS IS OF BULK AT MOST 1048576: true; the input reads as it did. -/
def decodeTextsUptoRow : OpenClaim := { program := "ytmfifaigphnbmaa", sum := "800969e1afa03bdc1bfab6b6822973c1a8c039f85f124a4337542babdd7f1a89", func := "hornbeam/hornbeamlaw05.DecodeTexts", spec := "decodeTexts", unfollowed := true, recurses := true, apart := false, narrowed := true }
def DecodeTextsUptoSaid : Prop := decodeTextsUptoRow.holds Try.pinned (OpenSpec.upto decodeTextsSpec)

/-- 'hornbeamlaw05.DecodeChunks', WHERE WHAT IT READS IS OF BULK AT MOST 1048576: true; the input reads as it did. -/
def decodeChunksUptoRow : OpenClaim := { program := "ytmfifaigphnbmaa", sum := "800969e1afa03bdc1bfab6b6822973c1a8c039f85f124a4337542babdd7f1a89", func := "hornbeam/hornbeamlaw05.DecodeChunks", spec := "decodeChunks", unfollowed := true, recurses := true, apart := false, narrowed := true }
def DecodeChunksUptoSaid : Prop := decodeChunksUptoRow.holds Try.pinned (OpenSpec.upto decodeChunksSpec)

/-- 'hornbeamlaw05.DecodeSingles', WHERE WHAT IT READS IS OF BULK AT MOST 1048576: true; the input reads as it did. -/
def decodeSinglesUptoRow : OpenClaim := { program := "ytmfifaigphnbmaa", sum := "800969e1afa03bdc1bfab6b6822973c1a8c039f85f124a4337542babdd7f1a89", func := "hornbeam/hornbeamlaw05.DecodeSingles", spec := "decodeSingles", unfollowed := true, recurses := true, apart := false, narrowed := true }
def DecodeSinglesUptoSaid : Prop := decodeSinglesUptoRow.holds Try.pinned (OpenSpec.upto decodeSinglesSpec)

/-- 'hornbeamlaw05.DecodeSixteen', WHERE WHAT IT READS IS OF BULK AT MOST 1048576: true; the input reads as it did. -/
def decodeSixteenUptoRow : OpenClaim := { program := "ytmfifaigphnbmaa", sum := "800969e1afa03bdc1bfab6b6822973c1a8c039f85f124a4337542babdd7f1a89", func := "hornbeam/hornbeamlaw05.DecodeSixteen", spec := "decodeSixteen", unfollowed := true, recurses := true, apart := false, narrowed := true }
def DecodeSixteenUptoSaid : Prop := decodeSixteenUptoRow.holds Try.pinned (OpenSpec.upto decodeSixteenSpec)

/-- 'hornbeamlaw05.DecodeMarks', WHERE WHAT IT READS IS OF BULK AT MOST 1048576: true; the input reads as it did. -/
def decodeMarksUptoRow : OpenClaim := { program := "ytmfifaigphnbmaa", sum := "800969e1afa03bdc1bfab6b6822973c1a8c039f85f124a4337542babdd7f1a89", func := "hornbeam/hornbeamlaw05.DecodeMarks", spec := "decodeMarks", unfollowed := true, recurses := true, apart := false, narrowed := true }
def DecodeMarksUptoSaid : Prop := decodeMarksUptoRow.holds Try.pinned (OpenSpec.upto decodeMarksSpec)

/-- 'hornbeamlaw05.DecodeUTF8s', WHERE WHAT IT READS IS OF BULK AT MOST 1048576: true; the input reads as it did. -/
def decodeUTF8sUptoRow : OpenClaim := { program := "ytmfifaigphnbmaa", sum := "800969e1afa03bdc1bfab6b6822973c1a8c039f85f124a4337542babdd7f1a89", func := "hornbeam/hornbeamlaw05.DecodeUTF8s", spec := "decodeUTF8s", unfollowed := true, recurses := true, apart := false, narrowed := true }
def DecodeUTF8sUptoSaid : Prop := decodeUTF8sUptoRow.holds Try.pinned (OpenSpec.upto decodeUTF8sSpec)

/-- 'hornbeamlaw05.DecodeBack', WHERE WHAT IT READS IS OF BULK AT MOST 1048576: true; the input reads as it did. -/
def decodeBackUptoRow : OpenClaim := { program := "ytmfifaigphnbmaa", sum := "800969e1afa03bdc1bfab6b6822973c1a8c039f85f124a4337542babdd7f1a89", func := "hornbeam/hornbeamlaw05.DecodeBack", spec := "decodeBack", unfollowed := true, recurses := true, apart := false, narrowed := true }
def DecodeBackUptoSaid : Prop := decodeBackUptoRow.holds Try.pinned (OpenSpec.upto decodeBackSpec)

end Rows
end Go.Proofs.Ytmfifaigphnbmaa
