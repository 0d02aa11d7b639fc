/-
  No cell of these rows narrows 'for every input' (looked for: loops, veiled, ifaces, maps, wideKeys, modest, calm, conditions, laid).
  DERIVED. THE GIVEN ROWS OF THIS SEAT. 6 by the template 'for every input the law returns true; each argument reads behind the call as it read before'; 0 by the template 'total and deterministic' (their statements: YtpicgchcdbginaaTotals.lean).
  GIVEN WITH THE SEED: the statements are not yours to turn. If you find one false, say at which input.
  Laid BY PROGRAM, IN A SANDBOX (cutbox-rows.mjs): the forced cells as the released guide's own fill.sh prints them over the translation 03f45471d073909e… (all of the seat's roots in one cut). By AI agents, Wed Nov 11 2026. No macro, syntax, notation, axiom, sorry.
-/
import Derived.Test.YtpicgchcdbginaaChecked
import GoSem.Claim
import GoSem.ClaimJoined
import GoSem.ClaimMapViews
import Derived.JoinedTies
import Derived.KernelRfl
namespace Go.Proofs.Ytpicgchcdbginaa
/- THE CELL 'sum', in the pinned program and in every row, IS THE sha256 OF THE DUMP (.gsa) THAT YtpicgchcdbginaaProg.lean LOADS. Nothing in Lean hashes anything: it is a label: what it is worth is what the hold of that sum in a sandbox is worth. -/
noncomputable def Try.pinned : Pinned := { name := "ytpicgchcdbginaa", sum := "03f45471d073909ed7eea135eb38cc393d3e5f648e6c9548a4aa8e372fe459f5", checked := Try.checked }
namespace Rows
def none {H : Type} : Left H := { results := [], args := [] }

/-- 'hornbeamlaw11.AdjustElements': WHATEVER THE INPUT: true; the input reads as it did. -/
def adjustElementsSpec : ChangeSpec := { name := "adjustElements", fn := fun _ => fun
  | [d] => { results := [.lit (.bool true)], args := [d] }
  | _ => none }
def adjustElementsRow : OpenClaim := { program := "ytpicgchcdbginaa", sum := "03f45471d073909ed7eea135eb38cc393d3e5f648e6c9548a4aa8e372fe459f5", func := "hornbeam/hornbeamlaw11.AdjustElements", spec := "adjustElements", inPlace := ["internal/abi.NoEscape"], apart := false }
def AdjustElementsSaid : Prop := adjustElementsRow.holds Try.pinned (OpenSpec.ofChange adjustElementsSpec)

/-- ITS FALSE NEIGHBOUR: 'it returns false'. Refute it at one input. -/
def adjustElementsWrong : ChangeSpec := { name := "adjustElements", fn := fun _ => fun
  | [d] => { results := [.lit (.bool false)], args := [d] }
  | _ => none }
def AdjustElementsWrongFalsely : Prop := adjustElementsRow.holds Try.pinned (OpenSpec.ofChange adjustElementsWrong)

/-- 'hornbeamlaw11.AdjustMathML': WHATEVER THE INPUT: true; the input reads as it did. -/
def adjustMathMLSpec : ChangeSpec := { name := "adjustMathML", fn := fun _ => fun
  | [d] => { results := [.lit (.bool true)], args := [d] }
  | _ => none }
def adjustMathMLRow : OpenClaim := { program := "ytpicgchcdbginaa", sum := "03f45471d073909ed7eea135eb38cc393d3e5f648e6c9548a4aa8e372fe459f5", func := "hornbeam/hornbeamlaw11.AdjustMathML", spec := "adjustMathML", inPlace := ["internal/abi.NoEscape"], unfollowed := true, recurses := true, apart := false }
def AdjustMathMLSaid : Prop := adjustMathMLRow.holds Try.pinned (OpenSpec.ofChange adjustMathMLSpec)

/-- ITS FALSE NEIGHBOUR: 'it returns false'. Refute it at one input. -/
def adjustMathMLWrong : ChangeSpec := { name := "adjustMathML", fn := fun _ => fun
  | [d] => { results := [.lit (.bool false)], args := [d] }
  | _ => none }
def AdjustMathMLWrongFalsely : Prop := adjustMathMLRow.holds Try.pinned (OpenSpec.ofChange adjustMathMLWrong)

/-- 'hornbeamlaw11.AdjustSVG': WHATEVER THE INPUT: true; the input reads as it did. -/
def adjustSVGSpec : ChangeSpec := { name := "adjustSVG", fn := fun _ => fun
  | [d] => { results := [.lit (.bool true)], args := [d] }
  | _ => none }
def adjustSVGRow : OpenClaim := { program := "ytpicgchcdbginaa", sum := "03f45471d073909ed7eea135eb38cc393d3e5f648e6c9548a4aa8e372fe459f5", func := "hornbeam/hornbeamlaw11.AdjustSVG", spec := "adjustSVG", inPlace := ["internal/abi.NoEscape"], unfollowed := true, recurses := true, apart := false }
def AdjustSVGSaid : Prop := adjustSVGRow.holds Try.pinned (OpenSpec.ofChange adjustSVGSpec)

/-- ITS FALSE NEIGHBOUR: 'it returns false'. Refute it at one input. -/
def adjustSVGWrong : ChangeSpec := { name := "adjustSVG", fn := fun _ => fun
  | [d] => { results := [.lit (.bool false)], args := [d] }
  | _ => none }
def AdjustSVGWrongFalsely : Prop := adjustSVGRow.holds Try.pinned (OpenSpec.ofChange adjustSVGWrong)

/-- 'hornbeamlaw11.AdjustForeign': WHATEVER THE INPUT: true; the input reads as it did. -/
def adjustForeignSpec : ChangeSpec := { name := "adjustForeign", fn := fun _ => fun
  | [d] => { results := [.lit (.bool true)], args := [d] }
  | _ => none }
def adjustForeignRow : OpenClaim := { program := "ytpicgchcdbginaa", sum := "03f45471d073909ed7eea135eb38cc393d3e5f648e6c9548a4aa8e372fe459f5", func := "hornbeam/hornbeamlaw11.AdjustForeign", spec := "adjustForeign", inPlace := ["internal/bytealg.IndexByteString", "internal/bytealg.IndexString", "internal/abi.NoEscape"], unfollowed := true, recurses := true, named := ["internal/bytealg.MaxLen"], apart := false }
def AdjustForeignSaid : Prop := adjustForeignRow.holds Try.pinned (OpenSpec.ofChange adjustForeignSpec)

/-- ITS FALSE NEIGHBOUR: 'it returns false'. Refute it at one input. -/
def adjustForeignWrong : ChangeSpec := { name := "adjustForeign", fn := fun _ => fun
  | [d] => { results := [.lit (.bool false)], args := [d] }
  | _ => none }
def AdjustForeignWrongFalsely : Prop := adjustForeignRow.holds Try.pinned (OpenSpec.ofChange adjustForeignWrong)

/-- 'hornbeamlaw11.AdjustOnce': WHATEVER THE INPUT: true; the input reads as it did. -/
def adjustOnceSpec : ChangeSpec := { name := "adjustOnce", fn := fun _ => fun
  | [d1, d2] => { results := [.lit (.bool true)], args := [d1, d2] }
  | _ => none }
def adjustOnceRow : OpenClaim := { program := "ytpicgchcdbginaa", sum := "03f45471d073909ed7eea135eb38cc393d3e5f648e6c9548a4aa8e372fe459f5", func := "hornbeam/hornbeamlaw11.AdjustOnce", spec := "adjustOnce", inPlace := ["internal/abi.NoEscape", "internal/bytealg.IndexByteString", "internal/bytealg.IndexString"], unfollowed := true, recurses := true, named := ["internal/bytealg.MaxLen"], apart := false }
def AdjustOnceSaid : Prop := adjustOnceRow.holds Try.pinned (OpenSpec.ofChange adjustOnceSpec)

/-- ITS FALSE NEIGHBOUR: 'it returns false'. Refute it at one input. -/
def adjustOnceWrong : ChangeSpec := { name := "adjustOnce", fn := fun _ => fun
  | [d1, d2] => { results := [.lit (.bool false)], args := [d1, d2] }
  | _ => none }
def AdjustOnceWrongFalsely : Prop := adjustOnceRow.holds Try.pinned (OpenSpec.ofChange adjustOnceWrong)

/-- 'hornbeamlaw11.AdjustPlain': WHATEVER THE INPUT: true; the input reads as it did. -/
def adjustPlainSpec : ChangeSpec := { name := "adjustPlain", fn := fun _ => fun
  | [d1, d2] => { results := [.lit (.bool true)], args := [d1, d2] }
  | _ => none }
def adjustPlainRow : OpenClaim := { program := "ytpicgchcdbginaa", sum := "03f45471d073909ed7eea135eb38cc393d3e5f648e6c9548a4aa8e372fe459f5", func := "hornbeam/hornbeamlaw11.AdjustPlain", spec := "adjustPlain", inPlace := ["internal/abi.NoEscape", "internal/bytealg.IndexByteString", "internal/bytealg.IndexString"], unfollowed := true, recurses := true, named := ["internal/bytealg.MaxLen"], apart := false }
def AdjustPlainSaid : Prop := adjustPlainRow.holds Try.pinned (OpenSpec.ofChange adjustPlainSpec)

/-- ITS FALSE NEIGHBOUR: 'it returns false'. Refute it at one input. -/
def adjustPlainWrong : ChangeSpec := { name := "adjustPlain", fn := fun _ => fun
  | [d1, d2] => { results := [.lit (.bool false)], args := [d1, d2] }
  | _ => none }
def AdjustPlainWrongFalsely : Prop := adjustPlainRow.holds Try.pinned (OpenSpec.ofChange adjustPlainWrong)

/- THE SECOND FORM. 'bulk': how many values and letters a reading holds, each counted each time it is reached (what is shared counts as often as it is met; a slice's spare places count too). A statement '..UptoSaid' is the law's where the arguments, and the package variables that the reading takes, are together of bulk at most 1048576: NARROWER than '..Said'. Prove '..Said' where nothing that the law and all that it calls make is longer than what came in: it says more and counts as full. Else prove '..UptoSaid'. A law counts once. -/
mutual
def uptoBulk {H : Type} : DataW H → Nat
  | .lit (.string bytes) => bytes.length + 1
  | .lit _ => 1
  | .nil => 1
  | .ptr d => uptoBulk d + 1
  | .slice elems spare => uptoBulkAll elems + uptoBulkAll spare + 1
  | .agg parts => uptoBulkAll parts + 1
  | .iface _ d => uptoBulk d + 1
  | .map entries => uptoBulkEntries entries + 1
  | .held _ => 1
def uptoBulkAll {H : Type} : List (DataW H) → Nat
  | [] => 0
  | d :: r => uptoBulk d + uptoBulkAll r
def uptoBulkEntries {H : Type} : List (Lit × DataW H) → Nat
  | [] => 0
  | x :: r => uptoBulkEntry x + uptoBulkEntries r
def uptoBulkEntry {H : Type} : Lit × DataW H → Nat
  | (.string bytes, d) => bytes.length + uptoBulk d + 1
  | (_, d) => uptoBulk d + 1
 end
def uptoSmall : (H : Type) → List (DataW H) → Bool := fun _ ds => decide (uptoBulkAll ds ≤ 1048576)
def OpenSpec.upto (s : _root_.Go.ChangeSpec) : _root_.Go.OpenSpec := { _root_.Go.OpenSpec.ofChange s with cond := some uptoSmall }

/-- 'hornbeamlaw11.AdjustElements', WHERE WHAT IT READS IS OF BULK AT MOST 1048576: true; the input reads as it did. -/
def adjustElementsUptoRow : OpenClaim := { program := "ytpicgchcdbginaa", sum := "03f45471d073909ed7eea135eb38cc393d3e5f648e6c9548a4aa8e372fe459f5", func := "hornbeam/hornbeamlaw11.AdjustElements", spec := "adjustElements", inPlace := ["internal/abi.NoEscape"], apart := false, narrowed := true }
def AdjustElementsUptoSaid : Prop := adjustElementsUptoRow.holds Try.pinned (OpenSpec.upto adjustElementsSpec)

/-- 'hornbeamlaw11.AdjustMathML', WHERE WHAT IT READS IS OF BULK AT MOST 1048576: true; the input reads as it did. -/
def adjustMathMLUptoRow : OpenClaim := { program := "ytpicgchcdbginaa", sum := "03f45471d073909ed7eea135eb38cc393d3e5f648e6c9548a4aa8e372fe459f5", func := "hornbeam/hornbeamlaw11.AdjustMathML", spec := "adjustMathML", inPlace := ["internal/abi.NoEscape"], unfollowed := true, recurses := true, apart := false, narrowed := true }
def AdjustMathMLUptoSaid : Prop := adjustMathMLUptoRow.holds Try.pinned (OpenSpec.upto adjustMathMLSpec)

/-- 'hornbeamlaw11.AdjustSVG', WHERE WHAT IT READS IS OF BULK AT MOST 1048576: true; the input reads as it did. -/
def adjustSVGUptoRow : OpenClaim := { program := "ytpicgchcdbginaa", sum := "03f45471d073909ed7eea135eb38cc393d3e5f648e6c9548a4aa8e372fe459f5", func := "hornbeam/hornbeamlaw11.AdjustSVG", spec := "adjustSVG", inPlace := ["internal/abi.NoEscape"], unfollowed := true, recurses := true, apart := false, narrowed := true }
def AdjustSVGUptoSaid : Prop := adjustSVGUptoRow.holds Try.pinned (OpenSpec.upto adjustSVGSpec)

/-- 'hornbeamlaw11.AdjustForeign', WHERE WHAT IT READS IS OF BULK AT MOST 1048576: true; the input reads as it did. -/
def adjustForeignUptoRow : OpenClaim := { program := "ytpicgchcdbginaa", sum := "03f45471d073909ed7eea135eb38cc393d3e5f648e6c9548a4aa8e372fe459f5", func := "hornbeam/hornbeamlaw11.AdjustForeign", spec := "adjustForeign", inPlace := ["internal/bytealg.IndexByteString", "internal/bytealg.IndexString", "internal/abi.NoEscape"], unfollowed := true, recurses := true, named := ["internal/bytealg.MaxLen"], apart := false, narrowed := true }
def AdjustForeignUptoSaid : Prop := adjustForeignUptoRow.holds Try.pinned (OpenSpec.upto adjustForeignSpec)

/-- 'hornbeamlaw11.AdjustOnce', WHERE WHAT IT READS IS OF BULK AT MOST 1048576: true; the input reads as it did. -/
def adjustOnceUptoRow : OpenClaim := { program := "ytpicgchcdbginaa", sum := "03f45471d073909ed7eea135eb38cc393d3e5f648e6c9548a4aa8e372fe459f5", func := "hornbeam/hornbeamlaw11.AdjustOnce", spec := "adjustOnce", inPlace := ["internal/abi.NoEscape", "internal/bytealg.IndexByteString", "internal/bytealg.IndexString"], unfollowed := true, recurses := true, named := ["internal/bytealg.MaxLen"], apart := false, narrowed := true }
def AdjustOnceUptoSaid : Prop := adjustOnceUptoRow.holds Try.pinned (OpenSpec.upto adjustOnceSpec)

/-- 'hornbeamlaw11.AdjustPlain', WHERE WHAT IT READS IS OF BULK AT MOST 1048576: true; the input reads as it did. -/
def adjustPlainUptoRow : OpenClaim := { program := "ytpicgchcdbginaa", sum := "03f45471d073909ed7eea135eb38cc393d3e5f648e6c9548a4aa8e372fe459f5", func := "hornbeam/hornbeamlaw11.AdjustPlain", spec := "adjustPlain", inPlace := ["internal/abi.NoEscape", "internal/bytealg.IndexByteString", "internal/bytealg.IndexString"], unfollowed := true, recurses := true, named := ["internal/bytealg.MaxLen"], apart := false, narrowed := true }
def AdjustPlainUptoSaid : Prop := adjustPlainUptoRow.holds Try.pinned (OpenSpec.upto adjustPlainSpec)

end Rows
end Go.Proofs.Ytpicgchcdbginaa
