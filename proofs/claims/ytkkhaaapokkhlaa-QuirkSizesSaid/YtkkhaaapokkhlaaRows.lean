/-
  No cell of these rows narrows 'for every input' (looked for: loops, veiled, ifaces, maps, wideKeys, modest, calm, conditions, laid).
  DERIVED. THE GIVEN ROWS OF THIS SEAT. 3 by the template 'for every input the law returns true; each argument reads behind the call as it read before'; 0 by the template 'total and deterministic' (their statements: YtkkhaaapokkhlaaTotals.lean).
  GIVEN WITH THE SEED: the statements are not yours to turn. If you find one false, say at which input.
  Laid BY PROGRAM, IN A SANDBOX (cutbox-rows.mjs): the forced cells as the released guide's own fill.sh prints them over the translation 9f83b1e50abbe859… (all of the seat's roots in one cut). By AI agents, Wed Nov 11 2026. No macro, syntax, notation, axiom, sorry.
-/
import Derived.Test.YtkkhaaapokkhlaaChecked
import GoSem.Claim
import GoSem.ClaimJoined
import GoSem.ClaimMapViews
import Derived.JoinedTies
import Derived.KernelRfl
namespace Go.Proofs.Ytkkhaaapokkhlaa
/- THE CELL 'sum', in the pinned program and in every row, IS THE sha256 OF THE DUMP (.gsa) THAT YtkkhaaapokkhlaaProg.lean LOADS. Nothing in Lean hashes anything: it is a label: what it is worth is what the hold of that sum in a sandbox is worth. -/
noncomputable def Try.pinned : Pinned := { name := "ytkkhaaapokkhlaa", sum := "9f83b1e50abbe8593fee2f40012e759c3f9e49b51672b0d4529f0ec363152364", checked := Try.checked }
namespace Rows
def none {H : Type} : Left H := { results := [], args := [] }

/-- 'hornbeamlaw10.QuirkModes': WHATEVER THE INPUT: true; the input reads as it did. -/
def quirkModesSpec : ChangeSpec := { name := "quirkModes", fn := fun _ => fun
  | [d] => { results := [.lit (.bool true)], args := [d] }
  | _ => none }
def quirkModesRow : OpenClaim := { program := "ytkkhaaapokkhlaa", sum := "9f83b1e50abbe8593fee2f40012e759c3f9e49b51672b0d4529f0ec363152364", func := "hornbeam/hornbeamlaw10.QuirkModes", spec := "quirkModes", unfollowed := true, recurses := true, apart := false }
def QuirkModesSaid : Prop := quirkModesRow.holds Try.pinned (OpenSpec.ofChange quirkModesSpec)

/-- ITS FALSE NEIGHBOUR: 'it returns false'. Refute it at one input. -/
def quirkModesWrong : ChangeSpec := { name := "quirkModes", fn := fun _ => fun
  | [d] => { results := [.lit (.bool false)], args := [d] }
  | _ => none }
def QuirkModesWrongFalsely : Prop := quirkModesRow.holds Try.pinned (OpenSpec.ofChange quirkModesWrong)

/-- 'hornbeamlaw10.QuirkSizes': WHATEVER THE INPUT: true; the input reads as it did. -/
def quirkSizesSpec : ChangeSpec := { name := "quirkSizes", fn := fun _ => fun
  | [d] => { results := [.lit (.bool true)], args := [d] }
  | _ => none }
def quirkSizesRow : OpenClaim := { program := "ytkkhaaapokkhlaa", sum := "9f83b1e50abbe8593fee2f40012e759c3f9e49b51672b0d4529f0ec363152364", func := "hornbeam/hornbeamlaw10.QuirkSizes", spec := "quirkSizes", unfollowed := true, recurses := true, apart := false }
def QuirkSizesSaid : Prop := quirkSizesRow.holds Try.pinned (OpenSpec.ofChange quirkSizesSpec)

/-- ITS FALSE NEIGHBOUR: 'it returns false'. Refute it at one input. -/
def quirkSizesWrong : ChangeSpec := { name := "quirkSizes", fn := fun _ => fun
  | [d] => { results := [.lit (.bool false)], args := [d] }
  | _ => none }
def QuirkSizesWrongFalsely : Prop := quirkSizesRow.holds Try.pinned (OpenSpec.ofChange quirkSizesWrong)

/-- 'hornbeamlaw10.QuirkForce': WHATEVER THE INPUT: true; the input reads as it did. -/
def quirkForceSpec : ChangeSpec := { name := "quirkForce", fn := fun _ => fun
  | [d] => { results := [.lit (.bool true)], args := [d] }
  | _ => none }
def quirkForceRow : OpenClaim := { program := "ytkkhaaapokkhlaa", sum := "9f83b1e50abbe8593fee2f40012e759c3f9e49b51672b0d4529f0ec363152364", func := "hornbeam/hornbeamlaw10.QuirkForce", spec := "quirkForce", unfollowed := true, recurses := true, apart := false }
def QuirkForceSaid : Prop := quirkForceRow.holds Try.pinned (OpenSpec.ofChange quirkForceSpec)

/-- ITS FALSE NEIGHBOUR: 'it returns false'. Refute it at one input. -/
def quirkForceWrong : ChangeSpec := { name := "quirkForce", fn := fun _ => fun
  | [d] => { results := [.lit (.bool false)], args := [d] }
  | _ => none }
def QuirkForceWrongFalsely : Prop := quirkForceRow.holds Try.pinned (OpenSpec.ofChange quirkForceWrong)

/- THE SECOND FORM. 'bulk': how many values and letters a reading holds, each counted each time it is reached (what is shared counts as often as it is met; a slice's spare places count too). A statement '..UptoSaid' is the law's where the arguments, and the package variables that the reading takes, are together of bulk at most 1048576: NARROWER than '..Said'. Prove '..Said' where nothing that the law and all that it calls make is longer than what came in: it says more and counts as full. Else prove '..UptoSaid'. A law counts once. -/
mutual
def uptoBulk {H : Type} : DataW H → Nat
  | .lit (.string bytes) => bytes.length + 1
  | .lit _ => 1
  | .nil => 1
  | .ptr d => uptoBulk d + 1
  | .slice elems spare => uptoBulkAll elems + uptoBulkAll spare + 1
  | .agg parts => uptoBulkAll parts + 1
  | .iface _ d => uptoBulk d + 1
  | .map entries => uptoBulkEntries entries + 1
  | .held _ => 1
def uptoBulkAll {H : Type} : List (DataW H) → Nat
  | [] => 0
  | d :: r => uptoBulk d + uptoBulkAll r
def uptoBulkEntries {H : Type} : List (Lit × DataW H) → Nat
  | [] => 0
  | x :: r => uptoBulkEntry x + uptoBulkEntries r
def uptoBulkEntry {H : Type} : Lit × DataW H → Nat
  | (.string bytes, d) => bytes.length + uptoBulk d + 1
  | (_, d) => uptoBulk d + 1
 end
def uptoSmall : (H : Type) → List (DataW H) → Bool := fun _ ds => decide (uptoBulkAll ds ≤ 1048576)
def OpenSpec.upto (s : _root_.Go.ChangeSpec) : _root_.Go.OpenSpec := { _root_.Go.OpenSpec.ofChange s with cond := some uptoSmall }

/-- 'hornbeamlaw10.QuirkModes', WHERE WHAT IT READS IS OF BULK AT MOST 1048576: true; the input reads as it did. -/
def quirkModesUptoRow : OpenClaim := { program := "ytkkhaaapokkhlaa", sum := "9f83b1e50abbe8593fee2f40012e759c3f9e49b51672b0d4529f0ec363152364", func := "hornbeam/hornbeamlaw10.QuirkModes", spec := "quirkModes", unfollowed := true, recurses := true, apart := false, narrowed := true }
def QuirkModesUptoSaid : Prop := quirkModesUptoRow.holds Try.pinned (OpenSpec.upto quirkModesSpec)

/-- 'hornbeamlaw10.QuirkSizes', WHERE WHAT IT READS IS OF BULK AT MOST 1048576: true; the input reads as it did. -/
def quirkSizesUptoRow : OpenClaim := { program := "ytkkhaaapokkhlaa", sum := "9f83b1e50abbe8593fee2f40012e759c3f9e49b51672b0d4529f0ec363152364", func := "hornbeam/hornbeamlaw10.QuirkSizes", spec := "quirkSizes", unfollowed := true, recurses := true, apart := false, narrowed := true }
def QuirkSizesUptoSaid : Prop := quirkSizesUptoRow.holds Try.pinned (OpenSpec.upto quirkSizesSpec)

/-- 'hornbeamlaw10.QuirkForce', WHERE WHAT IT READS IS OF BULK AT MOST 1048576: true; the input reads as it did. -/
def quirkForceUptoRow : OpenClaim := { program := "ytkkhaaapokkhlaa", sum := "9f83b1e50abbe8593fee2f40012e759c3f9e49b51672b0d4529f0ec363152364", func := "hornbeam/hornbeamlaw10.QuirkForce", spec := "quirkForce", unfollowed := true, recurses := true, apart := false, narrowed := true }
def QuirkForceUptoSaid : Prop := quirkForceUptoRow.holds Try.pinned (OpenSpec.upto quirkForceSpec)

end Rows
end Go.Proofs.Ytkkhaaapokkhlaa
