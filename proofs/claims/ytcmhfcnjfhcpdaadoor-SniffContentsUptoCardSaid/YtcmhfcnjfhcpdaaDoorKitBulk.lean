/- What the second form's bound gives: how long a text is that lies in what was read. -/
import Derived.Test.YtcmhfcnjfhcpdaaDoorRows
namespace Go.Proofs.YtcmhfcnjfhcpdaaDoor
theorem bulk_mem {H : Type} : ∀ {l : List (DataW H)} {d : DataW H}, d ∈ l → Rows.uptoBulk d ≤ Rows.uptoBulkAll l
  | x :: r, d, h => by
    rw [Rows.uptoBulkAll]
    rcases List.mem_cons.1 h with rfl | h
    · exact Nat.le_add_right _ _
    · exact Nat.le_trans (bulk_mem h) (Nat.le_add_left _ _)
theorem bulk_text {H : Type} (l : List UInt8) : Rows.uptoBulk (DataW.lit (H := H) (.string l)) = l.length + 1 := by rw [Rows.uptoBulk]
theorem bulk_most {H : Type} {l : List (DataW H)} (h : Rows.uptoSmall H l = true) : Rows.uptoBulkAll l ≤ 1048576 := of_decide_eq_true h
/-- A text in a struct in a slice. -/
theorem bulk_field {H : Type} {elems spare parts : List (DataW H)} {l : List UInt8} (h1 : .agg parts ∈ elems) (h2 : .lit (.string l) ∈ parts) : l.length ≤ Rows.uptoBulk (.slice elems spare) := by
  have a := bulk_mem h1
  have b := bulk_mem h2
  rw [bulk_text] at b
  simp only [Rows.uptoBulk] at a ⊢
  omega
end Go.Proofs.YtcmhfcnjfhcpdaaDoor
