/- The table's rows, one by one: what the walk reads, and what it splits into. -/
import Derived.Test.YtcmhfcnjfhcpdaaDoorL1
namespace Go.Proofs.YtcmhfcnjfhcpdaaDoor
open Go.RowKit
def sp : ByteArray := ⟨#[32]⟩
theorem split_of (l : List UInt8) (k : Nat) (r : List (List UInt8)) (h : Lib.count l [32] = k) (h2 : Lib.splitK [32] 0 k l = r) : Lib.countB (mkS l) sp = k ∧ Lib.splitB sp 0 k (mkS l) = r.map mkS := by
  refine ⟨h, ?_⟩
  have e := Lib.splitB_data sp 0 k (mkS l)
  rw [show (mkS l).data.toList = l from rfl, show sp.data.toList = [32] from rfl, h2] at e
  rw [← e, List.map_map]
  conv => lhs; rw [← List.map_id (Lib.splitB sp 0 k (mkS l))]
  apply List.map_congr_left
  intro a _
  rfl
theorem tab_at (i : Nat) (h : i < labs.length) : ∃ nm rw_ : ByteArray, rw_.size ≤ 1000 ∧ 1 ≤ (labs[i]).length ∧ (labs[i]).length ≤ 12 ∧ Lib.countB rw_ sp + 1 = (labs[i]).length ∧ Lib.splitB sp 0 (Lib.countB rw_ sp) rw_ = (labs[i]).map mkS ∧
    ∀ W : World, (Instr.index 65 (.agg tabV) (.int .i64 i)).run Tryd.prog W = .ok (.agg #[.string nm, .string rw_]) W := by
  have h7 : i < 7 := h
  have key : ∀ (j : Nat) (nm l : List UInt8) (r : List (List UInt8)), labs[j]? = some r → l.length ≤ 1000 → 1 ≤ r.length → r.length ≤ 12 → Lib.count l [32] + 1 = r.length → Lib.splitK [32] 0 (r.length - 1) l = r →
      (∀ W : World, (Instr.index 65 (.agg tabV) (.int .i64 j)).run Tryd.prog W = .ok (.agg #[.string (mkS nm), .string (mkS l)]) W) → ∀ hj : j < labs.length,
      ∃ nm rw_ : ByteArray, rw_.size ≤ 1000 ∧ 1 ≤ (labs[j]).length ∧ (labs[j]).length ≤ 12 ∧ Lib.countB rw_ sp + 1 = (labs[j]).length ∧ Lib.splitB sp 0 (Lib.countB rw_ sp) rw_ = (labs[j]).map mkS ∧
        ∀ W : World, (Instr.index 65 (.agg tabV) (.int .i64 j)).run Tryd.prog W = .ok (.agg #[.string nm, .string rw_]) W := by
    intro j nm l r hr h1 h2 h3 h4 h5 h6 hj
    have e : labs[j] = r := by rw [List.getElem?_eq_getElem hj] at hr; exact Option.some.inj hr
    rw [e]
    obtain ⟨e1, e2⟩ := split_of l (r.length - 1) r (by omega) h5
    exact ⟨mkS nm, mkS l, h1, h2, h3, by rw [e1]; omega, by rw [e1]; exact e2, h6⟩
  rcases (show i = 0 ∨ i = 1 ∨ i = 2 ∨ i = 3 ∨ i = 4 ∨ i = 5 ∨ i = 6 by omega) with rfl | rfl | rfl | rfl | rfl | rfl | rfl
  · exact key 0 [85, 84, 70, 45, 56] [117, 116, 102, 45, 56, 32, 117, 116, 102, 56, 32, 117, 110, 105, 99, 111, 100, 101, 45, 49, 45, 49, 45, 117, 116, 102, 45, 56, 32, 117, 110, 105, 99, 111, 100, 101, 49, 49, 117, 116, 102, 56, 32, 117, 110, 105, 99, 111, 100, 101, 50, 48, 117, 116, 102, 56, 32, 120, 45, 117, 110, 105, 99, 111, 100, 101, 50, 48, 117, 116, 102, 56] _ rfl (by decide) (by decide) (by decide) (by decide +kernel) (by decide +kernel) (fun W => by kernel_rfl) h
  · exact key 1 [85, 84, 70, 45, 49, 54, 76, 69] [117, 116, 102, 45, 49, 54, 32, 117, 116, 102, 45, 49, 54, 108, 101, 32, 117, 110, 105, 99, 111, 100, 101, 32, 117, 99, 115, 45, 50, 32, 105, 115, 111, 45, 49, 48, 54, 52, 54, 45, 117, 99, 115, 45, 50, 32, 99, 115, 117, 110, 105, 99, 111, 100, 101, 32, 117, 110, 105, 99, 111, 100, 101, 102, 101, 102, 102] _ rfl (by decide) (by decide) (by decide) (by decide +kernel) (by decide +kernel) (fun W => by kernel_rfl) h
  · exact key 2 [85, 84, 70, 45, 49, 54, 66, 69] [117, 116, 102, 45, 49, 54, 98, 101, 32, 117, 110, 105, 99, 111, 100, 101, 102, 102, 102, 101] _ rfl (by decide) (by decide) (by decide) (by decide +kernel) (by decide +kernel) (fun W => by kernel_rfl) h
  · exact key 3 [119, 105, 110, 100, 111, 119, 115, 45, 49, 50, 53, 50] [119, 105, 110, 100, 111, 119, 115, 45, 49, 50, 53, 50, 32, 108, 97, 116, 105, 110, 49, 32, 105, 115, 111, 45, 56, 56, 53, 57, 45, 49, 32, 105, 115, 111, 56, 56, 53, 57, 45, 49, 32, 105, 115, 111, 95, 56, 56, 53, 57, 45, 49, 32, 97, 115, 99, 105, 105, 32, 117, 115, 45, 97, 115, 99, 105, 105, 32, 99, 112, 49, 50, 53, 50, 32, 120, 45, 99, 112, 49, 50, 53, 50, 32, 108, 49, 32, 105, 98, 109, 56, 49, 57, 32, 99, 112, 56, 49, 57] _ rfl (by decide) (by decide) (by decide) (by decide +kernel) (by decide +kernel) (fun W => by kernel_rfl) h
  · exact key 4 [73, 83, 79, 45, 56, 56, 53, 57, 45, 49, 53] [105, 115, 111, 45, 56, 56, 53, 57, 45, 49, 53, 32, 105, 115, 111, 56, 56, 53, 57, 45, 49, 53, 32, 105, 115, 111, 95, 56, 56, 53, 57, 45, 49, 53, 32, 108, 57, 32, 99, 115, 105, 115, 111, 108, 97, 116, 105, 110, 57] _ rfl (by decide) (by decide) (by decide) (by decide +kernel) (by decide +kernel) (fun W => by kernel_rfl) h
  · exact key 5 [73, 83, 79, 45, 56, 56, 53, 57, 45, 53] [105, 115, 111, 45, 56, 56, 53, 57, 45, 53, 32, 105, 115, 111, 56, 56, 53, 57, 45, 53, 32, 105, 115, 111, 95, 56, 56, 53, 57, 45, 53, 32, 99, 121, 114, 105, 108, 108, 105, 99, 32, 99, 115, 105, 115, 111, 108, 97, 116, 105, 110, 99, 121, 114, 105, 108, 108, 105, 99, 32, 105, 115, 111, 45, 105, 114, 45, 49, 52, 52] _ rfl (by decide) (by decide) (by decide) (by decide +kernel) (by decide +kernel) (fun W => by kernel_rfl) h
  · exact key 6 [120, 45, 117, 115, 101, 114, 45, 100, 101, 102, 105, 110, 101, 100] [120, 45, 117, 115, 101, 114, 45, 100, 101, 102, 105, 110, 101, 100] _ rfl (by decide) (by decide) (by decide) (by decide +kernel) (by decide +kernel) (fun W => by kernel_rfl) h
end Go.Proofs.YtcmhfcnjfhcpdaaDoor
