/- The tables of names with large letters, the program's (arrays) and the reference's (slices). Printed by gen_tab.py. -/
import Derived.Test.YtpicgchcdbginaaDoorD4
import Derived.Test.YtpicgchcdbginaaDoorKitC
namespace Go.Proofs.YtpicgchcdbginaaDoor
open Go.RowKit

def elemL : List ByteArray := [
  ⟨#[97, 108, 116, 71, 108, 121, 112, 104]⟩,
  ⟨#[97, 108, 116, 71, 108, 121, 112, 104, 68, 101, 102]⟩,
  ⟨#[97, 108, 116, 71, 108, 121, 112, 104, 73, 116, 101, 109]⟩,
  ⟨#[97, 110, 105, 109, 97, 116, 101, 67, 111, 108, 111, 114]⟩,
  ⟨#[97, 110, 105, 109, 97, 116, 101, 77, 111, 116, 105, 111, 110]⟩,
  ⟨#[97, 110, 105, 109, 97, 116, 101, 84, 114, 97, 110, 115, 102, 111, 114, 109]⟩,
  ⟨#[99, 108, 105, 112, 80, 97, 116, 104]⟩,
  ⟨#[102, 101, 66, 108, 101, 110, 100]⟩,
  ⟨#[102, 101, 67, 111, 108, 111, 114, 77, 97, 116, 114, 105, 120]⟩,
  ⟨#[102, 101, 67, 111, 109, 112, 111, 110, 101, 110, 116, 84, 114, 97, 110, 115, 102, 101, 114]⟩,
  ⟨#[102, 101, 67, 111, 109, 112, 111, 115, 105, 116, 101]⟩,
  ⟨#[102, 101, 67, 111, 110, 118, 111, 108, 118, 101, 77, 97, 116, 114, 105, 120]⟩,
  ⟨#[102, 101, 68, 105, 102, 102, 117, 115, 101, 76, 105, 103, 104, 116, 105, 110, 103]⟩,
  ⟨#[102, 101, 68, 105, 115, 112, 108, 97, 99, 101, 109, 101, 110, 116, 77, 97, 112]⟩,
  ⟨#[102, 101, 68, 105, 115, 116, 97, 110, 116, 76, 105, 103, 104, 116]⟩,
  ⟨#[102, 101, 68, 114, 111, 112, 83, 104, 97, 100, 111, 119]⟩,
  ⟨#[102, 101, 70, 108, 111, 111, 100]⟩,
  ⟨#[102, 101, 70, 117, 110, 99, 65]⟩,
  ⟨#[102, 101, 70, 117, 110, 99, 66]⟩,
  ⟨#[102, 101, 70, 117, 110, 99, 71]⟩,
  ⟨#[102, 101, 70, 117, 110, 99, 82]⟩,
  ⟨#[102, 101, 71, 97, 117, 115, 115, 105, 97, 110, 66, 108, 117, 114]⟩,
  ⟨#[102, 101, 73, 109, 97, 103, 101]⟩,
  ⟨#[102, 101, 77, 101, 114, 103, 101]⟩,
  ⟨#[102, 101, 77, 101, 114, 103, 101, 78, 111, 100, 101]⟩,
  ⟨#[102, 101, 77, 111, 114, 112, 104, 111, 108, 111, 103, 121]⟩,
  ⟨#[102, 101, 79, 102, 102, 115, 101, 116]⟩,
  ⟨#[102, 101, 80, 111, 105, 110, 116, 76, 105, 103, 104, 116]⟩,
  ⟨#[102, 101, 83, 112, 101, 99, 117, 108, 97, 114, 76, 105, 103, 104, 116, 105, 110, 103]⟩,
  ⟨#[102, 101, 83, 112, 111, 116, 76, 105, 103, 104, 116]⟩,
  ⟨#[102, 101, 84, 105, 108, 101]⟩,
  ⟨#[102, 101, 84, 117, 114, 98, 117, 108, 101, 110, 99, 101]⟩,
  ⟨#[102, 111, 114, 101, 105, 103, 110, 79, 98, 106, 101, 99, 116]⟩,
  ⟨#[103, 108, 121, 112, 104, 82, 101, 102]⟩,
  ⟨#[108, 105, 110, 101, 97, 114, 71, 114, 97, 100, 105, 101, 110, 116]⟩,
  ⟨#[114, 97, 100, 105, 97, 108, 71, 114, 97, 100, 105, 101, 110, 116]⟩,
  ⟨#[116, 101, 120, 116, 80, 97, 116, 104]⟩]
def elemV : Array Value := (elemL.map Value.string).toArray

set_option maxRecDepth 100000 in
theorem elem19 (w : World) : Calls Tryd.prog 19 #[] w fun e w' => e = .returned (.agg elemV) ∧ w' = w.alloc (.cells elemV 44) := by
  go_enter Tryd.func19, Tryd.ntmps19
  go_wp2_with (first
    | (with_reducible refine step_alloc (o := ⟨some 0, .alloc 44, _, _, _, _⟩) rfl 44 rfl (Array.replicate 37 (.string ByteArray.empty)) ?h1 ?_)
    | (with_reducible refine step_build (o := ⟨some 1, .build 44 _, _, _, _, _⟩) rfl 44 _ rfl elemV ?h2 ?_)
    | (with_reducible refine step_store_new (o := ⟨none, .store 44 _ _, _, _, _, _⟩) rfl 44 _ _ rfl (Array.replicate 37 (.string ByteArray.empty)) elemV ?h3 ?h4 ?h5 ?h6 ?h7 ?_))
  case h1 => as_aux_lemma => kernel_rfl
  case h2 => as_aux_lemma => kernel_rfl
  case h5 => as_aux_lemma => kernel_rfl
  case h6 => as_aux_lemma => kernel_rfl
  case h7 =>
    intro v hv
    obtain ⟨s, _, rfl⟩ : ∃ s, s ∈ elemL ∧ Value.string s = v := by simpa [elemV] using hv
    rfl
  exact bodyPost_ret (results_cell_row rfl _ _ w.heap.size 44 elemV (0, 0) (.array 37 9) rfl (heap_alloc_new _ _) Tryd.underlying44 rfl (by as_aux_lemma => kernel_rfl)) rfl ⟨rfl, rfl⟩

theorem elemV_size : elemV.size = 37 := by kernel_rfl
theorem elemL_length : elemL.length = 37 := by kernel_rfl
theorem elemV_at (i : Nat) (h : i < elemL.length) : elemV[i]? = some (.string elemL[i]) := by
  simp [elemV, h]

/-- A table that the program can turn small: short names in ASCII. -/
def tabOK (L : List ByteArray) : Bool := L.all fun s => decide (s.size ≤ 100) && s.data.toList.all fun c => decide (c.toNat < 128)
theorem elem_ok : tabOK elemL = true := by decide +kernel
theorem tabOK_at {L : List ByteArray} (h : tabOK L = true) (k : Nat) (hk : k < L.length) : L[k].size ≤ 100 ∧ ∀ c ∈ L[k].data.toList, c.toNat < 128 := by
  have := List.all_eq_true.1 h L[k] (List.getElem_mem hk)
  simp only [Bool.and_eq_true, decide_eq_true_eq, List.all_eq_true] at this
  exact this
end Go.Proofs.YtpicgchcdbginaaDoor
