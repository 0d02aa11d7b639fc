/- The tables of names with large letters, the program's (arrays) and the reference's (slices). Printed by gen_tab.py. -/
import Derived.Test.YtpicgchcdbginaaA4
import Derived.Test.YtpicgchcdbginaaKitC
namespace Go.Proofs.Ytpicgchcdbginaa
open Go.RowKit

def elemL : List ByteArray := [
  ⟨#[97, 108, 116, 71, 108, 121, 112, 104]⟩,
  ⟨#[97, 108, 116, 71, 108, 121, 112, 104, 68, 101, 102]⟩,
  ⟨#[97, 108, 116, 71, 108, 121, 112, 104, 73, 116, 101, 109]⟩,
  ⟨#[97, 110, 105, 109, 97, 116, 101, 67, 111, 108, 111, 114]⟩,
  ⟨#[97, 110, 105, 109, 97, 116, 101, 77, 111, 116, 105, 111, 110]⟩,
  ⟨#[97, 110, 105, 109, 97, 116, 101, 84, 114, 97, 110, 115, 102, 111, 114, 109]⟩,
  ⟨#[99, 108, 105, 112, 80, 97, 116, 104]⟩,
  ⟨#[102, 101, 66, 108, 101, 110, 100]⟩,
  ⟨#[102, 101, 67, 111, 108, 111, 114, 77, 97, 116, 114, 105, 120]⟩,
  ⟨#[102, 101, 67, 111, 109, 112, 111, 110, 101, 110, 116, 84, 114, 97, 110, 115, 102, 101, 114]⟩,
  ⟨#[102, 101, 67, 111, 109, 112, 111, 115, 105, 116, 101]⟩,
  ⟨#[102, 101, 67, 111, 110, 118, 111, 108, 118, 101, 77, 97, 116, 114, 105, 120]⟩,
  ⟨#[102, 101, 68, 105, 102, 102, 117, 115, 101, 76, 105, 103, 104, 116, 105, 110, 103]⟩,
  ⟨#[102, 101, 68, 105, 115, 112, 108, 97, 99, 101, 109, 101, 110, 116, 77, 97, 112]⟩,
  ⟨#[102, 101, 68, 105, 115, 116, 97, 110, 116, 76, 105, 103, 104, 116]⟩,
  ⟨#[102, 101, 68, 114, 111, 112, 83, 104, 97, 100, 111, 119]⟩,
  ⟨#[102, 101, 70, 108, 111, 111, 100]⟩,
  ⟨#[102, 101, 70, 117, 110, 99, 65]⟩,
  ⟨#[102, 101, 70, 117, 110, 99, 66]⟩,
  ⟨#[102, 101, 70, 117, 110, 99, 71]⟩,
  ⟨#[102, 101, 70, 117, 110, 99, 82]⟩,
  ⟨#[102, 101, 71, 97, 117, 115, 115, 105, 97, 110, 66, 108, 117, 114]⟩,
  ⟨#[102, 101, 73, 109, 97, 103, 101]⟩,
  ⟨#[102, 101, 77, 101, 114, 103, 101]⟩,
  ⟨#[102, 101, 77, 101, 114, 103, 101, 78, 111, 100, 101]⟩,
  ⟨#[102, 101, 77, 111, 114, 112, 104, 111, 108, 111, 103, 121]⟩,
  ⟨#[102, 101, 79, 102, 102, 115, 101, 116]⟩,
  ⟨#[102, 101, 80, 111, 105, 110, 116, 76, 105, 103, 104, 116]⟩,
  ⟨#[102, 101, 83, 112, 101, 99, 117, 108, 97, 114, 76, 105, 103, 104, 116, 105, 110, 103]⟩,
  ⟨#[102, 101, 83, 112, 111, 116, 76, 105, 103, 104, 116]⟩,
  ⟨#[102, 101, 84, 105, 108, 101]⟩,
  ⟨#[102, 101, 84, 117, 114, 98, 117, 108, 101, 110, 99, 101]⟩,
  ⟨#[102, 111, 114, 101, 105, 103, 110, 79, 98, 106, 101, 99, 116]⟩,
  ⟨#[103, 108, 121, 112, 104, 82, 101, 102]⟩,
  ⟨#[108, 105, 110, 101, 97, 114, 71, 114, 97, 100, 105, 101, 110, 116]⟩,
  ⟨#[114, 97, 100, 105, 97, 108, 71, 114, 97, 100, 105, 101, 110, 116]⟩,
  ⟨#[116, 101, 120, 116, 80, 97, 116, 104]⟩]
def elemV : Array Value := (elemL.map Value.string).toArray

set_option maxRecDepth 100000 in
theorem elem20 (w : World) : Calls Try.prog 20 #[] w fun e w' => e = .returned (.agg elemV) ∧ w' = w.alloc (.cells elemV 32) := by
  go_enter Try.func20, Try.ntmps20
  go_wp2_with (first
    | (with_reducible refine step_alloc (o := ⟨some 0, .alloc 32, _, _, _, _⟩) rfl 32 rfl (Array.replicate 37 (.string ByteArray.empty)) ?h1 ?_)
    | (with_reducible refine step_build (o := ⟨some 1, .build 32 _, _, _, _, _⟩) rfl 32 _ rfl elemV ?h2 ?_)
    | (with_reducible refine step_store_new (o := ⟨none, .store 32 _ _, _, _, _, _⟩) rfl 32 _ _ rfl (Array.replicate 37 (.string ByteArray.empty)) elemV ?h3 ?h4 ?h5 ?h6 ?h7 ?_))
  case h1 => as_aux_lemma => kernel_rfl
  case h2 => as_aux_lemma => kernel_rfl
  case h5 => as_aux_lemma => kernel_rfl
  case h6 => as_aux_lemma => kernel_rfl
  case h7 =>
    intro v hv
    obtain ⟨s, _, rfl⟩ : ∃ s, s ∈ elemL ∧ Value.string s = v := by simpa [elemV] using hv
    rfl
  exact bodyPost_ret (results_cell_row rfl _ _ w.heap.size 32 elemV (0, 0) (.array 37 9) rfl (heap_alloc_new _ _) Try.underlying32 rfl (by as_aux_lemma => kernel_rfl)) rfl ⟨rfl, rfl⟩

set_option maxRecDepth 100000 in
theorem elem23 (w : World) : Calls Try.prog 23 #[] w fun e w' => e = .returned (.slice (some ⟨w.heap.size, 0, none⟩) 37 37) ∧ w' = w.alloc (.cells elemV 9) := by
  go_enter Try.func23, Try.ntmps23
  go_wp2_with (with_reducible refine step_value (o := ⟨_, .buildSlice _ _ _, _, _, _, _⟩) rfl (.slice (some ⟨w.heap.size, 0, none⟩) 37 37) (w.alloc (.cells elemV 9)) ?h1 ?_)
  case h1 => as_aux_lemma => kernel_rfl
  go_ret
  exact ⟨rfl, rfl⟩
theorem elemV_size : elemV.size = 37 := by kernel_rfl
theorem elemL_length : elemL.length = 37 := by kernel_rfl
theorem elemV_at (i : Nat) (h : i < elemL.length) : elemV[i]? = some (.string elemL[i]) := by
  simp [elemV, h]

def attrL : List ByteArray := [
  ⟨#[97, 116, 116, 114, 105, 98, 117, 116, 101, 78, 97, 109, 101]⟩,
  ⟨#[97, 116, 116, 114, 105, 98, 117, 116, 101, 84, 121, 112, 101]⟩,
  ⟨#[98, 97, 115, 101, 70, 114, 101, 113, 117, 101, 110, 99, 121]⟩,
  ⟨#[98, 97, 115, 101, 80, 114, 111, 102, 105, 108, 101]⟩,
  ⟨#[99, 97, 108, 99, 77, 111, 100, 101]⟩,
  ⟨#[99, 108, 105, 112, 80, 97, 116, 104, 85, 110, 105, 116, 115]⟩,
  ⟨#[100, 105, 102, 102, 117, 115, 101, 67, 111, 110, 115, 116, 97, 110, 116]⟩,
  ⟨#[101, 100, 103, 101, 77, 111, 100, 101]⟩,
  ⟨#[102, 105, 108, 116, 101, 114, 85, 110, 105, 116, 115]⟩,
  ⟨#[103, 108, 121, 112, 104, 82, 101, 102]⟩,
  ⟨#[103, 114, 97, 100, 105, 101, 110, 116, 84, 114, 97, 110, 115, 102, 111, 114, 109]⟩,
  ⟨#[103, 114, 97, 100, 105, 101, 110, 116, 85, 110, 105, 116, 115]⟩,
  ⟨#[107, 101, 114, 110, 101, 108, 77, 97, 116, 114, 105, 120]⟩,
  ⟨#[107, 101, 114, 110, 101, 108, 85, 110, 105, 116, 76, 101, 110, 103, 116, 104]⟩,
  ⟨#[107, 101, 121, 80, 111, 105, 110, 116, 115]⟩,
  ⟨#[107, 101, 121, 83, 112, 108, 105, 110, 101, 115]⟩,
  ⟨#[107, 101, 121, 84, 105, 109, 101, 115]⟩,
  ⟨#[108, 101, 110, 103, 116, 104, 65, 100, 106, 117, 115, 116]⟩,
  ⟨#[108, 105, 109, 105, 116, 105, 110, 103, 67, 111, 110, 101, 65, 110, 103, 108, 101]⟩,
  ⟨#[109, 97, 114, 107, 101, 114, 72, 101, 105, 103, 104, 116]⟩,
  ⟨#[109, 97, 114, 107, 101, 114, 85, 110, 105, 116, 115]⟩,
  ⟨#[109, 97, 114, 107, 101, 114, 87, 105, 100, 116, 104]⟩,
  ⟨#[109, 97, 115, 107, 67, 111, 110, 116, 101, 110, 116, 85, 110, 105, 116, 115]⟩,
  ⟨#[109, 97, 115, 107, 85, 110, 105, 116, 115]⟩,
  ⟨#[110, 117, 109, 79, 99, 116, 97, 118, 101, 115]⟩,
  ⟨#[112, 97, 116, 104, 76, 101, 110, 103, 116, 104]⟩,
  ⟨#[112, 97, 116, 116, 101, 114, 110, 67, 111, 110, 116, 101, 110, 116, 85, 110, 105, 116, 115]⟩,
  ⟨#[112, 97, 116, 116, 101, 114, 110, 84, 114, 97, 110, 115, 102, 111, 114, 109]⟩,
  ⟨#[112, 97, 116, 116, 101, 114, 110, 85, 110, 105, 116, 115]⟩,
  ⟨#[112, 111, 105, 110, 116, 115, 65, 116, 88]⟩,
  ⟨#[112, 111, 105, 110, 116, 115, 65, 116, 89]⟩,
  ⟨#[112, 111, 105, 110, 116, 115, 65, 116, 90]⟩,
  ⟨#[112, 114, 101, 115, 101, 114, 118, 101, 65, 108, 112, 104, 97]⟩,
  ⟨#[112, 114, 101, 115, 101, 114, 118, 101, 65, 115, 112, 101, 99, 116, 82, 97, 116, 105, 111]⟩,
  ⟨#[112, 114, 105, 109, 105, 116, 105, 118, 101, 85, 110, 105, 116, 115]⟩,
  ⟨#[114, 101, 102, 88]⟩,
  ⟨#[114, 101, 102, 89]⟩,
  ⟨#[114, 101, 112, 101, 97, 116, 67, 111, 117, 110, 116]⟩,
  ⟨#[114, 101, 112, 101, 97, 116, 68, 117, 114]⟩,
  ⟨#[114, 101, 113, 117, 105, 114, 101, 100, 69, 120, 116, 101, 110, 115, 105, 111, 110, 115]⟩,
  ⟨#[114, 101, 113, 117, 105, 114, 101, 100, 70, 101, 97, 116, 117, 114, 101, 115]⟩,
  ⟨#[115, 112, 101, 99, 117, 108, 97, 114, 67, 111, 110, 115, 116, 97, 110, 116]⟩,
  ⟨#[115, 112, 101, 99, 117, 108, 97, 114, 69, 120, 112, 111, 110, 101, 110, 116]⟩,
  ⟨#[115, 112, 114, 101, 97, 100, 77, 101, 116, 104, 111, 100]⟩,
  ⟨#[115, 116, 97, 114, 116, 79, 102, 102, 115, 101, 116]⟩,
  ⟨#[115, 116, 100, 68, 101, 118, 105, 97, 116, 105, 111, 110]⟩,
  ⟨#[115, 116, 105, 116, 99, 104, 84, 105, 108, 101, 115]⟩,
  ⟨#[115, 117, 114, 102, 97, 99, 101, 83, 99, 97, 108, 101]⟩,
  ⟨#[115, 121, 115, 116, 101, 109, 76, 97, 110, 103, 117, 97, 103, 101]⟩,
  ⟨#[116, 97, 98, 108, 101, 86, 97, 108, 117, 101, 115]⟩,
  ⟨#[116, 97, 114, 103, 101, 116, 88]⟩,
  ⟨#[116, 97, 114, 103, 101, 116, 89]⟩,
  ⟨#[116, 101, 120, 116, 76, 101, 110, 103, 116, 104]⟩,
  ⟨#[118, 105, 101, 119, 66, 111, 120]⟩,
  ⟨#[118, 105, 101, 119, 84, 97, 114, 103, 101, 116]⟩,
  ⟨#[120, 67, 104, 97, 110, 110, 101, 108, 83, 101, 108, 101, 99, 116, 111, 114]⟩,
  ⟨#[121, 67, 104, 97, 110, 110, 101, 108, 83, 101, 108, 101, 99, 116, 111, 114]⟩,
  ⟨#[122, 111, 111, 109, 65, 110, 100, 80, 97, 110]⟩]
def attrV : Array Value := (attrL.map Value.string).toArray

set_option maxRecDepth 100000 in
theorem attr26 (w : World) : Calls Try.prog 26 #[] w fun e w' => e = .returned (.agg attrV) ∧ w' = w.alloc (.cells attrV 39) := by
  go_enter Try.func26, Try.ntmps26
  go_wp2_with (first
    | (with_reducible refine step_alloc (o := ⟨some 0, .alloc 39, _, _, _, _⟩) rfl 39 rfl (Array.replicate 58 (.string ByteArray.empty)) ?h1 ?_)
    | (with_reducible refine step_build (o := ⟨some 1, .build 39 _, _, _, _, _⟩) rfl 39 _ rfl attrV ?h2 ?_)
    | (with_reducible refine step_store_new (o := ⟨none, .store 39 _ _, _, _, _, _⟩) rfl 39 _ _ rfl (Array.replicate 58 (.string ByteArray.empty)) attrV ?h3 ?h4 ?h5 ?h6 ?h7 ?_))
  case h1 => as_aux_lemma => kernel_rfl
  case h2 => as_aux_lemma => kernel_rfl
  case h5 => as_aux_lemma => kernel_rfl
  case h6 => as_aux_lemma => kernel_rfl
  case h7 =>
    intro v hv
    obtain ⟨s, _, rfl⟩ : ∃ s, s ∈ attrL ∧ Value.string s = v := by simpa [attrV] using hv
    rfl
  exact bodyPost_ret (results_cell_row rfl _ _ w.heap.size 39 attrV (0, 0) (.array 58 9) rfl (heap_alloc_new _ _) Try.underlying39 rfl (by as_aux_lemma => kernel_rfl)) rfl ⟨rfl, rfl⟩

set_option maxRecDepth 100000 in
theorem attr28 (w : World) : Calls Try.prog 28 #[] w fun e w' => e = .returned (.slice (some ⟨w.heap.size, 0, none⟩) 58 58) ∧ w' = w.alloc (.cells attrV 9) := by
  go_enter Try.func28, Try.ntmps28
  go_wp2_with (with_reducible refine step_value (o := ⟨_, .buildSlice _ _ _, _, _, _, _⟩) rfl (.slice (some ⟨w.heap.size, 0, none⟩) 58 58) (w.alloc (.cells attrV 9)) ?h1 ?_)
  case h1 => as_aux_lemma => kernel_rfl
  go_ret
  exact ⟨rfl, rfl⟩
theorem attrV_size : attrV.size = 58 := by kernel_rfl
theorem attrL_length : attrL.length = 58 := by kernel_rfl
theorem attrV_at (i : Nat) (h : i < attrL.length) : attrV[i]? = some (.string attrL[i]) := by
  simp [attrV, h]

/-- A table that the program can turn small: short names in ASCII. -/
def tabOK (L : List ByteArray) : Bool := L.all fun s => decide (s.size ≤ 100) && s.data.toList.all fun c => decide (c.toNat < 128)
theorem elem_ok : tabOK elemL = true := by decide +kernel
theorem attr_ok : tabOK attrL = true := by decide +kernel
theorem tabOK_at {L : List ByteArray} (h : tabOK L = true) (k : Nat) (hk : k < L.length) : L[k].size ≤ 100 ∧ ∀ c ∈ L[k].data.toList, c.toNat < 128 := by
  have := List.all_eq_true.1 h L[k] (List.getElem_mem hk)
  simp only [Bool.and_eq_true, decide_eq_true_eq, List.all_eq_true] at this
  exact this
end Go.Proofs.Ytpicgchcdbginaa
