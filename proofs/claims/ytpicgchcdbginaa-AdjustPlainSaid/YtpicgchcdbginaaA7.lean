/- The walks of Element, the reference's Element, awake and the law of the elements. -/
import Derived.Test.YtpicgchcdbginaaA6
namespace Go.Proofs.Ytpicgchcdbginaa
open Go.RowKit

theorem tab_alloc {w : World} {L : List ByteArray} {V : Array Value} (hV : ∀ k (h : k < L.length), V[k]? = some (.string L[k])) (t b : Nat) (hb : b = w.heap.size) : TabAt (w.alloc (.cells V t)) b L := by
  intro k hk
  rw [← hV k hk]
  exact blk_cells (at_new _ _ _ hb) k

set_option maxHeartbeats 400000 in
theorem element9 (nm : ByteArray) (w : World) : Calls Try.prog 9 #[.string nm] w fun e w' => e = .returned (.string (pickL elemL nm)) ∧ Below w.heap.size w w' := by
  go_enter Try.func9, Try.ntmps9
  go_wp2_with (first
    | (go_at_call 20; (with_reducible refine (elem20 _).mono ?_); rintro e w3 ⟨rfl, rfl⟩)
    | (with_reducible refine step_alloc (o := ⟨some 3, .alloc 32, _, _, _, _⟩) rfl 32 rfl (Array.replicate 37 (.string ByteArray.empty)) ?h1 ?_)
    | (with_reducible refine step_store_new (o := ⟨none, .store 32 _ _, _, _, _, _⟩) rfl 32 _ _ rfl (Array.replicate 37 (.string ByteArray.empty)) elemV ?h3 ?h4 ?h5 ?h6 ?h7 ?_)
    | (go_at_call 21; (with_reducible refine (named21 _ _ _ elemL elemL_length.symm nm _ (tab_alloc elemV_at 32 _ (by simp)) elem_ok (by rw [elemL_length]; omega)).mono ?_); rintro e w4 ⟨rfl, hb4⟩))
  case h1 => as_aux_lemma => kernel_rfl
  case h5 => as_aux_lemma => kernel_rfl
  case h6 => as_aux_lemma => kernel_rfl
  case h7 =>
    intro v hv
    obtain ⟨s, _, rfl⟩ : ∃ s, s ∈ elemL ∧ Value.string s = v := by simpa [elemV] using hv
    rfl
  go_ret
  exact ⟨rfl, btr (bal (bal (Below.refl _ _) _) _) hb4⟩
set_option maxHeartbeats 400000 in
theorem refelement10 (nm : ByteArray) (w : World) : Calls Try.prog 10 #[.string nm] w fun e w' => e = .returned (.string (pickL elemL nm)) ∧ Below w.heap.size w w' := by
  go_enter Try.func10, Try.ntmps10
  go_wp2_with (first
    | (go_at_call 23; (with_reducible refine (elem23 _).mono ?_); rintro e w3 ⟨rfl, rfl⟩)
    | (go_at_call 22; (with_reducible refine (pick22 _ _ _ elemL elemL_length.symm nm _ (tab_alloc elemV_at 9 _ rfl) elem_ok (by rw [elemL_length]; omega)).mono ?_); rintro e w4 ⟨rfl, hb4⟩))
  go_ret
  exact ⟨rfl, btr (bal (Below.refl _ _) _) hb4⟩
theorem awake_pick : pickL elemL ⟨#[99, 108, 105, 112, 112, 97, 116, 104]⟩ = ⟨#[99, 108, 105, 112, 80, 97, 116, 104]⟩ := by decide +kernel
theorem awake11 (w : World) : Calls Try.prog 11 #[] w fun e w' => e = .returned (.bool true) ∧ Below w.heap.size w w' := by
  go_enter Try.func11, Try.ntmps11
  go_wp2_with (go_at_call 9; (with_reducible refine (element9 _ _).mono ?_); rintro e w3 ⟨rfl, hb3⟩)
  go_ret
  exact ⟨ret_bool (by rw [awake_pick]; decide +kernel), hb3⟩
theorem elements3 (nm : ByteArray) (w : World) : Calls Try.prog 3 #[.string nm] w fun e w' => e = .returned (.bool true) ∧ Below w.heap.size w w' := by
  go_enter Try.func3, Try.ntmps3
  go_wp2_with (first
    | (go_at_call 9; (with_reducible refine (element9 _ _).mono ?_); rintro e w3 ⟨rfl, hb3⟩)
    | (go_at_call 10; (with_reducible refine (refelement10 _ _).mono ?_); rintro e w4 ⟨rfl, hb4⟩)
    | (go_at_call 11; (with_reducible refine (awake11 _).mono ?_); rintro e w5 ⟨rfl, hb5⟩))
  go_ret
  exact ⟨rfl, btr (btr hb3 hb4) hb5⟩
end Go.Proofs.Ytpicgchcdbginaa
