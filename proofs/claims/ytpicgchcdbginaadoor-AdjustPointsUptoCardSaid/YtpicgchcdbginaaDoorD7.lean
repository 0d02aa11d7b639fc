/- The walks of Element, the reference's Element, awake and the law of the elements. -/
import Derived.Test.YtpicgchcdbginaaDoorD6
namespace Go.Proofs.YtpicgchcdbginaaDoor
open Go.RowKit

theorem tab_alloc {w : World} {L : List ByteArray} {V : Array Value} (hV : ∀ k (h : k < L.length), V[k]? = some (.string L[k])) (t b : Nat) (hb : b = w.heap.size) : TabAt (w.alloc (.cells V t)) b L := by
  intro k hk
  rw [← hV k hk]
  exact blk_cells (at_new _ _ _ hb) k

set_option maxHeartbeats 400000 in
theorem element15 (nm : ByteArray) (w : World) : Calls Tryd.prog 15 #[.string nm] w fun e w' => e = .returned (.string (pickL elemL nm)) ∧ Below w.heap.size w w' := by
  go_enter Tryd.func15, Tryd.ntmps15
  go_wp2_with (first
    | (go_at_call 19; (with_reducible refine (elem19 _).mono ?_); rintro e w3 ⟨rfl, rfl⟩)
    | (with_reducible refine step_alloc (o := ⟨some 3, .alloc 44, _, _, _, _⟩) rfl 44 rfl (Array.replicate 37 (.string ByteArray.empty)) ?h1 ?_)
    | (with_reducible refine step_store_new (o := ⟨none, .store 44 _ _, _, _, _, _⟩) rfl 44 _ _ rfl (Array.replicate 37 (.string ByteArray.empty)) elemV ?h3 ?h4 ?h5 ?h6 ?h7 ?_)
    | (go_at_call 20; (with_reducible refine (named20 _ _ _ elemL elemL_length.symm nm _ (tab_alloc elemV_at 44 _ (by simp)) elem_ok (by rw [elemL_length]; omega)).mono ?_); rintro e w4 ⟨rfl, hb4⟩))
  case h1 => as_aux_lemma => kernel_rfl
  case h5 => as_aux_lemma => kernel_rfl
  case h6 => as_aux_lemma => kernel_rfl
  case h7 =>
    intro v hv
    obtain ⟨s, _, rfl⟩ : ∃ s, s ∈ elemL ∧ Value.string s = v := by simpa [elemV] using hv
    rfl
  go_ret
  exact ⟨rfl, btr (bal (bal (Below.refl _ _) _) _) hb4⟩
theorem awake_pick : pickL elemL ⟨#[99, 108, 105, 112, 112, 97, 116, 104]⟩ = ⟨#[99, 108, 105, 112, 80, 97, 116, 104]⟩ := by decide +kernel
theorem awake9 (w : World) : Calls Tryd.prog 9 #[] w fun e w' => e = .returned (.bool true) ∧ Below w.heap.size w w' := by
  go_enter Tryd.func9, Tryd.ntmps9
  go_wp2_with (go_at_call 15; (with_reducible refine (element15 _ _).mono ?_); rintro e w3 ⟨rfl, hb3⟩)
  go_ret
  exact ⟨ret_bool (by rw [awake_pick]; decide +kernel), hb3⟩
end Go.Proofs.YtpicgchcdbginaaDoor
