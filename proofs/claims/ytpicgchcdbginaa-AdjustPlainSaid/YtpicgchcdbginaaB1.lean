/- The walks of MathML and of the law of MathML's attributes. -/
import Derived.Test.YtpicgchcdbginaaA3
import Derived.Test.YtpicgchcdbginaaA7
import Derived.Deep.DeepMust
namespace Go.Proofs.Ytpicgchcdbginaa
open Go.RowKit

theorem mathml13 (oa : Option Addr) (cap : Nat) (L : List A4) (w : World) (hL : RdA w oa L) (hm : L.length * 56 ≤ 140737488351232) :
    Calls Try.prog 13 #[.slice oa L.length cap] w fun e w' => ∃ oa' cap', e = .returned (.slice oa' L.length cap') ∧ RdA w' oa' (eachF mathF L) ∧ Below w.heap.size w w' := by
  go_enter Try.func13, Try.ntmps13
  go_wp2_with (go_at_call 24; (with_reducible refine (each25 oa cap L _ hL hm).mono ?_); rintro e w1 ⟨oa1, cap1, rfl, hr1, hb1⟩)
  go_ret
  exact ⟨oa1, cap1, rfl, hr1, hb1⟩
/-- same where the two slices read as the same attributes. -/
theorem same12y (oa ob : Option Addr) (ca cb n m : Nat) (L : List A4) (hn : n = L.length) (hm : m = L.length) (w : World) (hL : RdA w oa L) (hM : RdA w ob L) (hl : L.length * 56 ≤ 140737488351232) :
    Calls Try.prog 12 #[.slice oa n ca, .slice ob m cb] w fun e w' => e = .returned (.bool true) ∧ Below w.heap.size w w' := by
  subst hn hm
  have := same12 oa ob ca cb L L w hL hM hl hl
  simpa using this
set_option maxHeartbeats 400000 in
theorem mathml4 (oa : Option Addr) (cap : Nat) (L : List A4) (w : World) (hL : RdA w oa L) (hm : L.length * 56 ≤ 140737488351232) :
    Calls Try.prog 4 #[.slice oa L.length cap] w fun e w' => e = .returned (.bool true) ∧ Below w.heap.size w w' := by
  have HM : (eachF mathF L).length * 56 ≤ 140737488351232 := by rw [eachF_length]; exact hm
  have HE := Go.Lib.hid (eachF_length mathF L).symm
  go_enter Try.func4, Try.ntmps4
  go_wp2_with (first
    | (at_builtin; refine step_append_slice rfl w.heap.size (.tmp 4) (.tmp 5) 25 30 _ 4 56 rfl Try.underlying25 info30 rfl (by decide) (by decide) _ 0 L.length cap oa [] (cellsA L) rfl rfl (cellsA_length L) (RdA.news (hL.below (bal (Below.refl _ _) _))) (oneAs L) (own_empty w w.heap.size 30 4 w.heap.size rfl (Nat.le_refl _)) (bal (Below.refl _ _) _) (by simp) (by omega) ?_; intro v1 w1 hown1 hB1; simp only [Nat.zero_add, List.nil_append] at hown1; obtain ⟨oa1, cap1, rfl, _, hr1⟩ := RdA.own hown1; clear hown1; have hl1 := hL.below hB1)
    | (go_at_call 13; go_must ((with_reducible refine (mathml13 oa1 cap1 L _ hr1 hm).mono ?_); rintro e w2 ⟨oa2, cap2, rfl, hr2, hb2⟩; have hB2 := btr hB1 hb2; have hl2 := hL.below hB2))
    | (go_at_call 14; (with_reducible refine (refmath14 oa cap L _ hl2 hm).mono ?_); rintro e w3 ⟨oa3, cap3, rfl, hr3, hb3⟩; have hB3 := btr hB2 hb3)
    | (go_at_call 12; (with_reducible refine (same12y oa2 oa3 cap2 cap3 _ _ (eachF mathF L) HE.out HE.out _ (hr2.below hb3) hr3 HM).mono ?_); rintro e w4 ⟨rfl, hb4⟩; have hB4 := btr hB3 hb4; have hl4 := hL.below hB4; have hr4 := (hr1.below hb2).below (btr hb3 hb4))
    | (go_at_call 12; (with_reducible refine (same12y oa1 oa cap1 cap _ _ L rfl rfl _ hr4 hl4 hm).mono ?_); rintro e w5 ⟨rfl, hb5⟩; have hB5 := btr hB4 hb5)
    | (go_at_call 11; (with_reducible refine (awake11 _).mono ?_); rintro e w6 ⟨rfl, hb6⟩))
  go_ret
  exact ⟨rfl, btr hB5 hb6⟩
end Go.Proofs.Ytpicgchcdbginaa
