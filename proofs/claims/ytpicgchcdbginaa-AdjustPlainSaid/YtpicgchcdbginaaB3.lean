/- The walks of SVG and the reference's SVG. -/
import Derived.Test.YtpicgchcdbginaaB1
import Derived.Test.YtpicgchcdbginaaB2
namespace Go.Proofs.Ytpicgchcdbginaa
open Go.RowKit

set_option maxHeartbeats 400000 in
theorem svg15 (oa : Option Addr) (cap : Nat) (L : List A4) (w : World) (hL : RdA w oa L) (hm : L.length * 56 ≤ 140737488351232) :
    Calls Try.prog 15 #[.slice oa L.length cap] w fun e w' => ∃ oa' cap', e = .returned (.slice oa' L.length cap') ∧ RdA w' oa' (eachF svgF L) ∧ Below w.heap.size w w' := by
  go_enter Try.func15, Try.ntmps15
  go_wp2_with (first
    | (go_at_call 26; (with_reducible refine (attr26 _).mono ?_); rintro e w3 ⟨rfl, rfl⟩)
    | (with_reducible refine step_alloc (o := ⟨some 3, .alloc 39, _, _, _, _⟩) rfl 39 rfl (Array.replicate 58 (.string ByteArray.empty)) ?h1 ?_)
    | (with_reducible refine step_store_new (o := ⟨none, .store 39 _ _, _, _, _, _⟩) rfl 39 _ _ rfl (Array.replicate 58 (.string ByteArray.empty)) attrV ?h3 ?h4 ?h5 ?h6 ?h7 ?_)
    | (go_at_call 24; (with_reducible refine (each27 oa cap L _ (w.heap.size + 1) (tab_alloc attrV_at 39 _ (by simp)) (hL.below (bal (bal (Below.refl _ _) _) _)) hm).mono ?_); rintro e w4 ⟨oa4, cap4, rfl, hr4, hb4⟩))
  case h1 => as_aux_lemma => kernel_rfl
  case h5 => as_aux_lemma => kernel_rfl
  case h6 => as_aux_lemma => kernel_rfl
  case h7 =>
    intro v hv
    obtain ⟨s, _, rfl⟩ : ∃ s, s ∈ attrL ∧ Value.string s = v := by simpa [attrV] using hv
    rfl
  go_ret
  exact ⟨oa4, cap4, rfl, hr4, btr (bal (bal (Below.refl _ _) _) _) hb4⟩

theorem attr28' (w : World) : Calls Try.prog 28 #[] w fun e w' => e = .returned (.slice (some ⟨w.heap.size, 0, none⟩) 58 58) ∧ TabAt w' w.heap.size attrL ∧ Below w.heap.size w w' :=
  (attr28 w).mono fun e w' ⟨h, hw⟩ => by subst hw; exact ⟨h, tab_alloc attrV_at 9 _ rfl, bal (Below.refl _ _) _⟩

set_option maxHeartbeats 1000000 in
theorem refsvg16 (oa : Option Addr) (cap : Nat) (L : List A4) (w : World) (hL : RdA w oa L) (hm : L.length * 56 ≤ 140737488351232) :
    Calls Try.prog 16 #[.slice oa L.length cap] w fun e w' => ∃ oa' cap', e = .returned (.slice oa' L.length cap') ∧ RdA w' oa' (eachF svgF L) ∧ Below w.heap.size w w' := by
  go_enter Try.func16, Try.ntmps16
  go_wp2_with (at_builtin; refine step_append_slice rfl w.heap.size (.tmp 5) (.tmp 6) 25 30 _ 4 56 rfl Try.underlying25 info30 rfl (by decide) (by decide) _ 0 L.length cap oa [] (cellsA L) rfl rfl (cellsA_length L) (RdA.news (hL.below (bal (Below.refl _ _) _))) (oneAs L) (own_empty w w.heap.size 30 4 w.heap.size rfl (Nat.le_refl _)) (bal (Below.refl _ _) _) (by simp) (by omega) ?_; intro v1 w1 hown1 hB1; simp only [Nat.zero_add, List.nil_append] at hown1; obtain ⟨oa1, cap1, rfl⟩ := own_slice hown1)
  go_loopw [4] (fun v4 wr => ∃ k : Nat, k ≤ L.length ∧ v4 = .int .i64 k ∧ Below w.heap.size w wr ∧ wr.ownsRow w.heap.size 30 4 (.slice oa1 L.length cap1) L.length (cellsA (eachTo svgF L k))) (fun v4 _ => L.length - (intOf v4).toNat)
  case atStart => exact ⟨0, Nat.zero_le _, rfl, hB1, hown1⟩
  case round =>
    obtain ⟨k, hk, rfl, hB, hown⟩ := hrel
    by_cases hlt : k < L.length
    · obtain ⟨g, rfl, hg⟩ := own_form hown (by omega)
      have hke : k < (eachTo svgF L k).length := by rw [eachTo_length]; exact hlt
      obtain ⟨⟨d0, d1, d2, d3⟩, hfz⟩ := ownA_at hown k hke
      rw [eachTo_get _ _ _ hlt] at d0 d1 d2 d3
      have HS := Go.Lib.hid (fun y hy => eachTo_set svgF L k hlt y hy)
      have HT := Go.Lib.hid (fun hy => eachTo_same svgF L k hlt hy)
      have HO := Go.Lib.hid (fun (W : World) (h : W.ownsRow w.heap.size 30 4 (.slice (some ⟨g, 0, none⟩) L.length cap1) L.length (cellsA (eachTo svgF L k))) => And.intro (ownA_at h k hke).2 (ownA_set h k hke (pickL attrL L[k].nm)))
      rw [eachTo_get _ _ _ hlt] at HO
      clear hke
      generalize L[k] = x at *
      by_cases hsp : x.sp = 0
      · have HSP := Go.Lib.hid hsp
        have hspb : (x.sp == 0) = true := by simpa using hsp
        clear hsp
        go_wp2
        go_region_with (first
          | (go_at_call 28; (with_reducible refine (attr28' _).mono ?_); rintro e w2 ⟨rfl, hT2, hb2⟩; have hT2 : TabAt w2 wr.heap.size attrL := hT2; have e2 := bcl hb2 d2; have hown2 := own_below (w := wr.drew) hown hb2; have hB2 := btr hB.drew hb2)
          | (go_at_call 22; (with_reducible refine (pick22 _ _ _ attrL attrL_length.symm x.nm _ hT2 attr_ok attr_le).mono ?_); rintro e w3 ⟨rfl, hb3⟩; have hown3 := own_below hown2 hb3; have e3 := bcl hb3 e2; have hB3 := btr hB2 hb3; obtain ⟨hfz3, HO3⟩ := HO.out _ hown3))
        all_goals
          clear hfz3 e3 e2 hT2 d0 d1 d2 d3 hfz
          go_wp2
          go_roundw
          case rel => exact ⟨k + 1, by omega, by go_num, hB3.setCell hg _, by rw [← HS.out (svgF x) (by rw [if_pos HSP.out])]; exact HO3⟩
          case measure => simp [intOf]; omega
      · have HSP := Go.Lib.hid hsp
        have hspb : (x.sp == 0) = false := by simpa using hsp
        clear hsp
        go_wp2
        go_roundw
        case rel => exact ⟨k + 1, by omega, by go_num, hB, by rw [← HT.out (by rw [if_neg HSP.out])]; exact hown⟩
        case measure => simp [intOf]; omega
    · obtain rfl : k = L.length := by omega
      go_wp2
      go_ret
      rw [eachTo_full] at hown
      obtain ⟨oa', cap', hv, _, hr⟩ := RdA.own hown
      simp only [Value.slice.injEq] at hv
      exact ⟨oa1, cap1, rfl, by rw [hv.1]; exact hr, hB⟩
set_option maxHeartbeats 400000 in
theorem svg5 (oa : Option Addr) (cap : Nat) (L : List A4) (w : World) (hL : RdA w oa L) (hm : L.length * 56 ≤ 140737488351232) :
    Calls Try.prog 5 #[.slice oa L.length cap] w fun e w' => e = .returned (.bool true) ∧ Below w.heap.size w w' := by
  have HM : (eachF svgF L).length * 56 ≤ 140737488351232 := by rw [eachF_length]; exact hm
  have HE := Go.Lib.hid (eachF_length svgF L).symm
  go_enter Try.func5, Try.ntmps5
  go_wp2_with (first
    | (at_builtin; refine step_append_slice rfl w.heap.size (.tmp 4) (.tmp 5) 25 30 _ 4 56 rfl Try.underlying25 info30 rfl (by decide) (by decide) _ 0 L.length cap oa [] (cellsA L) rfl rfl (cellsA_length L) (RdA.news (hL.below (bal (Below.refl _ _) _))) (oneAs L) (own_empty w w.heap.size 30 4 w.heap.size rfl (Nat.le_refl _)) (bal (Below.refl _ _) _) (by simp) (by omega) ?_; intro v1 w1 hown1 hB1; simp only [Nat.zero_add, List.nil_append] at hown1; obtain ⟨oa1, cap1, rfl, _, hr1⟩ := RdA.own hown1; clear hown1; have hl1 := hL.below hB1)
    | (go_at_call 15; (with_reducible refine (svg15 oa1 cap1 L _ hr1 hm).mono ?_); rintro e w2 ⟨oa2, cap2, rfl, hr2, hb2⟩; have hB2 := btr hB1 hb2; have hl2 := hL.below hB2)
    | (go_at_call 16; (with_reducible refine (refsvg16 oa cap L _ hl2 hm).mono ?_); rintro e w3 ⟨oa3, cap3, rfl, hr3, hb3⟩; have hB3 := btr hB2 hb3)
    | (go_at_call 12; (with_reducible refine (same12y oa2 oa3 cap2 cap3 _ _ (eachF svgF L) HE.out HE.out _ (hr2.below hb3) hr3 HM).mono ?_); rintro e w4 ⟨rfl, hb4⟩; have hB4 := btr hB3 hb4; have hl4 := hL.below hB4; have hr4 := (hr1.below hb2).below (btr hb3 hb4))
    | (go_at_call 12; (with_reducible refine (same12y oa1 oa cap1 cap _ _ L rfl rfl _ hr4 hl4 hm).mono ?_); rintro e w5 ⟨rfl, hb5⟩; have hB5 := btr hB4 hb5)
    | (go_at_call 11; (with_reducible refine (awake11 _).mono ?_); rintro e w6 ⟨rfl, hb6⟩))
  go_ret
  exact ⟨rfl, btr hB5 hb6⟩
end Go.Proofs.Ytpicgchcdbginaa
