/- The walks of the reference's MathML and of the law's same. -/
import Derived.Test.YtpicgchcdbginaaA2
import Derived.Deep.QuietTactic
import Derived.BigQuiet
namespace Go.Proofs.Ytpicgchcdbginaa
open Go.RowKit

/-- The first k changed, the others as they were. -/
def eachTo (f : A4 → A4) (L : List A4) (k : Nat) : List A4 := eachF f (L.take k) ++ L.drop k
theorem eachTo_length (f : A4 → A4) (L : List A4) (k : Nat) : (eachTo f L k).length = L.length := by simp [eachTo, eachF]; omega
theorem eachTo_zero (f : A4 → A4) (L : List A4) : eachTo f L 0 = L := rfl
theorem eachTo_full (f : A4 → A4) (L : List A4) : eachTo f L L.length = eachF f L := by simp [eachTo]
theorem eachTo_get (f : A4 → A4) (L : List A4) (k : Nat) (h : k < L.length) (h' : k < (eachTo f L k).length) : (eachTo f L k)[k] = L[k] := by
  simp [eachTo, eachF, Nat.min_eq_left (Nat.le_of_lt h)]
theorem eachTo_set (f : A4 → A4) (L : List A4) (k : Nat) (h : k < L.length) (y : A4) (hy : y = if L[k].sp = 0 then f L[k] else L[k]) : (eachTo f L k).set k y = eachTo f L (k + 1) := by
  subst hy
  simp only [eachTo]
  rw [List.set_append_right _ _ (by simp [eachF]; omega), eachF_snoc f L k h, List.drop_eq_getElem_cons h]
  simp only [eachF_length, List.length_take, Nat.min_eq_left (Nat.le_of_lt h), Nat.sub_self, List.set_cons_zero, List.append_assoc, List.cons_append, List.nil_append]
theorem eachTo_same (f : A4 → A4) (L : List A4) (k : Nat) (h : k < L.length) (hy : (if L[k].sp = 0 then f L[k] else L[k]) = L[k]) : eachTo f L k = eachTo f L (k + 1) := by
  rw [← eachTo_set f L k h L[k] hy.symm, ← eachTo_get f L k h (by rw [eachTo_length]; exact h), List.set_getElem_self]

set_option maxHeartbeats 1000000 in
theorem refmath14 (oa : Option Addr) (cap : Nat) (L : List A4) (w : World) (hL : RdA w oa L) (hm : L.length * 56 ≤ 140737488351232) :
    Calls Try.prog 14 #[.slice oa L.length cap] w fun e w' => ∃ oa' cap', e = .returned (.slice oa' L.length cap') ∧ RdA w' oa' (eachF mathF L) ∧ Below w.heap.size w w' := by
  go_enter Try.func14, Try.ntmps14
  go_wp2_with (at_builtin; refine step_append_slice rfl w.heap.size (.tmp 5) (.tmp 6) 25 30 _ 4 56 rfl Try.underlying25 info30 rfl (by decide) (by decide) _ 0 L.length cap oa [] (cellsA L) rfl rfl (cellsA_length L) (RdA.news (hL.below (bal (Below.refl _ _) _))) (oneAs L) (own_empty w w.heap.size 30 4 w.heap.size rfl (Nat.le_refl _)) (bal (Below.refl _ _) _) (by simp) (by omega) ?_; intro v1 w1 hown1 hB1; simp only [Nat.zero_add, List.nil_append] at hown1; obtain ⟨oa1, cap1, rfl⟩ := own_slice hown1)
  go_loopw [4] (fun v4 wr => ∃ k : Nat, k ≤ L.length ∧ v4 = .int .i64 k ∧ Below w.heap.size w wr ∧ wr.ownsRow w.heap.size 30 4 (.slice oa1 L.length cap1) L.length (cellsA (eachTo mathF L k))) (fun v4 _ => L.length - (intOf v4).toNat)
  case atStart => exact ⟨0, Nat.zero_le _, rfl, hB1, hown1⟩
  case round =>
    obtain ⟨k, hk, rfl, hB, hown⟩ := hrel
    by_cases hlt : k < L.length
    · obtain ⟨g, rfl, hg⟩ := own_form hown (by omega)
      obtain ⟨⟨d0, d1, d2, d3⟩, hfz⟩ := ownA_at hown k (by rw [eachTo_length]; exact hlt)
      rw [eachTo_get _ _ _ hlt] at d0 d1 d2 d3
      have HS := Go.Lib.hid (fun y hy => eachTo_set mathF L k hlt y hy)
      have HT := Go.Lib.hid (fun hy => eachTo_same mathF L k hlt hy)
      have HO := Go.Lib.hid (ownA_set hown k (by rw [eachTo_length]; exact hlt) sdU)
      rw [eachTo_get _ _ _ hlt] at HO
      generalize L[k] = x at *
      go_wp2
      all_goals first
        | (have h2 : (x.nm.toList == [100, 101, 102, 105, 110, 105, 116, 105, 111, 110, 117, 114, 108]) = true := by assumption
           have h1 : x.sp = 0 := by assumption
           go_roundw
           case rel => exact ⟨k + 1, by omega, by go_num, hB.setCell hg _, by rw [← HS.out { x with nm := sdU } (by rw [if_pos h1]; simp only [mathF, sdu, h2, if_true])]; exact HO.out⟩
           case measure => simp [intOf]; omega)
        | (have h2 : (x.nm.toList == [100, 101, 102, 105, 110, 105, 116, 105, 111, 110, 117, 114, 108]) = false := by assumption
           go_roundw
           case rel => exact ⟨k + 1, by omega, by go_num, hB, by rw [← HT.out (by simp [mathF, sdu, h2])]; exact hown⟩
           case measure => simp [intOf]; omega)
        | (have h1 : ¬ x.sp = 0 := by assumption
           go_roundw
           case rel => exact ⟨k + 1, by omega, by go_num, hB, by rw [← HT.out (by rw [if_neg h1])]; exact hown⟩
           case measure => simp [intOf]; omega)
    · obtain rfl : k = L.length := by omega
      go_wp2
      go_ret
      rw [eachTo_full] at hown
      obtain ⟨oa', cap', hv, _, hr⟩ := RdA.own hown
      simp only [Value.slice.injEq] at hv
      exact ⟨oa1, cap1, rfl, by rw [hv.1]; exact hr, hB⟩
set_option maxHeartbeats 1000000 in
theorem same12 (oa ob : Option Addr) (ca cb : Nat) (L M : List A4) (w : World) (hL : RdA w oa L) (hM : RdA w ob M) (hl : L.length * 56 ≤ 140737488351232) (hm : M.length * 56 ≤ 140737488351232) :
    Calls Try.prog 12 #[.slice oa L.length ca, .slice ob M.length cb] w fun e w' => e = .returned (.bool (decide (L = M))) ∧ Below w.heap.size w w' := by
  by_cases hlm : L.length = M.length
  · rw [← hlm]
    have HLM := Go.Lib.hid hlm
    clear hlm
    go_enter Try.func12, Try.ntmps12
    go_wp2
    go_loopw [5] (fun v5 wr => ∃ k : Nat, k ≤ L.length ∧ v5 = .int .i64 k ∧ Below w.heap.size w wr ∧ Hid (L.take k = M.take k)) (fun v5 _ => L.length - (intOf v5).toNat)
    case atStart => exact ⟨0, Nat.zero_le _, rfl, Below.refl _ _, Go.Lib.hid rfl⟩
    case round =>
      obtain ⟨k, hk, rfl, hB, htk⟩ := hrel
      by_cases hlt : k < L.length
      · have hlt' : k < M.length := by have := HLM.out; omega
        obtain ⟨b, off, rfl, hc⟩ := hL (by intro h; subst h; simp at hlt)
        obtain ⟨b', off', rfl, hc'⟩ := hM (by intro h; subst h; simp at hlt')
        obtain ⟨c0, c1, c2, c3⟩ := hc k hlt
        obtain ⟨e0, e1, e2, e3⟩ := hc' k hlt'
        have d0 := bcl hB c0
        have d1 := bcl hB c1
        have d2 := bcl hB c2
        have d3 := bcl hB c3
        have f0 := bcl hB e0
        have f1 := bcl hB e1
        have f2 := bcl hB e2
        have f3 := bcl hB e3
        have HT : Hid (L[k] = M[k] → L.take (k + 1) = M.take (k + 1)) := fun h => by rw [List.take_succ_eq_append_getElem hlt, List.take_succ_eq_append_getElem hlt', htk.out, h]
        have HN : Hid (L[k] ≠ M[k] → L ≠ M) := fun h e => by subst e; exact h rfl
        clear hc hc' c0 c1 c2 c3 e0 e1 e2 e3 hL hM
        generalize L[k] = x at *
        generalize M[k] = y at *
        by_cases hxy : x = y
        · subst hxy
          go_wp2
          go_quiet (fail)
          go_wp2
          go_roundw
          case rel => exact ⟨k + 1, by omega, by go_num, bdr hB _, Go.Lib.hid (HT.out (by trivial))⟩
          case measure => simp [intOf]; omega
        · have hne := neq30 hxy
          have HX := Go.Lib.hid hxy
          clear hxy
          go_wp2
          go_quiet (fail)
          go_wp2
          go_ret
          have e := HN.out HX.out
          exact ⟨ret_bool (by simp [e]), bdr hB _⟩
      · obtain rfl : k = L.length := by omega
        go_wp2
        go_ret
        have e : L = M := by have := htk.out; rwa [List.take_length, List.take_of_length_le (by rw [HLM.out]; exact Nat.le_refl _)] at this
        exact ⟨ret_bool (by simp [e]), hB⟩
  · have hne : ¬ ((L.length : Int) = (M.length : Int)) := by omega
    have hd : decide (L = M) = false := by rw [decide_eq_false_iff_not]; rintro rfl; exact hlm rfl
    rw [hd]
    clear hd hlm
    go_enter Try.func12, Try.ntmps12
    go_wp2
    go_ret
    exact ⟨rfl, Below.refl _ _⟩
end Go.Proofs.Ytpicgchcdbginaa
