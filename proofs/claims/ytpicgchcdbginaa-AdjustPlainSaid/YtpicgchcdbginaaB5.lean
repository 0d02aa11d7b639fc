/- The walks of each with Foreign's closure, of Foreign and of the reference's Foreign. -/
import Derived.Test.YtpicgchcdbginaaB4
namespace Go.Proofs.Ytpicgchcdbginaa
open Go.RowKit

theorem foreign29s (x : A4) (hs : x.nm.size ≤ maxLen) (h : foreignF x = x) (w : World) : Calls Try.prog 29 #[.agg #[.int .i64 x.sp, .string x.pre, .string x.nm, .string x.va]] w fun e w' =>
    e = .returned (.agg #[.int .i64 x.sp, .string x.pre, .string x.nm, .string x.va]) ∧ Below w.heap.size w w' := by
  have := foreign29 x hs w
  rwa [h] at this

set_option maxHeartbeats 1000000 in
theorem each29 (oa : Option Addr) (cap : Nat) (L : List A4) (w : World) (hS : ∀ x ∈ L, x.nm.size ≤ maxLen) (hL : RdA w oa L) (hm : L.length * 56 ≤ 140737488351232) :
    Calls Try.prog 24 #[.slice oa L.length cap, .func (.func 29) #[] #[]] w fun e w' => ∃ oa' cap', e = .returned (.slice oa' L.length cap') ∧ RdA w' oa' (eachF foreignF L) ∧ Below w.heap.size w w' := by
  go_enter Try.func24, Try.ntmps24
  go_wp2
  go_loopw [5, 7, 8, 11] (fun v5 v7 v8 v11 wr => ∃ k : Nat, k ≤ L.length ∧ v11 = .int .i64 k ∧ Below w.heap.size w wr ∧ wr.ownsRow w.heap.size 30 4 v5 k (cellsA (eachF foreignF (L.take k)))) (fun _ _ _ v11 _ => L.length - (intOf v11).toNat)
  case atStart => exact ⟨0, Nat.zero_le _, rfl, Below.refl _ _, own_nil _ _ _ _⟩
  case round =>
    obtain ⟨k, hk, rfl, hB, hown⟩ := hrel
    by_cases hlt : k < L.length
    · obtain ⟨b, off, rfl, hc⟩ := hL (by intro h; subst h; simp at hlt)
      obtain ⟨c0, c1, c2, c3⟩ := hc k hlt
      have d0 := bcl hB c0
      have d1 := bcl hB c1
      have d2 := bcl hB c2
      have d3 := bcl hB c3
      have HS := Go.Lib.hid (eachF_snoc foreignF L k hlt)
      have hsx := hS _ (List.getElem_mem hlt)
      clear hc c0 c1 c2 c3 hL
      generalize L[k] = x at *
      have hsz := hB.size
      by_cases hsp0 : x.sp = 0
      · have hspb : (x.sp == 0) = true := by simpa using hsp0
        have HSP := Go.Lib.hid hsp0
        clear hsp0
        by_cases hy : foreignF x = x
        · have HY := Go.Lib.hid hy
          clear hy
          go_wp2_with (first
            | (go_at_call 29; (with_reducible refine (foreign29s x hsx HY.out _).mono ?_); rintro e w2 ⟨rfl, hb2⟩; have hq2 := bblk hb2 (at_new _ _ wr.heap.size rfl); have hx2 := blk_cells hq2; have hl2 := blk_lt hq2; have hB2 := btr (bal hB _) hb2; have hown2 := own_below (hown.alloc _) hb2)
            | (at_builtin; refine step_append rfl w.heap.size (.tmp 27) (.tmp 29) 25 30 _ 4 56 rfl Try.underlying25 info30 rfl (by decide) (by decide) _ k _ _ #[.int .i64 x.sp, .string x.pre, .string x.nm, .string x.va] rfl rfl (by simp) rfl (oneA _) (hown2.alloc _) (bal hB2 _) (by have := hB2.size; simp; omega) (by omega) ?_; intro v1 w3 hown3 hB3))
          all_goals
            go_roundw
            case rel => exact ⟨k + 1, by omega, by go_num, hB3, by rw [HS.out, cellsA_snoc, if_pos HSP.out, HY.out]; exact hown3⟩
            case measure => simp [intOf]; omega
        · have hne := neq30 hy
          have C := fun w' => foreign29 x hsx w'
          clear hy
          generalize foreignF x = y at *
          go_wp2_with (first
            | (go_at_call 29; (with_reducible refine (C _).mono ?_); rintro e w2 ⟨rfl, hb2⟩; have hq2 := bblk hb2 (at_new _ _ wr.heap.size rfl); have hx2 := blk_cells hq2; have hl2 := blk_lt hq2; have hB2 := btr (bal hB _) hb2; have hown2 := own_below (hown.alloc _) hb2)
            | ((with_reducible refine at_op ⟨none, .store 30 (.tmp 7) (.tmp 26), _, _, _, _⟩ ?_); refine step_store_row rfl 30 _ _ rfl wr.heap.size 30 #[.int .i64 x.sp, .string x.pre, .string x.nm, .string x.va] #[.int .i64 y.sp, .string y.pre, .string y.nm, .string y.va] rfl rfl (at_old hq2 _) (size30 y) rfl (oneA y) ?_; have hx3 := blk_cells (setRow_heap _ _ _ #[.int .i64 y.sp, .string y.pre, .string y.nm, .string y.va] _ _ (at_old hq2 (.cells #[.int .i64 y.sp, .string y.pre, .string y.nm, .string y.va] 30))); have hB4 := setRow_below (bal hB2 (.cells #[.int .i64 y.sp, .string y.pre, .string y.nm, .string y.va] 30)) hsz #[.int .i64 y.sp, .string y.pre, .string y.nm, .string y.va]; have hown4 := own_setRow (hown2.alloc (.cells #[.int .i64 y.sp, .string y.pre, .string y.nm, .string y.va] 30)) (fun q hq => Nat.ne_of_lt (own_lt hown q hq)) #[.int .i64 y.sp, .string y.pre, .string y.nm, .string y.va])
            | (at_builtin; refine step_append rfl w.heap.size (.tmp 27) (.tmp 29) 25 30 _ 4 56 rfl Try.underlying25 info30 rfl (by decide) (by decide) _ k _ _ #[.int .i64 y.sp, .string y.pre, .string y.nm, .string y.va] rfl rfl (by simp) rfl (oneA _) (hown4) (hB4) (by have := hB2.size; simp; omega) (by omega) ?_; intro v1 w3 hown3 hB3))
          all_goals
            go_roundw
            case rel => exact ⟨k + 1, by omega, by go_num, hB3, by rw [HS.out, cellsA_snoc, if_pos HSP.out]; exact hown3⟩
            case measure => simp [intOf]; omega
      · have hspb : (x.sp == 0) = false := by simpa using hsp0
        have HSP := Go.Lib.hid hsp0
        clear hsp0
        go_wp2_with (first
          | (go_at_call 29; (with_reducible refine (foreign29 x hsx _).mono ?_); rintro e w2 ⟨rfl, hb2⟩; have hq2 := bblk hb2 (at_new _ _ wr.heap.size rfl); have hx2 := blk_cells hq2; have hl2 := blk_lt hq2; have hB2 := btr (bal hB _) hb2; have hown2 := own_below (hown.alloc _) hb2)
          | (at_builtin; refine step_append rfl w.heap.size (.tmp 27) (.tmp 29) 25 30 _ 4 56 rfl Try.underlying25 info30 rfl (by decide) (by decide) _ k _ _ #[.int .i64 x.sp, .string x.pre, .string x.nm, .string x.va] rfl rfl (by simp) rfl (oneA _) (hown2.alloc _) (bal hB2 _) (by have := hB2.size; simp; omega) (by omega) ?_; intro v1 w3 hown3 hB3))
        all_goals
          go_roundw
          case rel => exact ⟨k + 1, by omega, by go_num, hB3, by rw [HS.out, cellsA_snoc, if_neg HSP.out]; exact hown3⟩
          case measure => simp [intOf]; omega
    · obtain rfl : k = L.length := by omega
      go_wp2
      go_ret
      rw [List.take_length] at hown
      obtain ⟨oa', cap', rfl, _, hr⟩ := RdA.own hown
      exact ⟨oa', cap', rfl, hr, hB⟩

theorem foreign17 (oa : Option Addr) (cap : Nat) (L : List A4) (w : World) (hL : RdA w oa L) (hm : L.length * 56 ≤ 140737488351232) (hS : ∀ x ∈ L, x.nm.size ≤ maxLen) :
    Calls Try.prog 17 #[.slice oa L.length cap] w fun e w' => ∃ oa' cap', e = .returned (.slice oa' L.length cap') ∧ RdA w' oa' (eachF foreignF L) ∧ Below w.heap.size w w' := by
  go_enter Try.func17, Try.ntmps17
  go_wp2_with (go_at_call 24; (with_reducible refine (each29 oa cap L _ hS hL hm).mono ?_); rintro e w1 ⟨oa1, cap1, rfl, hr1, hb1⟩)
  go_ret
  exact ⟨oa1, cap1, rfl, hr1, hb1⟩

set_option maxHeartbeats 1000000 in
theorem refforeign18 (oa : Option Addr) (cap : Nat) (L : List A4) (w : World) (hL : RdA w oa L) (hm : L.length * 56 ≤ 140737488351232) :
    Calls Try.prog 18 #[.slice oa L.length cap] w fun e w' => ∃ oa' cap', e = .returned (.slice oa' L.length cap') ∧ RdA w' oa' (eachF foreignF L) ∧ Below w.heap.size w w' := by
  go_enter Try.func18, Try.ntmps18
  go_wp2
  go_loopw [3, 4] (fun v3 v4 wr => ∃ k : Nat, k ≤ L.length ∧ v4 = .int .i64 k ∧ Below w.heap.size w wr ∧ wr.ownsRow w.heap.size 30 4 v3 k (cellsA (eachF foreignF (L.take k)))) (fun _ v4 _ => L.length - (intOf v4).toNat)
  case atStart => exact ⟨0, Nat.zero_le _, rfl, Below.refl _ _, own_nil _ _ _ _⟩
  case round =>
    obtain ⟨k, hk, rfl, hB, hown⟩ := hrel
    by_cases hlt : k < L.length
    · obtain ⟨b, off, rfl, hc⟩ := hL (by intro h; subst h; simp at hlt)
      obtain ⟨c0, c1, c2, c3⟩ := hc k hlt
      have d0 := bcl hB c0
      have d1 := bcl hB c1
      have d2 := bcl hB c2
      have d3 := bcl hB c3
      have HS := Go.Lib.hid (eachF_snoc foreignF L k hlt)
      clear hc c0 c1 c2 c3 hL
      generalize L[k] = x at *
      by_cases hsp0 : x.sp = 0
      · have hspb : (x.sp == 0) = true := by simpa using hsp0
        have HSP := Go.Lib.hid hsp0
        clear hsp0
        have C := fun w' => foreign31 x w'
        generalize foreignF x = y at *
        go_wp2_with (first
          | (go_at_call 31; (with_reducible refine (C _).mono ?_); rintro e w2 ⟨rfl, hb2⟩; have hB2 := btr hB hb2; have hown2 := own_below hown hb2)
          | (at_builtin; refine step_append rfl w.heap.size (.tmp 17) (.tmp 23) 25 30 _ 4 56 rfl Try.underlying25 info30 rfl (by decide) (by decide) _ k _ _ #[.int .i64 y.sp, .string y.pre, .string y.nm, .string y.va] rfl rfl (by simp) rfl (oneA _) hown2 hB2 (by have := hB2.size; simp; omega) (by omega) ?_; intro v1 w3 hown3 hB3))
        go_roundw
        case rel => exact ⟨k + 1, by omega, by go_num, hB3, by rw [HS.out, cellsA_snoc, if_pos HSP.out]; exact hown3⟩
        case measure => simp [intOf]; omega
      · have hspb : (x.sp == 0) = false := by simpa using hsp0
        have HSP := Go.Lib.hid hsp0
        clear hsp0
        go_wp2_with (at_builtin; refine step_append rfl w.heap.size (.tmp 25) (.tmp 30) 25 30 _ 4 56 rfl Try.underlying25 info30 rfl (by decide) (by decide) _ k _ _ #[.int .i64 x.sp, .string x.pre, .string x.nm, .string x.va] rfl rfl (by simp) rfl (oneA _) hown hB (by have := hB.size; simp; omega) (by omega) ?_; intro v1 w3 hown3 hB3)
        go_roundw
        case rel => exact ⟨k + 1, by omega, by go_num, hB3, by rw [HS.out, cellsA_snoc, if_neg HSP.out]; exact hown3⟩
        case measure => simp [intOf]; omega
    · obtain rfl : k = L.length := by omega
      go_wp2
      go_ret
      rw [List.take_length] at hown
      obtain ⟨oa', cap', rfl, _, hr⟩ := RdA.own hown
      exact ⟨oa', cap', rfl, hr, hB⟩
set_option maxHeartbeats 400000 in
theorem foreign6 (oa : Option Addr) (cap : Nat) (L : List A4) (w : World) (hL : RdA w oa L) (hm : L.length * 56 ≤ 140737488351232) (hS : ∀ x ∈ L, x.nm.size ≤ maxLen) :
    Calls Try.prog 6 #[.slice oa L.length cap] w fun e w' => e = .returned (.bool true) ∧ Below w.heap.size w w' := by
  have HM : (eachF foreignF L).length * 56 ≤ 140737488351232 := by rw [eachF_length]; exact hm
  have HE := Go.Lib.hid (eachF_length foreignF L).symm
  go_enter Try.func6, Try.ntmps6
  go_wp2_with (first
    | (at_builtin; refine step_append_slice rfl w.heap.size (.tmp 4) (.tmp 5) 25 30 _ 4 56 rfl Try.underlying25 info30 rfl (by decide) (by decide) _ 0 L.length cap oa [] (cellsA L) rfl rfl (cellsA_length L) (RdA.news (hL.below (bal (Below.refl _ _) _))) (oneAs L) (own_empty w w.heap.size 30 4 w.heap.size rfl (Nat.le_refl _)) (bal (Below.refl _ _) _) (by simp) (by omega) ?_; intro v1 w1 hown1 hB1; simp only [Nat.zero_add, List.nil_append] at hown1; obtain ⟨oa1, cap1, rfl, _, hr1⟩ := RdA.own hown1; clear hown1; have hl1 := hL.below hB1)
    | (go_at_call 17; (with_reducible refine (foreign17 oa1 cap1 L _ hr1 hm hS).mono ?_); rintro e w2 ⟨oa2, cap2, rfl, hr2, hb2⟩; have hB2 := btr hB1 hb2; have hl2 := hL.below hB2)
    | (go_at_call 18; (with_reducible refine (refforeign18 oa cap L _ hl2 hm).mono ?_); rintro e w3 ⟨oa3, cap3, rfl, hr3, hb3⟩; have hB3 := btr hB2 hb3)
    | (go_at_call 12; (with_reducible refine (same12y oa2 oa3 cap2 cap3 _ _ (eachF foreignF L) HE.out HE.out _ (hr2.below hb3) hr3 HM).mono ?_); rintro e w4 ⟨rfl, hb4⟩; have hB4 := btr hB3 hb4; have hl4 := hL.below hB4; have hr4 := (hr1.below hb2).below (btr hb3 hb4))
    | (go_at_call 12; (with_reducible refine (same12y oa1 oa cap1 cap _ _ L rfl rfl _ hr4 hl4 hm).mono ?_); rintro e w5 ⟨rfl, hb5⟩; have hB5 := btr hB4 hb5)
    | (go_at_call 11; (with_reducible refine (awake11 _).mono ?_); rintro e w6 ⟨rfl, hb6⟩))
  go_ret
  exact ⟨rfl, btr hB5 hb6⟩
end Go.Proofs.Ytpicgchcdbginaa
