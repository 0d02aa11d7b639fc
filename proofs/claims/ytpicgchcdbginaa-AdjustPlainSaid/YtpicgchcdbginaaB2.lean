/- The walks of SVG's closure. -/
import Derived.Test.YtpicgchcdbginaaA2
import Derived.Test.YtpicgchcdbginaaA7
import Derived.Deep.RegionWith
import Derived.Deep.DeepMust
namespace Go.Proofs.Ytpicgchcdbginaa
open Go.RowKit

def svgF (x : A4) : A4 := { x with nm := pickL attrL x.nm }
theorem attr_le : attrL.length ≤ 100 := by rw [attrL_length]; omega
set_option maxHeartbeats 400000 in
theorem svg27 (b : Nat) (x : A4) (w : World) (hT : TabAt w b attrL) : Calls Try.prog 27 #[.agg x.c, .pointer (some ⟨b, 0, none⟩)] w fun e w' => e = .returned (.agg (svgF x).c) ∧ Below w.heap.size w w' := by
  unfold A4.c
  go_enter Try.func27, Try.ntmps27
  go_wp2
  go_region_with (go_at_call 21; (with_reducible refine (named21 b 58 58 attrL attrL_length.symm x.nm _ (hT.below (bal (bal (Below.refl _ _) _) _).drew) attr_ok attr_le).mono ?_); rintro e w1 ⟨rfl, hb1⟩; have hB1 := btr (bal (bal (Below.refl w.heap.size w) _) _).drew hb1; have hq1 := bblk hb1 (at_old (at_new w (.cells #[.int .i64 x.sp, .string x.pre, .string x.nm, .string x.va] 30) w.heap.size rfl) _); have hz1 := bblk hb1 (at_new _ _ (w.heap.size + 1) (by simp)); have hc1 := blk_cells hq1; have hf1 := blk_free hq1; have hl1 := blk_lt hz1; have hq2 := set_blk (i := 2) hq1 (.string (pickL attrL x.nm)); have hz2 := set_blk_ne (b := w.heap.size) (i := 2) hz1 (by omega) (.string (pickL attrL x.nm)); have hB2 := hB1.setCell (p := ⟨w.heap.size, 2, none⟩) (Nat.le_refl _) (.string (pickL attrL x.nm)))
  clear hf1 hc1 hq1 hz1 hB1 hb1 hl1 hT
  generalize w1.setCell ⟨w.heap.size, 2, none⟩ (.string (pickL attrL x.nm)) = w2 at *
  have hc2 := blk_cells hq2
  go_wp2_with ((with_reducible refine at_op ⟨none, .store 30 (.tmp 3) (.tmp 9), _, _, _, _⟩ ?_); refine step_store_row rfl 30 _ _ rfl (w.heap.size + 1) 30 _ #[.int .i64 x.sp, .string x.pre, .string (pickL attrL x.nm), .string x.va] rfl rfl hz2 (size30 (svgF x)) rfl (oneA (svgF x)) ?_)
  exact bodyPost_ret (results_cell_row rfl _ _ (w.heap.size + 1) 30 (svgF x).c (0, 0) _ rfl (setRow_heap _ _ _ _ _ _ hz2) Try.underlying30 rfl (size30 (svgF x))) rfl ⟨rfl, setRow_below hB2 (by omega) _⟩
theorem svg27' (b : Nat) (x : A4) (w : World) (hT : TabAt w b attrL) : Calls Try.prog 27 #[.agg #[.int .i64 x.sp, .string x.pre, .string x.nm, .string x.va], .pointer (some ⟨b, 0, none⟩)] w fun e w' =>
    e = .returned (.agg #[.int .i64 (svgF x).sp, .string (svgF x).pre, .string (svgF x).nm, .string (svgF x).va]) ∧ Below w.heap.size w w' := svg27 b x w hT
theorem svg27s (b : Nat) (x : A4) (h : svgF x = x) (w : World) (hT : TabAt w b attrL) : Calls Try.prog 27 #[.agg #[.int .i64 x.sp, .string x.pre, .string x.nm, .string x.va], .pointer (some ⟨b, 0, none⟩)] w fun e w' =>
    e = .returned (.agg #[.int .i64 x.sp, .string x.pre, .string x.nm, .string x.va]) ∧ Below w.heap.size w w' := by
  have := svg27 b x w hT
  rwa [h] at this

set_option maxHeartbeats 1000000 in
theorem each27 (oa : Option Addr) (cap : Nat) (L : List A4) (w : World) (bt : Nat) (hT : TabAt w bt attrL) (hL : RdA w oa L) (hm : L.length * 56 ≤ 140737488351232) :
    Calls Try.prog 24 #[.slice oa L.length cap, .func (.func 27) #[] #[.pointer (some ⟨bt, 0, none⟩)]] w fun e w' => ∃ oa' cap', e = .returned (.slice oa' L.length cap') ∧ RdA w' oa' (eachF svgF L) ∧ Below w.heap.size w w' := by
  go_enter Try.func24, Try.ntmps24
  go_wp2
  go_loopw [5, 7, 8, 11] (fun v5 v7 v8 v11 wr => ∃ k : Nat, k ≤ L.length ∧ v11 = .int .i64 k ∧ Below w.heap.size w wr ∧ wr.ownsRow w.heap.size 30 4 v5 k (cellsA (eachF svgF (L.take k)))) (fun _ _ _ v11 _ => L.length - (intOf v11).toNat)
  case atStart => exact ⟨0, Nat.zero_le _, rfl, Below.refl _ _, own_nil _ _ _ _⟩
  case round =>
    obtain ⟨k, hk, rfl, hB, hown⟩ := hrel
    by_cases hlt : k < L.length
    · obtain ⟨b, off, rfl, hc⟩ := hL (by intro h; subst h; simp at hlt)
      obtain ⟨c0, c1, c2, c3⟩ := hc k hlt
      have d0 := bcl hB c0
      have d1 := bcl hB c1
      have d2 := bcl hB c2
      have d3 := bcl hB c3
      have HS := Go.Lib.hid (eachF_snoc svgF L k hlt)
      clear hc c0 c1 c2 c3 hL
      generalize L[k] = x at *
      have hsz := hB.size
      by_cases hsp0 : x.sp = 0
      · have hspb : (x.sp == 0) = true := by simpa using hsp0
        have HSP := Go.Lib.hid hsp0
        clear hsp0
        by_cases hy : svgF x = x
        · have HY := Go.Lib.hid hy
          clear hy
          go_wp2_with (first
            | (go_at_call 27; (with_reducible refine (svg27s bt x HY.out _ (hT.below (bal hB _))).mono ?_); rintro e w2 ⟨rfl, hb2⟩; have hq2 := bblk hb2 (at_new _ _ wr.heap.size rfl); have hx2 := blk_cells hq2; have hl2 := blk_lt hq2; have hB2 := btr (bal hB _) hb2; have hown2 := own_below (hown.alloc _) hb2)
            | (at_builtin; refine step_append rfl w.heap.size (.tmp 27) (.tmp 29) 25 30 _ 4 56 rfl Try.underlying25 info30 rfl (by decide) (by decide) _ k _ _ #[.int .i64 x.sp, .string x.pre, .string x.nm, .string x.va] rfl rfl (by simp) rfl (oneA _) (hown2.alloc _) (bal hB2 _) (by have := hB2.size; simp; omega) (by omega) ?_; intro v1 w3 hown3 hB3))
          all_goals
            go_roundw
            case rel => exact ⟨k + 1, by omega, by go_num, hB3, by rw [HS.out, cellsA_snoc, if_pos HSP.out, HY.out]; exact hown3⟩
            case measure => simp [intOf]; omega
        · have hne := neq30 hy
          have C := fun w' => fun (hq : TabAt w' bt attrL) => svg27' bt x w' hq
          clear hy
          generalize svgF x = y at *
          go_wp2_with (first
            | (go_at_call 27; (with_reducible refine (C _ (hT.below (bal hB _))).mono ?_); rintro e w2 ⟨rfl, hb2⟩; have hq2 := bblk hb2 (at_new _ _ wr.heap.size rfl); have hx2 := blk_cells hq2; have hl2 := blk_lt hq2; have hB2 := btr (bal hB _) hb2; have hown2 := own_below (hown.alloc _) hb2)
            | ((with_reducible refine at_op ⟨none, .store 30 (.tmp 7) (.tmp 26), _, _, _, _⟩ ?_); refine step_store_row rfl 30 _ _ rfl wr.heap.size 30 #[.int .i64 x.sp, .string x.pre, .string x.nm, .string x.va] #[.int .i64 y.sp, .string y.pre, .string y.nm, .string y.va] rfl rfl (at_old hq2 _) (size30 y) rfl (oneA y) ?_; have hx3 := blk_cells (setRow_heap _ _ _ #[.int .i64 y.sp, .string y.pre, .string y.nm, .string y.va] _ _ (at_old hq2 (.cells #[.int .i64 y.sp, .string y.pre, .string y.nm, .string y.va] 30))); have hB4 := setRow_below (bal hB2 (.cells #[.int .i64 y.sp, .string y.pre, .string y.nm, .string y.va] 30)) hsz #[.int .i64 y.sp, .string y.pre, .string y.nm, .string y.va]; have hown4 := own_setRow (hown2.alloc (.cells #[.int .i64 y.sp, .string y.pre, .string y.nm, .string y.va] 30)) (fun q hq => Nat.ne_of_lt (own_lt hown q hq)) #[.int .i64 y.sp, .string y.pre, .string y.nm, .string y.va])
            | (at_builtin; refine step_append rfl w.heap.size (.tmp 27) (.tmp 29) 25 30 _ 4 56 rfl Try.underlying25 info30 rfl (by decide) (by decide) _ k _ _ #[.int .i64 y.sp, .string y.pre, .string y.nm, .string y.va] rfl rfl (by simp) rfl (oneA _) (hown4) (hB4) (by have := hB2.size; simp; omega) (by omega) ?_; intro v1 w3 hown3 hB3))
          all_goals
            go_roundw
            case rel => exact ⟨k + 1, by omega, by go_num, hB3, by rw [HS.out, cellsA_snoc, if_pos HSP.out]; exact hown3⟩
            case measure => simp [intOf]; omega
      · have hspb : (x.sp == 0) = false := by simpa using hsp0
        have HSP := Go.Lib.hid hsp0
        clear hsp0
        go_wp2_with (first
          | (go_at_call 27; (with_reducible refine (svg27' bt x _ (hT.below (bal hB _))).mono ?_); rintro e w2 ⟨rfl, hb2⟩; have hq2 := bblk hb2 (at_new _ _ wr.heap.size rfl); have hx2 := blk_cells hq2; have hl2 := blk_lt hq2; have hB2 := btr (bal hB _) hb2; have hown2 := own_below (hown.alloc _) hb2)
          | (at_builtin; refine step_append rfl w.heap.size (.tmp 27) (.tmp 29) 25 30 _ 4 56 rfl Try.underlying25 info30 rfl (by decide) (by decide) _ k _ _ #[.int .i64 x.sp, .string x.pre, .string x.nm, .string x.va] rfl rfl (by simp) rfl (oneA _) (hown2.alloc _) (bal hB2 _) (by have := hB2.size; simp; omega) (by omega) ?_; intro v1 w3 hown3 hB3))
        all_goals
          go_roundw
          case rel => exact ⟨k + 1, by omega, by go_num, hB3, by rw [HS.out, cellsA_snoc, if_neg HSP.out]; exact hown3⟩
          case measure => simp [intOf]; omega
    · obtain rfl : k = L.length := by omega
      go_wp2
      go_ret
      rw [List.take_length] at hown
      obtain ⟨oa', cap', rfl, _, hr⟩ := RdA.own hown
      exact ⟨oa', cap', rfl, hr, hB⟩
end Go.Proofs.Ytpicgchcdbginaa
