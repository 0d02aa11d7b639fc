/- The law of acts as lines, walked. -/
import Derived.Test.YtghhidaihajdmaaDoorS5
import Derived.Test.YtghhidaihajdmaaDoorKitB
namespace Go.Proofs.YtghhidaihajdmaaDoor
open Go.RowKit
theorem print_awake : printL 0 1 0 (-1) [] [] = ([97, 99, 116, 32, 97, 112, 112, 101, 110, 100, 32, 49, 32, 48, 32, 45, 32, 61, 32, 61], 0) := by
  simp [printL, lineL, allP, inP, numL, Lib.itoa, Lib.decDigits, hexL, actNames]
theorem awake8 (w : World) (hT : Tabs w) : Calls Tryd.prog 8 #[] w fun e w' => e = .returned (.bool true) ∧ Below w.heap.size w w' := by
  have P := fun (W : World) (h : Tabs W) => print6 0 1 0 (-1) ⟨#[]⟩ ⟨#[]⟩ W h (by decide) (by decide) (by decide) (by decide) (by decide) (by decide) (by decide) (by decide)
  rw [show (⟨#[]⟩ : ByteArray).data.toList = [] from rfl, print_awake] at P
  have htl := tl_mkS [97, 99, 116, 32, 97, 112, 112, 101, 110, 100, 32, 49, 32, 48, 32, 45, 32, 61, 32, 61]
  go_enter Tryd.func8, Tryd.ntmps8
  go_wp2_with fail
  refine (P w hT).mono ?_
  rintro e w1 ⟨rfl, hb1⟩
  go_wp2
  go_ret
  exact ⟨rfl, hb1⟩
theorem scriptPrints3 (k a b c : Int) (t m : ByteArray) (w : World) (hT : Tabs w) (hk0 : -9223372036854775808 ≤ k) (hk1 : k ≤ 9223372036854775807) (ha0 : -9223372036854775808 ≤ a) (ha1 : a ≤ 9223372036854775807) (hq0 : -9223372036854775808 ≤ b) (hq1 : b ≤ 9223372036854775807) (hc0 : -9223372036854775808 ≤ c) (hc1 : c ≤ 9223372036854775807) : Calls Tryd.prog 3 #[.agg #[.int .i64 k, .int .i64 a, .int .i64 b, .int .i64 c, .string t, .string m]] w fun e w' => e = .returned (.bool true) ∧ Below w.heap.size w w' := by
  have P := fun (W : World) (h : Tabs W) => print6 k a b c t m W h hk0 hk1 ha0 ha1 hq0 hq1 hc0 hc1
  have P' := fun (W : World) => print7 k a b c t m W hk0 hk1 ha0 ha1 hq0 hq1 hc0 hc1
  generalize (printL k a b c t.data.toList m.data.toList).1 = s at *
  generalize (printL k a b c t.data.toList m.data.toList).2 = n at *
  have hb0 : Below w.heap.size w (w.alloc (.cells #[.int .i64 k, .int .i64 a, .int .i64 b, .int .i64 c, .string t, .string m] 23)) := (Below.refl _ w).alloc (Nat.le_refl _) _
  have hT1 := hT.below hb0
  have hcs := blk_cells (at_new w (.cells #[.int .i64 k, .int .i64 a, .int .i64 b, .int .i64 c, .string t, .string m] 23) _ rfl)
  have c0 : (w.alloc (.cells #[.int .i64 k, .int .i64 a, .int .i64 b, .int .i64 c, .string t, .string m] 23)).cell? ⟨w.heap.size, 0, none⟩ = some (.int .i64 k) := hcs 0
  have c1 : (w.alloc (.cells #[.int .i64 k, .int .i64 a, .int .i64 b, .int .i64 c, .string t, .string m] 23)).cell? ⟨w.heap.size, 1, none⟩ = some (.int .i64 a) := hcs 1
  have c2 : (w.alloc (.cells #[.int .i64 k, .int .i64 a, .int .i64 b, .int .i64 c, .string t, .string m] 23)).cell? ⟨w.heap.size, 2, none⟩ = some (.int .i64 b) := hcs 2
  have c3 : (w.alloc (.cells #[.int .i64 k, .int .i64 a, .int .i64 b, .int .i64 c, .string t, .string m] 23)).cell? ⟨w.heap.size, 3, none⟩ = some (.int .i64 c) := hcs 3
  have c4 : (w.alloc (.cells #[.int .i64 k, .int .i64 a, .int .i64 b, .int .i64 c, .string t, .string m] 23)).cell? ⟨w.heap.size, 4, none⟩ = some (.string t) := hcs 4
  have c5 : (w.alloc (.cells #[.int .i64 k, .int .i64 a, .int .i64 b, .int .i64 c, .string t, .string m] 23)).cell? ⟨w.heap.size, 5, none⟩ = some (.string m) := hcs 5
  clear hcs
  have hgs := hb0.size
  go_enter Tryd.func3, Tryd.ntmps3
  go_wp2_with fail
  generalize (w.alloc (.cells #[.int .i64 k, .int .i64 a, .int .i64 b, .int .i64 c, .string t, .string m] 23)) = W1 at *
  generalize hg : w.heap.size = g at *
  refine (P W1 hT1).mono ?_
  rintro e w1 ⟨rfl, hb1⟩
  have d0 := bcl hb1 c0
  have d1 := bcl hb1 c1
  have d2 := bcl hb1 c2
  have d3 := bcl hb1 c3
  have d4 := bcl hb1 c4
  have d5 := bcl hb1 c5
  go_wp2_with fail
  refine (P' w1).mono ?_
  rintro e w2 ⟨rfl, hb2⟩
  have hb12 := btr hb1 hb2
  go_wp2_with fail
  refine (awake8 w2 (hT1.below hb12)).mono ?_
  rintro e w3 ⟨rfl, hb3⟩
  go_wp2
  go_ret
  exact ⟨rfl, by first | exact hb0.trans ((btr hb12 hb3).mono hgs) | (rw [hg]; exact hb0.trans ((btr hb12 hb3).mono hgs))⟩
end Go.Proofs.YtghhidaihajdmaaDoor
