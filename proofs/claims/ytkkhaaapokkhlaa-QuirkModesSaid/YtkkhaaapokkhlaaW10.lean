/- The walk of the reference's Mode, whatever the doctype, and of the law QuirkModes. -/
import Derived.Test.YtkkhaaapokkhlaaW9
import Derived.Deep.RegionWith
namespace Go.Proofs.Ytkkhaaapokkhlaa
open Go.RowKit

set_option maxHeartbeats 400000 in
theorem refmode7_kind (kind has ch : Int) (nm data sys : ByteArray) (q sf : Bool) (at_ : Value) (w : World) (hk : (kind == 0) = false) :
    Calls Try.prog 7 #[.agg #[.int .i64 kind, .string nm, .string data, .string sys, .int .i64 has, .bool q, .int .i32 ch, .bool sf, at_]] w fun e w' => e = .returned (.int .i64 2) ∧ Below w.heap.size w w' := by
  have hk' : ¬ kind = 0 := by simpa using hk
  have hk2 : (kind != 0) = true := by simpa using hk
  go_enter Try.func7, Try.ntmps7
  go_wp2_with (fail)
  all_goals
    go_ret
    exact ⟨rfl, bal (Below.refl _ _) _⟩
set_option maxHeartbeats 400000 in
theorem refmode7_forced (has ch : Int) (nm data sys : ByteArray) (sf : Bool) (at_ : Value) (w : World) :
    Calls Try.prog 7 #[.agg #[.int .i64 0, .string nm, .string data, .string sys, .int .i64 has, .bool true, .int .i32 ch, .bool sf, at_]] w fun e w' => e = .returned (.int .i64 2) ∧ Below w.heap.size w w' := by
  go_enter Try.func7, Try.ntmps7
  go_wp2_with (fail)
  all_goals
    go_ret
    exact ⟨rfl, bal (Below.refl _ _) _⟩
set_option maxHeartbeats 400000 in
theorem refmode7_name (has ch : Int) (nm data sys : ByteArray) (sf : Bool) (at_ : Value) (w : World) (hn : nm.size ≤ maxLen) (hh : (low nm.data.toList == [104, 116, 109, 108]) = false) :
    Calls Try.prog 7 #[.agg #[.int .i64 0, .string nm, .string data, .string sys, .int .i64 has, .bool false, .int .i32 ch, .bool sf, at_]] w fun e w' => e = .returned (.int .i64 2) ∧ Below w.heap.size w w' := by
  have h2 : ((mkS (low nm.data.toList)).toList == [104, 116, 109, 108]) = false := by rw [tl_mkS]; exact hh
  clear hh
  go_enter Try.func7, Try.ntmps7
  go_wp2_with (go_at_call 15; (with_reducible refine (small15 nm _ hn).mono ?_); rintro e w1 ⟨rfl, hb1⟩)
  all_goals
    go_ret
    exact ⟨rfl, btr (bal (Below.refl _ _) _) hb1⟩

/-- The reference's Mode, whatever the doctype. -/
theorem refmode7 (kind has ch : Int) (nm data sys : ByteArray) (q sf : Bool) (at_ : Value) (w : World) (hn : nm.size ≤ maxLen) (hd : data.size ≤ maxLen) (hs : sys.size ≤ maxLen) :
    Calls Try.prog 7 #[.agg #[.int .i64 kind, .string nm, .string data, .string sys, .int .i64 has, .bool q, .int .i32 ch, .bool sf, at_]] w fun e w' =>
      e = .returned (.int .i64 (modeP kind has nm.data.toList data.data.toList sys.data.toList q)) ∧ Below w.heap.size w w' := by
  cases hk : kind == 0 with
  | false =>
    rw [show modeP kind has nm.data.toList data.data.toList sys.data.toList q = 2 from by simp [modeP, hk]]
    exact refmode7_kind kind has ch nm data sys q sf at_ w hk
  | true =>
    obtain rfl : kind = 0 := by simpa using hk
    cases q with
    | true => exact refmode7_forced has ch nm data sys sf at_ w
    | false =>
      cases hh : low nm.data.toList == [104, 116, 109, 108] with
      | false =>
        rw [show modeP 0 has nm.data.toList data.data.toList sys.data.toList false = 2 from by simp only [modeP, hh]; rfl]
        exact refmode7_name has ch nm data sys sf at_ w hn hh
      | true =>
        rw [show modeP 0 has nm.data.toList data.data.toList sys.data.toList false = modeR (low data.data.toList) sys.data.toList has from by rw [modeR_eq]; simp only [modeP, hh]; rfl]
        exact refmode7_yes has ch nm data sys sf at_ w hn hd hs hh

set_option maxHeartbeats 1000000 in
theorem modes3 (kind has ch : Int) (nm data sys : ByteArray) (q sf : Bool) (aa : Option Addr) (an ac : Nat) (w : World) (hn : nm.size ≤ maxLen) (hd : data.size ≤ maxLen) (hs : sys.size ≤ maxLen) :
    Calls Try.prog 3 #[.agg #[.int .i64 kind, .string nm, .string data, .string sys, .int .i64 has, .bool q, .int .i32 ch, .bool sf, .slice aa an ac]] w fun e w' => e = .returned (.bool true) ∧ Below w.heap.size w w' := by
  go_enter Try.func3, Try.ntmps3
  go_wp2
  have ht := at_new w (.cells #[.int .i64 kind, .string nm, .string data, .string sys, .int .i64 has, .bool q, .int .i32 ch, .bool sf, .slice aa an ac] 24) w.heap.size rfl
  have hB := bal (Below.refl w.heap.size w) (.cells #[.int .i64 kind, .string nm, .string data, .string sys, .int .i64 has, .bool q, .int .i32 ch, .bool sf, .slice aa an ac] 24)
  generalize w.alloc (.cells #[.int .i64 kind, .string nm, .string data, .string sys, .int .i64 has, .bool q, .int .i32 ch, .bool sf, .slice aa an ac] 24) = w4 at *
  have ct := blk_cells ht
  go_region_with (first
    | (go_at_call 6; (with_reducible refine (mode6 _ _ _ _ _ _ _ _ _ _ hn hd hs).mono ?_); rintro e w5 ⟨rfl, hb5⟩; have hB5 := btr hB.drew hb5; have ct5 := blk_cells (bblk hb5 ht))
    | (go_at_call 7; (with_reducible refine (refmode7 _ _ _ _ _ _ _ _ _ _ hn hd hs).mono ?_); rintro e w6 ⟨rfl, hb6⟩; have hB6 := btr hB5 hb6)
    | (go_at_call 8; (with_reducible refine (awake8 _).mono ?_); rintro e w7 ⟨rfl, hb7⟩; have hB7 := btr hB6 hb7))
  all_goals
    go_wp2
    go_ret
    exact ⟨rfl, hB7⟩
end Go.Proofs.Ytkkhaaapokkhlaa
