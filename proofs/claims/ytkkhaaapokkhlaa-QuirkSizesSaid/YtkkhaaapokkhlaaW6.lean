/- The walks of quirk.Mode where it says quirks at once, of quirk.Good, and of the law's awake. -/
import Derived.Test.YtkkhaaapokkhlaaW5
namespace Go.Proofs.Ytkkhaaapokkhlaa
open Go.RowKit

set_option maxHeartbeats 400000 in
theorem mode6_kind (kind has ch : Int) (nm data sys : ByteArray) (q sf : Bool) (at_ : Value) (w : World) (hk : (kind == 0) = false) :
    Calls Try.prog 6 #[.agg #[.int .i64 kind, .string nm, .string data, .string sys, .int .i64 has, .bool q, .int .i32 ch, .bool sf, at_]] w fun e w' => e = .returned (.int .i64 2) ∧ Below w.heap.size w w' := by
  have hk' : ¬ kind = 0 := by simpa using hk
  have hk2 : (kind != 0) = true := by simpa using hk
  go_enter Try.func6, Try.ntmps6
  go_wp2_with (fail)
  all_goals
    go_ret
    exact ⟨rfl, bal (Below.refl _ _) _⟩
set_option maxHeartbeats 400000 in
theorem mode6_forced (has ch : Int) (nm data sys : ByteArray) (sf : Bool) (at_ : Value) (w : World) :
    Calls Try.prog 6 #[.agg #[.int .i64 0, .string nm, .string data, .string sys, .int .i64 has, .bool true, .int .i32 ch, .bool sf, at_]] w fun e w' => e = .returned (.int .i64 2) ∧ Below w.heap.size w w' := by
  go_enter Try.func6, Try.ntmps6
  go_wp2_with (fail)
  all_goals
    go_ret
    exact ⟨rfl, bal (Below.refl _ _) _⟩
set_option maxHeartbeats 400000 in
theorem mode6_name (has ch : Int) (nm data sys : ByteArray) (sf : Bool) (at_ : Value) (w : World) (hn : nm.size ≤ maxLen) (hh : (low nm.data.toList == [104, 116, 109, 108]) = false) :
    Calls Try.prog 6 #[.agg #[.int .i64 0, .string nm, .string data, .string sys, .int .i64 has, .bool false, .int .i32 ch, .bool sf, at_]] w fun e w' => e = .returned (.int .i64 2) ∧ Below w.heap.size w w' := by
  have h2 : ((mkS (low nm.data.toList)).toList == [104, 116, 109, 108]) = false := by rw [tl_mkS]; exact hh
  clear hh
  go_enter Try.func6, Try.ntmps6
  go_wp2_with (go_at_call 11; (with_reducible refine (small11 nm _ hn).mono ?_); rintro e w1 ⟨rfl, hb1⟩)
  all_goals
    go_ret
    exact ⟨rfl, btr (bal (Below.refl _ _) _) hb1⟩

/-- quirk.Mode, whatever the doctype. -/
theorem mode6 (kind has ch : Int) (nm data sys : ByteArray) (q sf : Bool) (at_ : Value) (w : World) (hn : nm.size ≤ maxLen) (hd : data.size ≤ maxLen) (hs : sys.size ≤ maxLen) :
    Calls Try.prog 6 #[.agg #[.int .i64 kind, .string nm, .string data, .string sys, .int .i64 has, .bool q, .int .i32 ch, .bool sf, at_]] w fun e w' =>
      e = .returned (.int .i64 (modeP kind has nm.data.toList data.data.toList sys.data.toList q)) ∧ Below w.heap.size w w' := by
  cases hk : kind == 0 with
  | false =>
    rw [show modeP kind has nm.data.toList data.data.toList sys.data.toList q = 2 from by simp [modeP, hk]]
    exact mode6_kind kind has ch nm data sys q sf at_ w hk
  | true =>
    obtain rfl : kind = 0 := by simpa using hk
    cases q with
    | true => exact mode6_forced has ch nm data sys sf at_ w
    | false =>
      cases hh : low nm.data.toList == [104, 116, 109, 108] with
      | false =>
        rw [show modeP 0 has nm.data.toList data.data.toList sys.data.toList false = 2 from by simp only [modeP, hh]; rfl]
        exact mode6_name has ch nm data sys sf at_ w hn hh
      | true =>
        rw [show modeP 0 has nm.data.toList data.data.toList sys.data.toList false = modeQ (low data.data.toList) sys.data.toList has from by simp only [modeP, hh]; rfl]
        exact mode6_yes has ch nm data sys sf at_ w hn hd hs hh

/-- Is a doctype without an error? -/
def goodP (kind has : Int) (nm sys : List UInt8) : Bool :=
  kind == 0 && nm == [104, 116, 109, 108] && !hasB has 2 && (!hasB has 4 || sys == [97, 98, 111, 117, 116, 58, 108, 101, 103, 97, 99, 121, 45, 99, 111, 109, 112, 97, 116])
set_option maxHeartbeats 400000 in
theorem good10 (kind has ch : Int) (nm data sys : ByteArray) (q sf : Bool) (at_ : Value) (w : World) :
    Calls Try.prog 10 #[.agg #[.int .i64 kind, .string nm, .string data, .string sys, .int .i64 has, .bool q, .int .i32 ch, .bool sf, at_]] w fun e w' =>
      e = .returned (.bool (goodP kind has nm.data.toList sys.data.toList)) ∧ Below w.heap.size w w' := by
  go_enter Try.func10, Try.ntmps10
  go_wp2
  all_goals
    go_ret
    refine ⟨ret_bool ?_, bal (Below.refl _ _) _⟩
    simp_all [goodP, hasB, bne, ← tl]
theorem awake8 (w : World) : Calls Try.prog 8 #[] w fun e w' => e = .returned (.bool true) ∧ Below w.heap.size w w' := by
  go_enter Try.func8, Try.ntmps8
  go_wp2_with (go_at_call 10; (with_reducible refine (good10 _ _ _ _ _ _ _ _ _ _).mono ?_); rintro e w1 ⟨rfl, hb1⟩)
  go_ret
  exact ⟨ret_bool (by decide +kernel), hb1⟩
end Go.Proofs.Ytkkhaaapokkhlaa
