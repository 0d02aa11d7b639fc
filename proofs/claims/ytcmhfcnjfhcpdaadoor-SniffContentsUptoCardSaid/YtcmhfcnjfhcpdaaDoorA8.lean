/- A byte order mark. -/
import Derived.Test.YtcmhfcnjfhcpdaaDoorA7
namespace Go.Proofs.YtcmhfcnjfhcpdaaDoor
open Go.RowKit
def markF (L : List UInt8) : Int × Int × Int :=
  if Lib.hasPrefix L [239, 187, 191] = true then (0, 3, 0)
  else if Lib.hasPrefix L [254, 255] = true then (2, 2, 0)
  else if Lib.hasPrefix L [255, 254] = true then (1, 2, 0)
  else (0, 0, 6)
set_option maxRecDepth 100000 in
theorem prefix34 (a1 : Option Addr) (a2 : Addr) (X Y : List UInt8) (c1 c2 : Nat) (w : World) (hc : X.length ≤ c1) (h1 : RdB w a1 X) (h2 : RdB w (some a2) Y) :
    Calls Tryd.prog 34 #[.slice a1 X.length c1, .slice (some a2) Y.length c2] w fun e w' => e = .returned (.bool (Lib.hasPrefix X Y)) ∧ w' = w := by
  have k1 : Lib.BytesIn w a1 X.length (nums X) := by
    cases a1 with
    | some ad => exact h1.bytesIn
    | none =>
      cases X with
      | nil => exact fun h => by simp at h
      | cons x r => obtain ⟨ad, h, _⟩ := h1 0 (by simp); cases h
  have HP := Tryd.bytes_HasPrefix_all a1 (some a2) X.length c1 Y.length c2 (nums X) (nums Y) w (by rw [nums_length]) (by rw [nums_length]) hc k1 h2.bytesIn
  rw [bytesOf_nums, bytesOf_nums] at HP
  exact HP
theorem mark12 (oa : Option Addr) (c : Nat) (L : List UInt8) (w : World) (hc : L.length ≤ c) (hR : RdB w oa L) :
    Calls Tryd.prog 12 #[.slice oa L.length c] w fun e w' => e = .returned (.tuple #[.int .i64 (markF L).1, .int .i64 (markF L).2.1, .int .i64 (markF L).2.2]) ∧ Below w.heap.size w w' := by
  go_enter Tryd.func12, Tryd.ntmps12
  go_wp2_with fail
  have hb1 := bal (Below.refl w.heap.size w) (.cells #[.int .u8 239, .int .u8 187, .int .u8 191] 5)
  refine (prefix34 oa ⟨w.heap.size, 0, none⟩ L [239, 187, 191] c 3 _ hc (hR.below hb1) (rd_new w [239, 187, 191] (0, 0))).mono ?_
  rintro e w1 ⟨rfl, rfl⟩
  by_cases p1 : Lib.hasPrefix L [239, 187, 191] = true
  · have HM := Go.Lib.hid (show markF L = (0, 3, 0) by rw [markF, if_pos p1])
    rw [p1]
    clear p1
    go_wp2
    go_ret3
    exact ⟨by rw [HM.out]; rfl, hb1⟩
  · have HM1 := Go.Lib.hid p1
    rw [Bool.not_eq_true] at p1
    rw [p1]
    clear p1
    have hR1 := hR.below hb1
    generalize w.alloc (.cells #[.int .u8 239, .int .u8 187, .int .u8 191] 5) = w1 at *
    go_wp2_with fail
    have hb2 := bal hb1 (.cells #[.int .u8 254, .int .u8 255] 5)
    have hb2' := bal (Below.refl w1.heap.size w1) (.cells #[.int .u8 254, .int .u8 255] 5)
    refine (prefix34 oa ⟨w1.heap.size, 0, none⟩ L [254, 255] c 2 _ hc (hR1.below hb2') (rd_new w1 [254, 255] (0, 0))).mono ?_
    rintro e w2 ⟨rfl, rfl⟩
    by_cases p2 : Lib.hasPrefix L [254, 255] = true
    · have HM := Go.Lib.hid (show markF L = (2, 2, 0) by rw [markF, if_neg HM1.out, if_pos p2])
      rw [p2]
      clear p2
      go_wp2
      go_ret3
      exact ⟨by rw [HM.out]; rfl, hb2⟩
    · have HM2 := Go.Lib.hid p2
      rw [Bool.not_eq_true] at p2
      rw [p2]
      clear p2
      have hR2 := hR1.below hb2'
      generalize w1.alloc (.cells #[.int .u8 254, .int .u8 255] 5) = w2 at *
      go_wp2_with fail
      have hb3 := bal hb2 (.cells #[.int .u8 255, .int .u8 254] 5)
      have hb3' := bal (Below.refl w2.heap.size w2) (.cells #[.int .u8 255, .int .u8 254] 5)
      refine (prefix34 oa ⟨w2.heap.size, 0, none⟩ L [255, 254] c 2 _ hc (hR2.below hb3') (rd_new w2 [255, 254] (0, 0))).mono ?_
      rintro e w3 ⟨rfl, rfl⟩
      by_cases p3 : Lib.hasPrefix L [255, 254] = true
      · have HM := Go.Lib.hid (show markF L = (1, 2, 0) by rw [markF, if_neg HM1.out, if_neg HM2.out, if_pos p3])
        rw [p3]
        clear p3
        go_wp2
        go_ret3
        exact ⟨by rw [HM.out]; rfl, hb3⟩
      · have HM := Go.Lib.hid (show markF L = (0, 0, 6) by rw [markF, if_neg HM1.out, if_neg HM2.out, if_neg p3])
        rw [Bool.not_eq_true] at p3
        rw [p3]
        clear p3
        go_wp2
        go_ret3
        exact ⟨by rw [HM.out]; rfl, hb3⟩
end Go.Proofs.YtcmhfcnjfhcpdaaDoor
