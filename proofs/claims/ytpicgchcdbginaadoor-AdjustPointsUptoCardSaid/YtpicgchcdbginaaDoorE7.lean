/- The walk of the law of integration points. -/
import Derived.Test.YtpicgchcdbginaaDoorE6
namespace Go.Proofs.YtpicgchcdbginaaDoor
open Go.RowKit
set_option maxHeartbeats 1000000 in
theorem points3 (sp : Int) (nm : ByteArray) (oa : Option Addr) (cap : Nat) (L : List A4) (w : World) (hL : RdA w oa L) (hm : L.length * 56 ≤ 140737488351232) (hS : ∀ x ∈ L, x.va.size ≤ 35184372088832) (hM : HasM w) :
    Calls Tryd.prog 3 #[.int .i64 sp, .string nm, .slice oa L.length cap] w fun e w' => e = .returned (.bool true) ∧ Below w.heap.size w w' := by
  have C5 := fun w h => text5 sp nm w h
  have C6 := fun w => reftext6 sp nm w
  have C7 := fun w hL hM => html7 sp nm oa cap L w hL hm hS hM
  have C8 := fun w hL => refhtml8 sp nm oa cap L w hL hm hS
  generalize (sp == 1 && oneB tpL nm) = r at C5 C6
  generalize hpP sp nm L = q at C7 C8
  go_enter Tryd.func3, Tryd.ntmps3
  go_wp2_with (first
    | (go_at_call 5; (with_reducible refine (C5 _ hM).mono ?_); rintro e w1 ⟨rfl, hb1⟩)
    | (go_at_call 6; (with_reducible refine (C6 _).mono ?_); rintro e w2 ⟨rfl, hb2⟩; have hB2 := btr hb1 hb2)
    | (go_at_call 7; (with_reducible refine (C7 _ (hL.below hB2) (hM.below hB2)).mono ?_); rintro e w3 ⟨rfl, hb3⟩; have hB3 := btr hB2 hb3)
    | (go_at_call 8; (with_reducible refine (C8 _ (hL.below hB3)).mono ?_); rintro e w4 ⟨rfl, hb4⟩; have hB4 := btr hB3 hb4)
    | (go_at_call 9; (with_reducible refine (awake9 _).mono ?_); rintro e w5 ⟨rfl, hb5⟩))
  go_ret
  exact ⟨rfl, btr hB4 hb5⟩
end Go.Proofs.YtpicgchcdbginaaDoor
