/- The charset of any content type: the law. -/
import Derived.Test.YtcmhfcnjfhcpdaaDoorD2
namespace Go.Proofs.YtcmhfcnjfhcpdaaDoor
open Go.RowKit
set_option maxRecDepth 100000 in
theorem contents3 (t : ByteArray) (w : World) (hs : t.size ≤ 1048576) (hT : Tabs w) : Calls Tryd.prog 3 #[.string t] w fun e w' => e = .returned (.bool true) ∧ Below w.heap.size w w' := by
  have C := content8 t w hs hT
  have R := fun W => refcontent9 t W hs
  generalize contT t.data.toList = o at *
  cases o
  all_goals
    go_enter Tryd.func3, Tryd.ntmps3
    go_wp2_with fail
    refine C.mono ?_
    rintro e w1 ⟨rfl, hb1⟩
    dsimp only [contE]
    go_wp2_with fail
    refine (R w1).mono ?_
    rintro e w2 ⟨rfl, hb2'⟩
    have hb2 := btr hb1 hb2'
    dsimp only [contE]
    go_wp2_with (go_at_call 10; refine (awake10 _ (hT.below hb2)).mono ?_; rintro e w8 ⟨rfl, h8⟩)
    go_ret
    exact ⟨rfl, btr hb2 h8⟩
end Go.Proofs.YtcmhfcnjfhcpdaaDoor
