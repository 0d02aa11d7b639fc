/- The walk of the law of the tags that end foreign content. -/
import Derived.Test.YtpicgchcdbginaaDoorE3
import Derived.Deep.RegionWith
import Derived.Deep.DeepMust
namespace Go.Proofs.YtpicgchcdbginaaDoor
open Go.RowKit
set_option maxHeartbeats 2000000 in
theorem breaks4 (kind has ch : Int) (nm data sys : ByteArray) (q sf : Bool) (oa : Option Addr) (cap : Nat) (L : List A4) (w : World) (hL : RdA w oa L) (hm : L.length * 56 ≤ 140737488351232) (hM : HasM w) :
    Calls Tryd.prog 4 #[.agg #[.int .i64 kind, .string nm, .string data, .string sys, .int .i64 has, .bool q, .int .i32 ch, .bool sf, .slice oa L.length cap]] w fun e w' => e = .returned (.bool true) ∧ Below w.heap.size w w' := by
  have CA := fun w hL hM => breaks10 kind has ch nm data sys q sf oa cap L w hL hm hM
  have CR := fun w hL => refbreaks11 kind has ch nm data sys q sf oa cap L w hL hm
  generalize brkP kind nm L = r at CA CR
  go_enter Tryd.func4, Tryd.ntmps4
  go_wp2
  have hq := at_new w (.cells #[.int .i64 kind, .string nm, .string data, .string sys, .int .i64 has, .bool q, .int .i32 ch, .bool sf, .slice oa L.length cap] 27) w.heap.size rfl
  have hB := (bal (Below.refl w.heap.size w) (.cells #[.int .i64 kind, .string nm, .string data, .string sys, .int .i64 has, .bool q, .int .i32 ch, .bool sf, .slice oa L.length cap] 27))
  go_region_with (first
    | (go_at_call 10; (with_reducible refine (CA _ (hL.below hB.drew) (hM.below hB.drew)).mono ?_); rintro e w1 ⟨rfl, hb1⟩; have hq1 := bblk hb1 hq; have hc1 := blk_cells hq1; have hB1 := btr hB.drew hb1)
    | (go_at_call 11; (with_reducible refine (CR _ (hL.below hB1)).mono ?_); rintro e w2 ⟨rfl, hb2⟩; have hB2 := btr hB1 hb2)
    | (go_at_call 9; (with_reducible refine (awake9 _).mono ?_); rintro e w3 ⟨rfl, hb3⟩; have hB3 := btr hB2 hb3))
  all_goals
    go_wp2
    go_ret
    exact ⟨rfl, hB3⟩
end Go.Proofs.YtpicgchcdbginaaDoor
