/- The walk of the second closure of quirk.Mode: a call of the first through its variable. -/
import Derived.Test.YtkkhaaapokkhlaaW2
namespace Go.Proofs.Ytkkhaaapokkhlaa
open Go.RowKit

/-- Is a text another one, its letters small? -/
def isP (h2 : Bool) (id : List UInt8) (s : ByteArray) : Bool := bgP h2 id [s] && decide (id.length = s.size)

set_option maxHeartbeats 400000 in
theorem is13 (bf bt bid : Nat) (s : ByteArray) (has : Int) (id : ByteArray) (w : World) (hs : s.size ≤ maxLen)
    (hF : w.cell? ⟨bf, 0, none⟩ = some (.func (.func 12) #[] #[.pointer (some ⟨bt, 0, none⟩), .pointer (some ⟨bid, 0, none⟩)])) (hT : w.cell? ⟨bt, 4, none⟩ = some (.int .i64 has)) (hI : w.cell? ⟨bid, 0, none⟩ = some (.string id)) :
    Calls Try.prog 13 #[.string s, .pointer (some ⟨bf, 0, none⟩), .pointer (some ⟨bid, 0, none⟩)] w fun e w' => e = .returned (.bool (isP (hasB has 2) id.data.toList s)) ∧ Below w.heap.size w w' := by
  have hT0 := cell_alloc hT (.cells #[.string s] 9)
  have hI0 := cell_alloc hI (.cells #[.string s] 9)
  have C := begins12 w.heap.size 1 1 bt bid has id [s] (w.alloc (.cells #[.string s] 9)) rfl (by unfold maxLen; omega) (by simpa using hs) (fun i h => by obtain rfl : i = 0 := (by simpa using h); exact World.cell?_alloc_new _ _ _ _) hT0 hI0
  go_enter Try.func13, Try.ntmps13
  go_wp2_with (go_at_call 12; refine C.mono ?_; rintro e w1 ⟨rfl, hb1⟩; have hI1 := bcl hb1 hI0)
  all_goals
    go_ret
    refine ⟨ret_bool ?_, btr (bal (Below.refl _ _) _) hb1⟩
    simp_all [isP, cast_beq]
end Go.Proofs.Ytkkhaaapokkhlaa
