/- The walk of the law that a decoder that nobody made answers nothing. -/
import Derived.Test.YtmfifaigphnbmaaProg
import Derived.Test.YtmfifaigphnbmaaKitA
import Derived.WalkKit
import Derived.BigCall
namespace Go.Proofs.Ytmfifaigphnbmaa
open Go.RowKit
theorem check20n (w : World) : Calls Try.prog 20 #[.pointer none] w fun e w' => e = .returned (.int .i64 7) ∧ w' = w := by
  go_enter Try.func20, Try.ntmps20
  go_wp2
  go_ret
  exact ⟨rfl, rfl⟩
theorem check20z (p : Addr) (w : World) (h : w.cell? p = some .nilIface) : Calls Try.prog 20 #[.pointer (some p)] w fun e w' => e = .returned (.int .i64 7) ∧ w' = w := by
  go_enter Try.func20, Try.ntmps20
  go_wp2
  go_ret
  exact ⟨rfl, rfl⟩
theorem feed11n (v : Value) (w : World) : Calls Try.prog 11 #[.pointer none, v] w fun e w' => e = .returned (.tuple #[.slice none 0 0, .int .i64 7]) ∧ Below w.heap.size w w' := by
  go_enter Try.func11, Try.ntmps11
  go_wp2_with (go_at_call 20; (with_reducible refine (check20n _).mono ?_); rintro e w1 ⟨rfl, rfl⟩)
  go_ret2
  exact ⟨rfl, by first | exact Below.refl _ _ | exact bal (Below.refl _ _) _⟩
theorem end12z (p : Addr) (w : World) (h : w.cell? p = some .nilIface) : Calls Try.prog 12 #[.pointer (some p)] w fun e w' => e = .returned (.tuple #[.slice none 0 0, .int .i64 7]) ∧ Below w.heap.size w w' := by
  go_enter Try.func12, Try.ntmps12
  go_wp2_with (go_at_call 20; (with_reducible refine (check20z p _ h).mono ?_); rintro e w1 ⟨rfl, rfl⟩)
  go_ret2
  exact ⟨rfl, by first | exact Below.refl _ _ | exact bal (Below.refl _ _) _⟩
theorem zero3 (v : Value) (w : World) : Calls Try.prog 3 #[v] w fun e w' => e = .returned (.bool true) ∧ Below w.heap.size w w' := by
  go_enter Try.func3, Try.ntmps3
  go_wp2_with (first
    | (go_at_call 11; (with_reducible refine (feed11n _ _).mono ?_); rintro e w1 ⟨rfl, hb1⟩; have hq := bblk hb1 (at_new _ _ w.heap.size rfl); have hc := blk_cells hq; have hB1 := btr (bal (Below.refl w.heap.size w) _) hb1)
    | (go_at_call 12; (with_reducible refine (end12z _ _ (hc 0)).mono ?_); rintro e w2 ⟨rfl, hb2⟩))
  go_ret
  exact ⟨rfl, btr hB1 hb2⟩
end Go.Proofs.Ytmfifaigphnbmaa
