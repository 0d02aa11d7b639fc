/- The walks of the law that a parser that nobody made answers nothing. Printed by gen.py. -/
import Derived.Test.YtkigpnpgcpjmbaaGreatDoorProg
import Derived.Test.YtkigpnpgcpjmbaaGreatDoorKitC
import Derived.WalkKit
import Derived.BigCall
import Derived.WalkMore
namespace Go.Proofs.YtkigpnpgcpjmbaaGreatDoor
open Go.RowKit
theorem none9n (w : World) : Calls Tryz.prog 9 #[.pointer none] w fun e w' => e = .returned (.bool true) ∧ w' = w := by
  go_enter Tryz.func9, Tryz.ntmps9
  go_wp2
  go_ret
  exact ⟨rfl, rfl⟩
theorem none9z (b : Nat) (w : World) (h : w.cell? ⟨b, 0, none⟩ = some (.pointer none)) : Calls Tryz.prog 9 #[.pointer (some ⟨b, 0, none⟩)] w fun e w' => e = .returned (.bool true) ∧ w' = w := by
  go_enter Tryz.func9, Tryz.ntmps9
  go_wp2
  go_ret
  exact ⟨rfl, rfl⟩
theorem m5n (v : Value) (w : World) : Calls Tryz.prog 5 #[.pointer none, v] w fun e w' => e = .returned (.int .i64 7) ∧ w' = w := by
  go_enter Tryz.func5, Tryz.ntmps5
  go_wp2_with (go_at_call 9; (with_reducible refine (none9n _).mono ?_); rintro e w1 ⟨rfl, rfl⟩)
  go_ret
  exact ⟨rfl, rfl⟩
theorem m6z (b : Nat) (w : World) (h : w.cell? ⟨b, 0, none⟩ = some (.pointer none)) : Calls Tryz.prog 6 #[.pointer (some ⟨b, 0, none⟩)] w fun e w' => e = .returned (.int .i64 7) ∧ w' = w := by
  go_enter Tryz.func6, Tryz.ntmps6
  go_wp2_with (go_at_call 9; (with_reducible refine (none9z b _ h).mono ?_); rintro e w1 ⟨rfl, rfl⟩)
  go_ret
  exact ⟨rfl, rfl⟩
theorem m7n (w : World) : Calls Tryz.prog 7 #[.pointer none] w fun e w' => e = .returned (.pointer none) ∧ w' = w := by
  go_enter Tryz.func7, Tryz.ntmps7
  go_wp2_with (go_at_call 9; (with_reducible refine (none9n _).mono ?_); rintro e w1 ⟨rfl, rfl⟩)
  go_ret
  exact ⟨rfl, rfl⟩
theorem m7z (b : Nat) (w : World) (h : w.cell? ⟨b, 0, none⟩ = some (.pointer none)) : Calls Tryz.prog 7 #[.pointer (some ⟨b, 0, none⟩)] w fun e w' => e = .returned (.pointer none) ∧ w' = w := by
  go_enter Tryz.func7, Tryz.ntmps7
  go_wp2_with (go_at_call 9; (with_reducible refine (none9z b _ h).mono ?_); rintro e w1 ⟨rfl, rfl⟩)
  go_ret
  exact ⟨rfl, rfl⟩
theorem m8n (w : World) : Calls Tryz.prog 8 #[.pointer none] w fun e w' => e = .returned (.bool false) ∧ w' = w := by
  go_enter Tryz.func8, Tryz.ntmps8
  go_wp2_with (go_at_call 9; (with_reducible refine (none9n _).mono ?_); rintro e w1 ⟨rfl, rfl⟩)
  go_ret
  exact ⟨rfl, rfl⟩
theorem res4n (w : World) : Calls Tryz.prog 4 #[.pointer none] w fun e w' => e = .returned (.agg #[.int .i64 0, .int .i64 0, .slice none 0 0]) ∧ Below w.heap.size w w' := by
  go_enter Tryz.func4, Tryz.ntmps4
  go_wp2_with (go_at_call 9; (with_reducible refine (none9n _).mono ?_); rintro e w1 ⟨rfl, rfl⟩)
  exact bodyPost_ret (results_cell_row rfl _ _ w.heap.size 33 #[.int .i64 0, .int .i64 0, .slice none 0 0] (0, 0) _ rfl (at_new _ _ _ rfl) Tryz.underlying33 rfl (by kernel_rfl)) rfl ⟨rfl, bal (Below.refl _ _) _⟩
theorem res4z (b : Nat) (w : World) (h : w.cell? ⟨b, 0, none⟩ = some (.pointer none)) : Calls Tryz.prog 4 #[.pointer (some ⟨b, 0, none⟩)] w fun e w' => e = .returned (.agg #[.int .i64 0, .int .i64 0, .slice none 0 0]) ∧ Below w.heap.size w w' := by
  go_enter Tryz.func4, Tryz.ntmps4
  go_wp2_with (go_at_call 9; (with_reducible refine (none9z b _ (bcl (bal (Below.refl _ _) _) h)).mono ?_); rintro e w1 ⟨rfl, rfl⟩)
  exact bodyPost_ret (results_cell_row rfl _ _ w.heap.size 33 #[.int .i64 0, .int .i64 0, .slice none 0 0] (0, 0) _ rfl (at_new _ _ _ rfl) Tryz.underlying33 rfl (by kernel_rfl)) rfl ⟨rfl, bal (Below.refl _ _) _⟩
set_option maxRecDepth 100000 in
theorem zero3 (v : Value) (w : World) : Calls Tryz.prog 3 #[v] w fun e w' => e = .returned (.bool true) ∧ Below w.heap.size w w' := by
  have hfl : ∀ w, (Instr.field 33 (.agg #[.int .i64 0, .int .i64 0, .slice none 0 0]) 2).run Tryz.prog w = .ok (.slice none 0 0) w := fun _ => by kernel_rfl
  go_enter Tryz.func3, Tryz.ntmps3
  go_wp2_with (first
    | (go_at_call 4; (with_reducible refine (res4n _).mono ?_); rintro e w1 ⟨rfl, hb1⟩; have hq1 := bblk hb1 (at_new w _ w.heap.size rfl); have hc1 : w1.cell? ⟨w.heap.size, 0, none⟩ = some (.pointer none) := blk_cells hq1 0; have hB1 := btr (bal (Below.refl w.heap.size w) _) hb1)
    | (go_at_call 5; (with_reducible refine (m5n _ _).mono ?_); rintro e w2 ⟨rfl, rfl⟩; have hc2 := cell_alloc hc1 (.cells #[.int .i64 0, .int .i64 0, .slice none 0 0] 33); have hB2 := bal hB1 (.cells #[.int .i64 0, .int .i64 0, .slice none 0 0] 33))
    | (go_at_call 6; (with_reducible refine (m6z w.heap.size _ hc2).mono ?_); rintro e w2 ⟨rfl, rfl⟩)
    | (go_at_call 7; (with_reducible refine (m7n _).mono ?_); rintro e w2 ⟨rfl, rfl⟩)
    | (go_at_call 7; (with_reducible refine (m7z w.heap.size _ hc2).mono ?_); rintro e w2 ⟨rfl, rfl⟩)
    | (go_at_call 8; (with_reducible refine (m8n _).mono ?_); rintro e w2 ⟨rfl, rfl⟩)
    | (go_at_call 4; (with_reducible refine (res4z w.heap.size _ hc2).mono ?_); rintro e w3 ⟨rfl, hb3⟩; have hB3 := btr hB2 hb3))
  go_ret
  exact ⟨rfl, hB3⟩
end Go.Proofs.YtkigpnpgcpjmbaaGreatDoor
