/- A decoder is ended. Printed by gen8b.py. -/
import Derived.Test.YtmfifaigphnbmaaD8
namespace Go.Proofs.Ytmfifaigphnbmaa
open Go.RowKit
set_option maxHeartbeats 1000000 in
theorem end12_8 (u d : Nat) (s : U8) (w : World) (hd : DecAt w d (.iface 61 (.pointer (some ⟨u, 0, none⟩))) false) (hdu : d ≠ u) (hok : U8.ok s) (hU0 : U8At w u s) :
    Calls Try.prog 12 #[.pointer (some ⟨d, 0, none⟩)] w fun e w' => ∃ v, e = .returned (.tuple #[v, .int .i64 0]) ∧ w'.ownsRow w.heap.size 21 1 v (U8.fin s).length ((U8.fin s).map (Value.int .i32)) ∧
      But u w.heap.size (w.setCell ⟨d, 1, none⟩ (.bool true)) w' := by
  have hdl : d < w.heap.size := blk_lt hd
  have hug : u < w.heap.size := blk_lt hU0
  have hc0 := blk_cells hd
  have hf0 := blk_free hd
  have hU : U8At ((w.setCell ⟨d, 1, none⟩ (.bool true)).alloc (.cells #[.slice none 0 0] 28)) u s := at_old (set_blk_ne hU0 (Ne.symm hdu) _) _
  have hO : OutAt ((w.setCell ⟨d, 1, none⟩ (.bool true)).alloc (.cells #[.slice none 0 0] 28)) w.heap.size [] := OutAt.new _ _ (by simp)
  have hm : ∀ w : World, (method 200 61 (.pointer (some ⟨u, 0, none⟩)) "hornbeam/decode.end").run Try.prog w = .ok (57, .pointer (some ⟨u, 0, none⟩)) w := fun _ => by kernel_rfl
  have F := end57 u _ _ _ _ hok hU hug hO (by simp)
  go_enter Try.func12, Try.ntmps12
  go_wp2_with (first
    | (go_at_call 20; (with_reducible refine (check20 d _ _ _ hd).mono ?_); rintro e w1 ⟨rfl, rfl⟩)
    | (go_at_call 57; (with_reducible refine F.mono ?_); rintro e w2 ⟨rfl, hO2, hB2⟩; obtain ⟨v, hv, ho⟩ := hO2.out; have hv0 : w2.cell? ⟨w1.heap.size, 0, none⟩ = some v := blk_cells hv 0))
  go_ret2
  exact ⟨v, rfl, ho, (But.of ((Below.refl _ _).alloc (by simp) _)).trans hB2⟩

set_option maxHeartbeats 1000000 in
theorem end12_t (u d : Nat) (s : U16) (w : World) (hd : DecAt w d (.iface 64 (.pointer (some ⟨u, 0, none⟩))) false) (hdu : d ≠ u) (_hok : U16.ok s) (hU0 : U16At w u true s) :
    Calls Try.prog 12 #[.pointer (some ⟨d, 0, none⟩)] w fun e w' => ∃ v, e = .returned (.tuple #[v, .int .i64 0]) ∧ w'.ownsRow w.heap.size 21 1 v (U16.fin s).length ((U16.fin s).map (Value.int .i32)) ∧
      But u w.heap.size (w.setCell ⟨d, 1, none⟩ (.bool true)) w' := by
  have hdl : d < w.heap.size := blk_lt hd
  have hug : u < w.heap.size := blk_lt hU0
  have hc0 := blk_cells hd
  have hf0 := blk_free hd
  have hU : U16At ((w.setCell ⟨d, 1, none⟩ (.bool true)).alloc (.cells #[.slice none 0 0] 28)) u true s := at_old (set_blk_ne hU0 (Ne.symm hdu) _) _
  have hO : OutAt ((w.setCell ⟨d, 1, none⟩ (.bool true)).alloc (.cells #[.slice none 0 0] 28)) w.heap.size [] := OutAt.new _ _ (by simp)
  have hm : ∀ w : World, (method 200 64 (.pointer (some ⟨u, 0, none⟩)) "hornbeam/decode.end").run Try.prog w = .ok (59, .pointer (some ⟨u, 0, none⟩)) w := fun _ => by kernel_rfl
  have F := end59 u _ _ _ _ _ hU hug hO (by simp)
  go_enter Try.func12, Try.ntmps12
  go_wp2_with (first
    | (go_at_call 20; (with_reducible refine (check20 d _ _ _ hd).mono ?_); rintro e w1 ⟨rfl, rfl⟩)
    | (go_at_call 59; (with_reducible refine F.mono ?_); rintro e w2 ⟨rfl, hO2, hB2⟩; obtain ⟨v, hv, ho⟩ := hO2.out; have hv0 : w2.cell? ⟨w1.heap.size, 0, none⟩ = some v := blk_cells hv 0))
  go_ret2
  exact ⟨v, rfl, ho, (But.of ((Below.refl _ _).alloc (by simp) _)).trans hB2⟩

set_option maxHeartbeats 1000000 in
theorem end12_f (u d : Nat) (s : U16) (w : World) (hd : DecAt w d (.iface 64 (.pointer (some ⟨u, 0, none⟩))) false) (hdu : d ≠ u) (_hok : U16.ok s) (hU0 : U16At w u false s) :
    Calls Try.prog 12 #[.pointer (some ⟨d, 0, none⟩)] w fun e w' => ∃ v, e = .returned (.tuple #[v, .int .i64 0]) ∧ w'.ownsRow w.heap.size 21 1 v (U16.fin s).length ((U16.fin s).map (Value.int .i32)) ∧
      But u w.heap.size (w.setCell ⟨d, 1, none⟩ (.bool true)) w' := by
  have hdl : d < w.heap.size := blk_lt hd
  have hug : u < w.heap.size := blk_lt hU0
  have hc0 := blk_cells hd
  have hf0 := blk_free hd
  have hU : U16At ((w.setCell ⟨d, 1, none⟩ (.bool true)).alloc (.cells #[.slice none 0 0] 28)) u false s := at_old (set_blk_ne hU0 (Ne.symm hdu) _) _
  have hO : OutAt ((w.setCell ⟨d, 1, none⟩ (.bool true)).alloc (.cells #[.slice none 0 0] 28)) w.heap.size [] := OutAt.new _ _ (by simp)
  have hm : ∀ w : World, (method 200 64 (.pointer (some ⟨u, 0, none⟩)) "hornbeam/decode.end").run Try.prog w = .ok (59, .pointer (some ⟨u, 0, none⟩)) w := fun _ => by kernel_rfl
  have F := end59 u _ _ _ _ _ hU hug hO (by simp)
  go_enter Try.func12, Try.ntmps12
  go_wp2_with (first
    | (go_at_call 20; (with_reducible refine (check20 d _ _ _ hd).mono ?_); rintro e w1 ⟨rfl, rfl⟩)
    | (go_at_call 59; (with_reducible refine F.mono ?_); rintro e w2 ⟨rfl, hO2, hB2⟩; obtain ⟨v, hv, ho⟩ := hO2.out; have hv0 : w2.cell? ⟨w1.heap.size, 0, none⟩ = some v := blk_cells hv 0))
  go_ret2
  exact ⟨v, rfl, ho, (But.of ((Below.refl _ _).alloc (by simp) _)).trans hB2⟩

set_option maxHeartbeats 1000000 in
theorem end12_28 (d : Nat) (w : World) (hd : DecAt w d (.iface 69 (.agg #[.func (.func 28) #[] #[]])) false) :
    Calls Try.prog 12 #[.pointer (some ⟨d, 0, none⟩)] w fun e w' => e = .returned (.tuple #[.slice none 0 0, .int .i64 0]) ∧ Below w.heap.size (w.setCell ⟨d, 1, none⟩ (.bool true)) w' := by
  have hdl : d < w.heap.size := blk_lt hd
  have hc0 := blk_cells hd
  have hf0 := blk_free hd
  have hm : ∀ w : World, (method 200 69 (.agg #[.func (.func 28) #[] #[]]) "hornbeam/decode.end").run Try.prog w = .ok (61, (.agg #[.func (.func 28) #[] #[]])) w := fun _ => by kernel_rfl
  go_enter Try.func12, Try.ntmps12
  go_wp2_with (first
    | (go_at_call 20; (with_reducible refine (check20 d _ _ _ hd).mono ?_); rintro e w1 ⟨rfl, rfl⟩)
    | (go_at_call 61; (with_reducible refine (end61 _ _ _).mono ?_); rintro e w2 ⟨rfl, hB2⟩; have hv0 : w2.cell? ⟨w1.heap.size, 0, none⟩ = some (.slice none 0 0) := blk_cells (bblk hB2 (at_new _ _ _ (by simp))) 0))
  go_ret2
  exact ⟨rfl, ((Below.refl _ _).alloc (by simp) _).trans (hB2.mono (by simp))⟩

set_option maxHeartbeats 1000000 in
theorem end12_29 (d : Nat) (w : World) (hd : DecAt w d (.iface 69 (.agg #[.func (.func 29) #[] #[]])) false) :
    Calls Try.prog 12 #[.pointer (some ⟨d, 0, none⟩)] w fun e w' => e = .returned (.tuple #[.slice none 0 0, .int .i64 0]) ∧ Below w.heap.size (w.setCell ⟨d, 1, none⟩ (.bool true)) w' := by
  have hdl : d < w.heap.size := blk_lt hd
  have hc0 := blk_cells hd
  have hf0 := blk_free hd
  have hm : ∀ w : World, (method 200 69 (.agg #[.func (.func 29) #[] #[]]) "hornbeam/decode.end").run Try.prog w = .ok (61, (.agg #[.func (.func 29) #[] #[]])) w := fun _ => by kernel_rfl
  go_enter Try.func12, Try.ntmps12
  go_wp2_with (first
    | (go_at_call 20; (with_reducible refine (check20 d _ _ _ hd).mono ?_); rintro e w1 ⟨rfl, rfl⟩)
    | (go_at_call 61; (with_reducible refine (end61 _ _ _).mono ?_); rintro e w2 ⟨rfl, hB2⟩; have hv0 : w2.cell? ⟨w1.heap.size, 0, none⟩ = some (.slice none 0 0) := blk_cells (bblk hB2 (at_new _ _ _ (by simp))) 0))
  go_ret2
  exact ⟨rfl, ((Below.refl _ _).alloc (by simp) _).trans (hB2.mono (by simp))⟩

set_option maxHeartbeats 1000000 in
theorem end12_30 (d : Nat) (w : World) (hd : DecAt w d (.iface 69 (.agg #[.func (.func 30) #[] #[]])) false) :
    Calls Try.prog 12 #[.pointer (some ⟨d, 0, none⟩)] w fun e w' => e = .returned (.tuple #[.slice none 0 0, .int .i64 0]) ∧ Below w.heap.size (w.setCell ⟨d, 1, none⟩ (.bool true)) w' := by
  have hdl : d < w.heap.size := blk_lt hd
  have hc0 := blk_cells hd
  have hf0 := blk_free hd
  have hm : ∀ w : World, (method 200 69 (.agg #[.func (.func 30) #[] #[]]) "hornbeam/decode.end").run Try.prog w = .ok (61, (.agg #[.func (.func 30) #[] #[]])) w := fun _ => by kernel_rfl
  go_enter Try.func12, Try.ntmps12
  go_wp2_with (first
    | (go_at_call 20; (with_reducible refine (check20 d _ _ _ hd).mono ?_); rintro e w1 ⟨rfl, rfl⟩)
    | (go_at_call 61; (with_reducible refine (end61 _ _ _).mono ?_); rintro e w2 ⟨rfl, hB2⟩; have hv0 : w2.cell? ⟨w1.heap.size, 0, none⟩ = some (.slice none 0 0) := blk_cells (bblk hB2 (at_new _ _ _ (by simp))) 0))
  go_ret2
  exact ⟨rfl, ((Below.refl _ _).alloc (by simp) _).trans (hB2.mono (by simp))⟩

set_option maxHeartbeats 1000000 in
theorem end12_31 (d : Nat) (w : World) (hd : DecAt w d (.iface 69 (.agg #[.func (.func 31) #[] #[]])) false) :
    Calls Try.prog 12 #[.pointer (some ⟨d, 0, none⟩)] w fun e w' => e = .returned (.tuple #[.slice none 0 0, .int .i64 0]) ∧ Below w.heap.size (w.setCell ⟨d, 1, none⟩ (.bool true)) w' := by
  have hdl : d < w.heap.size := blk_lt hd
  have hc0 := blk_cells hd
  have hf0 := blk_free hd
  have hm : ∀ w : World, (method 200 69 (.agg #[.func (.func 31) #[] #[]]) "hornbeam/decode.end").run Try.prog w = .ok (61, (.agg #[.func (.func 31) #[] #[]])) w := fun _ => by kernel_rfl
  go_enter Try.func12, Try.ntmps12
  go_wp2_with (first
    | (go_at_call 20; (with_reducible refine (check20 d _ _ _ hd).mono ?_); rintro e w1 ⟨rfl, rfl⟩)
    | (go_at_call 61; (with_reducible refine (end61 _ _ _).mono ?_); rintro e w2 ⟨rfl, hB2⟩; have hv0 : w2.cell? ⟨w1.heap.size, 0, none⟩ = some (.slice none 0 0) := blk_cells (bblk hB2 (at_new _ _ _ (by simp))) 0))
  go_ret2
  exact ⟨rfl, ((Below.refl _ _).alloc (by simp) _).trans (hB2.mono (by simp))⟩

end Go.Proofs.Ytmfifaigphnbmaa
