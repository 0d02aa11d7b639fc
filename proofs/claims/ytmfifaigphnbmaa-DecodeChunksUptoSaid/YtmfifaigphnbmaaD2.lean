/- The closures that collect code points, and the coders' methods, by contracts. -/
import Derived.Test.YtmfifaigphnbmaaD0
import Derived.Test.YtmfifaigphnbmaaD1
namespace Go.Proofs.Ytmfifaigphnbmaa
open Go.RowKit
theorem Try.info21 : (Try.prog.info? 21).map (fun i => (i.zero, i.size, i.bytes)) = some (some (.int .i32 0), 1, 4) := by kernel_rfl
theorem out21 (g : Nat) (r : Int) (l : List Int) (w : World) (h : OutAt w g l) (hl : (l.length + 1) * 4 ≤ 140737488355328) :
    Calls Try.prog 21 #[.int .i32 r, .pointer (some ⟨g, 0, none⟩)] w fun e w' => e = .returned (.tuple #[]) ∧ OutAt w' g (l ++ [r]) ∧ Below g w w' := by
  obtain ⟨v, hv, ho⟩ := h.out
  have hc : w.cell? ⟨g, 0, none⟩ = some v := blk_cells hv 0
  go_enter Try.func21, Try.ntmps21
  go_wp2_with (at_builtin; refine step_append_box rfl g 28 _ _ _ _ (.int .i32 0) 4 rfl Try.underlying28 Try.info21 rfl (by decide) v (.int .i32 r) l.length w.heap.size (l.map (Value.int .i32)) rfl rfl rfl rfl hv (by decide) ho hl ?_; intro gg cap w1 q1 q2 q3 q4; have c1 := q1.cell; have c2 := q1.frozen)
  go_end0
  refine ⟨rfl, ⟨_, q2, ?_⟩, q4⟩
  simpa using q3
theorem out22 (g : Nat) (r : Int) (l : List Int) (w : World) (h : OutAt w g l) (hl : (l.length + 1) * 4 ≤ 140737488355328) :
    Calls Try.prog 22 #[.int .i32 r, .pointer (some ⟨g, 0, none⟩)] w fun e w' => e = .returned (.tuple #[]) ∧ OutAt w' g (l ++ [r]) ∧ Below g w w' := by
  obtain ⟨v, hv, ho⟩ := h.out
  have hc : w.cell? ⟨g, 0, none⟩ = some v := blk_cells hv 0
  go_enter Try.func22, Try.ntmps22
  go_wp2_with (at_builtin; refine step_append_box rfl g 28 _ _ _ _ (.int .i32 0) 4 rfl Try.underlying28 Try.info21 rfl (by decide) v (.int .i32 r) l.length w.heap.size (l.map (Value.int .i32)) rfl rfl rfl rfl hv (by decide) ho hl ?_; intro gg cap w1 q1 q2 q3 q4; have c1 := q1.cell; have c2 := q1.frozen)
  go_end0
  refine ⟨rfl, ⟨_, q2, ?_⟩, q4⟩
  simpa using q3
end Go.Proofs.Ytmfifaigphnbmaa
