/- UTF-8's coder, one byte: what it keeps and what it tells. -/
import Derived.Test.YtmfifaigphnbmaaD2
namespace Go.Proofs.Ytmfifaigphnbmaa
open Go.RowKit
/-- Block u holds UTF-8's state. -/
def U8At (w : World) (u : Nat) (s : U8) : Prop := w.heap[u]? = some (.cells #[.int .i32 s.h, .int .i64 s.w, .int .u8 s.lo, .int .u8 s.hi] 63 (0, 0))
theorem begin56 (u : Nat) (s : U8) (a b c d : Int) (w : World) (h : U8At w u s) :
    Calls Try.prog 56 #[.pointer (some ⟨u, 0, none⟩), .int .i32 a, .int .i64 b, .int .u8 c, .int .u8 d] w fun e w' => e = .returned (.tuple #[]) ∧ U8At w' u ⟨a, b, c, d⟩ ∧ But u w.heap.size w w' := by
  have hc := blk_cells h
  have hf := blk_free h
  go_enter Try.func56, Try.ntmps56
  go_wp2
  go_end0
  refine ⟨rfl, ?_, ((((But.refl u _ w).set _ _).set _ _).set _ _).set _ _⟩
  exact set_blk (set_blk (set_blk (set_blk h _) _) _) _
set_option maxHeartbeats 1000000 in
theorem feed58a (u g : Nat) (s : U8) (c : Int) (l : List Int) (w : World) (hc0 : 0 ≤ c) (hc1 : c < 256) (h0 : s.w = 0) (hU : U8At w u s) (hug : u < g) (h : OutAt w g l) (hl : (l.length + 1) * 4 ≤ 140737488355328) :
    Calls Try.prog 58 #[.pointer (some ⟨u, 0, none⟩), .int .u8 c, .func (.func 21) #[] #[.pointer (some ⟨g, 0, none⟩)]] w fun e w' =>
      e = .returned (.tuple #[]) ∧ U8At w' u (s.fresh c).1 ∧ OutAt w' g (l ++ (s.fresh c).2) ∧ But u g w w' := by
  obtain ⟨sh, sw, slo, shi⟩ := s
  obtain rfl : sw = 0 := h0
  have hC := blk_cells hU
  have hF := blk_free hU
  have O := fun (r : Int) => out21 g r l w h hl
  have hgw := h.lt
  go_enter Try.func58, Try.ntmps58
  go_wp2_with (first
    | (go_at_call 21; (with_reducible refine (O _).mono ?_); rintro e w1 ⟨rfl, hO1, hb1⟩; have hU1 := (hb1.block u hug).trans hU; have hB1 := But.of (u := u) hb1)
    | (go_at_call 56; (with_reducible refine (begin56 u _ _ _ _ _ _ hU).mono ?_); rintro e w1 ⟨rfl, hU1, hb1⟩; have hO1 := h.but hb1 hug; have hB1 := hb1.mono (Nat.le_of_lt hgw)))
  all_goals go_end0
  all_goals (refine ⟨rfl, ?_, ?_, hB1⟩ <;> (unfold U8.fresh; (try simp only [beq_iff_eq, beq_eq_false_iff_ne, ne_eq] at *)))
  all_goals repeat' split
  all_goals first
    | (exfalso; omega)
    | exact hU1
    | exact hO1
    | (rw [List.append_nil]; exact hO1)
    | (rw [show c % 32 = c - 192 by omega] at hU1; exact hU1)
    | (rw [show c % 16 = c - 224 by omega] at hU1; exact hU1)
    | (rw [show c % 8 = c - 240 by omega] at hU1; exact hU1)
end Go.Proofs.Ytmfifaigphnbmaa
