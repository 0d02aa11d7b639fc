/- UTF-8's coder, one byte: a mark ahead of it. -/
import Derived.Test.YtmfifaigphnbmaaD3
namespace Go.Proofs.Ytmfifaigphnbmaa
open Go.RowKit
set_option maxHeartbeats 1000000 in
theorem feed58b (u g : Nat) (s : U8) (c : Int) (l : List Int) (w : World) (hc0 : 0 ≤ c) (hc1 : c < 256) (h0 : 0 < s.w) (hr : ¬ (s.lo ≤ c ∧ c ≤ s.hi)) (hU : U8At w u s) (hug : u < g) (h : OutAt w g l) (hl : (l.length + 2) * 4 ≤ 140737488355328) :
    Calls Try.prog 58 #[.pointer (some ⟨u, 0, none⟩), .int .u8 c, .func (.func 21) #[] #[.pointer (some ⟨g, 0, none⟩)]] w fun e w' =>
      e = .returned (.tuple #[]) ∧ U8At w' u (U8.fresh ⟨s.h, 0, s.lo, s.hi⟩ c).1 ∧ OutAt w' g (l ++ 65533 :: (U8.fresh ⟨s.h, 0, s.lo, s.hi⟩ c).2) ∧ But u g w w' := by
  obtain ⟨sh, sw, slo, shi⟩ := s
  have h0 : 0 < sw := h0
  have hr : ¬ (slo ≤ c ∧ c ≤ shi) := hr
  have hC := blk_cells hU
  have hF := blk_free hU
  have O := out21 g 65533 l _ (h.set hug 1 (.int .i64 0)) (by omega)
  have hgw := h.lt
  have hU0 : U8At (w.setCell ⟨u, 1, none⟩ (.int .i64 0)) u ⟨sh, 0, slo, shi⟩ := set_blk hU _
  go_enter Try.func58, Try.ntmps58
  go_wp2_with (first
    | (go_at_call 21; (with_reducible refine O.mono ?_); rintro e w1 ⟨rfl, hO1, hb1⟩; have hU1 : U8At w1 u ⟨sh, 0, slo, shi⟩ := (hb1.block u hug).trans hU0; have hB1 : But u g w w1 := ((But.refl u g w).set _ _).trans (But.of hb1); have O2 := fun (r : Int) => out21 g r (l ++ [65533]) w1 hO1 (by simp; omega); have hg1 := hO1.lt)
    | (go_at_call 21; (with_reducible refine (O2 _).mono ?_); rintro e w2 ⟨rfl, hO2, hb2⟩; have hU2 := (hb2.block u hug).trans hU1; have hB2 := hB1.trans (But.of (u := u) hb2))
    | (go_at_call 56; (with_reducible refine (begin56 u _ _ _ _ _ _ hU1).mono ?_); rintro e w2 ⟨rfl, hU2, hb2⟩; have hO2 := hO1.but hb2 hug; have hB2 := hB1.trans (hb2.mono (Nat.le_of_lt hg1))))
  all_goals go_end0
  all_goals (refine ⟨rfl, ?_, ?_, hB2⟩ <;> (unfold U8.fresh; (try simp only [beq_iff_eq, beq_eq_false_iff_ne, ne_eq] at *)))
  all_goals repeat' split
  all_goals first
    | (exfalso; omega)
    | exact hU2
    | (rw [List.append_assoc] at hO2; exact hO2)
    | exact hO2
    | (rw [show c % 32 = c - 192 by omega] at hU2; exact hU2)
    | (rw [show c % 16 = c - 224 by omega] at hU2; exact hU2)
    | (rw [show c % 8 = c - 240 by omega] at hU2; exact hU2)
end Go.Proofs.Ytmfifaigphnbmaa
