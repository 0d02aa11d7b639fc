/- UTF-8's coder, one byte: a byte that fits, all together, and the end. -/
import Derived.Test.YtmfifaigphnbmaaD4
namespace Go.Proofs.Ytmfifaigphnbmaa
open Go.RowKit
set_option maxHeartbeats 1000000 in
theorem feed58c (u g : Nat) (s : U8) (c : Int) (l : List Int) (w : World) (hs : s.ok) (h0 : 0 < s.w) (hr : s.lo ≤ c ∧ c ≤ s.hi) (hU : U8At w u s) (hug : u < g) (h : OutAt w g l) (hl : (l.length + 1) * 4 ≤ 140737488355328) :
    Calls Try.prog 58 #[.pointer (some ⟨u, 0, none⟩), .int .u8 c, .func (.func 21) #[] #[.pointer (some ⟨g, 0, none⟩)]] w fun e w' =>
      e = .returned (.tuple #[]) ∧ U8At w' u ⟨64 * s.h + (c - 128), s.w - 1, 128, 191⟩ ∧ OutAt w' g (l ++ if s.w = 1 then [64 * s.h + (c - 128)] else []) ∧ But u g w w' := by
  obtain ⟨sh, sw, slo, shi⟩ := s
  have h0 : 0 < sw := h0
  obtain ⟨hr1, hr2⟩ : slo ≤ c ∧ c ≤ shi := hr
  obtain ⟨k1, k2, k3⟩ : (sw = 0 ∨ sw = 1 ∧ sh < 32768 ∨ sw = 2 ∧ sh < 512 ∨ sw = 3 ∧ sh < 8) ∧ 0 ≤ sh ∧ (0 < sw → 128 ≤ slo ∧ shi ≤ 191) := hs
  obtain ⟨k4, k5⟩ := k3 h0
  have k6 : sh < 32768 := by omega
  have k7 : sw ≤ 3 := by omega
  clear k1 k3
  have hC := blk_cells hU
  have hF := blk_free hU
  have hgw := h.lt
  have e1 : 64 * sh + (c - 128) = sh * 64 + c % 64 := by omega
  have O := fun (r : Int) => out21 g r l _ ((((h.set hug 0 (.int .i32 (sh * 64 + c % 64))).set hug 2 (.int .u8 128)).set hug 3 (.int .u8 191)).set hug 1 (.int .i64 (sw - 1))) hl
  have hU0 : U8At ((((w.setCell ⟨u, 0, none⟩ (.int .i32 (sh * 64 + c % 64))).setCell ⟨u, 2, none⟩ (.int .u8 128)).setCell ⟨u, 3, none⟩ (.int .u8 191)).setCell ⟨u, 1, none⟩ (.int .i64 (sw - 1))) u ⟨sh * 64 + c % 64, sw - 1, 128, 191⟩ := set_blk (set_blk (set_blk (set_blk hU _) _) _) _
  have hB0 := ((((But.refl u g w).set 0 (.int .i32 (sh * 64 + c % 64))).set 2 (.int .u8 128)).set 3 (.int .u8 191)).set 1 (.int .i64 (sw - 1))
  rw [show (⟨sh, sw, slo, shi⟩ : U8).h = sh from rfl, show (⟨sh, sw, slo, shi⟩ : U8).w = sw from rfl, e1]
  clear e1
  by_cases hw1 : sw = 1
  · subst hw1
    rw [if_pos rfl]
    rw [show ((1 : Int) - 1) = 0 from rfl] at O hU0 hB0
    go_enter Try.func58, Try.ntmps58
    go_wp2_with (go_at_call 21; (with_reducible refine (O _).mono ?_); rintro e w1 ⟨rfl, hO1, hb1⟩; have hU1 := (hb1.block u hug).trans hU0; have hB1 := hB0.trans (But.of (u := u) hb1))
    refine bodyPost_ret (results_none rfl _ _ _) rfl ?_
    exact ⟨rfl, hU1, hO1, hB1⟩
  · rw [if_neg hw1]
    have hw2 : (sw - 1 == 0) = false := by rw [beq_eq_false_iff_ne]; omega
    go_enter Try.func58, Try.ntmps58
    go_wp2
    refine bodyPost_ret (results_none rfl _ _ _) rfl ?_
    exact ⟨rfl, hU0, (((h.set hug _ _).set hug _ _).set hug _ _).set hug _ _, hB0⟩
theorem feed58 (u g : Nat) (s : U8) (c : Int) (l : List Int) (w : World) (hc0 : 0 ≤ c) (hc1 : c < 256) (hs : s.ok) (hU : U8At w u s) (hug : u < g) (h : OutAt w g l) (hl : (l.length + 2) * 4 ≤ 140737488355328) :
    Calls Try.prog 58 #[.pointer (some ⟨u, 0, none⟩), .int .u8 c, .func (.func 21) #[] #[.pointer (some ⟨g, 0, none⟩)]] w fun e w' =>
      e = .returned (.tuple #[]) ∧ U8At w' u (s.step c).1 ∧ OutAt w' g (l ++ (s.step c).2) ∧ But u g w w' := by
  unfold U8.step
  split
  case isTrue h0 =>
    split
    case isTrue hr => exact feed58c u g s c l w hs h0 hr hU hug h (by omega)
    case isFalse hr => exact feed58b u g s c l w hc0 hc1 h0 hr hU hug h hl
  case isFalse h0 => exact feed58a u g s c l w hc0 hc1 (by obtain ⟨k1, _, _⟩ := hs; omega) hU hug h (by omega)
theorem end57 (u g : Nat) (s : U8) (l : List Int) (w : World) (hs : s.ok) (hU : U8At w u s) (hug : u < g) (h : OutAt w g l) (hl : (l.length + 1) * 4 ≤ 140737488355328) :
    Calls Try.prog 57 #[.pointer (some ⟨u, 0, none⟩), .func (.func 22) #[] #[.pointer (some ⟨g, 0, none⟩)]] w fun e w' =>
      e = .returned (.tuple #[]) ∧ OutAt w' g (l ++ s.fin) ∧ But u g w w' := by
  obtain ⟨sh, sw, slo, shi⟩ := s
  have hC := blk_cells hU
  have hF := blk_free hU
  have hgw := h.lt
  have O := out22 g 65533 l w h hl
  unfold U8.fin
  show Calls _ _ _ _ (fun e w' => _ ∧ OutAt w' g (l ++ if 0 < sw then [65533] else []) ∧ _)
  by_cases hw0 : 0 < sw
  · rw [if_pos hw0]
    go_enter Try.func57, Try.ntmps57
    go_wp2_with (go_at_call 22; (with_reducible refine O.mono ?_); rintro e w1 ⟨rfl, hO1, hb1⟩; have hU1 := (hb1.block u hug).trans hU; have hC1 := blk_cells hU1; have hF1 := blk_free hU1; have hB1 := But.of (u := u) hb1)
    go_end0
    exact ⟨rfl, hO1.set hug _ _, hB1.set _ _⟩
  · rw [if_neg hw0, List.append_nil]
    go_enter Try.func57, Try.ntmps57
    go_wp2
    go_end0
    exact ⟨rfl, h.set hug _ _, (But.refl u g w).set _ _⟩
end Go.Proofs.Ytmfifaigphnbmaa
