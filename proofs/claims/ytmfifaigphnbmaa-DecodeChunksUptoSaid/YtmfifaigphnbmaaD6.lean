/- UTF-16's coder, one byte and the end. Printed by gen6.py. -/
import Derived.Test.YtmfifaigphnbmaaD2
namespace Go.Proofs.Ytmfifaigphnbmaa
open Go.RowKit
/-- Block u holds UTF-16's state. -/
def U16At (w : World) (u : Nat) (big : Bool) (s : U16) : Prop := w.heap[u]? = some (.cells #[.bool big, .int .i64 s.half, .int .i32 s.lead] 66 (0, 0))
theorem i32_or8 (x y : Int) (h1 : 0 ≤ x) (h2 : x < 256) (h3 : 0 ≤ y) (h4 : y < 256) : bits .or .i32 (x * 256) y = x * 256 + y :=
  bits_join .i32 31 (by decide) (fun n h1 h2 => by simp [IntKind.wrap, IntKind.bits, IntKind.signed]; omega) 8 _ _ (by omega) (by omega) (by omega) (by omega) (by omega) (by omega)
theorem i32_or8' (x y : Int) (h1 : 0 ≤ x) (h2 : x < 256) (h3 : 0 ≤ y) (h4 : y < 256) : bits .or .i32 y (x * 256) = x * 256 + y := by
  rw [← i32_or8 x y h1 h2 h3 h4]
  simp only [bits, BitVec.or_comm]
theorem feed60a (u g : Nat) (big : Bool) (s : U16) (c : Int) (l : List Int) (w : World) (hc0 : 0 ≤ c) (hc1 : c < 256) (h0 : s.half < 0) (hU : U16At w u big s) (hug : u < g) (h : OutAt w g l) :
    Calls Try.prog 60 #[.pointer (some ⟨u, 0, none⟩), .int .u8 c, .func (.func 21) #[] #[.pointer (some ⟨g, 0, none⟩)]] w fun e w' =>
      e = .returned (.tuple #[]) ∧ U16At w' u big ⟨c, s.lead⟩ ∧ OutAt w' g l ∧ But u g w w' := by
  obtain ⟨sh, sl⟩ := s
  have h0 : sh < 0 := h0
  have hC := blk_cells hU
  have hF := blk_free hU
  go_enter Try.func60, Try.ntmps60
  go_wp2
  refine bodyPost_ret (results_none rfl _ _ _) rfl ?_
  exact ⟨rfl, set_blk hU _, h.set hug _ _, (But.refl u g w).set _ _⟩
set_option maxHeartbeats 2000000 in
theorem feed60tl (u g : Nat) (sh sl c : Int) (l : List Int) (w : World) (hc0 : 0 ≤ c) (hc1 : c < 256) (h0 : 0 ≤ sh) (h1 : sh < 256) (h2 : 55296 ≤ sl) (h3 : sl ≤ 56319)
    (hU : U16At w u true ⟨sh, sl⟩) (hug : u < g) (h : OutAt w g l) (hl : (l.length + 2) * 4 ≤ 140737488355328) :
    Calls Try.prog 60 #[.pointer (some ⟨u, 0, none⟩), .int .u8 c, .func (.func 21) #[] #[.pointer (some ⟨g, 0, none⟩)]] w fun e w' =>
      e = .returned (.tuple #[]) ∧ U16At w' u true (U16.step true ⟨sh, sl⟩ c).1 ∧ OutAt w' g (l ++ (U16.step true ⟨sh, sl⟩ c).2) ∧ But u g w w' := by
  have hC := blk_cells hU
  have hF := blk_free hU
  have hor : bits .or .i32 (sh * 256) c = sh * 256 + c := i32_or8 sh c h0 h1 hc0 hc1
  obtain ⟨x, hx, hx0, hx1⟩ : ∃ x, sh * 256 + c = x ∧ 0 ≤ x ∧ x < 65536 := ⟨_, rfl, by omega, by omega⟩
  have hun : U16.unit true ⟨sh, sl⟩ c = x := by rw [← hx]; simp only [U16.unit, if_true]; omega
  rw [hx] at hor
  clear hx
  have O := fun (r : Int) => out21 g r l _ ((h.set hug 1 (.int .i64 (-1))).set hug 2 (.int .i32 (-1))) (by omega)
  have hU0 : U16At ((w.setCell ⟨u, 1, none⟩ (.int .i64 (-1))).setCell ⟨u, 2, none⟩ (.int .i32 (-1))) u true ⟨-1, -1⟩ := set_blk (set_blk hU _) _
  have hB0 := ((But.refl u g w).set 1 (.int .i64 (-1))).set 2 (.int .i32 (-1))
  obtain ⟨o, ho⟩ : ∃ o, o = U16.step true ⟨sh, sl⟩ c := ⟨_, rfl⟩
  rw [← ho]
  rw [U16.step, if_neg (by show ¬ sh < 0; omega), if_pos (by show 0 ≤ sl; omega), hun] at ho
  by_cases hf : 56320 ≤ x ∧ x ≤ 57343
  · rw [if_pos hf] at ho
    subst ho
    obtain ⟨hf1, hf2⟩ := hf
    clear hun
    go_enter Try.func60, Try.ntmps60
    go_wp2_with (go_at_call 21; (with_reducible refine (O _).mono ?_); rintro e w1 ⟨rfl, hO1, hb1⟩; have hU1 := (hb1.block u hug).trans hU0; have hB1 := hB0.trans (But.of (u := u) hb1))
    refine bodyPost_ret (results_none rfl _ _ _) rfl ?_
    exact ⟨rfl, hU1, hO1, hB1⟩
  · rw [if_neg hf] at ho
    have O1 := O 65533
    clear hun O
    go_enter Try.func60, Try.ntmps60
    go_wp2_with (first
      | (go_at_call 21; (with_reducible refine O1.mono ?_); rintro e w1 ⟨rfl, hO1, hb1⟩; have hU1 := (hb1.block u hug).trans hU0; have hB1 := hB0.trans (But.of (u := u) hb1); have hC1 := blk_cells hU1; have hF1 := blk_free hU1; have O2 := fun (r : Int) => out21 g r (l ++ [65533]) w1 hO1 (by simp; omega))
      | (go_at_call 21; (with_reducible refine (O2 _).mono ?_); rintro e w2 ⟨rfl, hO2, hb2⟩; have hU2 := (hb2.block u hug).trans hU1; have hB2 := hB1.trans (But.of (u := u) hb2)))
    all_goals go_end0
    all_goals subst ho
    all_goals rw [U16.fresh, if_neg hf]
    all_goals first
      | (rw [if_neg (by omega)]; exact ⟨rfl, hU2, by rw [List.append_assoc] at hO2; exact hO2, hB2⟩)
      | (rw [if_pos (by omega)]; exact ⟨rfl, set_blk hU1 _, hO1.set hug _ _, hB1.set _ _⟩)
set_option maxHeartbeats 2000000 in
theorem feed60tn (u g : Nat) (sh c : Int) (l : List Int) (w : World) (hc0 : 0 ≤ c) (hc1 : c < 256) (h0 : 0 ≤ sh) (h1 : sh < 256)
    (hU : U16At w u true ⟨sh, -1⟩) (hug : u < g) (h : OutAt w g l) (hl : (l.length + 2) * 4 ≤ 140737488355328) :
    Calls Try.prog 60 #[.pointer (some ⟨u, 0, none⟩), .int .u8 c, .func (.func 21) #[] #[.pointer (some ⟨g, 0, none⟩)]] w fun e w' =>
      e = .returned (.tuple #[]) ∧ U16At w' u true (U16.step true ⟨sh, -1⟩ c).1 ∧ OutAt w' g (l ++ (U16.step true ⟨sh, -1⟩ c).2) ∧ But u g w w' := by
  have hC := blk_cells hU
  have hF := blk_free hU
  have hor : bits .or .i32 (sh * 256) c = sh * 256 + c := i32_or8 sh c h0 h1 hc0 hc1
  obtain ⟨x, hx, hx0, hx1⟩ : ∃ x, sh * 256 + c = x ∧ 0 ≤ x ∧ x < 65536 := ⟨_, rfl, by omega, by omega⟩
  have hun : U16.unit true ⟨sh, -1⟩ c = x := by rw [← hx]; simp only [U16.unit, if_true]; omega
  rw [hx] at hor
  clear hx
  have O := fun (r : Int) => out21 g r l _ (h.set hug 1 (.int .i64 (-1))) (by omega)
  have hU0 : U16At (w.setCell ⟨u, 1, none⟩ (.int .i64 (-1))) u true ⟨-1, -1⟩ := set_blk hU _
  have hB0 := (But.refl u g w).set 1 (.int .i64 (-1))
  obtain ⟨o, ho⟩ : ∃ o, o = U16.step true ⟨sh, -1⟩ c := ⟨_, rfl⟩
  rw [← ho]
  rw [U16.step, if_neg (by show ¬ sh < 0; omega), if_neg (by show ¬ (0 : Int) ≤ -1; decide), hun] at ho
  clear hun
  go_enter Try.func60, Try.ntmps60
  go_wp2_with (go_at_call 21; (with_reducible refine (O _).mono ?_); rintro e w1 ⟨rfl, hO1, hb1⟩; have hU1 := (hb1.block u hug).trans hU0; have hB1 := hB0.trans (But.of (u := u) hb1))
  all_goals go_end0
  all_goals subst ho
  all_goals rw [U16.fresh]
  all_goals first
    | (rw [if_pos (by omega)]; exact ⟨rfl, hU1, hO1, hB1⟩)
    | (rw [if_neg (by omega), if_neg (by omega)]; exact ⟨rfl, hU1, hO1, hB1⟩)
    | (rw [if_neg (by omega), if_pos (by omega), List.append_nil]; exact ⟨rfl, set_blk hU0 _, (h.set hug _ _).set hug _ _, hB0.set _ _⟩)
set_option maxHeartbeats 2000000 in
theorem feed60fl (u g : Nat) (sh sl c : Int) (l : List Int) (w : World) (hc0 : 0 ≤ c) (hc1 : c < 256) (h0 : 0 ≤ sh) (h1 : sh < 256) (h2 : 55296 ≤ sl) (h3 : sl ≤ 56319)
    (hU : U16At w u false ⟨sh, sl⟩) (hug : u < g) (h : OutAt w g l) (hl : (l.length + 2) * 4 ≤ 140737488355328) :
    Calls Try.prog 60 #[.pointer (some ⟨u, 0, none⟩), .int .u8 c, .func (.func 21) #[] #[.pointer (some ⟨g, 0, none⟩)]] w fun e w' =>
      e = .returned (.tuple #[]) ∧ U16At w' u false (U16.step false ⟨sh, sl⟩ c).1 ∧ OutAt w' g (l ++ (U16.step false ⟨sh, sl⟩ c).2) ∧ But u g w w' := by
  have hC := blk_cells hU
  have hF := blk_free hU
  have hor : bits .or .i32 sh (c * 256) = c * 256 + sh := i32_or8' c sh hc0 hc1 h0 h1
  obtain ⟨x, hx, hx0, hx1⟩ : ∃ x, c * 256 + sh = x ∧ 0 ≤ x ∧ x < 65536 := ⟨_, rfl, by omega, by omega⟩
  have hun : U16.unit false ⟨sh, sl⟩ c = x := by rw [← hx]; simp only [U16.unit, Bool.false_eq_true, if_false]; omega
  rw [hx] at hor
  clear hx
  have O := fun (r : Int) => out21 g r l _ ((h.set hug 1 (.int .i64 (-1))).set hug 2 (.int .i32 (-1))) (by omega)
  have hU0 : U16At ((w.setCell ⟨u, 1, none⟩ (.int .i64 (-1))).setCell ⟨u, 2, none⟩ (.int .i32 (-1))) u false ⟨-1, -1⟩ := set_blk (set_blk hU _) _
  have hB0 := ((But.refl u g w).set 1 (.int .i64 (-1))).set 2 (.int .i32 (-1))
  obtain ⟨o, ho⟩ : ∃ o, o = U16.step false ⟨sh, sl⟩ c := ⟨_, rfl⟩
  rw [← ho]
  rw [U16.step, if_neg (by show ¬ sh < 0; omega), if_pos (by show 0 ≤ sl; omega), hun] at ho
  by_cases hf : 56320 ≤ x ∧ x ≤ 57343
  · rw [if_pos hf] at ho
    subst ho
    obtain ⟨hf1, hf2⟩ := hf
    clear hun
    go_enter Try.func60, Try.ntmps60
    go_wp2_with (go_at_call 21; (with_reducible refine (O _).mono ?_); rintro e w1 ⟨rfl, hO1, hb1⟩; have hU1 := (hb1.block u hug).trans hU0; have hB1 := hB0.trans (But.of (u := u) hb1))
    refine bodyPost_ret (results_none rfl _ _ _) rfl ?_
    exact ⟨rfl, hU1, hO1, hB1⟩
  · rw [if_neg hf] at ho
    have O1 := O 65533
    clear hun O
    go_enter Try.func60, Try.ntmps60
    go_wp2_with (first
      | (go_at_call 21; (with_reducible refine O1.mono ?_); rintro e w1 ⟨rfl, hO1, hb1⟩; have hU1 := (hb1.block u hug).trans hU0; have hB1 := hB0.trans (But.of (u := u) hb1); have hC1 := blk_cells hU1; have hF1 := blk_free hU1; have O2 := fun (r : Int) => out21 g r (l ++ [65533]) w1 hO1 (by simp; omega))
      | (go_at_call 21; (with_reducible refine (O2 _).mono ?_); rintro e w2 ⟨rfl, hO2, hb2⟩; have hU2 := (hb2.block u hug).trans hU1; have hB2 := hB1.trans (But.of (u := u) hb2)))
    all_goals go_end0
    all_goals subst ho
    all_goals rw [U16.fresh, if_neg hf]
    all_goals first
      | (rw [if_neg (by omega)]; exact ⟨rfl, hU2, by rw [List.append_assoc] at hO2; exact hO2, hB2⟩)
      | (rw [if_pos (by omega)]; exact ⟨rfl, set_blk hU1 _, hO1.set hug _ _, hB1.set _ _⟩)
set_option maxHeartbeats 2000000 in
theorem feed60fn (u g : Nat) (sh c : Int) (l : List Int) (w : World) (hc0 : 0 ≤ c) (hc1 : c < 256) (h0 : 0 ≤ sh) (h1 : sh < 256)
    (hU : U16At w u false ⟨sh, -1⟩) (hug : u < g) (h : OutAt w g l) (hl : (l.length + 2) * 4 ≤ 140737488355328) :
    Calls Try.prog 60 #[.pointer (some ⟨u, 0, none⟩), .int .u8 c, .func (.func 21) #[] #[.pointer (some ⟨g, 0, none⟩)]] w fun e w' =>
      e = .returned (.tuple #[]) ∧ U16At w' u false (U16.step false ⟨sh, -1⟩ c).1 ∧ OutAt w' g (l ++ (U16.step false ⟨sh, -1⟩ c).2) ∧ But u g w w' := by
  have hC := blk_cells hU
  have hF := blk_free hU
  have hor : bits .or .i32 sh (c * 256) = c * 256 + sh := i32_or8' c sh hc0 hc1 h0 h1
  obtain ⟨x, hx, hx0, hx1⟩ : ∃ x, c * 256 + sh = x ∧ 0 ≤ x ∧ x < 65536 := ⟨_, rfl, by omega, by omega⟩
  have hun : U16.unit false ⟨sh, -1⟩ c = x := by rw [← hx]; simp only [U16.unit, Bool.false_eq_true, if_false]; omega
  rw [hx] at hor
  clear hx
  have O := fun (r : Int) => out21 g r l _ (h.set hug 1 (.int .i64 (-1))) (by omega)
  have hU0 : U16At (w.setCell ⟨u, 1, none⟩ (.int .i64 (-1))) u false ⟨-1, -1⟩ := set_blk hU _
  have hB0 := (But.refl u g w).set 1 (.int .i64 (-1))
  obtain ⟨o, ho⟩ : ∃ o, o = U16.step false ⟨sh, -1⟩ c := ⟨_, rfl⟩
  rw [← ho]
  rw [U16.step, if_neg (by show ¬ sh < 0; omega), if_neg (by show ¬ (0 : Int) ≤ -1; decide), hun] at ho
  clear hun
  go_enter Try.func60, Try.ntmps60
  go_wp2_with (go_at_call 21; (with_reducible refine (O _).mono ?_); rintro e w1 ⟨rfl, hO1, hb1⟩; have hU1 := (hb1.block u hug).trans hU0; have hB1 := hB0.trans (But.of (u := u) hb1))
  all_goals go_end0
  all_goals subst ho
  all_goals rw [U16.fresh]
  all_goals first
    | (rw [if_pos (by omega)]; exact ⟨rfl, hU1, hO1, hB1⟩)
    | (rw [if_neg (by omega), if_neg (by omega)]; exact ⟨rfl, hU1, hO1, hB1⟩)
    | (rw [if_neg (by omega), if_pos (by omega), List.append_nil]; exact ⟨rfl, set_blk hU0 _, (h.set hug _ _).set hug _ _, hB0.set _ _⟩)
theorem feed60 (u g : Nat) (big : Bool) (s : U16) (c : Int) (l : List Int) (w : World) (hc0 : 0 ≤ c) (hc1 : c < 256) (hs : s.ok) (hU : U16At w u big s) (hug : u < g) (h : OutAt w g l) (hl : (l.length + 2) * 4 ≤ 140737488355328) :
    Calls Try.prog 60 #[.pointer (some ⟨u, 0, none⟩), .int .u8 c, .func (.func 21) #[] #[.pointer (some ⟨g, 0, none⟩)]] w fun e w' =>
      e = .returned (.tuple #[]) ∧ U16At w' u big (s.step big c).1 ∧ OutAt w' g (l ++ (s.step big c).2) ∧ But u g w w' := by
  obtain ⟨sh, sl⟩ := s
  obtain ⟨h1, h2⟩ : (sh = -1 ∨ 0 ≤ sh ∧ sh < 256) ∧ (sl = -1 ∨ 55296 ≤ sl ∧ sl ≤ 56319) := hs
  rcases h1 with h1 | ⟨h1, h3⟩
  · have := feed60a u g big ⟨sh, sl⟩ c l w hc0 hc1 (by show sh < 0; omega) hU hug h
    rw [U16.step, if_pos (by show sh < 0; omega), List.append_nil]
    exact this
  · rcases h2 with rfl | ⟨h2, h4⟩ <;> cases big
    · exact feed60fn u g sh c l w hc0 hc1 h1 h3 hU hug h hl
    · exact feed60tn u g sh c l w hc0 hc1 h1 h3 hU hug h hl
    · exact feed60fl u g sh sl c l w hc0 hc1 h1 h3 h2 h4 hU hug h hl
    · exact feed60tl u g sh sl c l w hc0 hc1 h1 h3 h2 h4 hU hug h hl
theorem end59 (u g : Nat) (big : Bool) (s : U16) (l : List Int) (w : World) (hU : U16At w u big s) (hug : u < g) (h : OutAt w g l) (hl : (l.length + 1) * 4 ≤ 140737488355328) :
    Calls Try.prog 59 #[.pointer (some ⟨u, 0, none⟩), .func (.func 22) #[] #[.pointer (some ⟨g, 0, none⟩)]] w fun e w' =>
      e = .returned (.tuple #[]) ∧ OutAt w' g (l ++ s.fin) ∧ But u g w w' := by
  obtain ⟨sh, sl⟩ := s
  have hC := blk_cells hU
  have hF := blk_free hU
  have hgw := h.lt
  have O := out22 g 65533 l w h hl
  obtain ⟨o, ho⟩ : ∃ o, o = U16.fin ⟨sh, sl⟩ := ⟨_, rfl⟩
  rw [← ho]
  have HO := Go.Lib.hid (show o = if 0 ≤ sh ∨ 0 ≤ sl then [65533] else [] from ho)
  clear ho
  go_enter Try.func59, Try.ntmps59
  go_wp2_with (go_at_call 22; (with_reducible refine O.mono ?_); rintro e w1 ⟨rfl, hO1, hb1⟩; have hU1 := (hb1.block u hug).trans hU; have hC1 := blk_cells hU1; have hF1 := blk_free hU1; have hB1 := But.of (u := u) hb1)
  all_goals go_end0
  all_goals first
    | (rw [HO.out, if_pos (by omega)]; exact ⟨rfl, (hO1.set hug _ _).set hug _ _, (hB1.set _ _).set _ _⟩)
    | (rw [HO.out, if_neg (by omega), List.append_nil]; exact ⟨rfl, (h.set hug _ _).set hug _ _, ((But.refl u g w).set _ _).set _ _⟩)
end Go.Proofs.Ytmfifaigphnbmaa
