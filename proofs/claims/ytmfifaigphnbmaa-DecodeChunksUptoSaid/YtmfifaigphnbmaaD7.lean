/- The coder of single bytes: the upper halves, one byte, the end. Printed by gen7.py. -/
import Derived.Test.YtmfifaigphnbmaaD2
namespace Go.Proofs.Ytmfifaigphnbmaa
open Go.RowKit
theorem user31 (c : Int) (w : World) (hc0 : 128 ≤ c) (hc1 : c < 256) : Calls Try.prog 31 #[.int .u8 c] w fun e w' => e = .returned (.int .i32 (upU c)) ∧ Below w.heap.size w w' := by
  go_enter Try.func31, Try.ntmps31
  go_wp2
  go_ret
  exact ⟨rfl, Below.refl _ _⟩
theorem cyr30 (c : Int) (w : World) (hc0 : 128 ≤ c) (hc1 : c < 256) : Calls Try.prog 30 #[.int .u8 c] w fun e w' => e = .returned (.int .i32 (upC c)) ∧ Below w.heap.size w w' := by
  go_enter Try.func30, Try.ntmps30
  go_wp2
  all_goals go_ret
  all_goals refine ⟨ret_int ?_, Below.refl _ _⟩
  all_goals (try simp only [beq_iff_eq, bne_iff_ne, beq_eq_false_iff_ne, bne_eq_false_iff_eq, ne_eq] at *)
  all_goals (unfold upC; repeat' split)
  all_goals omega
def latV : Array Value := (latinUp.map (Value.int .i32)).toArray
def winV : Array Value := (windowsUp.map (Value.int .i32)).toArray
set_option maxRecDepth 100000 in
theorem latin35 (w : World) : Calls Try.prog 35 #[] w fun e w' => e = .returned (.agg latV) ∧ w' = w.alloc (.cells latV 75) := by
  go_enter Try.func35, Try.ntmps35
  go_wp2_with (first
    | (with_reducible refine step_alloc (o := ⟨some 0, .alloc 75, _, _, _, _⟩) rfl 75 rfl (Array.replicate 27 (.int .i32 0)) ?h1 ?_)
    | (with_reducible refine step_build (o := ⟨some 1, .build 75 _, _, _, _, _⟩) rfl 75 _ rfl latV ?h2 ?_)
    | (with_reducible refine step_store_new (o := ⟨none, .store 75 _ _, _, _, _, _⟩) rfl 75 _ _ rfl (Array.replicate 27 (.int .i32 0)) latV ?h3 ?h4 ?h5 ?h6 ?h7 ?_))
  case h1 => as_aux_lemma => kernel_rfl
  case h2 => as_aux_lemma => kernel_rfl
  case h5 => as_aux_lemma => kernel_rfl
  case h6 => as_aux_lemma => kernel_rfl
  case h7 =>
    intro v hv
    obtain ⟨s, _, rfl⟩ : ∃ s, s ∈ latinUp ∧ Value.int .i32 s = v := by simpa [latV] using hv
    rfl
  exact bodyPost_ret (results_cell_row rfl _ _ w.heap.size 75 latV (0, 0) (.array 27 21) rfl (heap_alloc_new _ _) Try.underlying75 rfl (by as_aux_lemma => kernel_rfl)) rfl ⟨rfl, rfl⟩
theorem lat_at (c : Int) (h1 : 164 ≤ c) (h2 : c ≤ 190) (w : World) : (Instr.index 75 (.agg latV) (.int .u8 (c - 164))).run Try.prog w = .ok (.int .i32 (latinUp.getD (c - 164).toNat 0)) w := by
  have h : c = 164 ∨ c = 165 ∨ c = 166 ∨ c = 167 ∨ c = 168 ∨ c = 169 ∨ c = 170 ∨ c = 171 ∨ c = 172 ∨ c = 173 ∨ c = 174 ∨ c = 175 ∨ c = 176 ∨ c = 177 ∨ c = 178 ∨ c = 179 ∨ c = 180 ∨ c = 181 ∨ c = 182 ∨ c = 183 ∨ c = 184 ∨ c = 185 ∨ c = 186 ∨ c = 187 ∨ c = 188 ∨ c = 189 ∨ c = 190 := by omega
  rcases h with rfl | rfl | rfl | rfl | rfl | rfl | rfl | rfl | rfl | rfl | rfl | rfl | rfl | rfl | rfl | rfl | rfl | rfl | rfl | rfl | rfl | rfl | rfl | rfl | rfl | rfl | rfl
  all_goals (show (Instr.index _ _ _).run _ _ = _; kernel_rfl)
theorem latin29 (c : Int) (w : World) (hc0 : 128 ≤ c) (hc1 : c < 256) : Calls Try.prog 29 #[.int .u8 c] w fun e w' => e = .returned (.int .i32 (upL c)) ∧ Below w.heap.size w w' := by
  by_cases hr : 164 ≤ c ∧ c ≤ 190
  · obtain ⟨h1, h2⟩ := hr
    have hix := lat_at c h1 h2
    obtain ⟨x, hx⟩ : ∃ x, latinUp.getD (c - 164).toNat 0 = x := ⟨_, rfl⟩
    have hU : upL c = if x = 0 then c else x := by unfold upL; rw [if_pos ⟨h1, h2⟩, hx]
    rw [hx] at hix
    rw [hU]
    clear hU hx
    by_cases hx0 : x = 0
    · rw [if_pos hx0]
      subst hx0
      go_enter Try.func29, Try.ntmps29
      go_wp2_with (go_at_call 35; (with_reducible refine (latin35 _).mono ?_); rintro e w1 ⟨rfl, rfl⟩)
      go_ret
      exact ⟨rfl, bal (Below.refl _ _) _⟩
    · rw [if_neg hx0]
      have hx1 : (x != 0) = true := by rw [bne_iff_ne]; exact hx0
      go_enter Try.func29, Try.ntmps29
      go_wp2_with (go_at_call 35; (with_reducible refine (latin35 _).mono ?_); rintro e w1 ⟨rfl, rfl⟩)
      go_ret
      exact ⟨rfl, bal (Below.refl _ _) _⟩
  · have hU : upL c = c := by unfold upL; rw [if_neg hr]
    rw [hU]
    go_enter Try.func29, Try.ntmps29
    go_wp2_with (go_at_call 35; (with_reducible refine (latin35 _).mono ?_); rintro e w1 ⟨rfl, rfl⟩)
    all_goals first
      | (exfalso; omega)
      | (go_ret; exact ⟨rfl, Below.refl _ _⟩)
theorem win_at (n : Nat) (h : n < 32) : winV[n]? = some (.int .i32 (windowsUp.getD n 0)) := by
  have hn : n < windowsUp.length := h
  simp [winV, hn]
theorem winV_size : (Try.prog.info? 74).map (·.size) = some winV.size := by kernel_rfl
theorem winV_len : (Array.replicate 32 (Value.int .i32 0)).size = winV.size := by kernel_rfl
set_option maxRecDepth 100000 in
theorem windows28 (c : Int) (w : World) (hc0 : 128 ≤ c) (hc1 : c < 256) : Calls Try.prog 28 #[.int .u8 c] w fun e w' => e = .returned (.int .i32 (upW c)) ∧ Below w.heap.size w w' := by
  obtain ⟨x, hx⟩ : ∃ x, windowsUp.getD (c - 128).toNat 0 = x := ⟨_, rfl⟩
  have hU : upW c = if c < 160 then x else c := by unfold upW; rw [hx]
  have hcc : c < 160 → (w.alloc (.cells winV 74)).cell? ⟨w.heap.size, (c - 128).toNat, none⟩ = some (.int .i32 x) := fun h => by
    rw [blk_cells (at_new w _ _ rfl), win_at _ (by omega), hx]
  rw [hU]
  clear hU hx
  by_cases hr : c < 160
  · rw [if_pos hr]
    have hc2 := hcc hr
    clear hcc
    go_enter Try.func28, Try.ntmps28
    go_wp2_with (first
      | (with_reducible refine step_build (o := ⟨some 4, .build 74 _, _, _, _, _⟩) rfl 74 _ rfl winV ?h2 ?_)
      | (with_reducible refine step_alloc (o := ⟨some 3, .alloc 74, _, _, _, _⟩) rfl 74 rfl (Array.replicate 32 (.int .i32 0)) ?h1 ?_)
      | (with_reducible refine step_store_new (o := ⟨none, .store 74 _ _, _, _, _, _⟩) rfl 74 _ _ rfl (Array.replicate 32 (.int .i32 0)) winV ?h3 ?h4 winV_size winV_len ?h7 ?_))
    case h1 => as_aux_lemma => kernel_rfl
    case h2 => as_aux_lemma => kernel_rfl
    case h7 =>
      intro v hv
      obtain ⟨s, _, rfl⟩ : ∃ s, s ∈ windowsUp ∧ Value.int .i32 s = v := by simpa [winV] using hv
      rfl
    go_ret
    exact ⟨rfl, bal (Below.refl _ _) _⟩
  · rw [if_neg hr]
    clear hcc
    go_enter Try.func28, Try.ntmps28
    go_wp2_with (first
      | (with_reducible refine step_build (o := ⟨some 4, .build 74 _, _, _, _, _⟩) rfl 74 _ rfl winV ?h2 ?_)
      | (with_reducible refine step_alloc (o := ⟨some 3, .alloc 74, _, _, _, _⟩) rfl 74 rfl (Array.replicate 32 (.int .i32 0)) ?h1 ?_)
      | (with_reducible refine step_store_new (o := ⟨none, .store 74 _ _, _, _, _, _⟩) rfl 74 _ _ rfl (Array.replicate 32 (.int .i32 0)) winV ?h3 ?h4 winV_size winV_len ?h7 ?_))
    case h1 => as_aux_lemma => kernel_rfl
    case h2 => as_aux_lemma => kernel_rfl
    case h7 =>
      intro v hv
      obtain ⟨s, _, rfl⟩ : ∃ s, s ∈ windowsUp ∧ Value.int .i32 s = v := by simpa [winV] using hv
      rfl
    go_ret
    exact ⟨rfl, bal (Below.refl _ _) _⟩
theorem feed62_28 (g : Nat) (c : Int) (l : List Int) (w : World) (hc0 : 0 ≤ c) (hc1 : c < 256) (h : OutAt w g l) (hl : (l.length + 1) * 4 ≤ 140737488355328) :
    Calls Try.prog 62 #[.agg #[.func (.func 28) #[] #[]], .int .u8 c, .func (.func 21) #[] #[.pointer (some ⟨g, 0, none⟩)]] w fun e w' =>
      e = .returned (.tuple #[]) ∧ OutAt w' g (l ++ [one upW c]) ∧ Below g w w' := by
  have hgw := h.lt
  unfold one
  have h1 := h.alloc (.cells #[.func (.func 28) #[] #[]] 69)
  by_cases hr : c < 128
  · rw [if_pos hr]
    have O := fun (r : Int) => out21 g r l _ h1 hl
    go_enter Try.func62, Try.ntmps62
    go_wp2_with (go_at_call 21; (with_reducible refine (O _).mono ?_); rintro e w1 ⟨rfl, hO1, hb1⟩)
    refine bodyPost_ret (results_none rfl _ _ _) rfl ?_
    exact ⟨rfl, hO1, ((Below.refl g w).alloc (Nat.le_of_lt hgw) _).trans hb1⟩
  · rw [if_neg hr]
    have O := fun (r : Int) (w1 : World) (hw : OutAt w1 g l) => out21 g r l w1 hw hl
    go_enter Try.func62, Try.ntmps62
    go_wp2_with (first
      | (go_at_call 28; (with_reducible refine (windows28 _ _ (by omega) hc1).mono ?_); rintro e w1 ⟨rfl, hb1⟩; have h2 := h1.below hb1)
      | (go_at_call 21; (with_reducible refine (O _ _ h2).mono ?_); rintro e w2 ⟨rfl, hO2, hb2⟩))
    go_end0
    exact ⟨rfl, hO2, (((Below.refl g w).alloc (Nat.le_of_lt hgw) _).trans (hb1.mono (by simp; omega))).trans hb2⟩
theorem feed62_29 (g : Nat) (c : Int) (l : List Int) (w : World) (hc0 : 0 ≤ c) (hc1 : c < 256) (h : OutAt w g l) (hl : (l.length + 1) * 4 ≤ 140737488355328) :
    Calls Try.prog 62 #[.agg #[.func (.func 29) #[] #[]], .int .u8 c, .func (.func 21) #[] #[.pointer (some ⟨g, 0, none⟩)]] w fun e w' =>
      e = .returned (.tuple #[]) ∧ OutAt w' g (l ++ [one upL c]) ∧ Below g w w' := by
  have hgw := h.lt
  unfold one
  have h1 := h.alloc (.cells #[.func (.func 29) #[] #[]] 69)
  by_cases hr : c < 128
  · rw [if_pos hr]
    have O := fun (r : Int) => out21 g r l _ h1 hl
    go_enter Try.func62, Try.ntmps62
    go_wp2_with (go_at_call 21; (with_reducible refine (O _).mono ?_); rintro e w1 ⟨rfl, hO1, hb1⟩)
    refine bodyPost_ret (results_none rfl _ _ _) rfl ?_
    exact ⟨rfl, hO1, ((Below.refl g w).alloc (Nat.le_of_lt hgw) _).trans hb1⟩
  · rw [if_neg hr]
    have O := fun (r : Int) (w1 : World) (hw : OutAt w1 g l) => out21 g r l w1 hw hl
    go_enter Try.func62, Try.ntmps62
    go_wp2_with (first
      | (go_at_call 29; (with_reducible refine (latin29 _ _ (by omega) hc1).mono ?_); rintro e w1 ⟨rfl, hb1⟩; have h2 := h1.below hb1)
      | (go_at_call 21; (with_reducible refine (O _ _ h2).mono ?_); rintro e w2 ⟨rfl, hO2, hb2⟩))
    go_end0
    exact ⟨rfl, hO2, (((Below.refl g w).alloc (Nat.le_of_lt hgw) _).trans (hb1.mono (by simp; omega))).trans hb2⟩
theorem feed62_30 (g : Nat) (c : Int) (l : List Int) (w : World) (hc0 : 0 ≤ c) (hc1 : c < 256) (h : OutAt w g l) (hl : (l.length + 1) * 4 ≤ 140737488355328) :
    Calls Try.prog 62 #[.agg #[.func (.func 30) #[] #[]], .int .u8 c, .func (.func 21) #[] #[.pointer (some ⟨g, 0, none⟩)]] w fun e w' =>
      e = .returned (.tuple #[]) ∧ OutAt w' g (l ++ [one upC c]) ∧ Below g w w' := by
  have hgw := h.lt
  unfold one
  have h1 := h.alloc (.cells #[.func (.func 30) #[] #[]] 69)
  by_cases hr : c < 128
  · rw [if_pos hr]
    have O := fun (r : Int) => out21 g r l _ h1 hl
    go_enter Try.func62, Try.ntmps62
    go_wp2_with (go_at_call 21; (with_reducible refine (O _).mono ?_); rintro e w1 ⟨rfl, hO1, hb1⟩)
    refine bodyPost_ret (results_none rfl _ _ _) rfl ?_
    exact ⟨rfl, hO1, ((Below.refl g w).alloc (Nat.le_of_lt hgw) _).trans hb1⟩
  · rw [if_neg hr]
    have O := fun (r : Int) (w1 : World) (hw : OutAt w1 g l) => out21 g r l w1 hw hl
    go_enter Try.func62, Try.ntmps62
    go_wp2_with (first
      | (go_at_call 30; (with_reducible refine (cyr30 _ _ (by omega) hc1).mono ?_); rintro e w1 ⟨rfl, hb1⟩; have h2 := h1.below hb1)
      | (go_at_call 21; (with_reducible refine (O _ _ h2).mono ?_); rintro e w2 ⟨rfl, hO2, hb2⟩))
    go_end0
    exact ⟨rfl, hO2, (((Below.refl g w).alloc (Nat.le_of_lt hgw) _).trans (hb1.mono (by simp; omega))).trans hb2⟩
theorem feed62_31 (g : Nat) (c : Int) (l : List Int) (w : World) (hc0 : 0 ≤ c) (hc1 : c < 256) (h : OutAt w g l) (hl : (l.length + 1) * 4 ≤ 140737488355328) :
    Calls Try.prog 62 #[.agg #[.func (.func 31) #[] #[]], .int .u8 c, .func (.func 21) #[] #[.pointer (some ⟨g, 0, none⟩)]] w fun e w' =>
      e = .returned (.tuple #[]) ∧ OutAt w' g (l ++ [one upU c]) ∧ Below g w w' := by
  have hgw := h.lt
  unfold one
  have h1 := h.alloc (.cells #[.func (.func 31) #[] #[]] 69)
  by_cases hr : c < 128
  · rw [if_pos hr]
    have O := fun (r : Int) => out21 g r l _ h1 hl
    go_enter Try.func62, Try.ntmps62
    go_wp2_with (go_at_call 21; (with_reducible refine (O _).mono ?_); rintro e w1 ⟨rfl, hO1, hb1⟩)
    refine bodyPost_ret (results_none rfl _ _ _) rfl ?_
    exact ⟨rfl, hO1, ((Below.refl g w).alloc (Nat.le_of_lt hgw) _).trans hb1⟩
  · rw [if_neg hr]
    have O := fun (r : Int) (w1 : World) (hw : OutAt w1 g l) => out21 g r l w1 hw hl
    go_enter Try.func62, Try.ntmps62
    go_wp2_with (first
      | (go_at_call 31; (with_reducible refine (user31 _ _ (by omega) hc1).mono ?_); rintro e w1 ⟨rfl, hb1⟩; have h2 := h1.below hb1)
      | (go_at_call 21; (with_reducible refine (O _ _ h2).mono ?_); rintro e w2 ⟨rfl, hO2, hb2⟩))
    go_end0
    exact ⟨rfl, hO2, (((Below.refl g w).alloc (Nat.le_of_lt hgw) _).trans (hb1.mono (by simp; omega))).trans hb2⟩
theorem end61 (v : Value) (f : Value) (w : World) : Calls Try.prog 61 #[.agg #[v], f] w fun e w' => e = .returned (.tuple #[]) ∧ Below w.heap.size w w' := by
  go_enter Try.func61, Try.ntmps61
  go_wp2
  go_end0
  exact ⟨rfl, bal (Below.refl _ _) _⟩
end Go.Proofs.Ytmfifaigphnbmaa
