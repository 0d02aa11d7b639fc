/- The reference's encodings of single bytes. -/
import Derived.Test.YtmfifaigphnbmaaF2
namespace Go.Proofs.Ytmfifaigphnbmaa
open Go.RowKit
theorem rlatin39 (c : Int) (w : World) (hc0 : 128 ≤ c) (hc1 : c < 256) : Calls Try.prog 39 #[.int .u8 c] w fun e w' => e = .returned (.int .i32 (upL c)) ∧ w = w' := by
  have hU : ∀ x : Int, (c = 164 → x = 8364) → (c = 166 → x = 352) → (c = 168 → x = 353) → (c = 180 → x = 381) → (c = 184 → x = 382) → (c = 188 → x = 338) → (c = 189 → x = 339) → (c = 190 → x = 376) →
      (c ≠ 164 ∧ c ≠ 166 ∧ c ≠ 168 ∧ c ≠ 180 ∧ c ≠ 184 ∧ c ≠ 188 ∧ c ≠ 189 ∧ c ≠ 190 → x = c) → x = upL c := by
    intro x h1 h2 h3 h4 h5 h6 h7 h8 h9
    by_cases hr : 164 ≤ c ∧ c ≤ 190
    · obtain ⟨r1, r2⟩ := hr
      have h : c = 164 ∨ c = 165 ∨ c = 166 ∨ c = 167 ∨ c = 168 ∨ c = 169 ∨ c = 170 ∨ c = 171 ∨ c = 172 ∨ c = 173 ∨ c = 174 ∨ c = 175 ∨ c = 176 ∨ c = 177 ∨ c = 178 ∨ c = 179 ∨ c = 180 ∨ c = 181 ∨ c = 182 ∨ c = 183 ∨ c = 184 ∨ c = 185 ∨ c = 186 ∨ c = 187 ∨ c = 188 ∨ c = 189 ∨ c = 190 := by omega
      rcases h with rfl | rfl | rfl | rfl | rfl | rfl | rfl | rfl | rfl | rfl | rfl | rfl | rfl | rfl | rfl | rfl | rfl | rfl | rfl | rfl | rfl | rfl | rfl | rfl | rfl | rfl | rfl
      all_goals first
        | exact h1 rfl
        | exact h2 rfl
        | exact h3 rfl
        | exact h4 rfl
        | exact h5 rfl
        | exact h6 rfl
        | exact h7 rfl
        | exact h8 rfl
        | exact h9 (by decide)
    · rw [upL, if_neg hr]
      exact h9 (by omega)
  have HU := Go.Lib.hid hU
  clear hU
  go_enter Try.func39, Try.ntmps39
  go_wp2
  all_goals go_ret
  all_goals refine ⟨ret_int ?_, rfl⟩
  all_goals (try simp only [beq_iff_eq, beq_eq_false_iff_ne, ne_eq] at *)
  all_goals (refine HU.out _ ?_ ?_ ?_ ?_ ?_ ?_ ?_ ?_ ?_)
  all_goals first
    | (intro h; omega)
    | (intro h; exfalso; omega)
theorem rwindows38 (w : World) : Calls Try.prog 38 #[] w fun e w' => e = .returned (.slice (some ⟨w.heap.size, 0, none⟩) 32 32) ∧ w' = w.alloc (.cells winV 21) := by
  go_enter Try.func38, Try.ntmps38
  go_wp2
  go_ret
  exact ⟨rfl, rfl⟩
theorem single34_3 (c : Int) (w : World) (hc0 : 0 ≤ c) (hc1 : c < 256) : Calls Try.prog 34 #[.int .i64 3, .int .u8 c] w fun e w' => e = .returned (.int .i32 (one upW c)) ∧ Below w.heap.size w w' := by
  unfold one
  by_cases h : c < 128
  · rw [if_pos h]
    go_enter Try.func34, Try.ntmps34
    go_wp2
    go_ret
    exact ⟨rfl, Below.refl _ _⟩
  rw [if_neg h]
  obtain ⟨x, hx⟩ : ∃ x, windowsUp.getD (c - 128).toNat 0 = x := ⟨_, rfl⟩
  have hU : upW c = if c < 160 then x else c := by unfold upW; rw [hx]
  have hcc : c < 160 → (w.alloc (.cells winV 21)).cell? ⟨w.heap.size, (c - 128).toNat, none⟩ = some (.int .i32 x) := fun h => by
    rw [blk_cells (at_new w _ _ rfl), win_at _ (by omega), hx]
  rw [hU]
  clear hU hx
  by_cases hr : c < 160
  · rw [if_pos hr]
    have hc2 := hcc hr
    have h32 : (c - 128).toNat < 32 := by omega
    clear hcc
    go_enter Try.func34, Try.ntmps34
    go_wp2_with (go_at_call 38; (with_reducible refine (rwindows38 _).mono ?_); rintro e w1 ⟨rfl, rfl⟩)
    go_ret
    exact ⟨rfl, bal (Below.refl _ _) _⟩
  · rw [if_neg hr]
    clear hcc
    go_enter Try.func34, Try.ntmps34
    go_wp2
    go_ret
    exact ⟨rfl, Below.refl _ _⟩
theorem single34_4 (c : Int) (w : World) (hc0 : 0 ≤ c) (hc1 : c < 256) : Calls Try.prog 34 #[.int .i64 4, .int .u8 c] w fun e w' => e = .returned (.int .i32 (one upL c)) ∧ Below w.heap.size w w' := by
  unfold one
  by_cases h : c < 128
  · rw [if_pos h]
    go_enter Try.func34, Try.ntmps34
    go_wp2
    go_ret
    exact ⟨rfl, Below.refl _ _⟩
  · rw [if_neg h]
    have L := rlatin39 c w (by omega) hc1
    go_enter Try.func34, Try.ntmps34
    go_wp2_with (go_at_call 39; (with_reducible refine L.mono ?_); rintro e w1 ⟨rfl, rfl⟩)
    go_ret
    exact ⟨rfl, Below.refl _ _⟩
theorem single34_6 (c : Int) (w : World) (hc0 : 0 ≤ c) (hc1 : c < 256) : Calls Try.prog 34 #[.int .i64 6, .int .u8 c] w fun e w' => e = .returned (.int .i32 (one upU c)) ∧ Below w.heap.size w w' := by
  unfold one
  by_cases h : c < 128
  · rw [if_pos h]
    go_enter Try.func34, Try.ntmps34
    go_wp2
    go_ret
    exact ⟨rfl, Below.refl _ _⟩
  · rw [if_neg h]
    go_enter Try.func34, Try.ntmps34
    go_wp2
    go_ret
    exact ⟨rfl, Below.refl _ _⟩
theorem single34_5 (c : Int) (w : World) (hc0 : 0 ≤ c) (hc1 : c < 256) : Calls Try.prog 34 #[.int .i64 5, .int .u8 c] w fun e w' => e = .returned (.int .i32 (one upC c)) ∧ Below w.heap.size w w' := by
  unfold one
  by_cases h : c < 128
  · rw [if_pos h]
    go_enter Try.func34, Try.ntmps34
    go_wp2
    go_ret
    exact ⟨rfl, Below.refl _ _⟩
  · rw [if_neg h]
    obtain ⟨x, hx⟩ : ∃ x, upC c = x := ⟨_, rfl⟩
    rw [hx]
    have HX := Go.Lib.hid hx
    clear hx
    go_enter Try.func34, Try.ntmps34
    go_wp2
    all_goals go_ret
    all_goals (have hx := HX.out; clear HX; (try simp only [beq_iff_eq, beq_eq_false_iff_ne, ne_eq] at *); refine ⟨ret_int ?_, Below.refl _ _⟩; rw [← hx]; unfold upC; repeat' split)
    all_goals omega
end Go.Proofs.Ytmfifaigphnbmaa
