/- The reference's print of an act. Printed by genS5.py. -/
import Derived.Test.YtghhidaihajdmaaDoorS4
namespace Go.Proofs.YtghhidaihajdmaaDoor
open Go.RowKit
theorem place17p (n : Int) (h0 : -9223372036854775808 ≤ n) (h1 : n ≤ 9223372036854775807) (w : World) : Calls Tryd.prog 17 #[.int .i64 n] w fun e w' => e = .returned (.tuple #[.string (if inP n then mkS (numL n) else ⟨#[]⟩), .bool (inP n)]) ∧ Below w.heap.size w w' := by
  have h := place17 n h0 h1 w
  have e : decide (-1 ≤ n ∧ n ≤ 99999) = inP n := by unfold inP; simp
  refine h.mono ?_
  rintro e w' ⟨rfl, hb⟩
  refine ⟨?_, hb⟩
  rw [e]
  by_cases hp : -1 ≤ n ∧ n ≤ 99999
  · rw [if_pos hp, if_pos (by rw [← e]; exact decide_eq_true hp)]
  · rw [if_neg hp, if_neg (by rw [← e]; simp only [hp]; decide)]
set_option maxRecDepth 100000 in
set_option maxHeartbeats 8000000 in
theorem print7 (k a b c : Int) (t m : ByteArray) (w : World) (hk0 : -9223372036854775808 ≤ k) (hk1 : k ≤ 9223372036854775807) (ha0 : -9223372036854775808 ≤ a) (ha1 : a ≤ 9223372036854775807) (hq0 : -9223372036854775808 ≤ b) (hq1 : b ≤ 9223372036854775807) (hc0 : -9223372036854775808 ≤ c) (hc1 : c ≤ 9223372036854775807) : Calls Tryd.prog 7 #[.agg #[.int .i64 k, .int .i64 a, .int .i64 b, .int .i64 c, .string t, .string m]] w fun e w' => e = .returned (.tuple #[.string (mkS (printL k a b c t.data.toList m.data.toList).1), .int .i64 (printL k a b c t.data.toList m.data.toList).2]) ∧ Below w.heap.size w w' := by
  have hb0 : Below w.heap.size w (w.alloc (.cells #[.int .i64 k, .int .i64 a, .int .i64 b, .int .i64 c, .string t, .string m] 23)) := (Below.refl _ w).alloc (Nat.le_refl _) _
  have hcs := blk_cells (at_new w (.cells #[.int .i64 k, .int .i64 a, .int .i64 b, .int .i64 c, .string t, .string m] 23) _ rfl)
  have c0 : (w.alloc (.cells #[.int .i64 k, .int .i64 a, .int .i64 b, .int .i64 c, .string t, .string m] 23)).cell? ⟨w.heap.size, 0, none⟩ = some (.int .i64 k) := hcs 0
  have c1 : (w.alloc (.cells #[.int .i64 k, .int .i64 a, .int .i64 b, .int .i64 c, .string t, .string m] 23)).cell? ⟨w.heap.size, 1, none⟩ = some (.int .i64 a) := hcs 1
  have c2 : (w.alloc (.cells #[.int .i64 k, .int .i64 a, .int .i64 b, .int .i64 c, .string t, .string m] 23)).cell? ⟨w.heap.size, 2, none⟩ = some (.int .i64 b) := hcs 2
  have c3 : (w.alloc (.cells #[.int .i64 k, .int .i64 a, .int .i64 b, .int .i64 c, .string t, .string m] 23)).cell? ⟨w.heap.size, 3, none⟩ = some (.int .i64 c) := hcs 3
  have c4 : (w.alloc (.cells #[.int .i64 k, .int .i64 a, .int .i64 b, .int .i64 c, .string t, .string m] 23)).cell? ⟨w.heap.size, 4, none⟩ = some (.string t) := hcs 4
  have c5 : (w.alloc (.cells #[.int .i64 k, .int .i64 a, .int .i64 b, .int .i64 c, .string t, .string m] 23)).cell? ⟨w.heap.size, 5, none⟩ = some (.string m) := hcs 5
  clear hcs
  obtain ⟨R, hR⟩ : ∃ R, R = printL k a b c t.data.toList m.data.toList := ⟨_, rfl⟩
  rw [← hR]
  have HR := Go.Lib.hid hR
  clear hR
  obtain ⟨sa, hsa⟩ : ∃ s : ByteArray, s = if inP a then mkS (numL a) else ⟨#[]⟩ := ⟨_, rfl⟩
  obtain ⟨pa, hpa⟩ : ∃ p, p = inP a := ⟨_, rfl⟩
  have P1 : ∀ W, Calls Tryd.prog 17 #[.int .i64 a] W fun e w' => e = .returned (.tuple #[.string sa, .bool pa]) ∧ Below W.heap.size W w' := fun W => by rw [hsa, hpa]; exact place17p a ha0 ha1 W
  obtain ⟨sb, hsb⟩ : ∃ s : ByteArray, s = if inP b then mkS (numL b) else ⟨#[]⟩ := ⟨_, rfl⟩
  obtain ⟨pb, hpb⟩ : ∃ p, p = inP b := ⟨_, rfl⟩
  have P2 : ∀ W, Calls Tryd.prog 17 #[.int .i64 b] W fun e w' => e = .returned (.tuple #[.string sb, .bool pb]) ∧ Below W.heap.size W w' := fun W => by rw [hsb, hpb]; exact place17p b hq0 hq1 W
  obtain ⟨sc, hsc⟩ : ∃ s : ByteArray, s = if inP c then mkS (numL c) else ⟨#[]⟩ := ⟨_, rfl⟩
  obtain ⟨pc, hpc⟩ : ∃ p, p = inP c := ⟨_, rfl⟩
  have P3 : ∀ W, Calls Tryd.prog 17 #[.int .i64 c] W fun e w' => e = .returned (.tuple #[.string sc, .bool pc]) ∧ Below W.heap.size W w' := fun W => by rw [hsc, hpc]; exact place17p c hc0 hc1 W
  have hgs := hb0.size
  have hcase : (k < 0 ∨ (0 ≤ k ∧ 11 < k) ∨ (0 ≤ k ∧ k ≤ 11 ∧ inP a = false) ∨ (0 ≤ k ∧ k ≤ 11 ∧ inP a = true ∧ inP b = false) ∨ (0 ≤ k ∧ k ≤ 11 ∧ inP a = true ∧ inP b = true ∧ inP c = false)) ∨ (0 ≤ k ∧ k ≤ 11 ∧ inP a = true ∧ inP b = true ∧ inP c = true) := by
    cases inP a <;> cases inP b <;> cases inP c <;> simp <;> omega
  rcases hcase with hbad | ⟨hk, hk11, hia, hib, hic⟩
  · have hRF : R = ([], 4) := by
      rw [HR.out, printL, if_pos]
      intro h
      have h3 := h.2.2
      simp [allP] at h3
      rcases hbad with hx | ⟨_, hx⟩ | ⟨_, _, hx⟩ | ⟨_, _, _, hx⟩ | ⟨_, _, _, _, hx⟩
      · omega
      · omega
      · rw [hx] at h3; simp at h3
      · rw [hx] at h3; simp at h3
      · rw [hx] at h3; simp at h3
    have HRF := Go.Lib.hid hRF
    clear hRF
    rw [← hpa, ← hpb, ← hpc] at hbad
    clear hpa hpb hpc hsa hsb hsc
    rcases hbad with hx | ⟨hk, hx⟩ | ⟨hk, hk11, hx⟩ | ⟨hk, hk11, hia, hx⟩ | ⟨hk, hk11, hia, hib, hx⟩
    all_goals
      go_enter Tryd.func7, Tryd.ntmps7
      go_wp2_with fail
      generalize w.alloc (.cells #[.int .i64 k, .int .i64 a, .int .i64 b, .int .i64 c, .string t, .string m] 23) = W1 at *
      generalize hg : w.heap.size = g at *
      refine (P1 _).mono ?_
      rintro e w2 ⟨rfl, hb2⟩
      have d2 := bcl hb2 c2
      go_wp2_with fail
      refine (P2 _).mono ?_
      rintro e w3 ⟨rfl, hb3⟩
      have hb13 := btr hb2 hb3
      have d3 := bcl hb13 c3
      go_wp2_with fail
      refine (P3 _).mono ?_
      rintro e wr ⟨rfl, hb4⟩
      have hbw1 := btr hb13 hb4
      have d0 := bcl hbw1 c0
      have d4 := bcl hbw1 c4
      have d5 := bcl hbw1 c5
      have HB := hb0.trans (hbw1.mono hgs)
      clear P1 P2 P3 hb2 hb3 hb4 hb13 d2 d3 c0 c1 c2 c3 c4 c5
      go_wp2_with fail
      all_goals go_wp2
      all_goals go_ret2
      all_goals exact ⟨by rw [HRF.out]; rfl, by first | exact HB | (rw [hg]; exact HB)⟩
  · obtain ⟨K, rfl⟩ : ∃ K : Nat, k = K := ⟨k.toNat, by omega⟩
    rw [if_pos hia] at hsa
    rw [if_pos hib] at hsb
    rw [if_pos hic] at hsc
    rw [hia] at hpa
    rw [hib] at hpb
    rw [hic] at hpc
    subst hpa hpb hpc
    have HSA := Go.Lib.hid hsa
    have HSB := Go.Lib.hid hsb
    have HSC := Go.Lib.hid hsc
    clear hsa hsb hsc
    have hall : allP [a, b, c] = true := by simp [allP, hia, hib, hic]
    by_cases hlen : 65536 < t.size ∨ 65536 < m.size
    · have hRF : R = ([], 2) := by rw [HR.out, printL, if_neg (by simp [hk, hall]; omega), if_pos (by rw [dlen, dlen]; exact hlen)]
      have HRF := Go.Lib.hid hRF
      clear hRF
      have hx : 65536 < t.size ∨ (¬ 65536 < t.size ∧ 65536 < m.size) := by omega
      rcases hx with hx | ⟨hx, hy⟩
      all_goals
        go_enter Tryd.func7, Tryd.ntmps7
        go_wp2_with fail
        generalize w.alloc (.cells #[.int .i64 K, .int .i64 a, .int .i64 b, .int .i64 c, .string t, .string m] 23) = W1 at *
        generalize hg : w.heap.size = g at *
        refine (P1 _).mono ?_
        rintro e w2 ⟨rfl, hb2⟩
        have d2 := bcl hb2 c2
        go_wp2_with fail
        refine (P2 _).mono ?_
        rintro e w3 ⟨rfl, hb3⟩
        have hb13 := btr hb2 hb3
        have d3 := bcl hb13 c3
        go_wp2_with fail
        refine (P3 _).mono ?_
        rintro e wr ⟨rfl, hb4⟩
        have hbw1 := btr hb13 hb4
        have d0 := bcl hbw1 c0
        have d4 := bcl hbw1 c4
        have d5 := bcl hbw1 c5
        have HB := hb0.trans (hbw1.mono hgs)
        clear P1 P2 P3 hb2 hb3 hb4 hb13 d2 d3 c0 c1 c2 c3 c4 c5
        go_wp2_with fail
        all_goals go_wp2
        all_goals go_ret2
        all_goals exact ⟨by rw [HRF.out]; rfl, by first | exact HB | (rw [hg]; exact HB)⟩
    · have hx : ¬ 65536 < t.size := by omega
      have hy : ¬ 65536 < m.size := by omega
      go_enter Tryd.func7, Tryd.ntmps7
      go_wp2_with fail
      generalize w.alloc (.cells #[.int .i64 K, .int .i64 a, .int .i64 b, .int .i64 c, .string t, .string m] 23) = W1 at *
      generalize hg : w.heap.size = g at *
      refine (P1 _).mono ?_
      rintro e w2 ⟨rfl, hb2⟩
      have d2 := bcl hb2 c2
      go_wp2_with fail
      refine (P2 _).mono ?_
      rintro e w3 ⟨rfl, hb3⟩
      have hb13 := btr hb2 hb3
      have d3 := bcl hb13 c3
      go_wp2_with fail
      refine (P3 _).mono ?_
      rintro e wr ⟨rfl, hb4⟩
      have hbw1 := btr hb13 hb4
      have d0 := bcl hbw1 c0
      have d4 := bcl hbw1 c4
      have d5 := bcl hbw1 c5
      have HB := hb0.trans (hbw1.mono hgs)
      clear P1 P2 P3 hb2 hb3 hb4 hb13 d2 d3 c0 c1 c2 c3 c4 c5
      go_wp2_with fail
      have hK : K < 12 := by omega
      have hk12 : (K : Int) < 12 := by omega
      have hwd0 : Below wr.heap.size wr wr.drew := bdr (Below.refl _ wr) 1
      have hza : sa.size ≤ 6 := by rw [HSA.out]; exact numL_len a hia
      have hzb : sb.size ≤ 6 := by rw [HSB.out]; exact numL_len b hib
      have hzc : sc.size ≤ 6 := by rw [HSC.out]; exact numL_len c hic
      have HXt := fun W => digits19 t W (by omega)
      have HXm := fun W => digits19 m W (by omega)
      have N18 := names18 wr.drew
      have hline : mkS (lineL K a b c t.data.toList m.data.toList) = ⟨#[97, 99, 116, 32]⟩ ++ mkS (actNames.getD K []) ++ ⟨#[32]⟩ ++ sa ++ ⟨#[32]⟩ ++ sb ++ ⟨#[32]⟩ ++ sc ++ ⟨#[32, 61]⟩ ++ mkS (hexL t.data.toList) ++ ⟨#[32, 61]⟩ ++ mkS (hexL m.data.toList) := by
        rw [HSA.out, HSB.out, HSC.out]
        apply ByteArray.ext
        simp [mkS, lineL]
      have hsum : (lineL K a b c t.data.toList m.data.toList).length = 4 + (mkS (actNames.getD K [])).size + 1 + sa.size + 1 + sb.size + 1 + sc.size + 2 + (mkS (hexL t.data.toList)).size + 2 + (mkS (hexL m.data.toList)).size := by
        rw [HSA.out, HSB.out, HSC.out]
        simp [mkS_size, lineL]
        omega
      have hz1 : (mkS (actNames.getD K [])).size ≤ 6 := act_len K hK
      have hz3 : (mkS (hexL t.data.toList)).size ≤ 131072 := by rw [mkS_size, hexL_len, dlen]; omega
      have hz4 : (mkS (hexL m.data.toList)).size ≤ 131072 := by rw [mkS_size, hexL_len, dlen]; omega
      have hRF : R = if 65536 < (lineL K a b c t.data.toList m.data.toList).length then ([], 2) else (lineL K a b c t.data.toList m.data.toList, 0) := by
        rw [HR.out, printL, if_neg (by simp [hall]; omega), if_neg (by rw [dlen, dlen]; exact hlen)]
        rfl
      have hact : ∀ W, W = wr.drew.alloc (.cells (strs actNames) 9) → W.cell? ⟨wr.heap.size, K, none⟩ = some (.string (mkS (actNames.getD K []))) := fun W h => by rw [h]; exact act_at wr.drew K hK
      have HACT := Go.Lib.hid hact
      generalize lineL K a b c t.data.toList m.data.toList = LL at *
      generalize mkS (actNames.getD K []) = nm at *
      generalize mkS (hexL t.data.toList) = X at *
      generalize mkS (hexL m.data.toList) = Y at *
      have q1 : ¬ 9223372036854775807 < 4 + nm.size := by omega
      have q2 : ¬ 9223372036854775807 < 4 + nm.size + 1 := by omega
      have q3 : ¬ 9223372036854775807 < 4 + nm.size + 1 + sa.size := by omega
      have q4 : ¬ 9223372036854775807 < 4 + nm.size + 1 + sa.size + 1 := by omega
      have q5 : ¬ 9223372036854775807 < 4 + nm.size + 1 + sa.size + 1 + sb.size := by omega
      have q6 : ¬ 9223372036854775807 < 4 + nm.size + 1 + sa.size + 1 + sb.size + 1 := by omega
      have q7 : ¬ 9223372036854775807 < 4 + nm.size + 1 + sa.size + 1 + sb.size + 1 + sc.size := by omega
      have q8 : ¬ 9223372036854775807 < 4 + nm.size + 1 + sa.size + 1 + sb.size + 1 + sc.size + 2 := by omega
      have q9 : ¬ 9223372036854775807 < 4 + nm.size + 1 + sa.size + 1 + sb.size + 1 + sc.size + 2 + X.size := by omega
      have q10 : ¬ 9223372036854775807 < 4 + nm.size + 1 + sa.size + 1 + sb.size + 1 + sc.size + 2 + X.size + 2 := by omega
      have q11 : ¬ 9223372036854775807 < 4 + nm.size + 1 + sa.size + 1 + sb.size + 1 + sc.size + 2 + X.size + 2 + Y.size := by omega
      have HRF := Go.Lib.hid hRF
      have HLINE := Go.Lib.hid hline
      have HXt2 := Go.Lib.hid HXt
      have HXm2 := Go.Lib.hid HXm
      clear hRF hline HXt HXm hact hia hib hic hall hlen HR
      have i0 : wr.drew.cell? ⟨g, 0, none⟩ = some (.int .i64 K) := d0
      have i4 : wr.drew.cell? ⟨g, 4, none⟩ = some (.string t) := d4
      have i5 : wr.drew.cell? ⟨g, 5, none⟩ = some (.string m) := d5
      refine wp_region_held_drew (S := (fun W => W.cell? ⟨g, 0, none⟩ = some (.int .i64 K) ∧ W.cell? ⟨g, 4, none⟩ = some (.string t) ∧ W.cell? ⟨g, 5, none⟩ = some (.string m))) (by kernel_rfl) ⟨i0, i4, i5⟩ (fun hHeld => ?_)
      refine wpAnyH_take (i := 1) (v := ?_) rfl (by kernel_rfl) (by kernel_rfl) (by kernel_rfl) (fun _ _ _ h => h) (Or.inl ⟨by rfl, ?_⟩) (by assumption) ?_
      rotate_left
      · intro w hSw; (try dsimp only at hSw); (try go_simp); all_goals (with_reducible rfl)
      try simp only [Act.put, List.setIfInBounds_toArray]
      refine wpAnyH_take (i := 2) (v := ?_) rfl (by kernel_rfl) (by kernel_rfl) (by kernel_rfl) (fun _ _ _ h => h) (Or.inl ⟨by rfl, ?_⟩) (by assumption) ?_
      rotate_left
      · intro w hSw; (try dsimp only at hSw); (try go_simp); all_goals (with_reducible rfl)
      try simp only [Act.put]
      refine wpAnyH_take (i := 7) (v := ?_) rfl (by kernel_rfl) (by kernel_rfl) (by kernel_rfl) (fun _ _ _ h => h) (Or.inl ⟨by rfl, ?_⟩) (by assumption) ?_
      rotate_left
      · intro w hSw; (try dsimp only at hSw); (try go_simp); all_goals (with_reducible rfl)
      try simp only [Act.put]
      refine wpAnyH_take (i := 10) (v := ?_) rfl (by kernel_rfl) (by kernel_rfl) (by kernel_rfl) (fun _ _ _ h => h) (Or.inl ⟨by rfl, ?_⟩) (by assumption) ?_
      rotate_left
      · intro w hSw; (try dsimp only at hSw); (try go_simp); all_goals (with_reducible rfl)
      try simp only [Act.put]
      refine wpAnyH_take (i := 13) (v := ?_) rfl (by kernel_rfl) (by kernel_rfl) (by kernel_rfl) (fun _ _ _ h => h) (Or.inl ⟨by rfl, ?_⟩) (by assumption) ?_
      rotate_left
      · intro w hSw; (try dsimp only at hSw); (try go_simp); all_goals (with_reducible rfl)
      try simp only [Act.put]
      refine wpAnyH_take (i := 16) (v := ?_) rfl (by kernel_rfl) (by kernel_rfl) (by kernel_rfl) (fun _ _ _ h => h) (Or.inl ⟨by rfl, ?_⟩) (by assumption) ?_
      rotate_left
      · intro w hSw; (try dsimp only at hSw); (try go_simp); all_goals (with_reducible rfl)
      try simp only [Act.put]
      refine wpAnyH_take (i := 17) (v := ?_) rfl (by kernel_rfl) (by kernel_rfl) (by kernel_rfl) (fun _ _ _ h => h) (Or.inl ⟨by rfl, ?_⟩) (by assumption) ?_
      rotate_left
      · intro w hSw; (try dsimp only at hSw); (try go_simp); all_goals (with_reducible rfl)
      try simp only [Act.put]
      refine wpAnyH_take (i := 21) (v := ?_) rfl (by kernel_rfl) (by kernel_rfl) (by kernel_rfl) (fun _ _ _ h => h) (Or.inl ⟨by rfl, ?_⟩) (by assumption) ?_
      rotate_left
      · intro w hSw; (try dsimp only at hSw); (try go_simp); all_goals (with_reducible rfl)
      try simp only [Act.put]
      refine wpAnyH_take (i := 22) (v := ?_) rfl (by kernel_rfl) (by kernel_rfl) (by kernel_rfl) (fun _ _ _ h => h) (Or.inl ⟨by rfl, ?_⟩) (by assumption) ?_
      rotate_left
      · intro w hSw; (try dsimp only at hSw); (try go_simp); all_goals (with_reducible rfl)
      try simp only [Act.put]
      refine wpAnyH_ready (rs := [0]) (by kernel_rfl) (by simp) ?_
      refine AllReadyH.cons rfl (fun K hK => ?_) AllReadyH.nil
      go_simp
      go_wp2_with (go_at_call 18; refine N18.mono ?_; rintro e w6 ⟨rfl, hw6⟩; have hb6 : Below wr.heap.size wr w6 := (by rw [hw6]; exact hwd0.alloc (Nat.le_refl _) _); have hn6 := HACT.out w6 hw6; clear hw6; have e0 := bcl hb6 d0; have e4 := bcl hb6 d4; have e5 := bcl hb6 d5)
      refine hK.out _ _ (⟨e0, e4, e5⟩) (fun hHeld => ?_)
      clear hK K
      refine wpAnyH_mono (S' := (fun W => W.cell? ⟨wr.heap.size, K, none⟩ = some (.string nm) ∧ W.cell? ⟨g, 0, none⟩ = some (.int .i64 K) ∧ W.cell? ⟨g, 4, none⟩ = some (.string t) ∧ W.cell? ⟨g, 5, none⟩ = some (.string m))) (fun W h => h.2) ?_
      have hHeld1 : (fun W => W.cell? ⟨wr.heap.size, K, none⟩ = some (.string nm) ∧ W.cell? ⟨g, 0, none⟩ = some (.int .i64 K) ∧ W.cell? ⟨g, 4, none⟩ = some (.string t) ∧ W.cell? ⟨g, 5, none⟩ = some (.string m)) w6 := ⟨hn6, e0, e4, e5⟩
      clear hHeld
      refine wpAnyH_take (i := 3) (v := ?_) rfl (by kernel_rfl) (by kernel_rfl) (by kernel_rfl) (fun _ _ _ h => h) (Or.inl ⟨by rfl, ?_⟩) (by assumption) ?_
      rotate_left
      · intro w hSw; (try dsimp only at hSw); (try go_simp); all_goals (with_reducible rfl)
      try simp only [Act.put, List.setIfInBounds_toArray]
      refine wpAnyH_take (i := 4) (v := ?_) rfl (by kernel_rfl) (by kernel_rfl) (by kernel_rfl) (fun _ _ _ h => h) (Or.inl ⟨by rfl, ?_⟩) (by assumption) ?_
      rotate_left
      · intro w hSw; (try dsimp only at hSw); (try go_simp); all_goals (with_reducible rfl)
      try simp only [Act.put]
      refine wpAnyH_take (i := 5) (v := ?_) rfl (by kernel_rfl) (by kernel_rfl) (by kernel_rfl) (fun _ _ _ h => h) (Or.inl ⟨by rfl, ?_⟩) (by assumption) ?_
      rotate_left
      · intro w hSw; (try dsimp only at hSw); (try go_simp); all_goals (with_reducible rfl)
      try simp only [Act.put]
      refine wpAnyH_take (i := 6) (v := ?_) rfl (by kernel_rfl) (by kernel_rfl) (by kernel_rfl) (fun _ _ _ h => h) (Or.inl ⟨by rfl, ?_⟩) (by assumption) ?_
      rotate_left
      · intro w hSw; (try dsimp only at hSw); (try go_simp); all_goals (with_reducible rfl)
      try simp only [Act.put]
      refine wpAnyH_take (i := 8) (v := ?_) rfl (by kernel_rfl) (by kernel_rfl) (by kernel_rfl) (fun _ _ _ h => h) (Or.inl ⟨by rfl, ?_⟩) (by assumption) ?_
      rotate_left
      · intro w hSw; (try dsimp only at hSw); (try go_simp); all_goals (with_reducible rfl)
      try simp only [Act.put]
      refine wpAnyH_take (i := 9) (v := ?_) rfl (by kernel_rfl) (by kernel_rfl) (by kernel_rfl) (fun _ _ _ h => h) (Or.inl ⟨by rfl, ?_⟩) (by assumption) ?_
      rotate_left
      · intro w hSw; (try dsimp only at hSw); (try go_simp); all_goals (with_reducible rfl)
      try simp only [Act.put]
      refine wpAnyH_take (i := 11) (v := ?_) rfl (by kernel_rfl) (by kernel_rfl) (by kernel_rfl) (fun _ _ _ h => h) (Or.inl ⟨by rfl, ?_⟩) (by assumption) ?_
      rotate_left
      · intro w hSw; (try dsimp only at hSw); (try go_simp); all_goals (with_reducible rfl)
      try simp only [Act.put]
      refine wpAnyH_take (i := 12) (v := ?_) rfl (by kernel_rfl) (by kernel_rfl) (by kernel_rfl) (fun _ _ _ h => h) (Or.inl ⟨by rfl, ?_⟩) (by assumption) ?_
      rotate_left
      · intro w hSw; (try dsimp only at hSw); (try go_simp); all_goals (with_reducible rfl)
      try simp only [Act.put]
      refine wpAnyH_take (i := 14) (v := ?_) rfl (by kernel_rfl) (by kernel_rfl) (by kernel_rfl) (fun _ _ _ h => h) (Or.inl ⟨by rfl, ?_⟩) (by assumption) ?_
      rotate_left
      · intro w hSw; (try dsimp only at hSw); (try go_simp); all_goals (with_reducible rfl)
      try simp only [Act.put]
      refine wpAnyH_take (i := 15) (v := ?_) rfl (by kernel_rfl) (by kernel_rfl) (by kernel_rfl) (fun _ _ _ h => h) (Or.inl ⟨by rfl, ?_⟩) (by assumption) ?_
      rotate_left
      · intro w hSw; (try dsimp only at hSw); (try go_simp); all_goals (with_reducible rfl)
      try simp only [Act.put]
      refine wpAnyH_ready (rs := [18]) (by kernel_rfl) (by simp) ?_
      refine AllReadyH.cons rfl (fun K hK => ?_) AllReadyH.nil
      go_simp
      go_wp2_with (go_at_call 19; refine (HXt2.out w6).mono ?_; rintro e w7 ⟨rfl, hb7⟩; have hb67 := btr hb6 hb7; have hn7 := bcl hb7 hn6; have f0 := bcl hb67 d0; have f4 := bcl hb67 d4; have f5 := bcl hb67 d5)
      refine hK.out _ _ (⟨hn7, f0, f4, f5⟩) (fun hHeld => ?_)
      clear hK K
      refine wpAnyH_take (i := 19) (v := ?_) rfl (by kernel_rfl) (by kernel_rfl) (by kernel_rfl) (fun _ _ _ h => h) (Or.inl ⟨by rfl, ?_⟩) (by assumption) ?_
      rotate_left
      · intro w hSw; (try dsimp only at hSw); (try go_simp); all_goals (with_reducible rfl)
      try simp only [Act.put, List.setIfInBounds_toArray]
      refine wpAnyH_take (i := 20) (v := ?_) rfl (by kernel_rfl) (by kernel_rfl) (by kernel_rfl) (fun _ _ _ h => h) (Or.inl ⟨by rfl, ?_⟩) (by assumption) ?_
      rotate_left
      · intro w hSw; (try dsimp only at hSw); (try go_simp); all_goals (with_reducible rfl)
      try simp only [Act.put]
      refine wpAnyH_ready (rs := [23]) (by kernel_rfl) (by simp) ?_
      refine AllReadyH.cons rfl (fun K hK => ?_) AllReadyH.nil
      go_simp
      go_wp2_with (go_at_call 19; refine (HXm2.out w7).mono ?_; rintro e w8 ⟨rfl, hb8⟩; have hb78 := btr hb67 hb8; have hn8 := bcl hb8 hn7; have g0 := bcl hb78 d0; have g4 := bcl hb78 d4; have g5 := bcl hb78 d5)
      refine hK.out _ _ (⟨hn8, g0, g4, g5⟩) (fun hHeld => ?_)
      clear hK K
      refine wpAnyH_take (i := 24) (v := ?_) rfl (by kernel_rfl) (by kernel_rfl) (by kernel_rfl) (fun _ _ _ h => h) (Or.inl ⟨by rfl, ?_⟩) (by assumption) ?_
      rotate_left
      · intro w hSw; (try dsimp only at hSw); (try go_simp); all_goals (with_reducible rfl)
      try simp only [Act.put, List.setIfInBounds_toArray]
      refine wpAnyH_take (i := 25) (v := ?_) rfl (by kernel_rfl) (by kernel_rfl) (by kernel_rfl) (fun _ _ _ h => h) (Or.inl ⟨by rfl, ?_⟩) (by assumption) ?_
      rotate_left
      · intro w hSw; (try dsimp only at hSw); (try go_simp); all_goals (with_reducible rfl)
      try simp only [Act.put]
      refine wpAnyH_done (by kernel_rfl) ?_ _
      have HB9 : Below g w w8 := hb0.trans ((btr hbw1 hb78).mono hgs)
      by_cases hbig : 65536 < LL.length
      · have hRF2 : R = ([], 2) := by rw [HRF.out, if_pos hbig]
        have HR2 := Go.Lib.hid hRF2
        clear hRF2
        rw [hsum] at hbig
        go_wp2
        go_ret2
        exact ⟨by rw [HR2.out]; rfl, by first | exact HB9 | (rw [hg]; exact HB9)⟩
      · have hRF2 : R = (LL, 0) := by rw [HRF.out, if_neg hbig]
        have HR2 := Go.Lib.hid hRF2
        clear hRF2
        rw [hsum] at hbig
        go_wp2
        go_ret2
        exact ⟨by rw [HR2.out, HLINE.out]; rfl, by first | exact HB9 | (rw [hg]; exact HB9)⟩
end Go.Proofs.YtghhidaihajdmaaDoor
