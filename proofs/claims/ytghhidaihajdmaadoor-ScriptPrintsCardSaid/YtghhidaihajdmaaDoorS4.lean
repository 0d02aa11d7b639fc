/- The program's print of an act. Printed by genS4.py. -/
import Derived.Test.YtghhidaihajdmaaDoorS3b
import Derived.Deep.LoopGhost
import Derived.Deep.RegionHeld
namespace Go.Proofs.YtghhidaihajdmaaDoor
open Go.RowKit
theorem wpAnyH_mono {P : Program} {ops : Array Oper} {Q : Exit → Act → World → Prop} {md : Region.Mode} {S S' : World → Prop} (hS : ∀ w, S' w → S w) : ∀ {fuel : Nat} {listed : Array Bool} {a : Act} {w : World}, wpAnyH P md ops Q S' fuel listed a w → wpAnyH P md ops Q S fuel listed a w
  | 0, _, _, _, h => h
  | _ + 1, _, _, _, h => ⟨h.1, fun i hi => wpOp_mono (fun _ _ h' => ⟨hS _ h'.1, wpAnyH_mono hS h'.2⟩) (h.2 i hi)⟩
theorem own_cap {w : World} {base e size n c : Nat} {oa : Option Addr} {xs : List Value} (h : w.ownsRow base e size (.slice oa n c) n xs) : n ≤ c := by
  rcases h.2 with ⟨hv, h0⟩ | ⟨g, cap, cur, hv, _, _, hc, _⟩
  · omega
  · simp only [Value.slice.injEq] at hv
    omega
set_option maxRecDepth 100000 in
set_option maxHeartbeats 8000000 in
theorem print6 (k a b c : Int) (t m : ByteArray) (w : World) (hT : Tabs w) (hk0 : -9223372036854775808 ≤ k) (hk1 : k ≤ 9223372036854775807) (ha0 : -9223372036854775808 ≤ a) (ha1 : a ≤ 9223372036854775807) (hq0 : -9223372036854775808 ≤ b) (hq1 : b ≤ 9223372036854775807) (hc0 : -9223372036854775808 ≤ c) (hc1 : c ≤ 9223372036854775807) : Calls Tryd.prog 6 #[.agg #[.int .i64 k, .int .i64 a, .int .i64 b, .int .i64 c, .string t, .string m]] w fun e w' => e = .returned (.tuple #[.string (mkS (printL k a b c t.data.toList m.data.toList).1), .int .i64 (printL k a b c t.data.toList m.data.toList).2]) ∧ Below w.heap.size w w' := by
  have hb0 : Below w.heap.size w (w.alloc (.cells #[.int .i64 k, .int .i64 a, .int .i64 b, .int .i64 c, .string t, .string m] 23)) := (Below.refl _ w).alloc (Nat.le_refl _) _
  have hT1 := hT.below hb0
  have hcs := blk_cells (at_new w (.cells #[.int .i64 k, .int .i64 a, .int .i64 b, .int .i64 c, .string t, .string m] 23) _ rfl)
  have c0 : (w.alloc (.cells #[.int .i64 k, .int .i64 a, .int .i64 b, .int .i64 c, .string t, .string m] 23)).cell? ⟨w.heap.size, 0, none⟩ = some (.int .i64 k) := hcs 0
  have c1 : (w.alloc (.cells #[.int .i64 k, .int .i64 a, .int .i64 b, .int .i64 c, .string t, .string m] 23)).cell? ⟨w.heap.size, 1, none⟩ = some (.int .i64 a) := hcs 1
  have c2 : (w.alloc (.cells #[.int .i64 k, .int .i64 a, .int .i64 b, .int .i64 c, .string t, .string m] 23)).cell? ⟨w.heap.size, 2, none⟩ = some (.int .i64 b) := hcs 2
  have c3 : (w.alloc (.cells #[.int .i64 k, .int .i64 a, .int .i64 b, .int .i64 c, .string t, .string m] 23)).cell? ⟨w.heap.size, 3, none⟩ = some (.int .i64 c) := hcs 3
  have c4 : (w.alloc (.cells #[.int .i64 k, .int .i64 a, .int .i64 b, .int .i64 c, .string t, .string m] 23)).cell? ⟨w.heap.size, 4, none⟩ = some (.string t) := hcs 4
  have c5 : (w.alloc (.cells #[.int .i64 k, .int .i64 a, .int .i64 b, .int .i64 c, .string t, .string m] 23)).cell? ⟨w.heap.size, 5, none⟩ = some (.string m) := hcs 5
  clear hcs
  have POST : ∀ e w', (e = Ending.returned (.tuple #[.string (mkS (printL k a b c t.data.toList m.data.toList).1), .int .i64 (printL k a b c t.data.toList m.data.toList).2]) ∧ Below w.heap.size w w') → _ := fun e w' h => h
  obtain ⟨R, hR⟩ : ∃ R, R = printL k a b c t.data.toList m.data.toList := ⟨_, rfl⟩
  rw [← hR]
  have HR := Go.Lib.hid hR
  clear hR POST
  go_enter Tryd.func6, Tryd.ntmps6
  go_wp2_with fail
  generalize w.alloc (.cells #[.int .i64 k, .int .i64 a, .int .i64 b, .int .i64 c, .string t, .string m] 23) = W1 at *
  have hgs := hb0.size
  generalize hg : w.heap.size = g at *
  have hTd : Tabs W1.drew := hT1.below (bdr (Below.refl _ W1) 1)
  by_cases hk : 0 ≤ k
  · obtain ⟨K, rfl⟩ : ∃ K : Nat, k = K := ⟨k.toNat, by omega⟩
    have i0' : W1.drew.cell? ⟨g, 0, none⟩ = some (.int .i64 K) := c0
    go_region_held (fun W => W.cell? ⟨g, 0, none⟩ = some (.int .i64 K)) (assumption)
      (first
        | (go_at_call 13; refine (names13 W1.drew hTd).mono ?_; rintro e w2 ⟨rfl, hw2⟩; have hb2 : Below W1.heap.size W1 w2 := (by rw [hw2]; exact (bdr (Below.refl _ W1) 1).alloc (Nat.le_refl _) _); clear hw2; have d0 := bcl hb2 c0; have d1 := bcl hb2 c1; have d2 := bcl hb2 c2; have d3 := bcl hb2 c3))
    all_goals (next =>
      have hT2 : ∀ W, Below W1.heap.size W1 W → Tabs W := fun W h => hT1.below h
      go_wp2_with fail
      have hb3 : Below W1.heap.size W1 (w2.alloc (.cells #[.int .i64 a, .int .i64 b, .int .i64 c] 3)) := hb2.alloc hb2.size _
      have hl3 := blk_cells (at_new w2 (.cells #[.int .i64 a, .int .i64 b, .int .i64 c] 3) _ rfl)
      have HL3 := Go.Lib.hid hl3
      clear hl3 d1 d2 d3
      generalize hw3 : w2.alloc (.cells #[.int .i64 a, .int .i64 b, .int .i64 c] 3) = W3 at *
      have hs3 : w2.heap.size < W3.heap.size := by rw [← hw3]; simp
      generalize w2.heap.size = g3 at *
      clear hw3
      go_loopw [4, 5, 7, 8, 28] (fun v4 v5 _ _ v28 wr => ∃ i : Nat, v28 = .int .i64 i ∧ i ≤ 3 ∧ v4 = .bool (decide ((K : Int) < 12) && allP ([a, b, c].take i)) ∧ wr.ownsRow W3.heap.size 9 1 v5 i (([a, b, c].take i).map strV) ∧ Below W3.heap.size W3 wr) (fun _ _ _ _ v28 _ => 3 - (intOf v28).toNat)
      case atStart => exact ⟨0, rfl, by omega, by simp [allP], own_nil W3 _ 9 1, Below.refl _ W3⟩
      case round =>
        obtain ⟨i, rfl, hi, rfl, hown, hbw⟩ := hrel
        have hbw1 := hb3.trans (hbw.mono hb3.size)
        by_cases hlt : i < 3
        · obtain ⟨n, ht3, hn3, habc⟩ := take3 a b c i hlt
          have hn := bcl hbw ((HL3.out i).trans hn3)
          have hn0 : -9223372036854775808 ≤ n := by omega
          have hn1 : n ≤ 9223372036854775807 := by omega
          have HT3 := Go.Lib.hid ht3
          clear ht3 hn3 habc
          generalize hF : (decide ((K : Int) < 12) && allP ([a, b, c].take i)) = F at *
          have HF := Go.Lib.hid hF
          clear hF
          go_wp2_with fail
          refine (itoa14 n hn0 hn1 wr (hT2 wr hbw1)).mono ?_
          rintro e w4 ⟨rfl, hb4⟩
          have hbw4 := hbw.trans (hb4.mono hbw.size)
          have hown4 := own_below hown hb4
          clear hown hn
          have hni : n ≠ -1 → mkS (Lib.itoa n) = mkS (numL n) := fun h => by rw [numL, if_neg h]
          have hn45 : n = -1 → mkS [45] = mkS (numL n) := fun h => by rw [numL, if_pos h]
          have hap : (decide ((K : Int) < 12) && allP ([a, b, c].take (i + 1))) = (F && inP n) := by rw [HT3.out, ← HF.out]; simp [allP, Bool.and_assoc]
          have HAP := Go.Lib.hid hap
          clear hap
          have hcase : n = -1 ∨ n < -1 ∨ (n ≠ -1 ∧ -1 < n ∧ n ≤ 99999) ∨ (n ≠ -1 ∧ -1 < n ∧ 99999 < n) := by omega
          have HNI := Go.Lib.hid hni
          have HN45 := Go.Lib.hid hn45
          have HOWN := Go.Lib.hid hown4
          clear hni hn45 hown4 HF
          rcases hcase with rfl | hx | ⟨hx, hy, hz⟩ | ⟨hx, hy, hz⟩
          all_goals cases F
          all_goals go_wp2_with (at_builtin; refine step_append rfl W3.heap.size (.tmp 45) (.tmp 47) 43 9 (.string ByteArray.empty) 1 16 rfl Tryd.underlying43 Tryd.info9 rfl (by decide) (by decide) u5 i _ _ _ rfl rfl rfl rfl (oneStr _) HOWN.out hbw4 hbw4.size (by omega) ?_; intro v1 w5 hown5 hb5)
          all_goals have HOWN5 := Go.Lib.hid hown5
          all_goals clear hown5
          all_goals go_roundw
          all_goals first
            | (case measure => simp [intOf]; omega)
            | (case rel =>
                refine ⟨i + 1, by go_num, by omega, ?_, ?_, hb5⟩
                · rw [HAP.out]
                  simp [inP]
                  try omega
                · rw [HT3.out, List.map_append]
                  have h5 := HOWN5.out
                  first
                    | (have e := HNI.out (by omega); rw [e] at h5; exact h5)
                    | exact h5)
        · obtain rfl : i = 3 := by omega
          obtain ⟨oa, cp, rfl⟩ := own_slice hown
          have d0 := bcl hbw1 c0
          have d4 := bcl hbw1 c4
          have d5 := bcl hbw1 c5
          rw [show [a, b, c].take 3 = [a, b, c] from rfl] at hown ⊢
          have HOWN := Go.Lib.hid hown
          clear hown
          cases hF : (decide ((K : Int) < 12) && allP [a, b, c])
          · have hRF : R = ([], 4) := by
              rw [HR.out, printL, if_pos]
              intro h
              simp [h.2.2, h.2.1] at hF
            go_wp2
            go_ret2
            exact ⟨by first | rfl | (rw [hRF]; rfl), by first | exact hb0.trans (hbw1.mono hgs) | (rw [hg]; exact hb0.trans (hbw1.mono hgs))⟩
          · have hk12 : (K : Int) < 12 := by simp at hF; exact hF.1
            have hall : allP [a, b, c] = true := by simp at hF; exact hF.2
            by_cases hlen : 65536 < t.size ∨ 65536 < m.size
            · have hRF : R = ([], 2) := by rw [HR.out, printL, if_neg (by simp [hk, hk12, hall]), if_pos (by rw [dlen, dlen]; exact hlen)]
              have hx : 65536 < t.size ∨ (¬ 65536 < t.size ∧ 65536 < m.size) := by omega
              rcases hx with hx | ⟨hx, hy⟩
              all_goals go_wp2
              all_goals go_ret2
              all_goals exact ⟨by first | rfl | (rw [hRF]; rfl), by first | exact hb0.trans (hbw1.mono hgs) | (rw [hg]; exact hb0.trans (hbw1.mono hgs))⟩
            · have hx : ¬ 65536 < t.size := by omega
              have hy : ¬ 65536 < m.size := by omega
              have hK : K < 12 := by omega
              have hTr : Tabs wr.drew := hT2 _ (bdr hbw1 1)
              have hwd0 : Below wr.heap.size wr wr.drew := bdr (Below.refl _ wr) 1
              have hia : inP a = true := by simp [allP] at hall; exact hall.1
              have hib : inP b = true := by simp [allP] at hall; exact hall.2.1
              have hic : inP c = true := by simp [allP] at hall; exact hall.2.2
              have hla := numL_len a hia
              have hlb := numL_len b hib
              have hlc := numL_len c hic
              have hnl := act_len K hK
              have HJ : ∀ W, Below wr.heap.size wr W → Calls Tryd.prog 15 #[.slice oa 3 cp, .string ⟨#[32]⟩] W fun e w' => e = .returned (.string (mkS (numL a ++ [32] ++ numL b ++ [32] ++ numL c))) ∧ Below W.heap.size W w' := fun W hW => by
                have hO := own_below HOWN.out hW
                obtain ⟨gj, rfl, _⟩ := own_form hO (by omega)
                have hj := Tryd.strings_Join gj 0 cp [mkS (numL a), mkS (numL b), mkS (numL c)] ⟨#[32]⟩ W (fun j x hx => by
                  obtain ⟨ad, had, hc⟩ := (own_read hO).2 j (.string x) (by
                    rcases j with _ | _ | _ | j
                    · simp at hx; subst hx; rfl
                    · simp at hx; subst hx; rfl
                    · simp at hx; subst hx; rfl
                    · simp at hx)
                  cases had
                  rwa [show Addr.add ⟨gj, 0, none⟩ j = ⟨gj, 0 + j, none⟩ by unfold Addr.add; split <;> simp_all] at hc) (own_lt hO gj rfl) (by simp) (own_cap hO) (by
                    show (Lib.join [numL a, numL b, numL c] [32]).length ≤ _
                    rw [join3]
                    simp
                    omega)
                refine hj.mono ?_
                rintro e w' ⟨rfl, hb⟩
                exact ⟨by
                  show Ending.returned (Value.string ⟨(Lib.join [numL a, numL b, numL c] [32]).toArray⟩) = _
                  rw [join3]; rfl, hb⟩
              have HXt := fun W => hex16 t W (by omega)
              have HXm := fun W => hex16 m W (by omega)
              have N13 := names13 wr.drew hTr
              have hline : mkS (lineL K a b c t.data.toList m.data.toList) = ⟨#[97, 99, 116, 32]⟩ ++ mkS (actNames.getD K []) ++ ⟨#[32]⟩ ++ mkS (numL a ++ [32] ++ numL b ++ [32] ++ numL c) ++ ⟨#[32, 61]⟩ ++ mkS (hexL t.data.toList) ++ ⟨#[32, 61]⟩ ++ mkS (hexL m.data.toList) := by
                apply ByteArray.ext
                simp [mkS, lineL]
              have hsum : (lineL K a b c t.data.toList m.data.toList).length = 4 + (mkS (actNames.getD K [])).size + 1 + (mkS (numL a ++ [32] ++ numL b ++ [32] ++ numL c)).size + 2 + (mkS (hexL t.data.toList)).size + 2 + (mkS (hexL m.data.toList)).size := by
                simp [mkS_size, lineL]
                omega
              have hz1 : (mkS (actNames.getD K [])).size ≤ 6 := hnl
              have hz2 : (mkS (numL a ++ [32] ++ numL b ++ [32] ++ numL c)).size ≤ 20 := by rw [mkS_size]; simp; omega
              have hz3 : (mkS (hexL t.data.toList)).size ≤ 131072 := by rw [mkS_size, hexL_len, dlen]; omega
              have hz4 : (mkS (hexL m.data.toList)).size ≤ 131072 := by rw [mkS_size, hexL_len, dlen]; omega
              have hRF : R = if 65536 < (lineL K a b c t.data.toList m.data.toList).length then ([], 2) else (lineL K a b c t.data.toList m.data.toList, 0) := by
                rw [HR.out, printL, if_neg (by simp [hk, hk12, hall]), if_neg (by rw [dlen, dlen]; exact hlen)]
                rfl
              have hact : ∀ W, W = wr.drew.alloc (.cells (strs actNames) 9) → W.cell? ⟨wr.heap.size, K, none⟩ = some (.string (mkS (actNames.getD K []))) := fun W h => by rw [h]; exact act_at wr.drew K hK
              have HACT := Go.Lib.hid hact
              generalize lineL K a b c t.data.toList m.data.toList = LL at *
              generalize mkS (actNames.getD K []) = nm at *
              generalize mkS (numL a ++ [32] ++ numL b ++ [32] ++ numL c) = J at *
              generalize mkS (hexL t.data.toList) = X at *
              generalize mkS (hexL m.data.toList) = Y at *
              have q1 : ¬ 9223372036854775807 < 4 + nm.size := by omega
              have q2 : ¬ 9223372036854775807 < 4 + nm.size + 1 := by omega
              have q3 : ¬ 9223372036854775807 < 4 + nm.size + 1 + J.size := by omega
              have q4 : ¬ 9223372036854775807 < 4 + nm.size + 1 + J.size + 2 := by omega
              have q5 : ¬ 9223372036854775807 < 4 + nm.size + 1 + J.size + 2 + X.size := by omega
              have q6 : ¬ 9223372036854775807 < 4 + nm.size + 1 + J.size + 2 + X.size + 2 := by omega
              have q7 : ¬ 9223372036854775807 < 4 + nm.size + 1 + J.size + 2 + X.size + 2 + Y.size := by omega
              have HRF := Go.Lib.hid hRF
              have HLINE := Go.Lib.hid hline
              have HJ2 := Go.Lib.hid HJ
              have HXt2 := Go.Lib.hid HXt
              have HXm2 := Go.Lib.hid HXm
              clear hRF hline HJ HXt HXm hact hia hib hic hla hlb hlc hnl hF hall hlen HR HOWN HL3 hbw hb3 hs3 hi hlt
              have i0 : wr.drew.cell? ⟨g, 0, none⟩ = some (.int .i64 K) := d0
              have i4 : wr.drew.cell? ⟨g, 4, none⟩ = some (.string t) := d4
              have i5 : wr.drew.cell? ⟨g, 5, none⟩ = some (.string m) := d5
              go_wp2_with fail
              refine wp_region_held_drew (S := (fun W => W.cell? ⟨g, 0, none⟩ = some (.int .i64 K) ∧ W.cell? ⟨g, 4, none⟩ = some (.string t) ∧ W.cell? ⟨g, 5, none⟩ = some (.string m))) (by kernel_rfl) ⟨i0, i4, i5⟩ (fun hHeld => ?_)
              refine wpAnyH_take (i := 1) (v := ?_) rfl (by kernel_rfl) (by kernel_rfl) (by kernel_rfl) (fun _ _ _ h => h) (Or.inl ⟨by rfl, ?_⟩) (by assumption) ?_
              rotate_left
              · intro w hSw; (try dsimp only at hSw); (try go_simp); all_goals (with_reducible rfl)
              try simp only [Act.put, List.setIfInBounds_toArray]
              refine wpAnyH_take (i := 2) (v := ?_) rfl (by kernel_rfl) (by kernel_rfl) (by kernel_rfl) (fun _ _ _ h => h) (Or.inl ⟨by rfl, ?_⟩) (by assumption) ?_
              rotate_left
              · intro w hSw; (try dsimp only at hSw); (try go_simp); all_goals (with_reducible rfl)
              try simp only [Act.put]
              refine wpAnyH_take (i := 7) (v := ?_) rfl (by kernel_rfl) (by kernel_rfl) (by kernel_rfl) (fun _ _ _ h => h) (Or.inl ⟨by rfl, ?_⟩) (by assumption) ?_
              rotate_left
              · intro w hSw; (try dsimp only at hSw); (try go_simp); all_goals (with_reducible rfl)
              try simp only [Act.put]
              refine wpAnyH_take (i := 11) (v := ?_) rfl (by kernel_rfl) (by kernel_rfl) (by kernel_rfl) (fun _ _ _ h => h) (Or.inl ⟨by rfl, ?_⟩) (by assumption) ?_
              rotate_left
              · intro w hSw; (try dsimp only at hSw); (try go_simp); all_goals (with_reducible rfl)
              try simp only [Act.put]
              refine wpAnyH_take (i := 12) (v := ?_) rfl (by kernel_rfl) (by kernel_rfl) (by kernel_rfl) (fun _ _ _ h => h) (Or.inl ⟨by rfl, ?_⟩) (by assumption) ?_
              rotate_left
              · intro w hSw; (try dsimp only at hSw); (try go_simp); all_goals (with_reducible rfl)
              try simp only [Act.put]
              refine wpAnyH_take (i := 16) (v := ?_) rfl (by kernel_rfl) (by kernel_rfl) (by kernel_rfl) (fun _ _ _ h => h) (Or.inl ⟨by rfl, ?_⟩) (by assumption) ?_
              rotate_left
              · intro w hSw; (try dsimp only at hSw); (try go_simp); all_goals (with_reducible rfl)
              try simp only [Act.put]
              refine wpAnyH_take (i := 17) (v := ?_) rfl (by kernel_rfl) (by kernel_rfl) (by kernel_rfl) (fun _ _ _ h => h) (Or.inl ⟨by rfl, ?_⟩) (by assumption) ?_
              rotate_left
              · intro w hSw; (try dsimp only at hSw); (try go_simp); all_goals (with_reducible rfl)
              try simp only [Act.put]
              refine wpAnyH_ready (rs := [0]) (by kernel_rfl) (by simp) ?_
              refine AllReadyH.cons rfl (fun K hK => ?_) AllReadyH.nil
              go_simp
              go_wp2_with (go_at_call 13; refine N13.mono ?_; rintro e w6 ⟨rfl, hw6⟩; have hb6 : Below wr.heap.size wr w6 := (by rw [hw6]; exact hwd0.alloc (Nat.le_refl _) _); have hn6 := HACT.out w6 hw6; clear hw6; have e0 := bcl hb6 d0; have e4 := bcl hb6 d4; have e5 := bcl hb6 d5)
              refine hK.out _ _ (⟨e0, e4, e5⟩) (fun hHeld => ?_)
              clear hK K
              refine wpAnyH_mono (S' := (fun W => W.cell? ⟨wr.heap.size, K, none⟩ = some (.string nm) ∧ W.cell? ⟨g, 0, none⟩ = some (.int .i64 K) ∧ W.cell? ⟨g, 4, none⟩ = some (.string t) ∧ W.cell? ⟨g, 5, none⟩ = some (.string m))) (fun W h => h.2) ?_
              have hHeld1 : (fun W => W.cell? ⟨wr.heap.size, K, none⟩ = some (.string nm) ∧ W.cell? ⟨g, 0, none⟩ = some (.int .i64 K) ∧ W.cell? ⟨g, 4, none⟩ = some (.string t) ∧ W.cell? ⟨g, 5, none⟩ = some (.string m)) w6 := ⟨hn6, e0, e4, e5⟩
              clear hHeld
              refine wpAnyH_take (i := 3) (v := ?_) rfl (by kernel_rfl) (by kernel_rfl) (by kernel_rfl) (fun _ _ _ h => h) (Or.inl ⟨by rfl, ?_⟩) (by assumption) ?_
              rotate_left
              · intro w hSw; (try dsimp only at hSw); (try go_simp); all_goals (with_reducible rfl)
              try simp only [Act.put, List.setIfInBounds_toArray]
              refine wpAnyH_take (i := 4) (v := ?_) rfl (by kernel_rfl) (by kernel_rfl) (by kernel_rfl) (fun _ _ _ h => h) (Or.inl ⟨by rfl, ?_⟩) (by assumption) ?_
              rotate_left
              · intro w hSw; (try dsimp only at hSw); (try go_simp); all_goals (with_reducible rfl)
              try simp only [Act.put]
              refine wpAnyH_take (i := 5) (v := ?_) rfl (by kernel_rfl) (by kernel_rfl) (by kernel_rfl) (fun _ _ _ h => h) (Or.inl ⟨by rfl, ?_⟩) (by assumption) ?_
              rotate_left
              · intro w hSw; (try dsimp only at hSw); (try go_simp); all_goals (with_reducible rfl)
              try simp only [Act.put]
              refine wpAnyH_take (i := 6) (v := ?_) rfl (by kernel_rfl) (by kernel_rfl) (by kernel_rfl) (fun _ _ _ h => h) (Or.inl ⟨by rfl, ?_⟩) (by assumption) ?_
              rotate_left
              · intro w hSw; (try dsimp only at hSw); (try go_simp); all_goals (with_reducible rfl)
              try simp only [Act.put]
              refine wpAnyH_ready (rs := [8]) (by kernel_rfl) (by simp) ?_
              refine AllReadyH.cons rfl (fun K hK => ?_) AllReadyH.nil
              go_simp
              go_wp2_with (go_at_call 15; refine (HJ2.out w6 hb6).mono ?_; rintro e w7 ⟨rfl, hb7⟩; have hb67 := btr hb6 hb7; have hn7 := bcl hb7 hn6; have f0 := bcl hb67 d0; have f4 := bcl hb67 d4; have f5 := bcl hb67 d5)
              refine hK.out _ _ (⟨hn7, f0, f4, f5⟩) (fun hHeld => ?_)
              clear hK K
              refine wpAnyH_take (i := 9) (v := ?_) rfl (by kernel_rfl) (by kernel_rfl) (by kernel_rfl) (fun _ _ _ h => h) (Or.inl ⟨by rfl, ?_⟩) (by assumption) ?_
              rotate_left
              · intro w hSw; (try dsimp only at hSw); (try go_simp); all_goals (with_reducible rfl)
              try simp only [Act.put, List.setIfInBounds_toArray]
              refine wpAnyH_take (i := 10) (v := ?_) rfl (by kernel_rfl) (by kernel_rfl) (by kernel_rfl) (fun _ _ _ h => h) (Or.inl ⟨by rfl, ?_⟩) (by assumption) ?_
              rotate_left
              · intro w hSw; (try dsimp only at hSw); (try go_simp); all_goals (with_reducible rfl)
              try simp only [Act.put]
              refine wpAnyH_ready (rs := [13]) (by kernel_rfl) (by simp) ?_
              refine AllReadyH.cons rfl (fun K hK => ?_) AllReadyH.nil
              go_simp
              go_wp2_with (go_at_call 16; refine (HXt2.out w7).mono ?_; rintro e w8 ⟨rfl, hb8⟩; have hb78 := btr hb67 hb8; have hn8 := bcl hb8 hn7; have g0 := bcl hb78 d0; have g4 := bcl hb78 d4; have g5 := bcl hb78 d5)
              refine hK.out _ _ (⟨hn8, g0, g4, g5⟩) (fun hHeld => ?_)
              clear hK K
              refine wpAnyH_take (i := 14) (v := ?_) rfl (by kernel_rfl) (by kernel_rfl) (by kernel_rfl) (fun _ _ _ h => h) (Or.inl ⟨by rfl, ?_⟩) (by assumption) ?_
              rotate_left
              · intro w hSw; (try dsimp only at hSw); (try go_simp); all_goals (with_reducible rfl)
              try simp only [Act.put, List.setIfInBounds_toArray]
              refine wpAnyH_take (i := 15) (v := ?_) rfl (by kernel_rfl) (by kernel_rfl) (by kernel_rfl) (fun _ _ _ h => h) (Or.inl ⟨by rfl, ?_⟩) (by assumption) ?_
              rotate_left
              · intro w hSw; (try dsimp only at hSw); (try go_simp); all_goals (with_reducible rfl)
              try simp only [Act.put]
              refine wpAnyH_ready (rs := [18]) (by kernel_rfl) (by simp) ?_
              refine AllReadyH.cons rfl (fun K hK => ?_) AllReadyH.nil
              go_simp
              go_wp2_with (go_at_call 16; refine (HXm2.out w8).mono ?_; rintro e w9 ⟨rfl, hb9⟩; have hb89 := btr hb78 hb9; have hn9 := bcl hb9 hn8; have j0 := bcl hb89 d0; have j4 := bcl hb89 d4; have j5 := bcl hb89 d5)
              refine hK.out _ _ (⟨hn9, j0, j4, j5⟩) (fun hHeld => ?_)
              clear hK K
              refine wpAnyH_take (i := 19) (v := ?_) rfl (by kernel_rfl) (by kernel_rfl) (by kernel_rfl) (fun _ _ _ h => h) (Or.inl ⟨by rfl, ?_⟩) (by assumption) ?_
              rotate_left
              · intro w hSw; (try dsimp only at hSw); (try go_simp); all_goals (with_reducible rfl)
              try simp only [Act.put, List.setIfInBounds_toArray]
              refine wpAnyH_take (i := 20) (v := ?_) rfl (by kernel_rfl) (by kernel_rfl) (by kernel_rfl) (fun _ _ _ h => h) (Or.inl ⟨by rfl, ?_⟩) (by assumption) ?_
              rotate_left
              · intro w hSw; (try dsimp only at hSw); (try go_simp); all_goals (with_reducible rfl)
              try simp only [Act.put]
              refine wpAnyH_done (by kernel_rfl) ?_ _
              all_goals have HB9 : Below g w w9 := hb0.trans ((btr hbw1 hb89).mono hgs)
              by_cases hbig : 65536 < LL.length
              · have hRF2 : R = ([], 2) := by rw [HRF.out, if_pos hbig]
                have HR2 := Go.Lib.hid hRF2
                clear hRF2
                rw [hsum] at hbig
                go_wp2
                go_ret2
                exact ⟨by rw [HR2.out]; rfl, by first | exact HB9 | (rw [hg]; exact HB9)⟩
              · have hRF2 : R = (LL, 0) := by rw [HRF.out, if_neg hbig]
                have HR2 := Go.Lib.hid hRF2
                clear hRF2
                rw [hsum] at hbig
                go_wp2
                go_ret2
                exact ⟨by rw [HR2.out, HLINE.out]; rfl, by first | exact HB9 | (rw [hg]; exact HB9)⟩)
  · have hd : decide (0 ≤ k) = false := by simp; omega
    go_quiet (skip)
    generalize hW2 : W1.drewN nq = w2 at *
    have hb2 : Below W1.heap.size W1 w2 := by rw [← hW2]; exact bdr (Below.refl _ W1) nq
    clear hW2
    have d1 := bcl hb2 c1
    have d2 := bcl hb2 c2
    have d3 := bcl hb2 c3
    go_wp2
    have hT2 : ∀ W, Below W1.heap.size W1 W → Tabs W := fun W h => hT1.below h
    go_wp2_with fail
    have hb3 : Below W1.heap.size W1 (w2.alloc (.cells #[.int .i64 a, .int .i64 b, .int .i64 c] 3)) := hb2.alloc hb2.size _
    have hl3 := blk_cells (at_new w2 (.cells #[.int .i64 a, .int .i64 b, .int .i64 c] 3) _ rfl)
    have HL3 := Go.Lib.hid hl3
    clear hl3 d1 d2 d3
    generalize hw3 : w2.alloc (.cells #[.int .i64 a, .int .i64 b, .int .i64 c] 3) = W3 at *
    have hs3 : w2.heap.size < W3.heap.size := by rw [← hw3]; simp
    generalize w2.heap.size = g3 at *
    clear hw3
    go_loopw [4, 5, 7, 8, 28] (fun v4 v5 _ _ v28 wr => ∃ i : Nat, v28 = .int .i64 i ∧ i ≤ 3 ∧ v4 = .bool (false && allP ([a, b, c].take i)) ∧ wr.ownsRow W3.heap.size 9 1 v5 i (([a, b, c].take i).map strV) ∧ Below W3.heap.size W3 wr) (fun _ _ _ _ v28 _ => 3 - (intOf v28).toNat)
    case atStart => exact ⟨0, rfl, by omega, by simp [allP], own_nil W3 _ 9 1, Below.refl _ W3⟩
    case round =>
      obtain ⟨i, rfl, hi, rfl, hown, hbw⟩ := hrel
      have hbw1 := hb3.trans (hbw.mono hb3.size)
      by_cases hlt : i < 3
      · obtain ⟨n, ht3, hn3, habc⟩ := take3 a b c i hlt
        have hn := bcl hbw ((HL3.out i).trans hn3)
        have hn0 : -9223372036854775808 ≤ n := by omega
        have hn1 : n ≤ 9223372036854775807 := by omega
        have HT3 := Go.Lib.hid ht3
        clear ht3 hn3 habc
        generalize hF : (false && allP ([a, b, c].take i)) = F at *
        have HF := Go.Lib.hid hF
        clear hF
        go_wp2_with fail
        refine (itoa14 n hn0 hn1 wr (hT2 wr hbw1)).mono ?_
        rintro e w4 ⟨rfl, hb4⟩
        have hbw4 := hbw.trans (hb4.mono hbw.size)
        have hown4 := own_below hown hb4
        clear hown hn
        have hni : n ≠ -1 → mkS (Lib.itoa n) = mkS (numL n) := fun h => by rw [numL, if_neg h]
        have hn45 : n = -1 → mkS [45] = mkS (numL n) := fun h => by rw [numL, if_pos h]
        have hap : (false && allP ([a, b, c].take (i + 1))) = (F && inP n) := by rw [HT3.out, ← HF.out]; simp [allP]
        have HAP := Go.Lib.hid hap
        clear hap
        have hcase : n = -1 ∨ n < -1 ∨ (n ≠ -1 ∧ -1 < n ∧ n ≤ 99999) ∨ (n ≠ -1 ∧ -1 < n ∧ 99999 < n) := by omega
        have HNI := Go.Lib.hid hni
        have HN45 := Go.Lib.hid hn45
        have HOWN := Go.Lib.hid hown4
        clear hni hn45 hown4 HF
        rcases hcase with rfl | hx | ⟨hx, hy, hz⟩ | ⟨hx, hy, hz⟩
        all_goals cases F
        all_goals go_wp2_with (at_builtin; refine step_append rfl W3.heap.size (.tmp 45) (.tmp 47) 43 9 (.string ByteArray.empty) 1 16 rfl Tryd.underlying43 Tryd.info9 rfl (by decide) (by decide) u5 i _ _ _ rfl rfl rfl rfl (oneStr _) HOWN.out hbw4 hbw4.size (by omega) ?_; intro v1 w5 hown5 hb5)
        all_goals have HOWN5 := Go.Lib.hid hown5
        all_goals clear hown5
        all_goals go_roundw
        all_goals first
          | (case measure => simp [intOf]; omega)
          | (case rel =>
              refine ⟨i + 1, by go_num, by omega, ?_, ?_, hb5⟩
              · rw [HAP.out]
                simp [inP]
                try omega
              · rw [HT3.out, List.map_append]
                have h5 := HOWN5.out
                first
                  | (have e := HNI.out (by omega); rw [e] at h5; exact h5)
                  | exact h5)
      · obtain rfl : i = 3 := by omega
        obtain ⟨oa, cp, rfl⟩ := own_slice hown
        have d0 := bcl hbw1 c0
        have d4 := bcl hbw1 c4
        have d5 := bcl hbw1 c5
        rw [show [a, b, c].take 3 = [a, b, c] from rfl] at hown ⊢
        have HOWN := Go.Lib.hid hown
        clear hown
        have hRF : R = ([], 4) := by rw [HR.out, printL, if_pos (by omega)]
        go_wp2
        go_ret2
        exact ⟨by first | rfl | (rw [hRF]; rfl), by first | exact hb0.trans (hbw1.mono hgs) | (rw [hg]; exact hb0.trans (hbw1.mono hgs))⟩
end Go.Proofs.YtghhidaihajdmaaDoor
