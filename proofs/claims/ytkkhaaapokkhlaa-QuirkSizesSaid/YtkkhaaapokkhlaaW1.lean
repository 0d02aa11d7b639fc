/- The walks of the three functions that turn letters' size. -/
import Derived.Test.YtkkhaaapokkhlaaProg
import Derived.Test.YtkkhaaapokkhlaaKitA
namespace Go.Proofs.Ytkkhaaapokkhlaa
open Go.RowKit

set_option maxHeartbeats 400000 in
theorem small11 (s : ByteArray) (w : World) (hs : s.size ≤ maxLen) :
    Calls Try.prog 11 #[.string s] w fun e w' => e = .returned (.string (mkS (low s.data.toList))) ∧ Below w.heap.size w w' := by
  unfold maxLen at hs
  have hcv := fun w => Go.Lib.run_convert_string_bytes (P := Try.prog) w 9 36 5 s Try.underlying9 Try.underlying36 Try.underlying5
  go_enter Try.func11, Try.ntmps11
  go_wp2
  go_loopw [4, 9] (fun v4 v9 wr => ∃ k : Nat, k ≤ s.size ∧ v9 = .int .i64 k ∧ Below w.heap.size w wr ∧ ∃ z fr, BRow wr w.heap.size 5 (mapTo lowB s.data.toList k) z fr) (fun _ v9 _ => s.size - (intOf v9).toNat)
  case atStart => exact ⟨0, Nat.zero_le _, rfl, conv_below w 5 s, _, _, BRow.conv w 5 s⟩
  case round =>
    obtain ⟨k, hk, rfl, hB, z, fr, hrow⟩ := hrel
    have hlen := dlen s
    by_cases hlt : k < s.size
    · have hk' : k < s.data.toList.length := by omega
      have hcell := hrow.cell (k := k) (by rw [mapTo_length]; exact hk')
      have hfz := hrow.frozen (k := k) (by rw [mapTo_length]; exact hk')
      rw [mapTo_get _ _ _ hk'] at hcell
      clear hlen
      go_wp2
      all_goals
        go_roundw
        case rel =>
          refine ⟨k + 1, by omega, by go_num, by first | exact hB | exact hB.setCell (Nat.le_refl _) _, z, fr, ?_⟩
          first
          | exact hrow.turn hk' (lowB_yes (by assumption) (by assumption))
          | exact hrow.leave hk' (lowB_no (by simp only [Array.getElem_toList]; omega))
        case measure => simp [intOf]; omega
    · obtain rfl : k = s.size := by omega
      have hback := hrow.back (P := Try.prog) 36 5 (grownCap w s.size 0 5) s.size (by rw [mapTo_length, hlen]) Try.underlying36 Try.underlying5 9 Try.underlying9
      rw [mapTo_full _ _ _ (by omega)] at hback
      clear hrow
      go_wp2
      go_ret
      exact ⟨rfl, hB⟩
set_option maxHeartbeats 400000 in
theorem small15 (s : ByteArray) (w : World) (hs : s.size ≤ maxLen) :
    Calls Try.prog 15 #[.string s] w fun e w' => e = .returned (.string (mkS (low s.data.toList))) ∧ Below w.heap.size w w' := by
  unfold maxLen at hs
  have hcv := fun w => Go.Lib.run_convert_string_bytes (P := Try.prog) w 9 36 5 s Try.underlying9 Try.underlying36 Try.underlying5
  go_enter Try.func15, Try.ntmps15
  go_wp2
  go_loopw [4] (fun v4 wr => ∃ k : Nat, k ≤ s.size ∧ v4 = .int .i64 k ∧ Below w.heap.size w wr ∧ ∃ z fr, BRow wr w.heap.size 5 (mapTo lowB s.data.toList k) z fr) (fun v4 _ => s.size - (intOf v4).toNat)
  case atStart => exact ⟨0, Nat.zero_le _, rfl, conv_below w 5 s, _, _, BRow.conv w 5 s⟩
  case round =>
    obtain ⟨k, hk, rfl, hB, z, fr, hrow⟩ := hrel
    have hlen := dlen s
    by_cases hlt : k < s.size
    · have hk' : k < s.data.toList.length := by omega
      have hcell := hrow.cell (k := k) (by rw [mapTo_length]; exact hk')
      have hfz := hrow.frozen (k := k) (by rw [mapTo_length]; exact hk')
      rw [mapTo_get _ _ _ hk'] at hcell
      clear hlen
      go_wp2
      all_goals
        go_roundw
        case rel =>
          refine ⟨k + 1, by omega, by go_num, by first | exact hB | exact hB.setCell (Nat.le_refl _) _, z, fr, ?_⟩
          first
          | exact hrow.turn hk' (lowB_yes (by assumption) (by assumption))
          | exact hrow.leave hk' (lowB_no (by simp only [Array.getElem_toList]; omega))
        case measure => simp [intOf]; omega
    · obtain rfl : k = s.size := by omega
      have hback := hrow.back (P := Try.prog) 36 5 (grownCap w s.size 0 5) s.size (by rw [mapTo_length, hlen]) Try.underlying36 Try.underlying5 9 Try.underlying9
      rw [mapTo_full _ _ _ (by omega)] at hback
      clear hrow
      go_wp2
      go_ret
      exact ⟨rfl, hB⟩
set_option maxHeartbeats 400000 in
theorem large9 (s : ByteArray) (w : World) (hs : s.size ≤ maxLen) :
    Calls Try.prog 9 #[.string s] w fun e w' => e = .returned (.string (mkS (lar s.data.toList))) ∧ Below w.heap.size w w' := by
  unfold maxLen at hs
  have hcv := fun w => Go.Lib.run_convert_string_bytes (P := Try.prog) w 9 36 5 s Try.underlying9 Try.underlying36 Try.underlying5
  go_enter Try.func9, Try.ntmps9
  go_wp2
  go_loopw [4] (fun v4 wr => ∃ k : Nat, k ≤ s.size ∧ v4 = .int .i64 k ∧ Below w.heap.size w wr ∧ ∃ z fr, BRow wr w.heap.size 5 (mapTo larB s.data.toList k) z fr) (fun v4 _ => s.size - (intOf v4).toNat)
  case atStart => exact ⟨0, Nat.zero_le _, rfl, conv_below w 5 s, _, _, BRow.conv w 5 s⟩
  case round =>
    obtain ⟨k, hk, rfl, hB, z, fr, hrow⟩ := hrel
    have hlen := dlen s
    by_cases hlt : k < s.size
    · have hk' : k < s.data.toList.length := by omega
      have hcell := hrow.cell (k := k) (by rw [mapTo_length]; exact hk')
      have hfz := hrow.frozen (k := k) (by rw [mapTo_length]; exact hk')
      rw [mapTo_get _ _ _ hk'] at hcell
      clear hlen
      go_wp2
      all_goals
        go_roundw
        case rel =>
          refine ⟨k + 1, by omega, by go_num, by first | exact hB | exact hB.setCell (Nat.le_refl _) _, z, fr, ?_⟩
          first
          | exact hrow.turn hk' (larB_yes (by assumption) (by assumption))
          | exact hrow.leave hk' (larB_no (by simp only [Array.getElem_toList]; omega))
        case measure => simp [intOf]; omega
    · obtain rfl : k = s.size := by omega
      have hback := hrow.back (P := Try.prog) 36 5 (grownCap w s.size 0 5) s.size (by rw [mapTo_length, hlen]) Try.underlying36 Try.underlying5 9 Try.underlying9
      rw [mapTo_full _ _ _ (by omega)] at hback
      clear hrow
      go_wp2
      go_ret
      exact ⟨rfl, hB⟩
end Go.Proofs.Ytkkhaaapokkhlaa
