/- The program's small digits. -/
import Derived.Test.YtghhidaihajdmaaDoorS0
namespace Go.Proofs.YtghhidaihajdmaaDoor
open Go.RowKit
theorem dig_at (k : Nat) (h : k < 16) : ((ByteArray.mk #[48, 49, 50, 51, 52, 53, 54, 55, 56, 57, 97, 98, 99, 100, 101, 102])[k]'h) = digs.getD k 0 := by
  rw [List.getD_eq_getElem?_getD, List.getElem?_eq_getElem (show k < digs.length from h)]
  rfl
set_option maxRecDepth 100000 in
theorem hex16 (s : ByteArray) (w : World) (hs : s.size ≤ 65536) : Calls Tryd.prog 16 #[.string s] w fun e w' => e = .returned (.string (mkS (hexL s.data.toList))) ∧ Below w.heap.size w w' := by
  go_enter Tryd.func16, Tryd.ntmps16
  go_wp2_with fail
  go_loopw [4, 7] (fun _ v7 wr => ∃ i : Nat, v7 = .int .i64 i ∧ i ≤ s.size ∧ Lib.IsBuilder 71 5 w.heap.size w.heap.size (Lib.byteCells (hexL (s.data.toList.take i))) wr ∧ Below w.heap.size w wr) (fun _ v7 _ => s.size - (intOf v7).toNat)
  case atStart => exact ⟨0, rfl, Nat.zero_le _, Lib.fresh_isBuilder 71 5 w, (Below.refl _ w).alloc (Nat.le_refl _) _⟩
  case round =>
    obtain ⟨i, rfl, hi, hI, hbw⟩ := hrel
    by_cases hlt : i < s.size
    · have H := hexL_take s.data.toList i (by rw [dlen]; exact hlt)
      rw [show s.data.toList[i]'(by rw [dlen]; exact hlt) = s[i] by rw [Array.getElem_toList]; rfl] at H
      have HX := Go.Lib.hid H
      have hln : (hexL (s.data.toList.take i)).length ≤ 131072 := by rw [hexL_len, List.length_take]; omega
      clear H
      have hb8 := s[i].toNat_lt
      have h1 : (s[i].toNat : Int) / 16 < 16 := by omega
      have h0 : 0 ≤ (s[i].toNat : Int) / 16 := by omega
      have m1 : (s[i].toNat : Int) % 16 < 16 := by omega
      have m0 : 0 ≤ (s[i].toNat : Int) % 16 := by omega
      go_wp2_with fail
      refine (Tryd.Builder_WriteByte w.heap.size w.heap.size _ _ wr hI (by rw [Lib.byteCells_length]; omega) hbw.size).mono ?_
      rintro e w1 ⟨rfl, hI1, hb1⟩
      have hB1 := hbw.trans hb1
      clear hI hbw
      go_wp2_with fail
      refine (Tryd.Builder_WriteByte w.heap.size w.heap.size _ _ w1 (Or.inr hI1) (by simp [Lib.byteCells_length]; omega) hB1.size).mono ?_
      rintro e w2 ⟨rfl, hI2, hb2⟩
      have hB2 := hB1.trans hb2
      rw [dig_at _ (by omega), dig_at _ (by omega)] at hI2
      clear hI1
      have HI2 := Go.Lib.hid hI2
      clear hI2
      go_wp2
      go_roundw
      case measure => simp [intOf]; omega
      case rel =>
        refine ⟨i + 1, by go_num, by omega, Or.inr ?_, hB2⟩
        have := HI2.out
        rw [HX.out]
        simpa [Lib.byteCells, hexB] using this
    · obtain rfl : i = s.size := by omega
      rw [List.take_of_length_le (by rw [dlen]; exact Nat.le_refl _)] at hI
      go_wp2_with fail
      refine (Tryd.Builder_String_any w.heap.size w.heap.size _ wr hI hbw.size).mono ?_
      rintro e w1 ⟨rfl, hb1⟩
      go_wp2
      go_ret
      exact ⟨rfl, hbw.trans hb1⟩
end Go.Proofs.YtghhidaihajdmaaDoor
