/- The walk of the law QuirkSizes. -/
import Derived.Test.YtkkhaaapokkhlaaW6
import Derived.Deep.RegionWith
namespace Go.Proofs.Ytkkhaaapokkhlaa
open Go.RowKit

theorem good_mode {kind has : Int} {nm data sys : List UInt8} (h : goodP kind has nm sys = true) : modeP kind has nm data sys false = 0 := by
  simp only [goodP, Bool.and_eq_true, Bool.or_eq_true, beq_iff_eq, Bool.not_eq_true'] at h
  obtain ⟨⟨⟨hk, hn⟩, h2⟩, h4⟩ := h
  subst hk hn
  have hL : (low [104, 116, 109, 108] == [104, 116, 109, 108]) = true := by decide
  have hs : (hasB has 4 && low sys == sIBM) = false := by
    rcases h4 with h4 | h4
    · rw [h4]; rfl
    · subst h4; rw [Bool.and_eq_false_iff]; exact .inr (by decide)
  simp only [modeP, hL, modeQ, isP, h2, bgP, Bool.false_and, hs]
  simp
theorem mode_good (kind has ch : Int) (nm data sys : ByteArray) (sf : Bool) (at_ : Value) (w : World) (hn : nm.size ≤ maxLen) (hd : data.size ≤ maxLen) (hs : sys.size ≤ maxLen) (hg : goodP kind has nm.data.toList sys.data.toList = true) :
    Calls Try.prog 6 #[.agg #[.int .i64 kind, .string nm, .string data, .string sys, .int .i64 has, .bool false, .int .i32 ch, .bool sf, at_]] w fun e w' => e = .returned (.int .i64 0) ∧ Below w.heap.size w w' := by
  have := mode6 kind has ch nm data sys false sf at_ w hn hd hs
  rwa [good_mode hg] at this
theorem modeP_lar (kind has : Int) (nm data sys : List UInt8) (q : Bool) : modeP kind has (lar nm) (lar data) (lar sys) q = modeP kind has nm data sys q := by
  unfold modeP modeQ
  rw [low_lar, low_lar, low_lar]
theorem mode_lar (kind has ch : Int) (nm data sys : ByteArray) (q sf : Bool) (at_ : Value) (w : World) (hn : nm.size ≤ maxLen) (hd : data.size ≤ maxLen) (hs : sys.size ≤ maxLen) :
    Calls Try.prog 6 #[.agg #[.int .i64 kind, .string (mkS (lar nm.data.toList)), .string (mkS (lar data.data.toList)), .string (mkS (lar sys.data.toList)), .int .i64 has, .bool q, .int .i32 ch, .bool sf, at_]] w fun e w' =>
      e = .returned (.int .i64 (modeP kind has nm.data.toList data.data.toList sys.data.toList q)) ∧ Below w.heap.size w w' := by
  rw [← modeP_lar]
  exact mode6 kind has ch (mkS (lar nm.data.toList)) (mkS (lar data.data.toList)) (mkS (lar sys.data.toList)) q sf at_ w (by rw [mkS_size, lar_length, dlen]; exact hn) (by rw [mkS_size, lar_length, dlen]; exact hd) (by rw [mkS_size, lar_length, dlen]; exact hs)

set_option maxHeartbeats 1000000 in
theorem sizes4 (kind has ch : Int) (nm data sys : ByteArray) (q sf : Bool) (aa : Option Addr) (an ac : Nat) (w : World) (hn : nm.size ≤ maxLen) (hd : data.size ≤ maxLen) (hs : sys.size ≤ maxLen) :
    Calls Try.prog 4 #[.agg #[.int .i64 kind, .string nm, .string data, .string sys, .int .i64 has, .bool q, .int .i32 ch, .bool sf, .slice aa an ac]] w fun e w' => e = .returned (.bool true) ∧ Below w.heap.size w w' := by
  go_enter Try.func4, Try.ntmps4
  go_wp2_with (first
    | (go_at_call 9; (with_reducible refine (large9 nm _ hn).mono ?_); rintro e w1 ⟨rfl, hb1⟩; have hB := btr (bal (bal (Below.refl w.heap.size w) _) _) hb1; have ht := bblk hb1 (at_old (at_new _ _ w.heap.size rfl) _); have hu := bblk hb1 (at_new _ _ (w.heap.size + 1) (by simp)); have ct := blk_cells ht; have cu := blk_cells hu; have fu := blk_free hu)
    | (go_at_call 9; (with_reducible refine (large9 data _ hd).mono ?_); rintro e w2 ⟨rfl, hb2⟩; have hB := btr (hB.setCell (p := ⟨w.heap.size + 1, 1, none⟩) (by simp) _) hb2; have ht := bblk hb2 (set_blk_ne ht (by omega) _); have hu := bblk hb2 (set_blk hu _); have ct := blk_cells ht; have cu := blk_cells hu; have fu := blk_free hu)
    | (go_at_call 9; (with_reducible refine (large9 sys _ hs).mono ?_); rintro e w3 ⟨rfl, hb3⟩; have hB := btr (hB.setCell (p := ⟨w.heap.size + 1, 2, none⟩) (by simp) _) hb3; have ht := bblk hb3 (set_blk_ne ht (by omega) _); have hu := bblk hb3 (set_blk hu _); have ct := blk_cells ht; have cu := blk_cells hu; have fu := blk_free hu))
  have hB4 := hB.setCell (p := ⟨w.heap.size + 1, 3, none⟩) (by simp) (.string (mkS (lar sys.data.toList)))
  have ht4 := set_blk_ne (b := w.heap.size + 1) (i := 3) ht (by omega) (.string (mkS (lar sys.data.toList)))
  have hu4 := set_blk (i := 3) hu (.string (mkS (lar sys.data.toList)))
  clear hb1 hb2 hb3 ct cu fu ht hu hB
  generalize w3.setCell ⟨w.heap.size + 1, 3, none⟩ (.string (mkS (lar sys.data.toList))) = w4 at *
  have ct4 := blk_cells ht4
  have cu4 := blk_cells hu4
  go_region_with (first
    | (go_at_call 6; (with_reducible refine (mode6 _ _ _ _ _ _ _ _ _ _ hn hd hs).mono ?_); rintro e w5 ⟨rfl, hb5⟩; have hB5 := btr hB4.drew hb5; have ht5 := bblk hb5 ht4; have hu5 := bblk hb5 hu4; have ct5 := blk_cells ht5; have cu5 := blk_cells hu5)
    | (go_at_call 6; (with_reducible refine (mode_lar _ _ _ _ _ _ _ _ _ _ hn hd hs).mono ?_); rintro e w6 ⟨rfl, hb6⟩; have hB6 := btr hB5 hb6; have ht6 := bblk hb6 ht5; have hu6 := bblk hb6 hu5; have ct6 := blk_cells ht6))
  all_goals
    clear hb5 hu5 ht5 ct5 cu5 ct4 cu4 ht4 hu4 hB4 hB5
    go_wp2_with (first
      | (go_at_call 10; (with_reducible refine (good10 _ _ _ _ _ _ _ _ _ _).mono ?_); rintro e w7 ⟨rfl, hb7⟩; have hB6 := btr hB6 hb7; have ht6 := bblk hb7 ht6; have ct6 := blk_cells ht6; cases hg : goodP kind has nm.data.toList sys.data.toList; all_goals cases q)
      | (go_at_call 6; (with_reducible refine (mode_good _ _ _ _ _ _ _ _ _ hn hd hs hg).mono ?_); rintro e w8 ⟨rfl, hb8⟩; have hB6 := btr hB6 hb8)
      | (go_at_call 8; (with_reducible refine (awake8 _).mono ?_); rintro e w9 ⟨rfl, hb9⟩; have hB6 := btr hB6 hb9))
  all_goals
    go_ret
    exact ⟨rfl, hB6⟩
end Go.Proofs.Ytkkhaaapokkhlaa
