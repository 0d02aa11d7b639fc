/- The walks of the laws QuirkForce and QuirkSizes. -/
import Derived.Test.YtkkhaaapokkhlaaW6
namespace Go.Proofs.Ytkkhaaapokkhlaa
open Go.RowKit

theorem x_name (nm : ByteArray) : (low ((⟨#[120]⟩ : ByteArray) ++ nm).data.toList == [104, 116, 109, 108]) = false ∧ (((⟨#[120]⟩ : ByteArray) ++ nm).data.toList == [104, 116, 109, 108]) = false := by
  have h : ((⟨#[120]⟩ : ByteArray) ++ nm).data.toList = 120 :: nm.data.toList := by simp
  rw [h]
  simp [low, lowB]
section
variable (kind has ch : Int) (nm data sys : ByteArray) (q sf : Bool) (at_ : Value) (w : World)
theorem mode_forced (hn : nm.size ≤ maxLen) (hd : data.size ≤ maxLen) (hs : sys.size ≤ maxLen) :
    Calls Try.prog 6 #[.agg #[.int .i64 kind, .string nm, .string data, .string sys, .int .i64 has, .bool true, .int .i32 ch, .bool sf, at_]] w fun e w' => e = .returned (.int .i64 2) ∧ Below w.heap.size w w' := by
  have := mode6 kind has ch nm data sys true sf at_ w hn hd hs
  rwa [show modeP kind has nm.data.toList data.data.toList sys.data.toList true = 2 from by simp [modeP]] at this
theorem mode_x (hn : ((⟨#[120]⟩ : ByteArray) ++ nm).size ≤ maxLen) (hd : data.size ≤ maxLen) (hs : sys.size ≤ maxLen) :
    Calls Try.prog 6 #[.agg #[.int .i64 kind, .string (⟨#[120]⟩ ++ nm), .string data, .string sys, .int .i64 has, .bool q, .int .i32 ch, .bool sf, at_]] w fun e w' => e = .returned (.int .i64 2) ∧ Below w.heap.size w w' := by
  have := mode6 kind has ch (⟨#[120]⟩ ++ nm) data sys q sf at_ w hn hd hs
  rwa [show modeP kind has ((⟨#[120]⟩ : ByteArray) ++ nm).data.toList data.data.toList sys.data.toList q = 2 from by simp only [modeP, (x_name nm).1]; simp] at this
theorem mode_comment (hn : nm.size ≤ maxLen) (hd : data.size ≤ maxLen) (hs : sys.size ≤ maxLen) :
    Calls Try.prog 6 #[.agg #[.int .i64 3, .string nm, .string data, .string sys, .int .i64 has, .bool q, .int .i32 ch, .bool sf, at_]] w fun e w' => e = .returned (.int .i64 2) ∧ Below w.heap.size w w' := by
  have := mode6 3 has ch nm data sys q sf at_ w hn hd hs
  rwa [show modeP 3 has nm.data.toList data.data.toList sys.data.toList q = 2 from by simp [modeP]] at this
theorem good_x :
    Calls Try.prog 10 #[.agg #[.int .i64 kind, .string (⟨#[120]⟩ ++ nm), .string data, .string sys, .int .i64 has, .bool q, .int .i32 ch, .bool sf, at_]] w fun e w' => e = .returned (.bool false) ∧ Below w.heap.size w w' := by
  have := good10 kind has ch (⟨#[120]⟩ ++ nm) data sys q sf at_ w
  rwa [show goodP kind has ((⟨#[120]⟩ : ByteArray) ++ nm).data.toList sys.data.toList = false from by simp only [goodP, (x_name nm).2]; simp] at this
theorem good_comment :
    Calls Try.prog 10 #[.agg #[.int .i64 3, .string nm, .string data, .string sys, .int .i64 has, .bool q, .int .i32 ch, .bool sf, at_]] w fun e w' => e = .returned (.bool false) ∧ Below w.heap.size w w' := by
  have := good10 3 has ch nm data sys q sf at_ w
  rwa [show goodP 3 has nm.data.toList sys.data.toList = false from by simp [goodP]] at this
end

set_option maxHeartbeats 1000000 in
theorem force5 (kind has ch : Int) (nm data sys : ByteArray) (q sf : Bool) (aa : Option Addr) (an ac : Nat) (w : World) (hn : nm.size ≤ 140737488351232) (hd : data.size ≤ maxLen) (hs : sys.size ≤ maxLen) :
    Calls Try.prog 5 #[.agg #[.int .i64 kind, .string nm, .string data, .string sys, .int .i64 has, .bool q, .int .i32 ch, .bool sf, .slice aa an ac]] w fun e w' => e = .returned (.bool true) ∧ Below w.heap.size w w' := by
  have hx : ((⟨#[120]⟩ : ByteArray) ++ nm).size ≤ maxLen := by
    rw [ByteArray.size_append]; unfold maxLen
    have : (⟨#[120]⟩ : ByteArray).size = 1 := rfl
    omega
  have hn' : nm.size ≤ maxLen := by unfold maxLen; omega
  go_enter Try.func5, Try.ntmps5
  go_wp2_with (first
    | (go_at_call 6; (with_reducible refine (mode_forced _ _ _ _ _ _ _ _ _ hn' hd hs).mono ?_); rintro e w1 ⟨rfl, hb1⟩; have hB := btr (bal (bal (bal (bal (Below.refl w.heap.size w) _) _) _) _) hb1; have hv := bblk hb1 (at_old (at_new _ _ (w.heap.size + 2) (by simp)) _); have hw := bblk hb1 (at_new _ _ (w.heap.size + 3) (by simp)); have cv := blk_cells hv; have cw := blk_cells hw)
    | (go_at_call 6; (with_reducible refine (mode_x _ _ _ _ _ _ _ _ _ _ hx hd hs).mono ?_); rintro e w2 ⟨rfl, hb2⟩; have hB := btr hB hb2; have hv := bblk hb2 hv; have hw := bblk hb2 hw; have cv := blk_cells hv; have cw := blk_cells hw)
    | (go_at_call 6; (with_reducible refine (mode_comment _ _ _ _ _ _ _ _ _ hn' hd hs).mono ?_); rintro e w2 ⟨rfl, hb2⟩; have hB := btr hB hb2; have hv := bblk hb2 hv; have hw := bblk hb2 hw; have cv := blk_cells hv; have cw := blk_cells hw)
    | (go_at_call 10; (with_reducible refine (good_x _ _ _ _ _ _ _ _ _ _).mono ?_); rintro e w2 ⟨rfl, hb2⟩; have hB := btr hB hb2; have hv := bblk hb2 hv; have hw := bblk hb2 hw; have cv := blk_cells hv; have cw := blk_cells hw)
    | (go_at_call 10; (with_reducible refine (good_comment _ _ _ _ _ _ _ _ _).mono ?_); rintro e w2 ⟨rfl, hb2⟩; have hB := btr hB hb2)
    | (go_at_call 8; (with_reducible refine (awake8 _).mono ?_); rintro e w2 ⟨rfl, hb2⟩; have hB := btr hB hb2))
  go_ret
  exact ⟨rfl, hB⟩
end Go.Proofs.Ytkkhaaapokkhlaa
