/- The walks of strings.Cut at a colon, of Foreign's closure and of the reference's foreign. Printed by gen_for.py. -/
import Derived.Test.YtpicgchcdbginaaB3
import Derived.Lib.CutLaws
import Derived.Lib.IndexBytes
import Derived.BigCall
namespace Go.Proofs.Ytpicgchcdbginaa
open Go.RowKit

theorem index36 (s : ByteArray) (w : World) : Calls Try.prog 36 #[.string s, .string ⟨#[58]⟩] w fun e w' => e = .returned (.int .i64 (Lib.index s.data.toList [58])) ∧ w' = w := by
  have := Try.stringslite_Index_one s 58 w
  rwa [← Lib.index_one] at this
/-- What stands ahead of the first colon, what behind it. -/
def cut1 (s : ByteArray) : ByteArray := ⟨(Lib.cut s.data.toList [58]).1.toArray⟩
def cut2 (s : ByteArray) : ByteArray := ⟨(Lib.cut s.data.toList [58]).2.1.toArray⟩
set_option maxHeartbeats 400000 in
theorem cut33 (s : ByteArray) (hs : s.size ≤ maxLen) (w : World) : Calls Try.prog 33 #[.string s, .string ⟨#[58]⟩] w fun e w' => ∃ c, e = .returned (.tuple #[.string (cut1 s), .string (cut2 s), .bool c]) ∧ Below w.heap.size w w' := by
  unfold maxLen at hs
  rcases Lib.indexB_cases s ⟨#[58]⟩ with hix | ⟨i, hix, hroom⟩
  · obtain ⟨e1, e2, _⟩ := Lib.cutB_miss s ⟨#[58]⟩ hix
    rw [show cut1 s = s from e1, show cut2 s = ByteArray.empty from e2]
    have C := fun w => index36 s w
    rw [show Lib.index s.data.toList [58] = _ from hix] at C
    clear e1 e2 hix
    go_enter Try.func33, Try.ntmps33
    go_wp2_with (go_at_call 36; (with_reducible refine (C _).mono ?_); rintro e w' ⟨rfl, rfl⟩)
    go_ret3
    exact ⟨_, rfl, Below.refl _ _⟩
  · obtain ⟨e1, e2, _⟩ := Lib.cutB_hit s ⟨#[58]⟩ i hix
    have hsz : (⟨#[58]⟩ : ByteArray).size = 1 := rfl
    rw [hsz] at e2 hroom
    rw [show cut1 s = _ from e1, show cut2 s = _ from e2]
    have C := fun w => index36 s w
    rw [show Lib.index s.data.toList [58] = _ from hix] at C
    clear e1 e2 hix hsz
    go_enter Try.func33, Try.ntmps33
    go_wp2_with (go_at_call 36; (with_reducible refine (C _).mono ?_); rintro e w' ⟨rfl, rfl⟩)
    go_region
    go_wp2
    go_ret3
    exact ⟨_, rfl, (Below.refl _ _).drew⟩
theorem cut30 (s : ByteArray) (hs : s.size ≤ maxLen) (w : World) : Calls Try.prog 30 #[.string s, .string ⟨#[58]⟩] w fun e w' => ∃ c, e = .returned (.tuple #[.string (cut1 s), .string (cut2 s), .bool c]) ∧ Below w.heap.size w w' := by
  go_enter Try.func30, Try.ntmps30
  go_wp2_with (go_at_call 33; (with_reducible refine (cut33 s hs _).mono ?_); rintro e w' ⟨c, rfl, hb1⟩)
  go_ret3
  exact ⟨_, rfl, hb1⟩
theorem cut30s (s p q : ByteArray) (hs : s.size ≤ 100) (hp : cut1 s = p) (hq : cut2 s = q) (w : World) : Calls Try.prog 30 #[.string s, .string ⟨#[58]⟩] w fun e w' => ∃ c, e = .returned (.tuple #[.string p, .string q, .bool c]) ∧ Below w.heap.size w w' := by
  subst hp hq
  exact cut30 s (by unfold maxLen; omega) w

def forT : List (List UInt8 × Int × ByteArray × ByteArray) := [
  ([120, 108, 105, 110, 107, 58, 97, 99, 116, 117, 97, 116, 101], 3, ⟨#[120, 108, 105, 110, 107]⟩, ⟨#[97, 99, 116, 117, 97, 116, 101]⟩),
  ([120, 108, 105, 110, 107, 58, 97, 114, 99, 114, 111, 108, 101], 3, ⟨#[120, 108, 105, 110, 107]⟩, ⟨#[97, 114, 99, 114, 111, 108, 101]⟩),
  ([120, 108, 105, 110, 107, 58, 104, 114, 101, 102], 3, ⟨#[120, 108, 105, 110, 107]⟩, ⟨#[104, 114, 101, 102]⟩),
  ([120, 108, 105, 110, 107, 58, 114, 111, 108, 101], 3, ⟨#[120, 108, 105, 110, 107]⟩, ⟨#[114, 111, 108, 101]⟩),
  ([120, 108, 105, 110, 107, 58, 115, 104, 111, 119], 3, ⟨#[120, 108, 105, 110, 107]⟩, ⟨#[115, 104, 111, 119]⟩),
  ([120, 108, 105, 110, 107, 58, 116, 105, 116, 108, 101], 3, ⟨#[120, 108, 105, 110, 107]⟩, ⟨#[116, 105, 116, 108, 101]⟩),
  ([120, 108, 105, 110, 107, 58, 116, 121, 112, 101], 3, ⟨#[120, 108, 105, 110, 107]⟩, ⟨#[116, 121, 112, 101]⟩),
  ([120, 109, 108, 58, 108, 97, 110, 103], 4, ⟨#[120, 109, 108]⟩, ⟨#[108, 97, 110, 103]⟩),
  ([120, 109, 108, 58, 115, 112, 97, 99, 101], 4, ⟨#[120, 109, 108]⟩, ⟨#[115, 112, 97, 99, 101]⟩),
  ([120, 109, 108, 110, 115, 58, 120, 108, 105, 110, 107], 5, ⟨#[120, 109, 108, 110, 115]⟩, ⟨#[120, 108, 105, 110, 107]⟩),
  ([120, 109, 108, 110, 115], 5, ⟨#[]⟩, ⟨#[120, 109, 108, 110, 115]⟩)]
/-- An attribute with its namespace. -/
def foreignF (x : A4) : A4 := match forT.find? (fun t => x.nm.toList == t.1) with
  | some t => ⟨t.2.1, t.2.2.1, t.2.2.2, x.va⟩
  | none => x
theorem nm_eq {s : ByteArray} {l : List UInt8} (h : (s.toList == l) = true) : s = ⟨l.toArray⟩ := by
  have e := eq_of_beq h
  rw [tl] at e
  rw [← e]
theorem foreignF_no (x : A4) (h0 : (x.nm.toList == [120, 108, 105, 110, 107, 58, 97, 99, 116, 117, 97, 116, 101]) = false) (h1 : (x.nm.toList == [120, 108, 105, 110, 107, 58, 97, 114, 99, 114, 111, 108, 101]) = false) (h2 : (x.nm.toList == [120, 108, 105, 110, 107, 58, 104, 114, 101, 102]) = false) (h3 : (x.nm.toList == [120, 108, 105, 110, 107, 58, 114, 111, 108, 101]) = false) (h4 : (x.nm.toList == [120, 108, 105, 110, 107, 58, 115, 104, 111, 119]) = false) (h5 : (x.nm.toList == [120, 108, 105, 110, 107, 58, 116, 105, 116, 108, 101]) = false) (h6 : (x.nm.toList == [120, 108, 105, 110, 107, 58, 116, 121, 112, 101]) = false) (h7 : (x.nm.toList == [120, 109, 108, 58, 108, 97, 110, 103]) = false) (h8 : (x.nm.toList == [120, 109, 108, 58, 115, 112, 97, 99, 101]) = false) (h9 : (x.nm.toList == [120, 109, 108, 110, 115, 58, 120, 108, 105, 110, 107]) = false) (h10 : (x.nm.toList == [120, 109, 108, 110, 115]) = false) : foreignF x = x := by
  simp [foreignF, forT, h0, h1, h2, h3, h4, h5, h6, h7, h8, h9, h10]

theorem foreignF_0 (sp : Int) (pre va : ByteArray) : foreignF ⟨sp, pre, ⟨#[120, 108, 105, 110, 107, 58, 97, 99, 116, 117, 97, 116, 101]⟩, va⟩ = ⟨3, ⟨#[120, 108, 105, 110, 107]⟩, ⟨#[97, 99, 116, 117, 97, 116, 101]⟩, va⟩ := by
  have h : (forT.find? fun t => (⟨#[120, 108, 105, 110, 107, 58, 97, 99, 116, 117, 97, 116, 101]⟩ : ByteArray).toList == t.1) = some ([120, 108, 105, 110, 107, 58, 97, 99, 116, 117, 97, 116, 101], 3, ⟨#[120, 108, 105, 110, 107]⟩, ⟨#[97, 99, 116, 117, 97, 116, 101]⟩) := by decide +kernel
  simp only [foreignF, h]
set_option maxHeartbeats 1000000 in
theorem foreign29_0 (sp : Int) (pre va : ByteArray) (w : World) : Calls Try.prog 29 #[.agg #[.int .i64 sp, .string pre, .string ⟨#[120, 108, 105, 110, 107, 58, 97, 99, 116, 117, 97, 116, 101]⟩, .string va]] w fun e w' => e = .returned (.agg #[.int .i64 3, .string ⟨#[120, 108, 105, 110, 107]⟩, .string ⟨#[97, 99, 116, 117, 97, 116, 101]⟩, .string va]) ∧ Below w.heap.size w w' := by
  go_enter Try.func29, Try.ntmps29
  go_wp2_with (first
    | (go_at_call 30; (with_reducible refine (cut30s ⟨#[120, 108, 105, 110, 107, 58, 97, 99, 116, 117, 97, 116, 101]⟩ ⟨#[120, 108, 105, 110, 107]⟩ ⟨#[97, 99, 116, 117, 97, 116, 101]⟩ (by decide) (by decide +kernel) (by decide +kernel) _).mono ?_); rintro e w1 ⟨c, rfl, hb1⟩; have hB1 := btr (bal (bal (Below.refl w.heap.size w) _) _) hb1; have hq1 := bblk hb1 (at_old (at_new w (.cells #[.int .i64 sp, .string pre, .string ⟨#[120, 108, 105, 110, 107, 58, 97, 99, 116, 117, 97, 116, 101]⟩, .string va] 30) w.heap.size rfl) _); have hz1 := bblk hb1 (at_new _ _ (w.heap.size + 1) (by simp)); have hc1 := blk_cells hq1; have hl0 := blk_lt hq1; have hl1 := blk_lt hz1)
    | ((with_reducible refine at_op ⟨none, .store 30 (.tmp 2) (.tmp 43), _, _, _, _⟩ ?_); refine step_store_row rfl 30 _ _ rfl (w.heap.size + 1) 30 _ #[.int .i64 3, .string ⟨#[120, 108, 105, 110, 107]⟩, .string ⟨#[97, 99, 116, 117, 97, 116, 101]⟩, .string va] rfl rfl (at_old hz1 _) (size30 ⟨3, ⟨#[120, 108, 105, 110, 107]⟩, ⟨#[97, 99, 116, 117, 97, 116, 101]⟩, va⟩) rfl (oneA ⟨3, ⟨#[120, 108, 105, 110, 107]⟩, ⟨#[97, 99, 116, 117, 97, 116, 101]⟩, va⟩) ?_))
  exact bodyPost_ret (results_cell_row rfl _ _ (w.heap.size + 1) 30 #[.int .i64 3, .string ⟨#[120, 108, 105, 110, 107]⟩, .string ⟨#[97, 99, 116, 117, 97, 116, 101]⟩, .string va] (0, 0) _ rfl (setRow_heap _ _ _ _ _ _ (at_old hz1 _)) Try.underlying30 rfl (size30 ⟨3, ⟨#[120, 108, 105, 110, 107]⟩, ⟨#[97, 99, 116, 117, 97, 116, 101]⟩, va⟩)) rfl ⟨rfl, setRow_below (bal hB1 _) (by omega) _⟩
set_option maxHeartbeats 1000000 in
theorem foreign31_0 (sp : Int) (pre va : ByteArray) (w : World) : Calls Try.prog 31 #[.agg #[.int .i64 sp, .string pre, .string ⟨#[120, 108, 105, 110, 107, 58, 97, 99, 116, 117, 97, 116, 101]⟩, .string va]] w fun e w' => e = .returned (.agg #[.int .i64 3, .string ⟨#[120, 108, 105, 110, 107]⟩, .string ⟨#[97, 99, 116, 117, 97, 116, 101]⟩, .string va]) ∧ Below w.heap.size w w' := by
  go_enter Try.func31, Try.ntmps31
  go_wp2
  go_region
  go_wp2
  exact bodyPost_ret (results_cell_row rfl _ _ (w.heap.size + 1) 30 #[.int .i64 3, .string ⟨#[120, 108, 105, 110, 107]⟩, .string ⟨#[97, 99, 116, 117, 97, 116, 101]⟩, .string va] (0, 0) _ rfl (at_new _ _ _ (by simp)) Try.underlying30 rfl (size30 ⟨3, ⟨#[120, 108, 105, 110, 107]⟩, ⟨#[97, 99, 116, 117, 97, 116, 101]⟩, va⟩)) rfl ⟨rfl, (bal (bal (Below.refl _ _) _) _).drew⟩
theorem foreignF_1 (sp : Int) (pre va : ByteArray) : foreignF ⟨sp, pre, ⟨#[120, 108, 105, 110, 107, 58, 97, 114, 99, 114, 111, 108, 101]⟩, va⟩ = ⟨3, ⟨#[120, 108, 105, 110, 107]⟩, ⟨#[97, 114, 99, 114, 111, 108, 101]⟩, va⟩ := by
  have h : (forT.find? fun t => (⟨#[120, 108, 105, 110, 107, 58, 97, 114, 99, 114, 111, 108, 101]⟩ : ByteArray).toList == t.1) = some ([120, 108, 105, 110, 107, 58, 97, 114, 99, 114, 111, 108, 101], 3, ⟨#[120, 108, 105, 110, 107]⟩, ⟨#[97, 114, 99, 114, 111, 108, 101]⟩) := by decide +kernel
  simp only [foreignF, h]
set_option maxHeartbeats 1000000 in
theorem foreign29_1 (sp : Int) (pre va : ByteArray) (w : World) : Calls Try.prog 29 #[.agg #[.int .i64 sp, .string pre, .string ⟨#[120, 108, 105, 110, 107, 58, 97, 114, 99, 114, 111, 108, 101]⟩, .string va]] w fun e w' => e = .returned (.agg #[.int .i64 3, .string ⟨#[120, 108, 105, 110, 107]⟩, .string ⟨#[97, 114, 99, 114, 111, 108, 101]⟩, .string va]) ∧ Below w.heap.size w w' := by
  go_enter Try.func29, Try.ntmps29
  go_wp2_with (first
    | (go_at_call 30; (with_reducible refine (cut30s ⟨#[120, 108, 105, 110, 107, 58, 97, 114, 99, 114, 111, 108, 101]⟩ ⟨#[120, 108, 105, 110, 107]⟩ ⟨#[97, 114, 99, 114, 111, 108, 101]⟩ (by decide) (by decide +kernel) (by decide +kernel) _).mono ?_); rintro e w1 ⟨c, rfl, hb1⟩; have hB1 := btr (bal (bal (Below.refl w.heap.size w) _) _) hb1; have hq1 := bblk hb1 (at_old (at_new w (.cells #[.int .i64 sp, .string pre, .string ⟨#[120, 108, 105, 110, 107, 58, 97, 114, 99, 114, 111, 108, 101]⟩, .string va] 30) w.heap.size rfl) _); have hz1 := bblk hb1 (at_new _ _ (w.heap.size + 1) (by simp)); have hc1 := blk_cells hq1; have hl0 := blk_lt hq1; have hl1 := blk_lt hz1)
    | ((with_reducible refine at_op ⟨none, .store 30 (.tmp 2) (.tmp 43), _, _, _, _⟩ ?_); refine step_store_row rfl 30 _ _ rfl (w.heap.size + 1) 30 _ #[.int .i64 3, .string ⟨#[120, 108, 105, 110, 107]⟩, .string ⟨#[97, 114, 99, 114, 111, 108, 101]⟩, .string va] rfl rfl (at_old hz1 _) (size30 ⟨3, ⟨#[120, 108, 105, 110, 107]⟩, ⟨#[97, 114, 99, 114, 111, 108, 101]⟩, va⟩) rfl (oneA ⟨3, ⟨#[120, 108, 105, 110, 107]⟩, ⟨#[97, 114, 99, 114, 111, 108, 101]⟩, va⟩) ?_))
  exact bodyPost_ret (results_cell_row rfl _ _ (w.heap.size + 1) 30 #[.int .i64 3, .string ⟨#[120, 108, 105, 110, 107]⟩, .string ⟨#[97, 114, 99, 114, 111, 108, 101]⟩, .string va] (0, 0) _ rfl (setRow_heap _ _ _ _ _ _ (at_old hz1 _)) Try.underlying30 rfl (size30 ⟨3, ⟨#[120, 108, 105, 110, 107]⟩, ⟨#[97, 114, 99, 114, 111, 108, 101]⟩, va⟩)) rfl ⟨rfl, setRow_below (bal hB1 _) (by omega) _⟩
set_option maxHeartbeats 1000000 in
theorem foreign31_1 (sp : Int) (pre va : ByteArray) (w : World) : Calls Try.prog 31 #[.agg #[.int .i64 sp, .string pre, .string ⟨#[120, 108, 105, 110, 107, 58, 97, 114, 99, 114, 111, 108, 101]⟩, .string va]] w fun e w' => e = .returned (.agg #[.int .i64 3, .string ⟨#[120, 108, 105, 110, 107]⟩, .string ⟨#[97, 114, 99, 114, 111, 108, 101]⟩, .string va]) ∧ Below w.heap.size w w' := by
  go_enter Try.func31, Try.ntmps31
  go_wp2
  go_region
  go_wp2
  exact bodyPost_ret (results_cell_row rfl _ _ (w.heap.size + 1) 30 #[.int .i64 3, .string ⟨#[120, 108, 105, 110, 107]⟩, .string ⟨#[97, 114, 99, 114, 111, 108, 101]⟩, .string va] (0, 0) _ rfl (at_new _ _ _ (by simp)) Try.underlying30 rfl (size30 ⟨3, ⟨#[120, 108, 105, 110, 107]⟩, ⟨#[97, 114, 99, 114, 111, 108, 101]⟩, va⟩)) rfl ⟨rfl, (bal (bal (Below.refl _ _) _) _).drew⟩
theorem foreignF_2 (sp : Int) (pre va : ByteArray) : foreignF ⟨sp, pre, ⟨#[120, 108, 105, 110, 107, 58, 104, 114, 101, 102]⟩, va⟩ = ⟨3, ⟨#[120, 108, 105, 110, 107]⟩, ⟨#[104, 114, 101, 102]⟩, va⟩ := by
  have h : (forT.find? fun t => (⟨#[120, 108, 105, 110, 107, 58, 104, 114, 101, 102]⟩ : ByteArray).toList == t.1) = some ([120, 108, 105, 110, 107, 58, 104, 114, 101, 102], 3, ⟨#[120, 108, 105, 110, 107]⟩, ⟨#[104, 114, 101, 102]⟩) := by decide +kernel
  simp only [foreignF, h]
set_option maxHeartbeats 1000000 in
theorem foreign29_2 (sp : Int) (pre va : ByteArray) (w : World) : Calls Try.prog 29 #[.agg #[.int .i64 sp, .string pre, .string ⟨#[120, 108, 105, 110, 107, 58, 104, 114, 101, 102]⟩, .string va]] w fun e w' => e = .returned (.agg #[.int .i64 3, .string ⟨#[120, 108, 105, 110, 107]⟩, .string ⟨#[104, 114, 101, 102]⟩, .string va]) ∧ Below w.heap.size w w' := by
  go_enter Try.func29, Try.ntmps29
  go_wp2_with (first
    | (go_at_call 30; (with_reducible refine (cut30s ⟨#[120, 108, 105, 110, 107, 58, 104, 114, 101, 102]⟩ ⟨#[120, 108, 105, 110, 107]⟩ ⟨#[104, 114, 101, 102]⟩ (by decide) (by decide +kernel) (by decide +kernel) _).mono ?_); rintro e w1 ⟨c, rfl, hb1⟩; have hB1 := btr (bal (bal (Below.refl w.heap.size w) _) _) hb1; have hq1 := bblk hb1 (at_old (at_new w (.cells #[.int .i64 sp, .string pre, .string ⟨#[120, 108, 105, 110, 107, 58, 104, 114, 101, 102]⟩, .string va] 30) w.heap.size rfl) _); have hz1 := bblk hb1 (at_new _ _ (w.heap.size + 1) (by simp)); have hc1 := blk_cells hq1; have hl0 := blk_lt hq1; have hl1 := blk_lt hz1)
    | ((with_reducible refine at_op ⟨none, .store 30 (.tmp 2) (.tmp 43), _, _, _, _⟩ ?_); refine step_store_row rfl 30 _ _ rfl (w.heap.size + 1) 30 _ #[.int .i64 3, .string ⟨#[120, 108, 105, 110, 107]⟩, .string ⟨#[104, 114, 101, 102]⟩, .string va] rfl rfl (at_old hz1 _) (size30 ⟨3, ⟨#[120, 108, 105, 110, 107]⟩, ⟨#[104, 114, 101, 102]⟩, va⟩) rfl (oneA ⟨3, ⟨#[120, 108, 105, 110, 107]⟩, ⟨#[104, 114, 101, 102]⟩, va⟩) ?_))
  exact bodyPost_ret (results_cell_row rfl _ _ (w.heap.size + 1) 30 #[.int .i64 3, .string ⟨#[120, 108, 105, 110, 107]⟩, .string ⟨#[104, 114, 101, 102]⟩, .string va] (0, 0) _ rfl (setRow_heap _ _ _ _ _ _ (at_old hz1 _)) Try.underlying30 rfl (size30 ⟨3, ⟨#[120, 108, 105, 110, 107]⟩, ⟨#[104, 114, 101, 102]⟩, va⟩)) rfl ⟨rfl, setRow_below (bal hB1 _) (by omega) _⟩
set_option maxHeartbeats 1000000 in
theorem foreign31_2 (sp : Int) (pre va : ByteArray) (w : World) : Calls Try.prog 31 #[.agg #[.int .i64 sp, .string pre, .string ⟨#[120, 108, 105, 110, 107, 58, 104, 114, 101, 102]⟩, .string va]] w fun e w' => e = .returned (.agg #[.int .i64 3, .string ⟨#[120, 108, 105, 110, 107]⟩, .string ⟨#[104, 114, 101, 102]⟩, .string va]) ∧ Below w.heap.size w w' := by
  go_enter Try.func31, Try.ntmps31
  go_wp2
  go_region
  go_wp2
  exact bodyPost_ret (results_cell_row rfl _ _ (w.heap.size + 1) 30 #[.int .i64 3, .string ⟨#[120, 108, 105, 110, 107]⟩, .string ⟨#[104, 114, 101, 102]⟩, .string va] (0, 0) _ rfl (at_new _ _ _ (by simp)) Try.underlying30 rfl (size30 ⟨3, ⟨#[120, 108, 105, 110, 107]⟩, ⟨#[104, 114, 101, 102]⟩, va⟩)) rfl ⟨rfl, (bal (bal (Below.refl _ _) _) _).drew⟩
theorem foreignF_3 (sp : Int) (pre va : ByteArray) : foreignF ⟨sp, pre, ⟨#[120, 108, 105, 110, 107, 58, 114, 111, 108, 101]⟩, va⟩ = ⟨3, ⟨#[120, 108, 105, 110, 107]⟩, ⟨#[114, 111, 108, 101]⟩, va⟩ := by
  have h : (forT.find? fun t => (⟨#[120, 108, 105, 110, 107, 58, 114, 111, 108, 101]⟩ : ByteArray).toList == t.1) = some ([120, 108, 105, 110, 107, 58, 114, 111, 108, 101], 3, ⟨#[120, 108, 105, 110, 107]⟩, ⟨#[114, 111, 108, 101]⟩) := by decide +kernel
  simp only [foreignF, h]
set_option maxHeartbeats 1000000 in
theorem foreign29_3 (sp : Int) (pre va : ByteArray) (w : World) : Calls Try.prog 29 #[.agg #[.int .i64 sp, .string pre, .string ⟨#[120, 108, 105, 110, 107, 58, 114, 111, 108, 101]⟩, .string va]] w fun e w' => e = .returned (.agg #[.int .i64 3, .string ⟨#[120, 108, 105, 110, 107]⟩, .string ⟨#[114, 111, 108, 101]⟩, .string va]) ∧ Below w.heap.size w w' := by
  go_enter Try.func29, Try.ntmps29
  go_wp2_with (first
    | (go_at_call 30; (with_reducible refine (cut30s ⟨#[120, 108, 105, 110, 107, 58, 114, 111, 108, 101]⟩ ⟨#[120, 108, 105, 110, 107]⟩ ⟨#[114, 111, 108, 101]⟩ (by decide) (by decide +kernel) (by decide +kernel) _).mono ?_); rintro e w1 ⟨c, rfl, hb1⟩; have hB1 := btr (bal (bal (Below.refl w.heap.size w) _) _) hb1; have hq1 := bblk hb1 (at_old (at_new w (.cells #[.int .i64 sp, .string pre, .string ⟨#[120, 108, 105, 110, 107, 58, 114, 111, 108, 101]⟩, .string va] 30) w.heap.size rfl) _); have hz1 := bblk hb1 (at_new _ _ (w.heap.size + 1) (by simp)); have hc1 := blk_cells hq1; have hl0 := blk_lt hq1; have hl1 := blk_lt hz1)
    | ((with_reducible refine at_op ⟨none, .store 30 (.tmp 2) (.tmp 43), _, _, _, _⟩ ?_); refine step_store_row rfl 30 _ _ rfl (w.heap.size + 1) 30 _ #[.int .i64 3, .string ⟨#[120, 108, 105, 110, 107]⟩, .string ⟨#[114, 111, 108, 101]⟩, .string va] rfl rfl (at_old hz1 _) (size30 ⟨3, ⟨#[120, 108, 105, 110, 107]⟩, ⟨#[114, 111, 108, 101]⟩, va⟩) rfl (oneA ⟨3, ⟨#[120, 108, 105, 110, 107]⟩, ⟨#[114, 111, 108, 101]⟩, va⟩) ?_))
  exact bodyPost_ret (results_cell_row rfl _ _ (w.heap.size + 1) 30 #[.int .i64 3, .string ⟨#[120, 108, 105, 110, 107]⟩, .string ⟨#[114, 111, 108, 101]⟩, .string va] (0, 0) _ rfl (setRow_heap _ _ _ _ _ _ (at_old hz1 _)) Try.underlying30 rfl (size30 ⟨3, ⟨#[120, 108, 105, 110, 107]⟩, ⟨#[114, 111, 108, 101]⟩, va⟩)) rfl ⟨rfl, setRow_below (bal hB1 _) (by omega) _⟩
set_option maxHeartbeats 1000000 in
theorem foreign31_3 (sp : Int) (pre va : ByteArray) (w : World) : Calls Try.prog 31 #[.agg #[.int .i64 sp, .string pre, .string ⟨#[120, 108, 105, 110, 107, 58, 114, 111, 108, 101]⟩, .string va]] w fun e w' => e = .returned (.agg #[.int .i64 3, .string ⟨#[120, 108, 105, 110, 107]⟩, .string ⟨#[114, 111, 108, 101]⟩, .string va]) ∧ Below w.heap.size w w' := by
  go_enter Try.func31, Try.ntmps31
  go_wp2
  go_region
  go_wp2
  exact bodyPost_ret (results_cell_row rfl _ _ (w.heap.size + 1) 30 #[.int .i64 3, .string ⟨#[120, 108, 105, 110, 107]⟩, .string ⟨#[114, 111, 108, 101]⟩, .string va] (0, 0) _ rfl (at_new _ _ _ (by simp)) Try.underlying30 rfl (size30 ⟨3, ⟨#[120, 108, 105, 110, 107]⟩, ⟨#[114, 111, 108, 101]⟩, va⟩)) rfl ⟨rfl, (bal (bal (Below.refl _ _) _) _).drew⟩
theorem foreignF_4 (sp : Int) (pre va : ByteArray) : foreignF ⟨sp, pre, ⟨#[120, 108, 105, 110, 107, 58, 115, 104, 111, 119]⟩, va⟩ = ⟨3, ⟨#[120, 108, 105, 110, 107]⟩, ⟨#[115, 104, 111, 119]⟩, va⟩ := by
  have h : (forT.find? fun t => (⟨#[120, 108, 105, 110, 107, 58, 115, 104, 111, 119]⟩ : ByteArray).toList == t.1) = some ([120, 108, 105, 110, 107, 58, 115, 104, 111, 119], 3, ⟨#[120, 108, 105, 110, 107]⟩, ⟨#[115, 104, 111, 119]⟩) := by decide +kernel
  simp only [foreignF, h]
set_option maxHeartbeats 1000000 in
theorem foreign29_4 (sp : Int) (pre va : ByteArray) (w : World) : Calls Try.prog 29 #[.agg #[.int .i64 sp, .string pre, .string ⟨#[120, 108, 105, 110, 107, 58, 115, 104, 111, 119]⟩, .string va]] w fun e w' => e = .returned (.agg #[.int .i64 3, .string ⟨#[120, 108, 105, 110, 107]⟩, .string ⟨#[115, 104, 111, 119]⟩, .string va]) ∧ Below w.heap.size w w' := by
  go_enter Try.func29, Try.ntmps29
  go_wp2_with (first
    | (go_at_call 30; (with_reducible refine (cut30s ⟨#[120, 108, 105, 110, 107, 58, 115, 104, 111, 119]⟩ ⟨#[120, 108, 105, 110, 107]⟩ ⟨#[115, 104, 111, 119]⟩ (by decide) (by decide +kernel) (by decide +kernel) _).mono ?_); rintro e w1 ⟨c, rfl, hb1⟩; have hB1 := btr (bal (bal (Below.refl w.heap.size w) _) _) hb1; have hq1 := bblk hb1 (at_old (at_new w (.cells #[.int .i64 sp, .string pre, .string ⟨#[120, 108, 105, 110, 107, 58, 115, 104, 111, 119]⟩, .string va] 30) w.heap.size rfl) _); have hz1 := bblk hb1 (at_new _ _ (w.heap.size + 1) (by simp)); have hc1 := blk_cells hq1; have hl0 := blk_lt hq1; have hl1 := blk_lt hz1)
    | ((with_reducible refine at_op ⟨none, .store 30 (.tmp 2) (.tmp 43), _, _, _, _⟩ ?_); refine step_store_row rfl 30 _ _ rfl (w.heap.size + 1) 30 _ #[.int .i64 3, .string ⟨#[120, 108, 105, 110, 107]⟩, .string ⟨#[115, 104, 111, 119]⟩, .string va] rfl rfl (at_old hz1 _) (size30 ⟨3, ⟨#[120, 108, 105, 110, 107]⟩, ⟨#[115, 104, 111, 119]⟩, va⟩) rfl (oneA ⟨3, ⟨#[120, 108, 105, 110, 107]⟩, ⟨#[115, 104, 111, 119]⟩, va⟩) ?_))
  exact bodyPost_ret (results_cell_row rfl _ _ (w.heap.size + 1) 30 #[.int .i64 3, .string ⟨#[120, 108, 105, 110, 107]⟩, .string ⟨#[115, 104, 111, 119]⟩, .string va] (0, 0) _ rfl (setRow_heap _ _ _ _ _ _ (at_old hz1 _)) Try.underlying30 rfl (size30 ⟨3, ⟨#[120, 108, 105, 110, 107]⟩, ⟨#[115, 104, 111, 119]⟩, va⟩)) rfl ⟨rfl, setRow_below (bal hB1 _) (by omega) _⟩
set_option maxHeartbeats 1000000 in
theorem foreign31_4 (sp : Int) (pre va : ByteArray) (w : World) : Calls Try.prog 31 #[.agg #[.int .i64 sp, .string pre, .string ⟨#[120, 108, 105, 110, 107, 58, 115, 104, 111, 119]⟩, .string va]] w fun e w' => e = .returned (.agg #[.int .i64 3, .string ⟨#[120, 108, 105, 110, 107]⟩, .string ⟨#[115, 104, 111, 119]⟩, .string va]) ∧ Below w.heap.size w w' := by
  go_enter Try.func31, Try.ntmps31
  go_wp2
  go_region
  go_wp2
  exact bodyPost_ret (results_cell_row rfl _ _ (w.heap.size + 1) 30 #[.int .i64 3, .string ⟨#[120, 108, 105, 110, 107]⟩, .string ⟨#[115, 104, 111, 119]⟩, .string va] (0, 0) _ rfl (at_new _ _ _ (by simp)) Try.underlying30 rfl (size30 ⟨3, ⟨#[120, 108, 105, 110, 107]⟩, ⟨#[115, 104, 111, 119]⟩, va⟩)) rfl ⟨rfl, (bal (bal (Below.refl _ _) _) _).drew⟩
theorem foreignF_5 (sp : Int) (pre va : ByteArray) : foreignF ⟨sp, pre, ⟨#[120, 108, 105, 110, 107, 58, 116, 105, 116, 108, 101]⟩, va⟩ = ⟨3, ⟨#[120, 108, 105, 110, 107]⟩, ⟨#[116, 105, 116, 108, 101]⟩, va⟩ := by
  have h : (forT.find? fun t => (⟨#[120, 108, 105, 110, 107, 58, 116, 105, 116, 108, 101]⟩ : ByteArray).toList == t.1) = some ([120, 108, 105, 110, 107, 58, 116, 105, 116, 108, 101], 3, ⟨#[120, 108, 105, 110, 107]⟩, ⟨#[116, 105, 116, 108, 101]⟩) := by decide +kernel
  simp only [foreignF, h]
set_option maxHeartbeats 1000000 in
theorem foreign29_5 (sp : Int) (pre va : ByteArray) (w : World) : Calls Try.prog 29 #[.agg #[.int .i64 sp, .string pre, .string ⟨#[120, 108, 105, 110, 107, 58, 116, 105, 116, 108, 101]⟩, .string va]] w fun e w' => e = .returned (.agg #[.int .i64 3, .string ⟨#[120, 108, 105, 110, 107]⟩, .string ⟨#[116, 105, 116, 108, 101]⟩, .string va]) ∧ Below w.heap.size w w' := by
  go_enter Try.func29, Try.ntmps29
  go_wp2_with (first
    | (go_at_call 30; (with_reducible refine (cut30s ⟨#[120, 108, 105, 110, 107, 58, 116, 105, 116, 108, 101]⟩ ⟨#[120, 108, 105, 110, 107]⟩ ⟨#[116, 105, 116, 108, 101]⟩ (by decide) (by decide +kernel) (by decide +kernel) _).mono ?_); rintro e w1 ⟨c, rfl, hb1⟩; have hB1 := btr (bal (bal (Below.refl w.heap.size w) _) _) hb1; have hq1 := bblk hb1 (at_old (at_new w (.cells #[.int .i64 sp, .string pre, .string ⟨#[120, 108, 105, 110, 107, 58, 116, 105, 116, 108, 101]⟩, .string va] 30) w.heap.size rfl) _); have hz1 := bblk hb1 (at_new _ _ (w.heap.size + 1) (by simp)); have hc1 := blk_cells hq1; have hl0 := blk_lt hq1; have hl1 := blk_lt hz1)
    | ((with_reducible refine at_op ⟨none, .store 30 (.tmp 2) (.tmp 43), _, _, _, _⟩ ?_); refine step_store_row rfl 30 _ _ rfl (w.heap.size + 1) 30 _ #[.int .i64 3, .string ⟨#[120, 108, 105, 110, 107]⟩, .string ⟨#[116, 105, 116, 108, 101]⟩, .string va] rfl rfl (at_old hz1 _) (size30 ⟨3, ⟨#[120, 108, 105, 110, 107]⟩, ⟨#[116, 105, 116, 108, 101]⟩, va⟩) rfl (oneA ⟨3, ⟨#[120, 108, 105, 110, 107]⟩, ⟨#[116, 105, 116, 108, 101]⟩, va⟩) ?_))
  exact bodyPost_ret (results_cell_row rfl _ _ (w.heap.size + 1) 30 #[.int .i64 3, .string ⟨#[120, 108, 105, 110, 107]⟩, .string ⟨#[116, 105, 116, 108, 101]⟩, .string va] (0, 0) _ rfl (setRow_heap _ _ _ _ _ _ (at_old hz1 _)) Try.underlying30 rfl (size30 ⟨3, ⟨#[120, 108, 105, 110, 107]⟩, ⟨#[116, 105, 116, 108, 101]⟩, va⟩)) rfl ⟨rfl, setRow_below (bal hB1 _) (by omega) _⟩
set_option maxHeartbeats 1000000 in
theorem foreign31_5 (sp : Int) (pre va : ByteArray) (w : World) : Calls Try.prog 31 #[.agg #[.int .i64 sp, .string pre, .string ⟨#[120, 108, 105, 110, 107, 58, 116, 105, 116, 108, 101]⟩, .string va]] w fun e w' => e = .returned (.agg #[.int .i64 3, .string ⟨#[120, 108, 105, 110, 107]⟩, .string ⟨#[116, 105, 116, 108, 101]⟩, .string va]) ∧ Below w.heap.size w w' := by
  go_enter Try.func31, Try.ntmps31
  go_wp2
  go_region
  go_wp2
  exact bodyPost_ret (results_cell_row rfl _ _ (w.heap.size + 1) 30 #[.int .i64 3, .string ⟨#[120, 108, 105, 110, 107]⟩, .string ⟨#[116, 105, 116, 108, 101]⟩, .string va] (0, 0) _ rfl (at_new _ _ _ (by simp)) Try.underlying30 rfl (size30 ⟨3, ⟨#[120, 108, 105, 110, 107]⟩, ⟨#[116, 105, 116, 108, 101]⟩, va⟩)) rfl ⟨rfl, (bal (bal (Below.refl _ _) _) _).drew⟩
theorem foreignF_6 (sp : Int) (pre va : ByteArray) : foreignF ⟨sp, pre, ⟨#[120, 108, 105, 110, 107, 58, 116, 121, 112, 101]⟩, va⟩ = ⟨3, ⟨#[120, 108, 105, 110, 107]⟩, ⟨#[116, 121, 112, 101]⟩, va⟩ := by
  have h : (forT.find? fun t => (⟨#[120, 108, 105, 110, 107, 58, 116, 121, 112, 101]⟩ : ByteArray).toList == t.1) = some ([120, 108, 105, 110, 107, 58, 116, 121, 112, 101], 3, ⟨#[120, 108, 105, 110, 107]⟩, ⟨#[116, 121, 112, 101]⟩) := by decide +kernel
  simp only [foreignF, h]
set_option maxHeartbeats 1000000 in
theorem foreign29_6 (sp : Int) (pre va : ByteArray) (w : World) : Calls Try.prog 29 #[.agg #[.int .i64 sp, .string pre, .string ⟨#[120, 108, 105, 110, 107, 58, 116, 121, 112, 101]⟩, .string va]] w fun e w' => e = .returned (.agg #[.int .i64 3, .string ⟨#[120, 108, 105, 110, 107]⟩, .string ⟨#[116, 121, 112, 101]⟩, .string va]) ∧ Below w.heap.size w w' := by
  go_enter Try.func29, Try.ntmps29
  go_wp2_with (first
    | (go_at_call 30; (with_reducible refine (cut30s ⟨#[120, 108, 105, 110, 107, 58, 116, 121, 112, 101]⟩ ⟨#[120, 108, 105, 110, 107]⟩ ⟨#[116, 121, 112, 101]⟩ (by decide) (by decide +kernel) (by decide +kernel) _).mono ?_); rintro e w1 ⟨c, rfl, hb1⟩; have hB1 := btr (bal (bal (Below.refl w.heap.size w) _) _) hb1; have hq1 := bblk hb1 (at_old (at_new w (.cells #[.int .i64 sp, .string pre, .string ⟨#[120, 108, 105, 110, 107, 58, 116, 121, 112, 101]⟩, .string va] 30) w.heap.size rfl) _); have hz1 := bblk hb1 (at_new _ _ (w.heap.size + 1) (by simp)); have hc1 := blk_cells hq1; have hl0 := blk_lt hq1; have hl1 := blk_lt hz1)
    | ((with_reducible refine at_op ⟨none, .store 30 (.tmp 2) (.tmp 43), _, _, _, _⟩ ?_); refine step_store_row rfl 30 _ _ rfl (w.heap.size + 1) 30 _ #[.int .i64 3, .string ⟨#[120, 108, 105, 110, 107]⟩, .string ⟨#[116, 121, 112, 101]⟩, .string va] rfl rfl (at_old hz1 _) (size30 ⟨3, ⟨#[120, 108, 105, 110, 107]⟩, ⟨#[116, 121, 112, 101]⟩, va⟩) rfl (oneA ⟨3, ⟨#[120, 108, 105, 110, 107]⟩, ⟨#[116, 121, 112, 101]⟩, va⟩) ?_))
  exact bodyPost_ret (results_cell_row rfl _ _ (w.heap.size + 1) 30 #[.int .i64 3, .string ⟨#[120, 108, 105, 110, 107]⟩, .string ⟨#[116, 121, 112, 101]⟩, .string va] (0, 0) _ rfl (setRow_heap _ _ _ _ _ _ (at_old hz1 _)) Try.underlying30 rfl (size30 ⟨3, ⟨#[120, 108, 105, 110, 107]⟩, ⟨#[116, 121, 112, 101]⟩, va⟩)) rfl ⟨rfl, setRow_below (bal hB1 _) (by omega) _⟩
set_option maxHeartbeats 1000000 in
theorem foreign31_6 (sp : Int) (pre va : ByteArray) (w : World) : Calls Try.prog 31 #[.agg #[.int .i64 sp, .string pre, .string ⟨#[120, 108, 105, 110, 107, 58, 116, 121, 112, 101]⟩, .string va]] w fun e w' => e = .returned (.agg #[.int .i64 3, .string ⟨#[120, 108, 105, 110, 107]⟩, .string ⟨#[116, 121, 112, 101]⟩, .string va]) ∧ Below w.heap.size w w' := by
  go_enter Try.func31, Try.ntmps31
  go_wp2
  go_region
  go_wp2
  exact bodyPost_ret (results_cell_row rfl _ _ (w.heap.size + 1) 30 #[.int .i64 3, .string ⟨#[120, 108, 105, 110, 107]⟩, .string ⟨#[116, 121, 112, 101]⟩, .string va] (0, 0) _ rfl (at_new _ _ _ (by simp)) Try.underlying30 rfl (size30 ⟨3, ⟨#[120, 108, 105, 110, 107]⟩, ⟨#[116, 121, 112, 101]⟩, va⟩)) rfl ⟨rfl, (bal (bal (Below.refl _ _) _) _).drew⟩
theorem foreignF_7 (sp : Int) (pre va : ByteArray) : foreignF ⟨sp, pre, ⟨#[120, 109, 108, 58, 108, 97, 110, 103]⟩, va⟩ = ⟨4, ⟨#[120, 109, 108]⟩, ⟨#[108, 97, 110, 103]⟩, va⟩ := by
  have h : (forT.find? fun t => (⟨#[120, 109, 108, 58, 108, 97, 110, 103]⟩ : ByteArray).toList == t.1) = some ([120, 109, 108, 58, 108, 97, 110, 103], 4, ⟨#[120, 109, 108]⟩, ⟨#[108, 97, 110, 103]⟩) := by decide +kernel
  simp only [foreignF, h]
set_option maxHeartbeats 1000000 in
theorem foreign29_7 (sp : Int) (pre va : ByteArray) (w : World) : Calls Try.prog 29 #[.agg #[.int .i64 sp, .string pre, .string ⟨#[120, 109, 108, 58, 108, 97, 110, 103]⟩, .string va]] w fun e w' => e = .returned (.agg #[.int .i64 4, .string ⟨#[120, 109, 108]⟩, .string ⟨#[108, 97, 110, 103]⟩, .string va]) ∧ Below w.heap.size w w' := by
  go_enter Try.func29, Try.ntmps29
  go_wp2_with (first
    | (go_at_call 30; (with_reducible refine (cut30s ⟨#[120, 109, 108, 58, 108, 97, 110, 103]⟩ ⟨#[120, 109, 108]⟩ ⟨#[108, 97, 110, 103]⟩ (by decide) (by decide +kernel) (by decide +kernel) _).mono ?_); rintro e w1 ⟨c, rfl, hb1⟩; have hB1 := btr (bal (bal (Below.refl w.heap.size w) _) _) hb1; have hq1 := bblk hb1 (at_old (at_new w (.cells #[.int .i64 sp, .string pre, .string ⟨#[120, 109, 108, 58, 108, 97, 110, 103]⟩, .string va] 30) w.heap.size rfl) _); have hz1 := bblk hb1 (at_new _ _ (w.heap.size + 1) (by simp)); have hc1 := blk_cells hq1; have hl0 := blk_lt hq1; have hl1 := blk_lt hz1)
    | ((with_reducible refine at_op ⟨none, .store 30 (.tmp 2) (.tmp 43), _, _, _, _⟩ ?_); refine step_store_row rfl 30 _ _ rfl (w.heap.size + 1) 30 _ #[.int .i64 4, .string ⟨#[120, 109, 108]⟩, .string ⟨#[108, 97, 110, 103]⟩, .string va] rfl rfl (at_old hz1 _) (size30 ⟨4, ⟨#[120, 109, 108]⟩, ⟨#[108, 97, 110, 103]⟩, va⟩) rfl (oneA ⟨4, ⟨#[120, 109, 108]⟩, ⟨#[108, 97, 110, 103]⟩, va⟩) ?_))
  exact bodyPost_ret (results_cell_row rfl _ _ (w.heap.size + 1) 30 #[.int .i64 4, .string ⟨#[120, 109, 108]⟩, .string ⟨#[108, 97, 110, 103]⟩, .string va] (0, 0) _ rfl (setRow_heap _ _ _ _ _ _ (at_old hz1 _)) Try.underlying30 rfl (size30 ⟨4, ⟨#[120, 109, 108]⟩, ⟨#[108, 97, 110, 103]⟩, va⟩)) rfl ⟨rfl, setRow_below (bal hB1 _) (by omega) _⟩
set_option maxHeartbeats 1000000 in
theorem foreign31_7 (sp : Int) (pre va : ByteArray) (w : World) : Calls Try.prog 31 #[.agg #[.int .i64 sp, .string pre, .string ⟨#[120, 109, 108, 58, 108, 97, 110, 103]⟩, .string va]] w fun e w' => e = .returned (.agg #[.int .i64 4, .string ⟨#[120, 109, 108]⟩, .string ⟨#[108, 97, 110, 103]⟩, .string va]) ∧ Below w.heap.size w w' := by
  go_enter Try.func31, Try.ntmps31
  go_wp2
  go_region
  go_wp2
  exact bodyPost_ret (results_cell_row rfl _ _ (w.heap.size + 1) 30 #[.int .i64 4, .string ⟨#[120, 109, 108]⟩, .string ⟨#[108, 97, 110, 103]⟩, .string va] (0, 0) _ rfl (at_new _ _ _ (by simp)) Try.underlying30 rfl (size30 ⟨4, ⟨#[120, 109, 108]⟩, ⟨#[108, 97, 110, 103]⟩, va⟩)) rfl ⟨rfl, (bal (bal (Below.refl _ _) _) _).drew⟩
theorem foreignF_8 (sp : Int) (pre va : ByteArray) : foreignF ⟨sp, pre, ⟨#[120, 109, 108, 58, 115, 112, 97, 99, 101]⟩, va⟩ = ⟨4, ⟨#[120, 109, 108]⟩, ⟨#[115, 112, 97, 99, 101]⟩, va⟩ := by
  have h : (forT.find? fun t => (⟨#[120, 109, 108, 58, 115, 112, 97, 99, 101]⟩ : ByteArray).toList == t.1) = some ([120, 109, 108, 58, 115, 112, 97, 99, 101], 4, ⟨#[120, 109, 108]⟩, ⟨#[115, 112, 97, 99, 101]⟩) := by decide +kernel
  simp only [foreignF, h]
set_option maxHeartbeats 1000000 in
theorem foreign29_8 (sp : Int) (pre va : ByteArray) (w : World) : Calls Try.prog 29 #[.agg #[.int .i64 sp, .string pre, .string ⟨#[120, 109, 108, 58, 115, 112, 97, 99, 101]⟩, .string va]] w fun e w' => e = .returned (.agg #[.int .i64 4, .string ⟨#[120, 109, 108]⟩, .string ⟨#[115, 112, 97, 99, 101]⟩, .string va]) ∧ Below w.heap.size w w' := by
  go_enter Try.func29, Try.ntmps29
  go_wp2_with (first
    | (go_at_call 30; (with_reducible refine (cut30s ⟨#[120, 109, 108, 58, 115, 112, 97, 99, 101]⟩ ⟨#[120, 109, 108]⟩ ⟨#[115, 112, 97, 99, 101]⟩ (by decide) (by decide +kernel) (by decide +kernel) _).mono ?_); rintro e w1 ⟨c, rfl, hb1⟩; have hB1 := btr (bal (bal (Below.refl w.heap.size w) _) _) hb1; have hq1 := bblk hb1 (at_old (at_new w (.cells #[.int .i64 sp, .string pre, .string ⟨#[120, 109, 108, 58, 115, 112, 97, 99, 101]⟩, .string va] 30) w.heap.size rfl) _); have hz1 := bblk hb1 (at_new _ _ (w.heap.size + 1) (by simp)); have hc1 := blk_cells hq1; have hl0 := blk_lt hq1; have hl1 := blk_lt hz1)
    | ((with_reducible refine at_op ⟨none, .store 30 (.tmp 2) (.tmp 43), _, _, _, _⟩ ?_); refine step_store_row rfl 30 _ _ rfl (w.heap.size + 1) 30 _ #[.int .i64 4, .string ⟨#[120, 109, 108]⟩, .string ⟨#[115, 112, 97, 99, 101]⟩, .string va] rfl rfl (at_old hz1 _) (size30 ⟨4, ⟨#[120, 109, 108]⟩, ⟨#[115, 112, 97, 99, 101]⟩, va⟩) rfl (oneA ⟨4, ⟨#[120, 109, 108]⟩, ⟨#[115, 112, 97, 99, 101]⟩, va⟩) ?_))
  exact bodyPost_ret (results_cell_row rfl _ _ (w.heap.size + 1) 30 #[.int .i64 4, .string ⟨#[120, 109, 108]⟩, .string ⟨#[115, 112, 97, 99, 101]⟩, .string va] (0, 0) _ rfl (setRow_heap _ _ _ _ _ _ (at_old hz1 _)) Try.underlying30 rfl (size30 ⟨4, ⟨#[120, 109, 108]⟩, ⟨#[115, 112, 97, 99, 101]⟩, va⟩)) rfl ⟨rfl, setRow_below (bal hB1 _) (by omega) _⟩
set_option maxHeartbeats 1000000 in
theorem foreign31_8 (sp : Int) (pre va : ByteArray) (w : World) : Calls Try.prog 31 #[.agg #[.int .i64 sp, .string pre, .string ⟨#[120, 109, 108, 58, 115, 112, 97, 99, 101]⟩, .string va]] w fun e w' => e = .returned (.agg #[.int .i64 4, .string ⟨#[120, 109, 108]⟩, .string ⟨#[115, 112, 97, 99, 101]⟩, .string va]) ∧ Below w.heap.size w w' := by
  go_enter Try.func31, Try.ntmps31
  go_wp2
  go_region
  go_wp2
  exact bodyPost_ret (results_cell_row rfl _ _ (w.heap.size + 1) 30 #[.int .i64 4, .string ⟨#[120, 109, 108]⟩, .string ⟨#[115, 112, 97, 99, 101]⟩, .string va] (0, 0) _ rfl (at_new _ _ _ (by simp)) Try.underlying30 rfl (size30 ⟨4, ⟨#[120, 109, 108]⟩, ⟨#[115, 112, 97, 99, 101]⟩, va⟩)) rfl ⟨rfl, (bal (bal (Below.refl _ _) _) _).drew⟩
theorem foreignF_9 (sp : Int) (pre va : ByteArray) : foreignF ⟨sp, pre, ⟨#[120, 109, 108, 110, 115, 58, 120, 108, 105, 110, 107]⟩, va⟩ = ⟨5, ⟨#[120, 109, 108, 110, 115]⟩, ⟨#[120, 108, 105, 110, 107]⟩, va⟩ := by
  have h : (forT.find? fun t => (⟨#[120, 109, 108, 110, 115, 58, 120, 108, 105, 110, 107]⟩ : ByteArray).toList == t.1) = some ([120, 109, 108, 110, 115, 58, 120, 108, 105, 110, 107], 5, ⟨#[120, 109, 108, 110, 115]⟩, ⟨#[120, 108, 105, 110, 107]⟩) := by decide +kernel
  simp only [foreignF, h]
set_option maxHeartbeats 1000000 in
theorem foreign29_9 (sp : Int) (pre va : ByteArray) (w : World) : Calls Try.prog 29 #[.agg #[.int .i64 sp, .string pre, .string ⟨#[120, 109, 108, 110, 115, 58, 120, 108, 105, 110, 107]⟩, .string va]] w fun e w' => e = .returned (.agg #[.int .i64 5, .string ⟨#[120, 109, 108, 110, 115]⟩, .string ⟨#[120, 108, 105, 110, 107]⟩, .string va]) ∧ Below w.heap.size w w' := by
  go_enter Try.func29, Try.ntmps29
  go_wp2_with (first
    | (go_at_call 30; (with_reducible refine (cut30s ⟨#[120, 109, 108, 110, 115, 58, 120, 108, 105, 110, 107]⟩ ⟨#[120, 109, 108, 110, 115]⟩ ⟨#[120, 108, 105, 110, 107]⟩ (by decide) (by decide +kernel) (by decide +kernel) _).mono ?_); rintro e w1 ⟨c, rfl, hb1⟩; have hB1 := btr (bal (bal (Below.refl w.heap.size w) _) _) hb1; have hq1 := bblk hb1 (at_old (at_new w (.cells #[.int .i64 sp, .string pre, .string ⟨#[120, 109, 108, 110, 115, 58, 120, 108, 105, 110, 107]⟩, .string va] 30) w.heap.size rfl) _); have hz1 := bblk hb1 (at_new _ _ (w.heap.size + 1) (by simp)); have hc1 := blk_cells hq1; have hl0 := blk_lt hq1; have hl1 := blk_lt hz1)
    | ((with_reducible refine at_op ⟨none, .store 30 (.tmp 2) (.tmp 43), _, _, _, _⟩ ?_); refine step_store_row rfl 30 _ _ rfl (w.heap.size + 1) 30 _ #[.int .i64 5, .string ⟨#[120, 109, 108, 110, 115]⟩, .string ⟨#[120, 108, 105, 110, 107]⟩, .string va] rfl rfl (at_old hz1 _) (size30 ⟨5, ⟨#[120, 109, 108, 110, 115]⟩, ⟨#[120, 108, 105, 110, 107]⟩, va⟩) rfl (oneA ⟨5, ⟨#[120, 109, 108, 110, 115]⟩, ⟨#[120, 108, 105, 110, 107]⟩, va⟩) ?_))
  exact bodyPost_ret (results_cell_row rfl _ _ (w.heap.size + 1) 30 #[.int .i64 5, .string ⟨#[120, 109, 108, 110, 115]⟩, .string ⟨#[120, 108, 105, 110, 107]⟩, .string va] (0, 0) _ rfl (setRow_heap _ _ _ _ _ _ (at_old hz1 _)) Try.underlying30 rfl (size30 ⟨5, ⟨#[120, 109, 108, 110, 115]⟩, ⟨#[120, 108, 105, 110, 107]⟩, va⟩)) rfl ⟨rfl, setRow_below (bal hB1 _) (by omega) _⟩
set_option maxHeartbeats 1000000 in
theorem foreign31_9 (sp : Int) (pre va : ByteArray) (w : World) : Calls Try.prog 31 #[.agg #[.int .i64 sp, .string pre, .string ⟨#[120, 109, 108, 110, 115, 58, 120, 108, 105, 110, 107]⟩, .string va]] w fun e w' => e = .returned (.agg #[.int .i64 5, .string ⟨#[120, 109, 108, 110, 115]⟩, .string ⟨#[120, 108, 105, 110, 107]⟩, .string va]) ∧ Below w.heap.size w w' := by
  go_enter Try.func31, Try.ntmps31
  go_wp2
  exact bodyPost_ret (results_cell_row rfl _ _ (w.heap.size + 1) 30 #[.int .i64 5, .string ⟨#[120, 109, 108, 110, 115]⟩, .string ⟨#[120, 108, 105, 110, 107]⟩, .string va] (0, 0) _ rfl (at_new _ _ _ (by simp)) Try.underlying30 rfl (size30 ⟨5, ⟨#[120, 109, 108, 110, 115]⟩, ⟨#[120, 108, 105, 110, 107]⟩, va⟩)) rfl ⟨rfl, bal (bal (Below.refl _ _) _) _⟩
theorem foreignF_10 (sp : Int) (pre va : ByteArray) : foreignF ⟨sp, pre, ⟨#[120, 109, 108, 110, 115]⟩, va⟩ = ⟨5, ⟨#[]⟩, ⟨#[120, 109, 108, 110, 115]⟩, va⟩ := by
  have h : (forT.find? fun t => (⟨#[120, 109, 108, 110, 115]⟩ : ByteArray).toList == t.1) = some ([120, 109, 108, 110, 115], 5, ⟨#[]⟩, ⟨#[120, 109, 108, 110, 115]⟩) := by decide +kernel
  simp only [foreignF, h]
set_option maxHeartbeats 1000000 in
theorem foreign29_10 (sp : Int) (pre va : ByteArray) (w : World) : Calls Try.prog 29 #[.agg #[.int .i64 sp, .string pre, .string ⟨#[120, 109, 108, 110, 115]⟩, .string va]] w fun e w' => e = .returned (.agg #[.int .i64 5, .string ⟨#[]⟩, .string ⟨#[120, 109, 108, 110, 115]⟩, .string va]) ∧ Below w.heap.size w w' := by
  go_enter Try.func29, Try.ntmps29
  go_wp2_with (first
    | (go_at_call 30; (with_reducible refine (cut30s ⟨#[120, 109, 108, 110, 115]⟩ ⟨#[120, 109, 108, 110, 115]⟩ ⟨#[]⟩ (by decide) (by decide +kernel) (by decide +kernel) _).mono ?_); rintro e w1 ⟨c, rfl, hb1⟩; have hB1 := btr (bal (bal (Below.refl w.heap.size w) _) _) hb1; have hq1 := bblk hb1 (at_old (at_new w (.cells #[.int .i64 sp, .string pre, .string ⟨#[120, 109, 108, 110, 115]⟩, .string va] 30) w.heap.size rfl) _); have hz1 := bblk hb1 (at_new _ _ (w.heap.size + 1) (by simp)); have hc1 := blk_cells hq1; have hl0 := blk_lt hq1; have hl1 := blk_lt hz1)
    | ((with_reducible refine at_op ⟨none, .store 30 (.tmp 2) (.tmp 43), _, _, _, _⟩ ?_); refine step_store_row rfl 30 _ _ rfl (w.heap.size + 1) 30 _ #[.int .i64 5, .string ⟨#[]⟩, .string ⟨#[120, 109, 108, 110, 115]⟩, .string va] rfl rfl (at_old hz1 _) (size30 ⟨5, ⟨#[]⟩, ⟨#[120, 109, 108, 110, 115]⟩, va⟩) rfl (oneA ⟨5, ⟨#[]⟩, ⟨#[120, 109, 108, 110, 115]⟩, va⟩) ?_))
  exact bodyPost_ret (results_cell_row rfl _ _ (w.heap.size + 1) 30 #[.int .i64 5, .string ⟨#[]⟩, .string ⟨#[120, 109, 108, 110, 115]⟩, .string va] (0, 0) _ rfl (setRow_heap _ _ _ _ _ _ (at_old hz1 _)) Try.underlying30 rfl (size30 ⟨5, ⟨#[]⟩, ⟨#[120, 109, 108, 110, 115]⟩, va⟩)) rfl ⟨rfl, setRow_below (bal hB1 _) (by omega) _⟩
set_option maxHeartbeats 1000000 in
theorem foreign31_10 (sp : Int) (pre va : ByteArray) (w : World) : Calls Try.prog 31 #[.agg #[.int .i64 sp, .string pre, .string ⟨#[120, 109, 108, 110, 115]⟩, .string va]] w fun e w' => e = .returned (.agg #[.int .i64 5, .string ⟨#[]⟩, .string ⟨#[120, 109, 108, 110, 115]⟩, .string va]) ∧ Below w.heap.size w w' := by
  go_enter Try.func31, Try.ntmps31
  go_wp2
  exact bodyPost_ret (results_cell_row rfl _ _ (w.heap.size + 1) 30 #[.int .i64 5, .string ⟨#[]⟩, .string ⟨#[120, 109, 108, 110, 115]⟩, .string va] (0, 0) _ rfl (at_new _ _ _ (by simp)) Try.underlying30 rfl (size30 ⟨5, ⟨#[]⟩, ⟨#[120, 109, 108, 110, 115]⟩, va⟩)) rfl ⟨rfl, bal (bal (Below.refl _ _) _) _⟩
set_option maxHeartbeats 1000000 in
theorem foreign29_no (x : A4) (hs : x.nm.size ≤ maxLen) (w : World) (h0 : (x.nm.toList == [120, 108, 105, 110, 107, 58, 97, 99, 116, 117, 97, 116, 101]) = false) (h1 : (x.nm.toList == [120, 108, 105, 110, 107, 58, 97, 114, 99, 114, 111, 108, 101]) = false) (h2 : (x.nm.toList == [120, 108, 105, 110, 107, 58, 104, 114, 101, 102]) = false) (h3 : (x.nm.toList == [120, 108, 105, 110, 107, 58, 114, 111, 108, 101]) = false) (h4 : (x.nm.toList == [120, 108, 105, 110, 107, 58, 115, 104, 111, 119]) = false) (h5 : (x.nm.toList == [120, 108, 105, 110, 107, 58, 116, 105, 116, 108, 101]) = false) (h6 : (x.nm.toList == [120, 108, 105, 110, 107, 58, 116, 121, 112, 101]) = false) (h7 : (x.nm.toList == [120, 109, 108, 58, 108, 97, 110, 103]) = false) (h8 : (x.nm.toList == [120, 109, 108, 58, 115, 112, 97, 99, 101]) = false) (h9 : (x.nm.toList == [120, 109, 108, 110, 115, 58, 120, 108, 105, 110, 107]) = false) (h10 : (x.nm.toList == [120, 109, 108, 110, 115]) = false) : Calls Try.prog 29 #[.agg #[.int .i64 x.sp, .string x.pre, .string x.nm, .string x.va]] w fun e w' => e = .returned (.agg #[.int .i64 x.sp, .string x.pre, .string x.nm, .string x.va]) ∧ Below w.heap.size w w' := by
  go_enter Try.func29, Try.ntmps29
  go_wp2_with (first
    | (go_at_call 30; (with_reducible refine (cut30 x.nm hs _).mono ?_); rintro e w1 ⟨c, rfl, hb1⟩; have hB1 := btr (bal (bal (Below.refl w.heap.size w) _) _) hb1; have hq1 := bblk hb1 (at_old (at_new w (.cells #[.int .i64 x.sp, .string x.pre, .string x.nm, .string x.va] 30) w.heap.size rfl) _); have hz1 := bblk hb1 (at_new _ _ (w.heap.size + 1) (by simp)); have hc1 := blk_cells hq1; have hl0 := blk_lt hq1; have hl1 := blk_lt hz1)
    | ((with_reducible refine at_op ⟨none, .store 30 (.tmp 2) (.tmp 21), _, _, _, _⟩ ?_); refine step_store_row rfl 30 _ _ rfl (w.heap.size + 1) 30 _ #[.int .i64 x.sp, .string x.pre, .string x.nm, .string x.va] rfl rfl (at_old hz1 _) (size30 x) rfl (oneA x) ?_))
  exact bodyPost_ret (results_cell_row rfl _ _ (w.heap.size + 1) 30 x.c (0, 0) _ rfl (setRow_heap _ _ _ _ _ _ (at_old hz1 _)) Try.underlying30 rfl (size30 x)) rfl ⟨rfl, setRow_below (bal hB1 _) (by omega) _⟩
set_option maxHeartbeats 1000000 in
theorem foreign31_no (x : A4) (w : World) (h0 : (x.nm.toList == [120, 108, 105, 110, 107, 58, 97, 99, 116, 117, 97, 116, 101]) = false) (h1 : (x.nm.toList == [120, 108, 105, 110, 107, 58, 97, 114, 99, 114, 111, 108, 101]) = false) (h2 : (x.nm.toList == [120, 108, 105, 110, 107, 58, 104, 114, 101, 102]) = false) (h3 : (x.nm.toList == [120, 108, 105, 110, 107, 58, 114, 111, 108, 101]) = false) (h4 : (x.nm.toList == [120, 108, 105, 110, 107, 58, 115, 104, 111, 119]) = false) (h5 : (x.nm.toList == [120, 108, 105, 110, 107, 58, 116, 105, 116, 108, 101]) = false) (h6 : (x.nm.toList == [120, 108, 105, 110, 107, 58, 116, 121, 112, 101]) = false) (h7 : (x.nm.toList == [120, 109, 108, 58, 108, 97, 110, 103]) = false) (h8 : (x.nm.toList == [120, 109, 108, 58, 115, 112, 97, 99, 101]) = false) (h9 : (x.nm.toList == [120, 109, 108, 110, 115, 58, 120, 108, 105, 110, 107]) = false) (h10 : (x.nm.toList == [120, 109, 108, 110, 115]) = false) : Calls Try.prog 31 #[.agg #[.int .i64 x.sp, .string x.pre, .string x.nm, .string x.va]] w fun e w' => e = .returned (.agg #[.int .i64 x.sp, .string x.pre, .string x.nm, .string x.va]) ∧ Below w.heap.size w w' := by
  go_enter Try.func31, Try.ntmps31
  go_wp2
  exact bodyPost_ret (results_cell_row rfl _ _ (w.heap.size + 1) 30 x.c (0, 0) _ rfl (at_new _ _ _ (by simp)) Try.underlying30 rfl (size30 x)) rfl ⟨rfl, bal (bal (Below.refl _ _) _) _⟩

theorem foreign29 (x : A4) (hs : x.nm.size ≤ maxLen) (w : World) : Calls Try.prog 29 #[.agg #[.int .i64 x.sp, .string x.pre, .string x.nm, .string x.va]] w fun e w' =>
    e = .returned (.agg #[.int .i64 (foreignF x).sp, .string (foreignF x).pre, .string (foreignF x).nm, .string (foreignF x).va]) ∧ Below w.heap.size w w' := by
  obtain ⟨sp, pre, nm, va⟩ := x
  cases h0 : nm.toList == [120, 108, 105, 110, 107, 58, 97, 99, 116, 117, 97, 116, 101]
  case true =>
    obtain rfl := nm_eq h0
    rw [show foreignF ⟨sp, pre, ⟨([120, 108, 105, 110, 107, 58, 97, 99, 116, 117, 97, 116, 101] : List UInt8).toArray⟩, va⟩ = _ from foreignF_0 sp pre va]
    exact foreign29_0 sp pre va w
  cases h1 : nm.toList == [120, 108, 105, 110, 107, 58, 97, 114, 99, 114, 111, 108, 101]
  case true =>
    obtain rfl := nm_eq h1
    rw [show foreignF ⟨sp, pre, ⟨([120, 108, 105, 110, 107, 58, 97, 114, 99, 114, 111, 108, 101] : List UInt8).toArray⟩, va⟩ = _ from foreignF_1 sp pre va]
    exact foreign29_1 sp pre va w
  cases h2 : nm.toList == [120, 108, 105, 110, 107, 58, 104, 114, 101, 102]
  case true =>
    obtain rfl := nm_eq h2
    rw [show foreignF ⟨sp, pre, ⟨([120, 108, 105, 110, 107, 58, 104, 114, 101, 102] : List UInt8).toArray⟩, va⟩ = _ from foreignF_2 sp pre va]
    exact foreign29_2 sp pre va w
  cases h3 : nm.toList == [120, 108, 105, 110, 107, 58, 114, 111, 108, 101]
  case true =>
    obtain rfl := nm_eq h3
    rw [show foreignF ⟨sp, pre, ⟨([120, 108, 105, 110, 107, 58, 114, 111, 108, 101] : List UInt8).toArray⟩, va⟩ = _ from foreignF_3 sp pre va]
    exact foreign29_3 sp pre va w
  cases h4 : nm.toList == [120, 108, 105, 110, 107, 58, 115, 104, 111, 119]
  case true =>
    obtain rfl := nm_eq h4
    rw [show foreignF ⟨sp, pre, ⟨([120, 108, 105, 110, 107, 58, 115, 104, 111, 119] : List UInt8).toArray⟩, va⟩ = _ from foreignF_4 sp pre va]
    exact foreign29_4 sp pre va w
  cases h5 : nm.toList == [120, 108, 105, 110, 107, 58, 116, 105, 116, 108, 101]
  case true =>
    obtain rfl := nm_eq h5
    rw [show foreignF ⟨sp, pre, ⟨([120, 108, 105, 110, 107, 58, 116, 105, 116, 108, 101] : List UInt8).toArray⟩, va⟩ = _ from foreignF_5 sp pre va]
    exact foreign29_5 sp pre va w
  cases h6 : nm.toList == [120, 108, 105, 110, 107, 58, 116, 121, 112, 101]
  case true =>
    obtain rfl := nm_eq h6
    rw [show foreignF ⟨sp, pre, ⟨([120, 108, 105, 110, 107, 58, 116, 121, 112, 101] : List UInt8).toArray⟩, va⟩ = _ from foreignF_6 sp pre va]
    exact foreign29_6 sp pre va w
  cases h7 : nm.toList == [120, 109, 108, 58, 108, 97, 110, 103]
  case true =>
    obtain rfl := nm_eq h7
    rw [show foreignF ⟨sp, pre, ⟨([120, 109, 108, 58, 108, 97, 110, 103] : List UInt8).toArray⟩, va⟩ = _ from foreignF_7 sp pre va]
    exact foreign29_7 sp pre va w
  cases h8 : nm.toList == [120, 109, 108, 58, 115, 112, 97, 99, 101]
  case true =>
    obtain rfl := nm_eq h8
    rw [show foreignF ⟨sp, pre, ⟨([120, 109, 108, 58, 115, 112, 97, 99, 101] : List UInt8).toArray⟩, va⟩ = _ from foreignF_8 sp pre va]
    exact foreign29_8 sp pre va w
  cases h9 : nm.toList == [120, 109, 108, 110, 115, 58, 120, 108, 105, 110, 107]
  case true =>
    obtain rfl := nm_eq h9
    rw [show foreignF ⟨sp, pre, ⟨([120, 109, 108, 110, 115, 58, 120, 108, 105, 110, 107] : List UInt8).toArray⟩, va⟩ = _ from foreignF_9 sp pre va]
    exact foreign29_9 sp pre va w
  cases h10 : nm.toList == [120, 109, 108, 110, 115]
  case true =>
    obtain rfl := nm_eq h10
    rw [show foreignF ⟨sp, pre, ⟨([120, 109, 108, 110, 115] : List UInt8).toArray⟩, va⟩ = _ from foreignF_10 sp pre va]
    exact foreign29_10 sp pre va w
  rw [foreignF_no ⟨sp, pre, nm, va⟩ h0 h1 h2 h3 h4 h5 h6 h7 h8 h9 h10]
  exact foreign29_no ⟨sp, pre, nm, va⟩ hs w h0 h1 h2 h3 h4 h5 h6 h7 h8 h9 h10
theorem foreign31 (x : A4) (w : World) : Calls Try.prog 31 #[.agg #[.int .i64 x.sp, .string x.pre, .string x.nm, .string x.va]] w fun e w' =>
    e = .returned (.agg #[.int .i64 (foreignF x).sp, .string (foreignF x).pre, .string (foreignF x).nm, .string (foreignF x).va]) ∧ Below w.heap.size w w' := by
  obtain ⟨sp, pre, nm, va⟩ := x
  cases h0 : nm.toList == [120, 108, 105, 110, 107, 58, 97, 99, 116, 117, 97, 116, 101]
  case true =>
    obtain rfl := nm_eq h0
    rw [show foreignF ⟨sp, pre, ⟨([120, 108, 105, 110, 107, 58, 97, 99, 116, 117, 97, 116, 101] : List UInt8).toArray⟩, va⟩ = _ from foreignF_0 sp pre va]
    exact foreign31_0 sp pre va w
  cases h1 : nm.toList == [120, 108, 105, 110, 107, 58, 97, 114, 99, 114, 111, 108, 101]
  case true =>
    obtain rfl := nm_eq h1
    rw [show foreignF ⟨sp, pre, ⟨([120, 108, 105, 110, 107, 58, 97, 114, 99, 114, 111, 108, 101] : List UInt8).toArray⟩, va⟩ = _ from foreignF_1 sp pre va]
    exact foreign31_1 sp pre va w
  cases h2 : nm.toList == [120, 108, 105, 110, 107, 58, 104, 114, 101, 102]
  case true =>
    obtain rfl := nm_eq h2
    rw [show foreignF ⟨sp, pre, ⟨([120, 108, 105, 110, 107, 58, 104, 114, 101, 102] : List UInt8).toArray⟩, va⟩ = _ from foreignF_2 sp pre va]
    exact foreign31_2 sp pre va w
  cases h3 : nm.toList == [120, 108, 105, 110, 107, 58, 114, 111, 108, 101]
  case true =>
    obtain rfl := nm_eq h3
    rw [show foreignF ⟨sp, pre, ⟨([120, 108, 105, 110, 107, 58, 114, 111, 108, 101] : List UInt8).toArray⟩, va⟩ = _ from foreignF_3 sp pre va]
    exact foreign31_3 sp pre va w
  cases h4 : nm.toList == [120, 108, 105, 110, 107, 58, 115, 104, 111, 119]
  case true =>
    obtain rfl := nm_eq h4
    rw [show foreignF ⟨sp, pre, ⟨([120, 108, 105, 110, 107, 58, 115, 104, 111, 119] : List UInt8).toArray⟩, va⟩ = _ from foreignF_4 sp pre va]
    exact foreign31_4 sp pre va w
  cases h5 : nm.toList == [120, 108, 105, 110, 107, 58, 116, 105, 116, 108, 101]
  case true =>
    obtain rfl := nm_eq h5
    rw [show foreignF ⟨sp, pre, ⟨([120, 108, 105, 110, 107, 58, 116, 105, 116, 108, 101] : List UInt8).toArray⟩, va⟩ = _ from foreignF_5 sp pre va]
    exact foreign31_5 sp pre va w
  cases h6 : nm.toList == [120, 108, 105, 110, 107, 58, 116, 121, 112, 101]
  case true =>
    obtain rfl := nm_eq h6
    rw [show foreignF ⟨sp, pre, ⟨([120, 108, 105, 110, 107, 58, 116, 121, 112, 101] : List UInt8).toArray⟩, va⟩ = _ from foreignF_6 sp pre va]
    exact foreign31_6 sp pre va w
  cases h7 : nm.toList == [120, 109, 108, 58, 108, 97, 110, 103]
  case true =>
    obtain rfl := nm_eq h7
    rw [show foreignF ⟨sp, pre, ⟨([120, 109, 108, 58, 108, 97, 110, 103] : List UInt8).toArray⟩, va⟩ = _ from foreignF_7 sp pre va]
    exact foreign31_7 sp pre va w
  cases h8 : nm.toList == [120, 109, 108, 58, 115, 112, 97, 99, 101]
  case true =>
    obtain rfl := nm_eq h8
    rw [show foreignF ⟨sp, pre, ⟨([120, 109, 108, 58, 115, 112, 97, 99, 101] : List UInt8).toArray⟩, va⟩ = _ from foreignF_8 sp pre va]
    exact foreign31_8 sp pre va w
  cases h9 : nm.toList == [120, 109, 108, 110, 115, 58, 120, 108, 105, 110, 107]
  case true =>
    obtain rfl := nm_eq h9
    rw [show foreignF ⟨sp, pre, ⟨([120, 109, 108, 110, 115, 58, 120, 108, 105, 110, 107] : List UInt8).toArray⟩, va⟩ = _ from foreignF_9 sp pre va]
    exact foreign31_9 sp pre va w
  cases h10 : nm.toList == [120, 109, 108, 110, 115]
  case true =>
    obtain rfl := nm_eq h10
    rw [show foreignF ⟨sp, pre, ⟨([120, 109, 108, 110, 115] : List UInt8).toArray⟩, va⟩ = _ from foreignF_10 sp pre va]
    exact foreign31_10 sp pre va w
  rw [foreignF_no ⟨sp, pre, nm, va⟩ h0 h1 h2 h3 h4 h5 h6 h7 h8 h9 h10]
  exact foreign31_no ⟨sp, pre, nm, va⟩ w h0 h1 h2 h3 h4 h5 h6 h7 h8 h9 h10
end Go.Proofs.Ytpicgchcdbginaa
