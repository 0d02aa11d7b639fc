/- What the chapter's laws ask of the labels: plain laws; names and meanings walked. -/
import Derived.Test.YtnphjniefklnaaaDoorL4
namespace Go.Proofs.YtnphjniefklnaaaDoor
open Go.RowKit
theorem ofL_latin : ofL (low (trimBl [108, 97, 116, 105, 110, 49])) = (3, 0) := by decide +kernel
theorem ofL_empty : ofL (low (trimBl [])) = (0, 40) := by decide +kernel
theorem labs_short : (labs.all fun r => r.all fun y => decide (y.length ≤ 20)) = true := by decide +kernel
theorem ofL_long (x : List UInt8) (h : 20 < x.length) : ofL x = (0, 40) := lab_no _ labs_short x (by simp; omega)
theorem dropWhile_app (p : UInt8 → Bool) (a b : List UInt8) (h : b.dropWhile p = b) : ∃ c, (a ++ b).dropWhile p = c ++ b := by
  rw [List.dropWhile_append]
  split
  · exact ⟨[], by rw [h]; rfl⟩
  · exact ⟨_, rfl⟩
def suf : List UInt8 := [45, 105, 115, 111, 45, 56, 56, 53, 57, 45, 49, 45, 119, 105, 110, 100, 111, 119, 115, 45, 49, 50, 53, 50]
theorem trim_suf (l : List UInt8) : ∃ a, trimBl (l ++ suf) = a ++ suf := by
  obtain ⟨c, hc⟩ := dropWhile_app isBl l suf (by decide +kernel)
  refine ⟨c, ?_⟩
  rw [trimBl, hc, List.reverse_append]
  have e : (suf.reverse ++ c.reverse).dropWhile isBl = suf.reverse ++ c.reverse := by
    show ((50 : UInt8) :: (suf.reverse.drop 1 ++ c.reverse)).dropWhile isBl = _
    rw [List.dropWhile_cons_of_neg (by decide)]
    rfl
  rw [e, ← List.reverse_append, List.reverse_reverse]
theorem ofL_suf (l : List UInt8) : ofL (low (trimBl (l ++ suf))) = (0, 40) := by
  obtain ⟨a, ha⟩ := trim_suf l
  refine ofL_long _ ?_
  rw [low_length, ha, List.length_append]
  have : suf.length = 24 := rfl
  omega
theorem trim_head (c : UInt8) (l : List UInt8) (h : isBl c = true) : trimBl (c :: l) = trimBl l := by
  rw [trimBl, List.dropWhile_cons_of_pos h]
  rfl
theorem trim_last (c : UInt8) (l : List UInt8) (h : isBl c = true) : trimBl (l ++ [c]) = trimBl l := by
  unfold trimBl
  rw [← trim_comm, ← trim_comm, List.reverse_append, List.reverse_cons, List.reverse_nil, List.nil_append, List.singleton_append, List.dropWhile_cons_of_pos h]
/-- What a page means by an encoding. -/
def metaF (k : Int) : Int := if k = 1 ∨ k = 2 then 0 else if k = 6 then 3 else k
theorem metaF_twice (k : Int) (h0 : 0 ≤ k) (h6 : k ≤ 6) : metaF (metaF k) = metaF k ∧ 0 ≤ metaF k ∧ metaF k < 7 := by unfold metaF; omega
theorem meta12 (k : Int) (w : World) : Calls Tryd.prog 12 #[.int .i64 k] w fun e w' => e = .returned (.int .i64 (metaF k)) ∧ w = w' := by
  unfold metaF
  rcases (show k = 1 ∨ k = 2 ∨ k = 6 ∨ ¬ (k = 1 ∨ k = 2 ∨ k = 6) by omega) with rfl | rfl | rfl | h
  iterate 3
    · go_enter Tryd.func12, Tryd.ntmps12
      go_wp2
      go_ret
      exact ⟨rfl, rfl⟩
  · rw [if_neg (by omega), if_neg (by omega)]
    have h1 : (k == 1) = false := by rw [beq_eq_false_iff_ne]; omega
    have h2 : (k == 2) = false := by rw [beq_eq_false_iff_ne]; omega
    have h6 : (k == 6) = false := by rw [beq_eq_false_iff_ne]; omega
    clear h
    go_enter Tryd.func12, Tryd.ntmps12
    go_wp2
    go_ret
    exact ⟨rfl, rfl⟩
theorem rmeta14 (k : Int) (w : World) : Calls Tryd.prog 14 #[.int .i64 k] w fun e w' => e = .returned (.int .i64 (metaF k)) ∧ w = w' := by
  unfold metaF
  rcases (show k = 1 ∨ k = 2 ∨ k = 6 ∨ ¬ (k = 1 ∨ k = 2 ∨ k = 6) by omega) with rfl | rfl | rfl | h
  iterate 3
    · go_enter Tryd.func14, Tryd.ntmps14
      go_wp2
      go_ret
      exact ⟨rfl, rfl⟩
  · rw [if_neg (by omega), if_neg (by omega)]
    have h1 : (k == 1) = false := by rw [beq_eq_false_iff_ne]; omega
    have h2 : (k == 2) = false := by rw [beq_eq_false_iff_ne]; omega
    have h6 : (k == 6) = false := by rw [beq_eq_false_iff_ne]; omega
    clear h
    go_enter Tryd.func14, Tryd.ntmps14
    go_wp2
    go_ret
    exact ⟨rfl, rfl⟩
theorem awake10 (w : World) (hT : Tabs w) : Calls Tryd.prog 10 #[] w fun e w' => e = .returned (.bool true) ∧ Below w.heap.size w w' := by
  have F := of8 ⟨#[108, 97, 116, 105, 110, 49]⟩ w (by decide) hT
  rw [show (ByteArray.mk #[108, 97, 116, 105, 110, 49]).data.toList = [108, 97, 116, 105, 110, 49] from rfl, ofL_latin] at F
  go_enter Tryd.func10, Tryd.ntmps10
  go_wp2_with fail
  refine F.mono ?_
  rintro e w1 ⟨rfl, hb⟩
  go_wp2
  go_ret
  exact ⟨rfl, hb⟩
theorem name_at (i : Nat) (h : i < 7) : ∃ rw_ : ByteArray, ∀ W : World, (Instr.index 42 (.agg tabV) (.int .i64 i)).run Tryd.prog W = .ok (.agg #[.string (mkS (names.getD i [])), .string rw_]) W := by
  have key : ∀ j : Nat, (∀ W : World, (Instr.index 42 (.agg tabV) (.int .i64 j)).run Tryd.prog W = .ok (.agg #[.string (mkS (names.getD j [])), .string (mkS (joined.getD j []))]) W) → ∃ rw_ : ByteArray, ∀ W : World, (Instr.index 42 (.agg tabV) (.int .i64 j)).run Tryd.prog W = .ok (.agg #[.string (mkS (names.getD j [])), .string rw_]) W :=
    fun j h => ⟨_, h⟩
  rcases (show i = 0 ∨ i = 1 ∨ i = 2 ∨ i = 3 ∨ i = 4 ∨ i = 5 ∨ i = 6 by omega) with rfl | rfl | rfl | rfl | rfl | rfl | rfl
  · exact key 0 fun W => by kernel_rfl
  · exact key 1 fun W => by kernel_rfl
  · exact key 2 fun W => by kernel_rfl
  · exact key 3 fun W => by kernel_rfl
  · exact key 4 fun W => by kernel_rfl
  · exact key 5 fun W => by kernel_rfl
  · exact key 6 fun W => by kernel_rfl
theorem name11 (k : Nat) (h : k < 7) (w : World) : Calls Tryd.prog 11 #[.int .i64 k] w fun e w' => e = .returned (.tuple #[.string (mkS (names.getD k [])), .int .i64 0]) ∧ Below w.heap.size w w' := by
  obtain ⟨rw_, hix⟩ := name_at k h
  have hk : (k : Int) ≤ 6 := by omega
  generalize mkS (names.getD k []) = nm at *
  generalize hV : tabV = V at *
  have HV := Go.Lib.hid hV
  clear hV
  go_enter Tryd.func11, Tryd.ntmps11
  go_wp2_with fail
  refine (table17 _).mono ?_
  rintro e w1 ⟨rfl, rfl⟩
  rw [HV.out]
  have hi0 : ∀ W, (Instr.index 41 (.agg #[.string nm, .string rw_]) (.int .i64 0)).run Tryd.prog W = .ok (.string nm) W := fun _ => by kernel_rfl
  go_wp2
  go_ret2
  exact ⟨rfl, bal (Below.refl _ _) _⟩
theorem name11_no (k : Int) (h : k < 0 ∨ 6 < k) (w : World) : Calls Tryd.prog 11 #[.int .i64 k] w fun e w' => e = .returned (.tuple #[.string ByteArray.empty, .int .i64 1]) ∧ Below w.heap.size w w' := by
  rcases h with h | h
  all_goals
    go_enter Tryd.func11, Tryd.ntmps11
    go_wp2
    all_goals go_ret2
    all_goals exact ⟨rfl, Below.refl _ _⟩
theorem names21 (w : World) : Calls Tryd.prog 21 #[] w fun e w' => e = .returned (.slice (some ⟨w.heap.size, 0, none⟩) 7 7) ∧ w' = w.alloc (.cells (strs names) 9) := by
  go_enter Tryd.func21, Tryd.ntmps21
  go_wp2
  go_ret
  exact ⟨rfl, rfl⟩
theorem rname13 (k : Nat) (h : k < 7) (w : World) : Calls Tryd.prog 13 #[.int .i64 k] w fun e w' => e = .returned (.tuple #[.string (mkS (names.getD k [])), .int .i64 0]) ∧ Below w.heap.size w w' := by
  have hk : (k : Int) ≤ 6 := by omega
  have hc : ((w.alloc (.cells (strs names) 9)).alloc (.cells (strs names) 9)).cell? ⟨w.heap.size + 1, k, none⟩ = some (.string (mkS (names.getD k []))) := by
    rw [blk_cells (at_new _ _ _ (by simp)), strs_at names k h]
    rw [List.getD_eq_getElem?_getD, List.getElem?_eq_getElem h]
    rfl
  generalize mkS (names.getD k []) = nm at *
  obtain ⟨V, hV⟩ : ∃ V, strs names = V := ⟨_, rfl⟩
  have N := names21
  rw [hV] at hc N
  clear hV
  go_enter Tryd.func13, Tryd.ntmps13
  go_wp2_with fail
  refine (N w).mono ?_
  rintro e w1 ⟨rfl, rfl⟩
  go_wp2_with fail
  refine (N _).mono ?_
  rintro e w2 ⟨rfl, rfl⟩
  go_wp2
  go_ret2
  exact ⟨rfl, bal (bal (Below.refl _ _) _) _⟩
theorem rname13_no (k : Int) (h : k < 0 ∨ 6 < k) (w : World) : Calls Tryd.prog 13 #[.int .i64 k] w fun e w' => e = .returned (.tuple #[.string ByteArray.empty, .int .i64 1]) ∧ Below w.heap.size w w' := by
  rcases h with h | h
  · go_enter Tryd.func13, Tryd.ntmps13
    go_wp2
    go_ret2
    exact ⟨rfl, Below.refl _ _⟩
  · by_cases h0 : k < 0
    · omega
    have h7 : (7 : Int) ≤ k := by omega
    go_enter Tryd.func13, Tryd.ntmps13
    go_wp2_with fail
    refine (names21 w).mono ?_
    rintro e w1 ⟨rfl, rfl⟩
    go_wp2
    go_ret2
    exact ⟨rfl, bal (Below.refl _ _) _⟩
end Go.Proofs.YtnphjniefklnaaaDoor
