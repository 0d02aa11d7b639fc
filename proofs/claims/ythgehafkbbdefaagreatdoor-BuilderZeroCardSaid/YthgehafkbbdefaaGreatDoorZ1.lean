/- The walks of the law that a builder that nobody made answers nothing. Printed by gen.py. -/
import Derived.Test.YthgehafkbbdefaaGreatDoorProg
import Derived.Test.YthgehafkbbdefaaGreatDoorKitC
import Derived.WalkKit
import Derived.BigCall
import Derived.WalkMore
namespace Go.Proofs.YthgehafkbbdefaaGreatDoor
open Go.RowKit
theorem none25n (w : World) : Calls Tryz.prog 25 #[.pointer none] w fun e w' => e = .returned (.bool true) ∧ w' = w := by
  go_enter Tryz.func25, Tryz.ntmps25
  go_wp2
  go_ret
  exact ⟨rfl, rfl⟩
theorem none25z (b : Nat) (w : World) (h : w.cell? ⟨b, 0, none⟩ = some (.pointer none)) : Calls Tryz.prog 25 #[.pointer (some ⟨b, 0, none⟩)] w fun e w' => e = .returned (.bool true) ∧ w' = w := by
  go_enter Tryz.func25, Tryz.ntmps25
  go_wp2
  go_ret
  exact ⟨rfl, rfl⟩
theorem anone (w : World) : Calls Tryz.prog 60 #[.pointer none] w fun e w' => e = .returned (.bool true) ∧ w' = w := by
  go_enter Tryz.func60, Tryz.ntmps60
  go_wp2
  go_ret
  exact ⟨rfl, rfl⟩
theorem len19 (w : World) : Calls Tryz.prog 19 #[.pointer none] w fun e w' => e = .returned (.int .i64 0) ∧ w' = w := by
  go_enter Tryz.func19, Tryz.ntmps19
  go_wp2_with (go_at_call 60; (with_reducible refine (anone _).mono ?_); rintro e w1 ⟨rfl, rfl⟩)
  go_ret
  exact ⟨rfl, rfl⟩
theorem new16 (w : World) : Calls Tryz.prog 16 #[.pointer none] w fun e w' => e = .returned (.tuple #[.pointer none, .int .i64 7]) ∧ w' = w := by
  go_enter Tryz.func16, Tryz.ntmps16
  go_wp2_with (go_at_call 19; (with_reducible refine (len19 _).mono ?_); rintro e w1 ⟨rfl, rfl⟩)
  go_ret2
  exact ⟨rfl, rfl⟩
theorem new17 (w : World) : Calls Tryz.prog 17 #[.pointer none] w fun e w' => e = .returned (.tuple #[.pointer none, .int .i64 7]) ∧ w' = w := by
  go_enter Tryz.func17, Tryz.ntmps17
  go_wp2_with (go_at_call 19; (with_reducible refine (len19 _).mono ?_); rintro e w1 ⟨rfl, rfl⟩)
  go_ret2
  exact ⟨rfl, rfl⟩
theorem new4 (c : Bool) (w : World) : Calls Tryz.prog 4 #[.pointer none, .bool c] w fun e w' => e = .returned (.tuple #[.pointer none, .int .i64 7]) ∧ w' = w := by
  go_enter Tryz.func4, Tryz.ntmps4
  go_wp2_with (first
    | (go_at_call 16; (with_reducible refine (new16 _).mono ?_); rintro e w1 ⟨rfl, rfl⟩)
    | (go_at_call 17; (with_reducible refine (new17 _).mono ?_); rintro e w1 ⟨rfl, rfl⟩))
  go_ret2
  exact ⟨rfl, rfl⟩
theorem frag5 (c : Bool) (s : ByteArray) (w : World) : Calls Tryz.prog 5 #[.pointer none, .bool c, .string s] w fun e w' => e = .returned (.tuple #[.pointer none, .int .i64 7]) ∧ w' = w := by
  go_enter Tryz.func5, Tryz.ntmps5
  go_wp2_with (go_at_call 4; (with_reducible refine (new4 _ _).mono ?_); rintro e w1 ⟨rfl, rfl⟩)
  go_ret2
  exact ⟨rfl, rfl⟩
theorem m7n (w : World) : Calls Tryz.prog 7 #[.pointer none] w fun e w' => e = .returned (.int .i64 (-1)) ∧ w' = w := by
  go_enter Tryz.func7, Tryz.ntmps7
  go_wp2_with (go_at_call 25; (with_reducible refine (none25n _).mono ?_); rintro e w1 ⟨rfl, rfl⟩)
  go_ret
  exact ⟨rfl, rfl⟩
theorem m8z (b : Nat) (w : World) (h : w.cell? ⟨b, 0, none⟩ = some (.pointer none)) : Calls Tryz.prog 8 #[.pointer (some ⟨b, 0, none⟩)] w fun e w' => e = .returned (.int .i64 (-1)) ∧ w' = w := by
  go_enter Tryz.func8, Tryz.ntmps8
  go_wp2_with (go_at_call 25; (with_reducible refine (none25z b _ h).mono ?_); rintro e w1 ⟨rfl, rfl⟩)
  go_ret
  exact ⟨rfl, rfl⟩
theorem m9n (w : World) : Calls Tryz.prog 9 #[.pointer none] w fun e w' => e = .returned (.bool false) ∧ w' = w := by
  go_enter Tryz.func9, Tryz.ntmps9
  go_wp2_with (go_at_call 25; (with_reducible refine (none25n _).mono ?_); rintro e w1 ⟨rfl, rfl⟩)
  go_ret
  exact ⟨rfl, rfl⟩
theorem m10z (b : Nat) (w : World) (h : w.cell? ⟨b, 0, none⟩ = some (.pointer none)) : Calls Tryz.prog 10 #[.pointer (some ⟨b, 0, none⟩)] w fun e w' => e = .returned (.int .i64 0) ∧ w' = w := by
  go_enter Tryz.func10, Tryz.ntmps10
  go_wp2_with (go_at_call 25; (with_reducible refine (none25z b _ h).mono ?_); rintro e w1 ⟨rfl, rfl⟩)
  go_ret
  exact ⟨rfl, rfl⟩
theorem m11n (w : World) : Calls Tryz.prog 11 #[.pointer none] w fun e w' => e = .returned (.int .i64 0) ∧ w' = w := by
  go_enter Tryz.func11, Tryz.ntmps11
  go_wp2_with (go_at_call 25; (with_reducible refine (none25n _).mono ?_); rintro e w1 ⟨rfl, rfl⟩)
  go_ret
  exact ⟨rfl, rfl⟩
theorem m12z (b : Nat) (w : World) (h : w.cell? ⟨b, 0, none⟩ = some (.pointer none)) : Calls Tryz.prog 12 #[.pointer (some ⟨b, 0, none⟩)] w fun e w' => e = .returned (.int .i64 0) ∧ w' = w := by
  go_enter Tryz.func12, Tryz.ntmps12
  go_wp2_with (go_at_call 25; (with_reducible refine (none25z b _ h).mono ?_); rintro e w1 ⟨rfl, rfl⟩)
  go_ret
  exact ⟨rfl, rfl⟩
theorem m13n (w : World) : Calls Tryz.prog 13 #[.pointer none] w fun e w' => e = .returned (.bool false) ∧ w' = w := by
  go_enter Tryz.func13, Tryz.ntmps13
  go_wp2_with (go_at_call 25; (with_reducible refine (none25n _).mono ?_); rintro e w1 ⟨rfl, rfl⟩)
  go_ret
  exact ⟨rfl, rfl⟩
theorem m14z (b : Nat) (w : World) (h : w.cell? ⟨b, 0, none⟩ = some (.pointer none)) : Calls Tryz.prog 14 #[.pointer (some ⟨b, 0, none⟩)] w fun e w' => e = .returned (.slice none 0 0) ∧ w' = w := by
  go_enter Tryz.func14, Tryz.ntmps14
  go_wp2_with (go_at_call 25; (with_reducible refine (none25z b _ h).mono ?_); rintro e w1 ⟨rfl, rfl⟩)
  go_ret
  exact ⟨rfl, rfl⟩
theorem m15n (w : World) : Calls Tryz.prog 15 #[.pointer none] w fun e w' => e = .returned (.slice none 0 0) ∧ w' = w := by
  go_enter Tryz.func15, Tryz.ntmps15
  go_wp2_with (go_at_call 25; (with_reducible refine (none25n _).mono ?_); rintro e w1 ⟨rfl, rfl⟩)
  go_ret
  exact ⟨rfl, rfl⟩
set_option maxRecDepth 100000 in
theorem tok6n (kind has ch : Int) (nm data sys : ByteArray) (q sf : Bool) (oa : Option Addr) (n cap : Nat) (w : World) : Calls Tryz.prog 6 #[.pointer none, .agg #[.int .i64 kind, .string nm, .string data, .string sys, .int .i64 has, .bool q, .int .i32 ch, .bool sf, .slice oa n cap]] w fun e w' => e = .returned (.int .i64 7) ∧ Below w.heap.size w w' := by
  go_enter Tryz.func6, Tryz.ntmps6
  go_wp2
  go_step3
  go_wp2_with (go_at_call 25; (with_reducible refine (none25n _).mono ?_); rintro e w1 ⟨rfl, rfl⟩)
  rw [Exit.noGoto_ret]
  go_ret
  exact ⟨rfl, bal (bal (Below.refl _ _) _) _⟩
set_option maxRecDepth 100000 in
theorem tok6z (b : Nat) (kind has ch : Int) (nm data sys : ByteArray) (q sf : Bool) (oa : Option Addr) (n cap : Nat) (w : World) (h : w.cell? ⟨b, 0, none⟩ = some (.pointer none)) : Calls Tryz.prog 6 #[.pointer (some ⟨b, 0, none⟩), .agg #[.int .i64 kind, .string nm, .string data, .string sys, .int .i64 has, .bool q, .int .i32 ch, .bool sf, .slice oa n cap]] w fun e w' => e = .returned (.int .i64 7) ∧ Below w.heap.size w w' := by
  go_enter Tryz.func6, Tryz.ntmps6
  go_wp2
  go_step3
  go_wp2_with (go_at_call 25; (with_reducible refine (none25z b _ (bcl (bal (bal (Below.refl _ _) _) _) h)).mono ?_); rintro e w1 ⟨rfl, rfl⟩)
  rw [Exit.noGoto_ret]
  go_ret
  exact ⟨rfl, bal (bal (Below.refl _ _) _) _⟩
set_option maxHeartbeats 2000000 in
theorem zero3 (kind has ch : Int) (nm data sys s : ByteArray) (q sf : Bool) (oa : Option Addr) (n cap : Nat) (w : World) : Calls Tryz.prog 3 #[.agg #[.int .i64 kind, .string nm, .string data, .string sys, .int .i64 has, .bool q, .int .i32 ch, .bool sf, .slice oa n cap], .string s] w fun e w' => e = .returned (.bool true) ∧ Below w.heap.size w w' := by
  have T1 := fun w => tok6n kind has ch nm data sys q sf oa n cap w
  have T2 := fun b w h => tok6z b kind has ch nm data sys q sf oa n cap w h
  go_enter Tryz.func3, Tryz.ntmps3
  go_wp2_with (first
    | (go_at_call 4; (with_reducible refine (new4 _ _).mono ?_); rintro e w1 ⟨rfl, rfl⟩)
    | (go_at_call 5; (with_reducible refine (frag5 _ _ _).mono ?_); rintro e w1 ⟨rfl, rfl⟩)
    | (go_at_call 6; (with_reducible refine (T1 _).mono ?_); rintro e w1 ⟨rfl, hb1⟩; have hq1 := bblk hb1 (at_old (at_new w (.cells #[.int .i64 kind, .string nm, .string data, .string sys, .int .i64 has, .bool q, .int .i32 ch, .bool sf, .slice oa n cap] 24) w.heap.size rfl) _); have hz1 := bblk hb1 (at_new _ _ (w.heap.size + 1) (by simp)); have hc1 := blk_cells hq1; have hd1 : w1.cell? ⟨w.heap.size + 1, 0, none⟩ = some (.pointer none) := blk_cells hz1 0; have hB1 := btr (bal (bal (Below.refl w.heap.size w) _) _) hb1)
    | (go_at_call 6; (with_reducible refine (T2 (w.heap.size + 1) _ hd1).mono ?_); rintro e w2 ⟨rfl, hb2⟩; have hd2 := bcl hb2 hd1; have hB2 := btr hB1 hb2)
    | (go_at_call 7; (with_reducible refine (m7n _).mono ?_); rintro e w3 ⟨rfl, rfl⟩)
    | (go_at_call 8; (with_reducible refine (m8z (w.heap.size + 1) _ hd2).mono ?_); rintro e w3 ⟨rfl, rfl⟩)
    | (go_at_call 9; (with_reducible refine (m9n _).mono ?_); rintro e w3 ⟨rfl, rfl⟩)
    | (go_at_call 10; (with_reducible refine (m10z (w.heap.size + 1) _ hd2).mono ?_); rintro e w3 ⟨rfl, rfl⟩)
    | (go_at_call 11; (with_reducible refine (m11n _).mono ?_); rintro e w3 ⟨rfl, rfl⟩)
    | (go_at_call 12; (with_reducible refine (m12z (w.heap.size + 1) _ hd2).mono ?_); rintro e w3 ⟨rfl, rfl⟩)
    | (go_at_call 13; (with_reducible refine (m13n _).mono ?_); rintro e w3 ⟨rfl, rfl⟩)
    | (go_at_call 14; (with_reducible refine (m14z (w.heap.size + 1) _ hd2).mono ?_); rintro e w3 ⟨rfl, rfl⟩)
    | (go_at_call 15; (with_reducible refine (m15n _).mono ?_); rintro e w3 ⟨rfl, rfl⟩))
  go_ret
  exact ⟨rfl, hB2⟩
end Go.Proofs.YthgehafkbbdefaaGreatDoor
