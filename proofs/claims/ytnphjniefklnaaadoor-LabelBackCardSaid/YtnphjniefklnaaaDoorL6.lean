/- The laws of labels, walked: of, long, apart, names. -/
import Derived.Test.YtnphjniefklnaaaDoorL5
namespace Go.Proofs.YtnphjniefklnaaaDoor
open Go.RowKit
theorem int_self (a : Int) : (a == a) = true := by simp
theorem labelOf3 (s : ByteArray) (w : World) (hs : s.size ≤ 33554432) (hT : Tabs w) : Calls Tryd.prog 3 #[.string s] w fun e w' => e = .returned (.bool true) ∧ Below w.heap.size w w' := by
  have F := of8 s w hs hT
  have G := fun W => rof9 s W (by omega)
  generalize (ofL (low (trimBl s.data.toList))).1 = a at *
  generalize (ofL (low (trimBl s.data.toList))).2 = b at *
  go_enter Tryd.func3, Tryd.ntmps3
  go_wp2_with fail
  refine F.mono ?_
  rintro e w1 ⟨rfl, hb1⟩
  go_wp2_with fail
  refine (G w1).mono ?_
  rintro e w2 ⟨rfl, hb2⟩
  have hB2 := btr hb1 hb2
  go_wp2_with fail
  refine (awake10 w2 (hT.below hB2)).mono ?_
  rintro e w3 ⟨rfl, hb3⟩
  go_wp2
  go_ret
  exact ⟨rfl, btr hB2 hb3⟩
theorem labelLong4 (s : ByteArray) (w : World) (hs : s.size ≤ 1048576) (hT : Tabs w) : Calls Tryd.prog 4 #[.string s] w fun e w' => e = .returned (.bool true) ∧ Below w.heap.size w w' := by
  have e1 : (s ++ ByteArray.mk suf.toArray).data.toList = s.data.toList ++ suf := by rw [ByteArray.data_append, Array.toList_append]
  have z1 : (s ++ ByteArray.mk suf.toArray).size = s.size + 24 := by rw [ByteArray.size_append]; rfl
  have F := of8 (s ++ ByteArray.mk suf.toArray) w (by rw [z1]; omega) hT
  rw [e1, ofL_suf] at F
  have F : Calls Tryd.prog 8 #[.string (s ++ ⟨#[45, 105, 115, 111, 45, 56, 56, 53, 57, 45, 49, 45, 119, 105, 110, 100, 111, 119, 115, 45, 49, 50, 53, 50]⟩)] w _ := F
  have G := fun (W : World) (h : Tabs W) => of8 ByteArray.empty W (by decide) h
  rw [show ByteArray.empty.data.toList = [] from rfl, ofL_empty] at G
  clear e1 z1
  go_enter Tryd.func4, Tryd.ntmps4
  go_wp2_with fail
  refine F.mono ?_
  rintro e w1 ⟨rfl, hb1⟩
  go_wp2_with fail
  refine (G w1 (hT.below hb1)).mono ?_
  rintro e w2 ⟨rfl, hb2⟩
  have hB2 := btr hb1 hb2
  go_wp2_with fail
  refine (awake10 w2 (hT.below hB2)).mono ?_
  rintro e w3 ⟨rfl, hb3⟩
  go_wp2
  go_ret
  exact ⟨rfl, btr hB2 hb3⟩
theorem labelApart6 (s : ByteArray) (k : UInt8) (w : World) (hs : s.size ≤ 1048576) (hT : Tabs w) : Calls Tryd.prog 6 #[.string s, .int .u8 k.toNat] w fun e w' => e = .returned (.bool true) ∧ Below w.heap.size w w' := by
  have F := of8 s w (by omega) hT
  have e1 : ((ByteArray.mk #[32] ++ s) ++ ByteArray.mk #[10]).data.toList = 32 :: s.data.toList ++ [10] := by simp [ByteArray.data_append]
  have z1 : ((ByteArray.mk #[32] ++ s) ++ ByteArray.mk #[10]).size = s.size + 2 := by
    simp only [ByteArray.size_append]
    show 1 + s.size + 1 = _
    omega
  have G := fun (W : World) (h : Tabs W) => of8 ((ByteArray.mk #[32] ++ s) ++ ByteArray.mk #[10]) W (by rw [z1]; omega) h
  rw [e1, trim_last 10 _ rfl, trim_head 32 _ rfl] at G
  have hk := k.toNat_lt
  generalize k.toNat = n at *
  obtain ⟨m1, m2, m3⟩ := metaF_twice ((n : Int) % 7) (by omega) (by omega)
  have M1 := meta12 ((n : Int) % 7)
  have M2 := meta12 (metaF ((n : Int) % 7))
  rw [m1] at M2
  generalize metaF ((n : Int) % 7) = q at *
  generalize (ofL (low (trimBl s.data.toList))).1 = a at *
  generalize (ofL (low (trimBl s.data.toList))).2 = b at *
  clear e1 z1 m1
  go_enter Tryd.func6, Tryd.ntmps6
  go_wp2_with fail
  refine F.mono ?_
  rintro e w1 ⟨rfl, hb1⟩
  go_wp2_with fail
  refine (G w1 (hT.below hb1)).mono ?_
  rintro e w2 ⟨rfl, hb2⟩
  have hB2 := btr hb1 hb2
  go_wp2_with fail
  refine (M1 _).mono ?_
  rintro e w3 ⟨rfl, rfl⟩
  go_wp2_with fail
  refine (M2 _).mono ?_
  rintro e w3 ⟨rfl, rfl⟩
  go_wp2_with fail
  refine (awake10 w2 (hT.below hB2)).mono ?_
  rintro e w3 ⟨rfl, hb3⟩
  go_wp2
  go_ret
  exact ⟨rfl, btr hB2 hb3⟩
theorem labelNames7 (k : Int) (w : World) (hT : Tabs w) : Calls Tryd.prog 7 #[.int .i64 k] w fun e w' => e = .returned (.bool true) ∧ Below w.heap.size w w' := by
  obtain ⟨nm, er, F, G⟩ : ∃ (nm : ByteArray) (er : Int), (∀ W : World, Calls Tryd.prog 11 #[.int .i64 k] W fun e w' => e = .returned (.tuple #[.string nm, .int .i64 er]) ∧ Below W.heap.size W w') ∧ (∀ W : World, Calls Tryd.prog 13 #[.int .i64 k] W fun e w' => e = .returned (.tuple #[.string nm, .int .i64 er]) ∧ Below W.heap.size W w') := by
    by_cases h : 0 ≤ k ∧ k < 7
    · obtain ⟨n, rfl⟩ : ∃ n : Nat, k = n := ⟨k.toNat, by omega⟩
      exact ⟨_, _, fun W => name11 n (by omega) W, fun W => rname13 n (by omega) W⟩
    · exact ⟨_, _, fun W => name11_no k (by omega) W, fun W => rname13_no k (by omega) W⟩
  have M := meta12 k
  have R := rmeta14 k
  generalize metaF k = q at *
  go_enter Tryd.func7, Tryd.ntmps7
  go_wp2_with fail
  refine (F w).mono ?_
  rintro e w1 ⟨rfl, hb1⟩
  go_wp2_with fail
  refine (G w1).mono ?_
  rintro e w2 ⟨rfl, hb2⟩
  have hB2 := btr hb1 hb2
  go_wp2_with fail
  refine (M _).mono ?_
  rintro e w3 ⟨rfl, rfl⟩
  go_wp2_with fail
  refine (R _).mono ?_
  rintro e w3 ⟨rfl, rfl⟩
  go_wp2_with fail
  refine (awake10 w2 (hT.below hB2)).mono ?_
  rintro e w3 ⟨rfl, hb3⟩
  go_wp2
  go_ret
  exact ⟨rfl, btr hB2 hb3⟩
end Go.Proofs.YtnphjniefklnaaaDoor
