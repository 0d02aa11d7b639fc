/- The walk of the law that code points as bytes, read again, are the code points, and that no decoder tells one that can't be. -/
import Derived.Test.YtmfifaigphnbmaaH0
import Derived.Test.YtmfifaigphnbmaaG1
namespace Go.Proofs.Ytmfifaigphnbmaa
open Go.RowKit
theorem RdB.brow {w : World} {g : Nat} {L : List UInt8} {z : List Value} {fr : Nat × Nat} (h : BRow w g 5 L z fr) : RdB w (some ⟨g, 0, none⟩) L := fun j hj => by
  refine ⟨_, rfl, ?_⟩
  rw [show Addr.add ⟨g, 0, none⟩ j = ⟨g, j, none⟩ by unfold Addr.add; split <;> simp_all]
  exact h.cell hj
theorem fix_bad {r : Int} (h : r < 0 ∨ 1114111 < r ∨ (55296 ≤ r ∧ r ≤ 57343)) : fixR r = 65533 := by rw [fixR, if_pos h]
theorem fix_good {r : Int} (h : ¬ (r < 0 ∨ 1114111 < r ∨ (55296 ≤ r ∧ r ≤ 57343))) : fixR r = r := by rw [fixR, if_neg h]
set_option maxRecDepth 100000 in
set_option maxHeartbeats 4000000 in
theorem back10_any (k : Nat) (hk : k < 256) (oa : Option Addr) (n cap : Nat) (X : List Int) (ob : Option Addr) (m cb : Nat) (L : List UInt8) (w : World) (hn : n = X.length) (hX : X.length ≤ 1048576) (hR : RdR w oa X)
    (hm : m = L.length) (hS : RdB w ob L) (Y : List Int) (hY : Y.length ≤ 4194304) (hg : ∀ y ∈ Y, goodR y)
    (G : ∀ (W : World) (oa : Option Addr) (n cap : Nat), n = L.length → RdB W oa L → Calls Try.prog 13 #[.int .i64 ((k : Int) % 7), .slice oa n cap] W fun e w' => ∃ v, e = .returned (.tuple #[v, .int .i64 0]) ∧ w'.ownsRow W.heap.size 21 1 v Y.length (Y.map (Value.int .i32)) ∧ Below W.heap.size W w') :
    Calls Try.prog 10 #[.int .u8 k, .slice oa n cap, .slice ob m cb] w fun e w' => e = .returned (.bool true) ∧ Below w.heap.size w w' := by
  subst hn
  have U := utf8_18 oa X.length cap X w rfl hR
  have T := fun (W : World) (g : Nat) (c : Nat) (hr : RdB W (some ⟨g, 0, none⟩) (encs X)) => text13_8 (some ⟨g, 0, none⟩) (encs X).length c (encs X) W rfl hr (by have := encs_len X; omega)
  rw [told8_encs] at T
  simp only [List.length_map] at T
  have HM := Go.Lib.hid hm
  have HY := Go.Lib.hid hY
  clear hm
  go_enter Try.func10, Try.ntmps10
  go_wp2_with fail
  refine U.mono ?_
  rintro e w1 ⟨g, z, fr, c, rfl, hr1, _, hb1⟩
  have T1 := T w1 g c (RdB.brow hr1)
  clear T U
  go_wp2_with fail
  refine T1.mono ?_
  rintro e w2 ⟨v2, rfl, hown2, hb2⟩
  obtain ⟨oa2, c2, rfl⟩ := own_slice hown2
  have hB2 := btr hb1 hb2
  have hR2 := hR.below hB2
  have hF2 : RdR w2 oa2 (X.map fixR) := by
    refine RdR.own (n := X.length) (m := X.length) (c := c2) (base := w1.heap.size) ?_
    exact hown2
  clear T1 hown2 hb2 hb1 hr1
  go_wp2_with fail
  go_loopw [9, 10] (fun v9 _ wr => ∃ i : Nat, i ≤ X.length ∧ v9 = .int .i64 i ∧ Below w2.heap.size w2 wr) (fun v9 _ _ => X.length - (intOf v9).toNat)
  case atStart => exact ⟨0, Nat.zero_le _, rfl, Below.refl _ _⟩
  case round =>
    obtain ⟨i, hi, rfl, hw⟩ := hrel
    by_cases hlt : i < X.length
    · obtain ⟨ada, rfl, hca⟩ := (hR2.below hw) i hlt
      obtain ⟨adb, rfl, hcb⟩ := (hF2.below hw) i (by simpa using hlt)
      rw [List.getElem_map] at hcb
      generalize X[i] = r at *
      clear hR2 hF2 hR
      by_cases hbad : r < 0 ∨ 1114111 < r ∨ (55296 ≤ r ∧ r ≤ 57343)
      · rw [fix_bad hbad] at hcb
        rcases (show r < 0 ∨ (0 ≤ r ∧ 1114111 < r) ∨ (0 ≤ r ∧ r ≤ 1114111 ∧ 55296 ≤ r ∧ r ≤ 57343) by omega) with h1 | ⟨h0, h1⟩ | ⟨h0, h1, h2, h3⟩
        rotate_left 2
        · have d1 : decide (r < 0) = false := by simp; omega
          have d2 : decide (1114111 < r) = false := by simp; omega
          have d3 : decide (55296 ≤ r) = true := by simp; omega
          have d4 : decide (r ≤ 57343) = true := by simp; omega
          clear hbad
          go_wp2
          go_quiet (fail)
          go_wp2
          go_roundw
          case rel => exact ⟨i + 1, by omega, by go_num, bdr hw _⟩
          case measure => simp [intOf]; omega
        all_goals
          clear hbad
          go_wp2
          go_quiet (fail)
          go_wp2
          go_roundw
          case rel => exact ⟨i + 1, by omega, by go_num, bdr hw _⟩
          case measure => simp [intOf]; omega
      · rw [fix_good hbad] at hcb
        have h0 : 0 ≤ r := by omega
        have h1 : r ≤ 1114111 := by omega
        have d1 : decide (r < 0) = false := by simp; omega
        have d2 : decide (1114111 < r) = false := by simp; omega
        rcases (show (r < 55296 ∧ decide (55296 ≤ r) = false) ∨ (55296 ≤ r ∧ 57343 < r ∧ decide (55296 ≤ r) = true ∧ decide (r ≤ 57343) = false) by simp; omega) with ⟨h2, d3⟩ | ⟨h2, h3, d3, d4⟩
        all_goals
          clear hbad
          go_wp2
          go_quiet (fail)
          go_wp2
          go_roundw
          case rel => exact ⟨i + 1, by omega, by go_num, bdr hw _⟩
          case measure => simp [intOf]; omega
    · obtain rfl : i = X.length := by omega
      have hB3 := hB2.trans (hw.mono hB2.size)
      have G3 := G wr ob m cb HM.out (hS.below hB3)
      clear G hR2 hF2 hR hS hw hB2
      go_wp2_with fail
      refine G3.mono ?_
      rintro e w4 ⟨v4, rfl, hown4, hb4⟩
      obtain ⟨oa4, c4, rfl⟩ := own_slice hown4
      have hB4 := btr hB3 hb4
      have hR4 := RdR.own hown4
      have hYm := HY.out
      clear G3 hown4 hb4 hB3
      go_wp2_with fail
      go_loopw [13] (fun v13 wr => ∃ i : Nat, i ≤ Y.length ∧ v13 = .int .i64 i ∧ w4 = wr) (fun v13 _ => Y.length - (intOf v13).toNat)
      case atStart => exact ⟨0, Nat.zero_le _, rfl, rfl⟩
      case round =>
        obtain ⟨i, hi, rfl, rfl⟩ := hrel
        by_cases hlt : i < Y.length
        · obtain ⟨ad, rfl, hc⟩ := hR4 i hlt
          obtain ⟨h0, h1, h23⟩ := hg Y[i] (List.getElem_mem hlt)
          generalize Y[i] = r at *
          clear hR4 hg
          have d1 : decide (r < 0) = false := by simp; omega
          have d2 : decide (1114111 < r) = false := by simp; omega
          rcases (show (r < 55296 ∧ decide (55296 ≤ r) = false) ∨ (55296 ≤ r ∧ 57343 < r ∧ decide (55296 ≤ r) = true ∧ decide (r ≤ 57343) = false) by simp; omega) with ⟨h2, d3⟩ | ⟨h2, h3, d3, d4⟩
          all_goals
            clear h23
            go_wp2
            go_roundw
            case rel => exact ⟨i + 1, by omega, by go_num, trivial⟩
            case measure => simp [intOf]; omega
        · obtain rfl : i = Y.length := by omega
          clear hR4 hg
          go_wp2_with fail
          refine (awake16 _).mono ?_
          rintro e w5 ⟨rfl, hb5⟩
          go_wp2
          go_ret
          exact ⟨rfl, btr hB4 hb5⟩
theorem back10 (k : UInt8) (oa : Option Addr) (n cap : Nat) (X : List Int) (ob : Option Addr) (m cb : Nat) (L : List UInt8) (w : World) (hn : n = X.length) (hX : X.length ≤ 1048576) (hR : RdR w oa X)
    (hm : m = L.length) (hL : L.length ≤ 1048576) (hS : RdB w ob L) :
    Calls Try.prog 10 #[.int .u8 k.toNat, .slice oa n cap, .slice ob m cb] w fun e w' => e = .returned (.bool true) ∧ Below w.heap.size w w' := by
  have h4 : (2 * L.length + 2) * 4 ≤ 140737488355328 := by omega
  have hk := k.toNat_lt
  have go := fun (Y : List Int) (hY : Y.length ≤ 2 * L.length + 1) (hg : ∀ y ∈ Y, goodR y) G => back10_any k.toNat hk oa n cap X ob m cb L w hn hX hR hm hS Y (by omega) hg G
  rcases (show (k.toNat : Int) % 7 = 0 ∨ (k.toNat : Int) % 7 = 1 ∨ (k.toNat : Int) % 7 = 2 ∨ (k.toNat : Int) % 7 = 3 ∨ (k.toNat : Int) % 7 = 4 ∨ (k.toNat : Int) % 7 = 5 ∨ (k.toNat : Int) % 7 = 6 by omega) with e | e | e | e | e | e | e
  · exact go (told8 L) (told8_len L) (told8_good L) (by rw [e]; exact fun W oa n cap hn hR => text13_8 oa n cap L W hn hR h4)
  · exact go (toldf L) (toldf_len L) (told16_good false L) (by rw [e]; exact fun W oa n cap hn hR => text13_f oa n cap L W hn hR h4)
  · exact go (toldt L) (toldt_len L) (told16_good true L) (by rw [e]; exact fun W oa n cap hn hR => text13_t oa n cap L W hn hR h4)
  · exact go _ (one_len upW L) (upW_good L) (by rw [e]; exact fun W oa n cap hn hR => text13_3 oa n cap L W hn hR h4)
  · exact go _ (one_len upL L) (upL_good L) (by rw [e]; exact fun W oa n cap hn hR => text13_4 oa n cap L W hn hR h4)
  · exact go _ (one_len upC L) (upC_good L) (by rw [e]; exact fun W oa n cap hn hR => text13_5 oa n cap L W hn hR h4)
  · exact go _ (one_len upU L) (upU_good L) (by rw [e]; exact fun W oa n cap hn hR => text13_6 oa n cap L W hn hR h4)
end Go.Proofs.Ytmfifaigphnbmaa
