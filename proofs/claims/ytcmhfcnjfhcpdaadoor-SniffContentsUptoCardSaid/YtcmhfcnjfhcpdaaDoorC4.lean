/- Byte order marks: the reference, and the law. -/
import Derived.Test.YtcmhfcnjfhcpdaaDoorC2
namespace Go.Proofs.YtcmhfcnjfhcpdaaDoor
open Go.RowKit
set_option linter.unusedSimpArgs false
theorem pre_nil (X : List UInt8) : Lib.hasPrefix X [] = true := by simp [Lib.hasPrefix]
theorem pre_cons (a x : UInt8) (X Y : List UInt8) : Lib.hasPrefix (a :: X) (x :: Y) = ((a == x) && Lib.hasPrefix X Y) := by
  simp only [Lib.hasPrefix, List.isPrefixOf]
  rw [BEq.comm (a := x)]
theorem pre_none_ (x : UInt8) (Y : List UInt8) : Lib.hasPrefix [] (x :: Y) = false := by simp [Lib.hasPrefix]
def markE (m : Int × Int × Int) : Ending := .returned (.tuple #[.int .i64 m.1, .int .i64 m.2.1, .int .i64 m.2.2])
theorem RdB.at2 {w : World} {ad : Addr} {L : List UInt8} (h : RdB w (some ad) L) (j : Nat) (hj : j < L.length) (hj0 : 0 < j) : w.cell? ⟨ad.block, ad.off + j, none⟩ = some (.int .u8 (L[j]).toNat) := by
  obtain ⟨ax, hax, hcx⟩ := h j hj
  injection hax with hax
  subst hax
  rwa [show ad.add j = ⟨ad.block, ad.off + j, none⟩ by unfold Addr.add; rw [if_neg (by omega)]] at hcx
theorem RdB.at0 {w : World} {ad : Addr} {L : List UInt8} (h : RdB w (some ad) L) (hj : 0 < L.length) : w.cell? ad = some (.int .u8 (L[0]).toNat) := by
  obtain ⟨ax, hax, hcx⟩ := h 0 hj
  injection hax with hax
  subst hax
  exact hcx
set_option maxHeartbeats 2000000 in
theorem refmark13 (oa : Option Addr) (c : Nat) (L : List UInt8) (w : World) (hR : RdB w oa L) (hm : L.length ≤ 140737488351232) :
    Calls Tryd.prog 13 #[.slice oa L.length c] w fun e w' => e = markE (markF L) ∧ Drn w w' := by
  match L, hR, hm with
  | [], hR, hm =>
    go_enter Tryd.func13, Tryd.ntmps13
    go_wp2
    go_ret3
    exact ⟨rfl, 0, rfl⟩
  | [a], hR, hm =>
    go_enter Tryd.func13, Tryd.ntmps13
    go_wp2
    go_ret3
    exact ⟨by simp [markF, pre_cons, pre_none_, markE], 0, rfl⟩
  | [a, b], hR, hm =>
    obtain ⟨ad, rfl, _⟩ := hR 0 (by simp)
    have h0 := hR.at0 (by simp)
    have h1 := hR.at2 1 (by simp [List.length_cons]) (by decide)
    simp only [List.getElem_cons_zero, List.getElem_cons_succ] at h0 h1
    clear hR
    by_cases ea239 : a = 239
    · subst ea239
      have HM := Go.Lib.hid (show markF ([239, b]) = (0, 0, 6) by simp [markF, pre_cons, pre_nil, pre_none_, *]; done)
      go_enter Tryd.func13, Tryd.ntmps13
      go_wp2
      go_ret3
      exact ⟨by rw [HM.out]; rfl, 0, rfl⟩
    · have na239 := beq_toNat a 239
      rw [show ((239 : UInt8).toNat : Int) = 239 from rfl, beq_false_of_ne ea239] at na239
      by_cases ea254 : a = 254
      · subst ea254
        by_cases eb255 : b = 255
        · subst eb255
          have HM := Go.Lib.hid (show markF ([254, 255]) = (2, 2, 0) by simp [markF, pre_cons, pre_nil, pre_none_, *]; done)
          go_enter Tryd.func13, Tryd.ntmps13
          go_wp2
          go_ret3
          exact ⟨by rw [HM.out]; rfl, 0, rfl⟩
        · have nb255 := beq_toNat b 255
          rw [show ((255 : UInt8).toNat : Int) = 255 from rfl, beq_false_of_ne eb255] at nb255
          have HM := Go.Lib.hid (show markF ([254, b]) = (0, 0, 6) by simp [markF, pre_cons, pre_nil, pre_none_, *]; done)
          clear eb255
          go_enter Tryd.func13, Tryd.ntmps13
          go_wp2
          go_ret3
          exact ⟨by rw [HM.out]; rfl, 0, rfl⟩
      · have na254 := beq_toNat a 254
        rw [show ((254 : UInt8).toNat : Int) = 254 from rfl, beq_false_of_ne ea254] at na254
        by_cases ea255 : a = 255
        · subst ea255
          by_cases eb254 : b = 254
          · subst eb254
            have HM := Go.Lib.hid (show markF ([255, 254]) = (1, 2, 0) by simp [markF, pre_cons, pre_nil, pre_none_, *]; done)
            go_enter Tryd.func13, Tryd.ntmps13
            go_wp2
            go_ret3
            exact ⟨by rw [HM.out]; rfl, 0, rfl⟩
          · have nb254 := beq_toNat b 254
            rw [show ((254 : UInt8).toNat : Int) = 254 from rfl, beq_false_of_ne eb254] at nb254
            have HM := Go.Lib.hid (show markF ([255, b]) = (0, 0, 6) by simp [markF, pre_cons, pre_nil, pre_none_, *]; done)
            clear eb254
            go_enter Tryd.func13, Tryd.ntmps13
            go_wp2
            go_ret3
            exact ⟨by rw [HM.out]; rfl, 0, rfl⟩
        · have na255 := beq_toNat a 255
          rw [show ((255 : UInt8).toNat : Int) = 255 from rfl, beq_false_of_ne ea255] at na255
          have HM := Go.Lib.hid (show markF ([a, b]) = (0, 0, 6) by simp [markF, pre_cons, pre_nil, pre_none_, *]; done)
          clear ea239 ea254 ea255
          go_enter Tryd.func13, Tryd.ntmps13
          go_wp2
          go_ret3
          exact ⟨by rw [HM.out]; rfl, 0, rfl⟩
  | a :: b :: c' :: r, hR, hm =>
    obtain ⟨ad, rfl, _⟩ := hR 0 (by simp)
    have h0 := hR.at0 (by simp)
    have h1 := hR.at2 1 (by simp [List.length_cons]) (by decide)
    have h2 := hR.at2 2 (by simp [List.length_cons]) (by decide)
    simp only [List.getElem_cons_zero, List.getElem_cons_succ] at h0 h1 h2
    have hlen : (3 : Int) ≤ ((a :: b :: c' :: r).length : Nat) := by simp only [List.length_cons]; omega
    have hmm : ((a :: b :: c' :: r).length : Int) ≤ 140737488351232 := by omega
    clear hR
    by_cases ea239 : a = 239
    · subst ea239
      by_cases eb187 : b = 187
      · subst eb187
        by_cases ec191 : c' = 191
        · subst ec191
          have HM := Go.Lib.hid (show markF (239 :: 187 :: 191 :: r) = (0, 3, 0) by simp [markF, pre_cons, pre_nil, pre_none_, *]; done)
          generalize (239 :: 187 :: 191 :: r).length = n at *
          go_enter Tryd.func13, Tryd.ntmps13
          go_wp2
          go_ret3
          exact ⟨by rw [HM.out]; rfl, 0, rfl⟩
        · have nc191 := beq_toNat c' 191
          rw [show ((191 : UInt8).toNat : Int) = 191 from rfl, beq_false_of_ne ec191] at nc191
          have HM := Go.Lib.hid (show markF (239 :: 187 :: c' :: r) = (0, 0, 6) by simp [markF, pre_cons, pre_nil, pre_none_, *]; done)
          generalize (239 :: 187 :: c' :: r).length = n at *
          clear ec191
          go_enter Tryd.func13, Tryd.ntmps13
          go_wp2
          go_ret3
          exact ⟨by rw [HM.out]; rfl, 0, rfl⟩
      · have nb187 := beq_toNat b 187
        rw [show ((187 : UInt8).toNat : Int) = 187 from rfl, beq_false_of_ne eb187] at nb187
        have HM := Go.Lib.hid (show markF (239 :: b :: c' :: r) = (0, 0, 6) by simp [markF, pre_cons, pre_nil, pre_none_, *]; done)
        generalize (239 :: b :: c' :: r).length = n at *
        clear eb187
        go_enter Tryd.func13, Tryd.ntmps13
        go_wp2
        go_ret3
        exact ⟨by rw [HM.out]; rfl, 0, rfl⟩
    · have na239 := beq_toNat a 239
      rw [show ((239 : UInt8).toNat : Int) = 239 from rfl, beq_false_of_ne ea239] at na239
      by_cases ea254 : a = 254
      · subst ea254
        by_cases eb255 : b = 255
        · subst eb255
          have HM := Go.Lib.hid (show markF (254 :: 255 :: c' :: r) = (2, 2, 0) by simp [markF, pre_cons, pre_nil, pre_none_, *]; done)
          generalize (254 :: 255 :: c' :: r).length = n at *
          go_enter Tryd.func13, Tryd.ntmps13
          go_wp2
          go_ret3
          exact ⟨by rw [HM.out]; rfl, 0, rfl⟩
        · have nb255 := beq_toNat b 255
          rw [show ((255 : UInt8).toNat : Int) = 255 from rfl, beq_false_of_ne eb255] at nb255
          have HM := Go.Lib.hid (show markF (254 :: b :: c' :: r) = (0, 0, 6) by simp [markF, pre_cons, pre_nil, pre_none_, *]; done)
          generalize (254 :: b :: c' :: r).length = n at *
          clear eb255
          go_enter Tryd.func13, Tryd.ntmps13
          go_wp2
          go_ret3
          exact ⟨by rw [HM.out]; rfl, 0, rfl⟩
      · have na254 := beq_toNat a 254
        rw [show ((254 : UInt8).toNat : Int) = 254 from rfl, beq_false_of_ne ea254] at na254
        by_cases ea255 : a = 255
        · subst ea255
          by_cases eb254 : b = 254
          · subst eb254
            have HM := Go.Lib.hid (show markF (255 :: 254 :: c' :: r) = (1, 2, 0) by simp [markF, pre_cons, pre_nil, pre_none_, *]; done)
            generalize (255 :: 254 :: c' :: r).length = n at *
            go_enter Tryd.func13, Tryd.ntmps13
            go_wp2
            go_ret3
            exact ⟨by rw [HM.out]; rfl, 0, rfl⟩
          · have nb254 := beq_toNat b 254
            rw [show ((254 : UInt8).toNat : Int) = 254 from rfl, beq_false_of_ne eb254] at nb254
            have HM := Go.Lib.hid (show markF (255 :: b :: c' :: r) = (0, 0, 6) by simp [markF, pre_cons, pre_nil, pre_none_, *]; done)
            generalize (255 :: b :: c' :: r).length = n at *
            clear eb254
            go_enter Tryd.func13, Tryd.ntmps13
            go_wp2
            go_ret3
            exact ⟨by rw [HM.out]; rfl, 0, rfl⟩
        · have na255 := beq_toNat a 255
          rw [show ((255 : UInt8).toNat : Int) = 255 from rfl, beq_false_of_ne ea255] at na255
          have HM := Go.Lib.hid (show markF (a :: b :: c' :: r) = (0, 0, 6) by simp [markF, pre_cons, pre_nil, pre_none_, *]; done)
          generalize (a :: b :: c' :: r).length = n at *
          clear ea239 ea254 ea255
          go_enter Tryd.func13, Tryd.ntmps13
          go_wp2
          go_ret3
          exact ⟨by rw [HM.out]; rfl, 0, rfl⟩
set_option maxRecDepth 100000 in
theorem marks6 (oa : Option Addr) (c : Nat) (L : List UInt8) (w : World) (hR : RdB w oa L) (hm : L.length ≤ 140737488351232) (hT : Tabs w) :
    Calls Tryd.prog 6 #[.slice oa L.length c] w fun e w' => e = .returned (.bool true) ∧ Below w.heap.size w w' := by
  obtain ⟨m, hmm⟩ : ∃ m, m = markF L := ⟨_, rfl⟩
  have HM := Go.Lib.hid hmm
  go_enter Tryd.func6, Tryd.ntmps6
  go_wp2_with (at_builtin; refine step_append_slice rfl w.heap.size (.tmp 10) (.tmp 11) 26 5 _ 1 1 rfl Tryd.underlying26 Tryd.info5 rfl (by decide) (by decide) _ 0 L.length c oa [] (u8s L) rfl rfl (by simp [u8s]) (RdB.news (hR.below (bal (Below.refl _ _) _))) (u8_one L) (own_empty w w.heap.size 5 1 w.heap.size rfl (Nat.le_refl _)) (bal (Below.refl _ _) _) (by simp) (by omega) ?_; intro v1 w1 hown1 hB1; simp only [Nat.zero_add, List.nil_append] at hown1; obtain ⟨oa1, cap1, rfl, hcap1, hr1, _⟩ := own_bytes hown1)
  refine (mark12 oa1 cap1 L w1 hcap1 hr1).mono ?_
  rw [← HM.out]
  rintro e w2 ⟨rfl, hb2⟩
  have hB2 := btr hB1 hb2
  have R := refmark13 oa c L w2 (hR.below hB2) hm
  rw [← HM.out] at R
  clear hmm hown1 hr1 hb2 hcap1
  go_wp2_with fail
  refine R.mono ?_
  rintro e w3 ⟨rfl, n3, rfl⟩
  have hB3 : Below w.heap.size w (w2.drewN n3) := hB2.trans ⟨rfl, rfl, rfl, Nat.le_refl _, fun _ _ => rfl⟩
  dsimp only [markE]
  go_wp2_with (go_at_call 10; refine (awake10 _ (hT.below hB3)).mono ?_; rintro e w8 ⟨rfl, h8⟩)
  go_ret
  exact ⟨rfl, btr hB3 h8⟩
end Go.Proofs.YtcmhfcnjfhcpdaaDoor
