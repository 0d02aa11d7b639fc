/- The walk of the law that a name is a label, with blanks around it and letters of any size. Printed by genL9.py. -/
import Derived.Test.YtnphjniefklnaaaDoorL8
import Derived.Deep.LoopGhost
namespace Go.Proofs.YtnphjniefklnaaaDoor
open Go.RowKit
theorem zcell {W : World} {ad : Addr} {g k i : Nat} {u x : Value} (h : (ad.add k).block < g) (hc : W.cell? (ad.add k) = some u) : (W.setCell ⟨g, i, none⟩ x).cell? (ad.add k) = some u := by
  rw [World.cell?_setCell_other _ _ _ _ (fun e => by rw [← e] at h; exact Nat.lt_irrefl _ h), hc]
set_option maxRecDepth 100000 in
set_option maxHeartbeats 4000000 in
theorem back5 (k : Nat) (hk : k < 256) (ob : Option Addr) (nb cb : Nat) (B : List UInt8) (oz : Option Addr) (nz cz : Nat) (Z : List UInt8) (w : World) (hnb : nb = B.length) (hmb : nb ≤ maxLen) (hB : RdB w ob B) (hnz : nz = Z.length) (hmz : nz ≤ maxLen) (hZ : RdB w oz Z) (hT : Tabs w) :
    Calls Tryd.prog 5 #[.int .u8 k, .slice ob nb cb, .slice oz nz cz] w fun e w' => e = .returned (.bool true) ∧ Below w.heap.size w w' := by
  subst hnb hnz
  unfold maxLen at hmb hmz
  obtain ⟨q, hq⟩ : ∃ q : Nat, (k : Int) % 7 = q := ⟨k % 7, by omega⟩
  have hq7 : q < 7 := by omega
  have N := name11 q hq7 w
  have hlab := name_label q hq7
  have hlen := name_len q hq7
  generalize names.getD q [] = nm at *
  have HLAB := Go.Lib.hid hlab
  clear hlab
  obtain ⟨sn, hsn⟩ : ∃ sn, sn = mkS nm := ⟨_, rfl⟩
  rw [← hsn] at N
  have hsz : sn.size = nm.length := by rw [hsn]; rfl
  have hsd : sn.data.toList = nm := by rw [hsn]; rfl
  go_enter Tryd.func5, Tryd.ntmps5
  go_wp2_with fail
  refine N.mono ?_
  rintro e w1 ⟨rfl, hb1⟩
  have kb := Go.Lib.run_convert_string_bytes (P := Tryd.prog) w1 9 29 5 sn Tryd.underlying9 Tryd.underlying29 Tryd.underlying5
  have hBR := BRow.conv w1 5 sn
  have hbc := conv_below w1 5 sn
  rw [hsd] at hBR
  rw [hsz] at kb
  have hb2 := hb1.trans (hbc.mono hb1.size)
  have hs1 := hb1.size
  clear hsn hsz hsd N hbc
  generalize Go.Lib.bytesWorld w1 5 sn = W0 at *
  generalize ((Go.Lib.bytesCells w1 5 sn).size, (Go.Lib.bytesCells w1 5 sn).size + 1) = fr at *
  generalize List.replicate (grownCap w1 sn.size 0 5 - sn.size) (Value.int .u8 0) = z at *
  generalize grownCap w1 nm.length 0 5 = cc at *
  generalize w1.heap.size = g at *
  go_wp2_with fail
  go_loopw [10, 11, 12] (fun v10 _ _ wr => ∃ (i : Nat) (l : List UInt8), i ≤ nm.length ∧ v10 = .int .i64 i ∧ BRow wr g 5 l z fr ∧ Turned nm l i ∧ Below w.heap.size w wr) (fun v10 _ _ _ => nm.length - (intOf v10).toNat)
  case atStart => exact ⟨0, nm, Nat.zero_le _, rfl, hBR, Turned.start nm, hb2⟩
  case round =>
    obtain ⟨i, l, hi, rfl, hr, ht, hbw⟩ := hrel
    by_cases hlt : i < nm.length
    · obtain ⟨hl, he⟩ := ht.at_ hlt
      have hc := hr.cell hl
      have hf := hr.frozen hl
      rw [he] at hc
      have hst := fun (b : UInt8) (n : Int) (hn : n = b.toNat) => hr.set hl b hn
      have hst2 := fun (b b2 : UInt8) (n n2 : Int) (hn : n = b.toNat) (hn2 : n2 = b2.toNat) => (hst b n hn).set (k := i) (by rw [List.length_set]; exact hl) b2 hn2
      have hse : ∀ a b : UInt8, (l.set i a).set i b = l.set i b := fun a b => List.set_set a
      simp only [hse] at hst2
      have htn := fun (b : UInt8) (hb : lowB b = lowB nm[i]) => ht.step hlt b hb
      have hb8 := nm[i].toNat_lt
      have HST := Go.Lib.hid hst
      have HST2 := Go.Lib.hid hst2
      have HTN := Go.Lib.hid htn
      clear hst hst2 htn hse he ht hr
      generalize nm[i] = c at *
      have hsm : (65 ≤ (c.toNat : Int) ∧ (c.toNat : Int) ≤ 90) ∨ (97 ≤ (c.toNat : Int) ∧ (c.toNat : Int) ≤ 122) ∨ (¬ (65 ≤ (c.toNat : Int) ∧ (c.toNat : Int) ≤ 90) ∧ ¬ (97 ≤ (c.toNat : Int) ∧ (c.toNat : Int) ≤ 122)) := by omega
      by_cases hz : i < Z.length
      · obtain ⟨adz, rfl, hcz⟩ := (hZ.below hbw) i hz
        obtain ⟨_, _, hcz0⟩ := hZ i hz
        obtain rfl := Option.some.inj ‹some adz = some _›
        have hbz := Nat.lt_of_lt_of_le (World.block_lt_of_cell? _ _ hcz0) hs1
        have hcz2 := fun x => zcell (k := i) (i := i) (x := x) hbz hcz
        clear hcz0 hbz
        generalize Z[i] = v at *
        have hv := v.toNat_lt
        clear hZ
        by_cases hod : ((v.toNat : Int) % 2 == 1) = true
        · have hod2 : (v.toNat : Int) % 2 = 1 := by simpa using hod
          have hod3 := hod
          clear hod2
          rcases hsm with ⟨h1, h2⟩ | ⟨h1, h2⟩ | ⟨h1, h2⟩
          · have hy := lowB_yes h1 h2
            have HY := Go.Lib.hid hy
            clear hy
            go_wp2
            all_goals go_roundw
            all_goals first
              | (case rel => exact ⟨i + 1, _, by omega, by go_num, HST2.out (lowB c) (c) _ _ (by rw [← HY.out]) (by omega), HTN.out (c) rfl, (hbw.setCell (p := ⟨g, i, none⟩) hs1 _).setCell (p := ⟨g, i, none⟩) hs1 _⟩)
              | (case measure => simp [intOf]; omega)
          · have hy := larB_yes h1 h2
            have hno := lowB_no (c := c) (by omega)
            have HY := Go.Lib.hid hy
            have HNO := Go.Lib.hid hno
            clear hy hno
            go_wp2
            all_goals go_roundw
            all_goals first
              | (case rel => exact ⟨i + 1, _, by omega, by go_num, HST2.out (c) (larB c) _ _ rfl (by rw [← HY.out]), HTN.out (larB c) (lowB_larB c), (hbw.setCell (p := ⟨g, i, none⟩) hs1 _).setCell (p := ⟨g, i, none⟩) hs1 _⟩)
              | (case measure => simp [intOf]; omega)
          · have d1 : (decide (65 ≤ (c.toNat : Int)) && decide ((c.toNat : Int) ≤ 90)) = false := by simp; omega
            have d2 : (decide (97 ≤ (c.toNat : Int)) && decide ((c.toNat : Int) ≤ 122)) = false := by simp; omega
            go_wp2
            all_goals go_roundw
            all_goals first
              | (case rel => exact ⟨i + 1, _, by omega, by go_num, HST2.out (c) (c) _ _ rfl rfl, HTN.out (c) rfl, (hbw.setCell (p := ⟨g, i, none⟩) hs1 _).setCell (p := ⟨g, i, none⟩) hs1 _⟩)
              | (case measure => simp [intOf]; omega)
        · have hod2 : ((v.toNat : Int) % 2 == 1) = false := by simpa using hod
          clear hod
          rcases hsm with ⟨h1, h2⟩ | ⟨h1, h2⟩ | ⟨h1, h2⟩
          · have hy := lowB_yes h1 h2
            have HY := Go.Lib.hid hy
            clear hy
            go_wp2
            all_goals go_roundw
            all_goals first
              | (case rel => exact ⟨i + 1, _, by omega, by go_num, HST.out (lowB c) _ (by rw [← HY.out]), HTN.out (lowB c) (lowB_twice c), hbw.setCell (p := ⟨g, i, none⟩) hs1 _⟩)
              | (case measure => simp [intOf]; omega)
          · have hy := larB_yes h1 h2
            have hno := lowB_no (c := c) (by omega)
            have HY := Go.Lib.hid hy
            have HNO := Go.Lib.hid hno
            clear hy hno
            go_wp2
            all_goals go_roundw
            all_goals first
              | (case rel => exact ⟨i + 1, _, by omega, by go_num, HST.out (c) _ rfl, HTN.out (c) rfl, hbw.setCell (p := ⟨g, i, none⟩) hs1 _⟩)
              | (case measure => simp [intOf]; omega)
          · have d1 : (decide (65 ≤ (c.toNat : Int)) && decide ((c.toNat : Int) ≤ 90)) = false := by simp; omega
            have d2 : (decide (97 ≤ (c.toNat : Int)) && decide ((c.toNat : Int) ≤ 122)) = false := by simp; omega
            go_wp2
            all_goals go_roundw
            all_goals first
              | (case rel => exact ⟨i + 1, _, by omega, by go_num, HST.out (c) _ rfl, HTN.out (c) rfl, hbw.setCell (p := ⟨g, i, none⟩) hs1 _⟩)
              | (case measure => simp [intOf]; omega)
      · clear hZ
        rcases hsm with ⟨h1, h2⟩ | ⟨h1, h2⟩ | ⟨h1, h2⟩
        · have hy := lowB_yes h1 h2
          have HY := Go.Lib.hid hy
          clear hy
          go_wp2
          all_goals go_roundw
          all_goals first
            | (case rel => exact ⟨i + 1, _, by omega, by go_num, HST.out (lowB c) _ (by rw [← HY.out]), HTN.out (lowB c) (lowB_twice c), hbw.setCell (p := ⟨g, i, none⟩) hs1 _⟩)
            | (case measure => simp [intOf]; omega)
        · have hy := larB_yes h1 h2
          have hno := lowB_no (c := c) (by omega)
          have HY := Go.Lib.hid hy
          have HNO := Go.Lib.hid hno
          clear hy hno
          go_wp2
          all_goals go_roundw
          all_goals first
            | (case rel => exact ⟨i + 1, _, by omega, by go_num, HST.out (c) _ rfl, HTN.out (c) rfl, hbw.setCell (p := ⟨g, i, none⟩) hs1 _⟩)
            | (case measure => simp [intOf]; omega)
        · have d1 : (decide (65 ≤ (c.toNat : Int)) && decide ((c.toNat : Int) ≤ 90)) = false := by simp; omega
          have d2 : (decide (97 ≤ (c.toNat : Int)) && decide ((c.toNat : Int) ≤ 122)) = false := by simp; omega
          go_wp2
          all_goals go_roundw
          all_goals first
            | (case rel => exact ⟨i + 1, _, by omega, by go_num, HST.out (c) _ rfl, HTN.out (c) rfl, hbw.setCell (p := ⟨g, i, none⟩) hs1 _⟩)
            | (case measure => simp [intOf]; omega)
    · obtain rfl : i = nm.length := by omega
      have HLL := Go.Lib.hid ht.full
      have kbk := hr.back 29 5 cc nm.length ht.len.symm Tryd.underlying29 Tryd.underlying5 9 Tryd.underlying9
      obtain ⟨t0, ht0⟩ : ∃ t0, t0 = mkS l := ⟨_, rfl⟩
      rw [← ht0] at kbk
      have T0 : trimBl t0.data.toList = trimBl l := by rw [ht0]; rfl
      have S0 : t0.size ≤ 14 := by rw [ht0]; show l.length ≤ 14; rw [ht.len]; exact hlen
      clear ht0 hr ht kb hq7
      have HT0 := Go.Lib.hid T0
      clear T0 hi hlt
      go_wp2_with fail
      obtain ⟨W3, hW3⟩ : ∃ W3, W3 = wr.alloc (.cells (strs blanks) 9) := ⟨_, rfl⟩
      have hb3 : Below w.heap.size w W3 := by rw [hW3]; exact hbw.alloc hbw.size _
      have hcs : ∀ d, d < 5 → ∃ c : UInt8, isBl c = true ∧ W3.cell? ⟨wr.heap.size, d, none⟩ = some (.string (mkS [c])) := fun d hd => by
        obtain ⟨c, h1, h2⟩ := strs_get d hd
        refine ⟨c, h1, ?_⟩
        rw [hW3, blk_cells (show (wr.alloc (.cells (strs blanks) 9)).heap[wr.heap.size]? = some (.cells (strs blanks) 9) by show (wr.heap.push _)[wr.heap.size]? = some _; simp), h2]
      have HCS := Go.Lib.hid hcs
      clear hcs
      generalize hwz : wr.heap.size = g2 at *
      go_loopw [13, 15] (fun v13 v15 wr2 => ∃ (i : Nat) (t : ByteArray), v15 = .int .i64 i ∧ v13 = .string t ∧ trimBl t.data.toList = trimBl l ∧ t.size ≤ 14 + i ∧ i ≤ 100 ∧ i ≤ B.length ∧ wr2 = W3) (fun _ v15 _ => 100 - (intOf v15).toNat)
      case atStart => exact ⟨0, t0, rfl, rfl, HT0.out, S0, by omega, Nat.zero_le _, hW3.symm⟩
      case round =>
        clear hW3
        obtain ⟨i, t, rfl, rfl, hT1, hS1, hi1, hi2, rfl⟩ := hrel
        have HT1 := Go.Lib.hid hT1
        clear hT1 HT0 kbk S0
        by_cases hlt1 : i < B.length ∧ i < 100
        · obtain ⟨hlt2, hlt3⟩ := hlt1
          obtain ⟨ad, rfl, hc⟩ := (hB.below hb3) i hlt2
          clear hB
          generalize B[i] = v at *
          have hv := v.toNat_lt
          obtain ⟨d, hd⟩ : ∃ d : Nat, (v.toNat : Int) % 5 = d := ⟨v.toNat % 5, by omega⟩
          have hd5 : d < 5 := by omega
          obtain ⟨c, hbl, hcc⟩ := HCS.out d hd5
          have HA := Go.Lib.hid ((congrArg trimBl (show (t ++ mkS [c]).data.toList = t.data.toList ++ [c] by simp [ByteArray.data_append, mkS])).trans ((trim_last c t.data.toList hbl).trans HT1.out))
          have HB := Go.Lib.hid ((congrArg trimBl (show (mkS [c] ++ t).data.toList = c :: t.data.toList by simp [ByteArray.data_append, mkS])).trans ((trim_head c t.data.toList hbl).trans HT1.out))
          have hz1 : (t ++ mkS [c]).size = t.size + 1 := by rw [ByteArray.size_append]; rfl
          have hz2 : (mkS [c] ++ t).size = t.size + 1 := by rw [ByteArray.size_append]; exact Nat.add_comm 1 _
          have hsc : (mkS [c]).size = 1 := rfl
          generalize mkS [c] = sc at *
          have HZ1 := Go.Lib.hid hz1
          have HZ2 := Go.Lib.hid hz2
          clear HCS hbl hz1 hz2 HT1
          by_cases he : i % 2 = 0
          · go_wp2
            all_goals go_roundw
            case measure => simp [intOf]; omega
            case rel => exact ⟨i + 1, t ++ sc, by go_num, rfl, HA.out, by rw [HZ1.out]; omega, by omega, by omega, trivial⟩
          · have he : i % 2 = 1 := by omega
            go_wp2
            all_goals go_roundw
            case measure => simp [intOf]; omega
            case rel => exact ⟨i + 1, sc ++ t, by go_num, rfl, HB.out, by rw [HZ2.out]; omega, by omega, by omega, trivial⟩
        · have G := of8 t _ (by omega) (hT.below hb3)
          rw [HT1.out, low_trim, HLL.out, HLAB.out] at G
          clear HCS HLL HLAB HT1 hB hT
          have hx : i = B.length ∨ (i < B.length ∧ i = 100) := by omega
          rcases hx with rfl | ⟨hx1, rfl⟩
          all_goals go_wp2_with fail
          all_goals refine G.mono ?_
          all_goals rintro e w4 ⟨rfl, hb4⟩
          all_goals go_wp2
          all_goals go_ret
          all_goals exact ⟨rfl, btr hb3 hb4⟩
end Go.Proofs.YtnphjniefklnaaaDoor
