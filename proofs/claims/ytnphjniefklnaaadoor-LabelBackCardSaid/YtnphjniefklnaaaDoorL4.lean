/- The reference's walk of the encoding of a label. -/
import Derived.Test.YtnphjniefklnaaaDoorL3
import Derived.Deep.DeepCutAuto
import Derived.Deep.CutBlock
import Derived.Deep.QuietTactic
import Derived.BigQuiet
namespace Go.Proofs.YtnphjniefklnaaaDoor
open Go.RowKit
def sizeV : Value → Nat
  | .string t => t.size
  | _ => 0
theorem ext_tail (t : ByteArray) : (t.extract 1 t.size).data.toList = t.data.toList.drop 1 := by
  rw [ByteArray.data_extract]
  have h : t.size = t.data.toList.length := (dlen t).symm
  rw [h]
  simp [List.take_of_length_le]
theorem ext_init (t : ByteArray) (n : Nat) (_h : n ≤ t.size) : (t.extract 0 n).data.toList = t.data.toList.take n := by
  rw [ByteArray.data_extract]
  simp
theorem size_tail (t : ByteArray) : (t.extract 1 t.size).size = t.size - 1 := by rw [← dlen, ext_tail, List.length_drop, dlen]
theorem size_init (t : ByteArray) (n : Nat) (h : n ≤ t.size) : (t.extract 0 n).size = n := by rw [← dlen, ext_init t n h, List.length_take, dlen]; omega
theorem head_data (t : ByteArray) (h : 0 < t.size) : t.data.toList = t[0] :: t.data.toList.drop 1 := by
  have h1 : 0 < t.data.toList.length := by rw [dlen]; exact h
  have := List.drop_eq_getElem_cons (l := t.data.toList) (i := 0) h1
  rw [List.drop_zero] at this
  rw [this]
  rfl
theorem last_data (t : ByteArray) (h : 0 < t.size) : t.data.toList = t.data.toList.take (t.size - 1) ++ [t[t.size - 1]'(by omega)] := by
  have h1 : t.size - 1 < t.data.toList.length := by rw [dlen]; omega
  have h2 := List.take_succ_eq_append_getElem h1
  rw [show t.size - 1 + 1 = t.data.toList.length by rw [dlen]; omega, List.take_length] at h2
  exact h2
def AfterCut (s : ByteArray) (v : Value) : Prop := ∃ t : ByteArray, v = .string t ∧ t.data.toList = trimBl s.data.toList ∧ t.size ≤ s.size
set_option maxRecDepth 100000 in
set_option maxHeartbeats 1000000 in
theorem rof9 (s : ByteArray) (w : World) (hs : s.size ≤ 4294967296) :
    Calls Tryd.prog 9 #[.string s] w fun e w' => e = .returned (.tuple #[.int .i64 (ofL (low (trimBl s.data.toList))).1, .int .i64 (ofL (low (trimBl s.data.toList))).2]) ∧ Below w.heap.size w w' := by
  go_enter Tryd.func9, Tryd.ntmps9
  go_upto_block 0 with fail
  go_cut [0, 2, 3] (fun v0 v2 v3 wx => ∃ t : ByteArray, v0 = .string t ∧ v2 = .int .i64 0 ∧ v3 = .int .i64 0 ∧ t.data.toList = s.data.toList.dropWhile isBl ∧ t.size ≤ s.size ∧ w = wx)
  case first =>
    go_wp2_with fail
    go_loop [0] (fun v0 => ∃ t : ByteArray, v0 = .string t ∧ t.size ≤ s.size ∧ t.data.toList.dropWhile isBl = s.data.toList.dropWhile isBl) (fun v0 => sizeV v0)
    case atStart => exact ⟨s, rfl, Nat.le_refl _, rfl⟩
    case round =>
      obtain ⟨t, rfl, hts, ht⟩ := hrel
      have HT := Go.Lib.hid ht
      clear ht
      by_cases h0 : 0 < t.size
      · have hb := t[0].toNat_lt
        have hh := head_data t h0
        have htt := ext_tail t
        have hzt := size_tail t
        have K := blank19 t[0] (isBl t[0]) rfl w
        cases hbl : isBl t[0]
        · rw [hbl] at K
          have e : t.data.toList = s.data.toList.dropWhile isBl := by rw [← HT.out, hh, List.dropWhile_cons_of_neg (by simp [hbl])]
          have E := Go.Lib.hid e
          clear e hh htt hbl hzt
          go_wp2_with fail
          with_reducible refine K.mono ?_
          rintro e w1 ⟨rfl, rfl⟩
          go_wp2
          go_meet
          case rel => exact ⟨t, rfl, rfl, rfl, E.out, hts, rfl⟩
        · rw [hbl] at K
          have e : (t.extract 1 t.size).data.toList.dropWhile isBl = s.data.toList.dropWhile isBl := by rw [← HT.out, htt]; conv => rhs; rw [hh, List.dropWhile_cons_of_pos hbl]
          have E := Go.Lib.hid e
          have Z := Go.Lib.hid hzt
          clear e hh htt hbl hzt
          go_wp2_with fail
          with_reducible refine K.mono ?_
          rintro e w1 ⟨rfl, rfl⟩
          go_wp2
          go_round
          case rel => exact ⟨t.extract 1 t.size, rfl, by rw [Z.out]; omega, E.out⟩
          case measure => simp only [sizeV, Z.out]; omega
      · have hz : t.size = 0 := by omega
        have e : t.data.toList = s.data.toList.dropWhile isBl := by
          have : t.data.toList = [] := List.eq_nil_of_length_eq_zero (by rw [dlen]; exact hz)
          rw [← HT.out, this]; rfl
        have E := Go.Lib.hid e
        clear e hz
        go_wp2
        go_meet
        case rel => exact ⟨t, rfl, rfl, rfl, E.out, hts, rfl⟩
  case rest =>
    obtain ⟨t, rfl, rfl, rfl, ht, hts, rfl⟩ := hcut
    have HU := Go.Lib.hid ht
    clear ht
    go_upto_block 2 with fail
    go_cut [0, 2, 3] (fun v0 v2 v3 wx => ∃ t : ByteArray, v0 = .string t ∧ v2 = .int .i64 0 ∧ v3 = .int .i64 0 ∧ t.data.toList = trimBl s.data.toList ∧ t.size ≤ s.size ∧ w = wx)
    case first =>
      go_wp2_with fail
      go_loop [0] (fun v0 => ∃ t : ByteArray, v0 = .string t ∧ t.size ≤ s.size ∧ t.data.toList.reverse.dropWhile isBl = (s.data.toList.dropWhile isBl).reverse.dropWhile isBl) (fun v0 => sizeV v0)
      case atStart => exact ⟨t, rfl, hts, by rw [HU.out]⟩
      case round =>
        obtain ⟨t, rfl, hts, ht⟩ := hrel
        have HT := Go.Lib.hid ht
        clear ht
        by_cases h0 : 0 < t.size
        · obtain ⟨m, hm⟩ : ∃ m, t.size = m + 1 := ⟨t.size - 1, by omega⟩
          have hml : m < t.size := by omega
          have hh : t.data.toList = t.data.toList.take m ++ [t[m]] := by
            have := last_data t h0
            simp only [show t.size - 1 = m by omega] at this
            exact this
          have htt := ext_init t m (by omega)
          have hzt := size_init t m (by omega)
          have K := blank19 t[m] (isBl t[m]) rfl w
          cases hbl : isBl t[m]
          · rw [hbl] at K
            have e : t.data.toList = trimBl s.data.toList := by
              rw [trimBl, ← HT.out, hh, List.reverse_append, List.reverse_cons, List.reverse_nil, List.nil_append, List.singleton_append, List.dropWhile_cons_of_neg (by simp [hbl])]
              simp
            have E := Go.Lib.hid e
            clear e hh htt hbl hzt
            go_wp2_with fail
            with_reducible refine K.mono ?_
            rintro e w1 ⟨rfl, rfl⟩
            go_wp2
            go_meet
            case rel => exact ⟨t, rfl, rfl, rfl, E.out, hts, rfl⟩
          · rw [hbl] at K
            have e : (t.extract 0 m).data.toList.reverse.dropWhile isBl = (s.data.toList.dropWhile isBl).reverse.dropWhile isBl := by
              rw [← HT.out, htt]
              conv => rhs; rw [hh, List.reverse_append, List.reverse_cons, List.reverse_nil, List.nil_append, List.singleton_append, List.dropWhile_cons_of_pos hbl]
            have E := Go.Lib.hid e
            have Z := Go.Lib.hid hzt
            have HMM := Go.Lib.hid hm
            clear e hh htt hbl hzt
            go_wp2_with fail
            with_reducible refine K.mono ?_
            rintro e w1 ⟨rfl, rfl⟩
            go_wp2
            go_round
            case rel => exact ⟨t.extract 0 m, rfl, by rw [Z.out]; omega, E.out⟩
            case measure => simp only [sizeV, Z.out]; omega
        · have hz : t.size = 0 := by omega
          have e : t.data.toList = trimBl s.data.toList := by
            have : t.data.toList = [] := List.eq_nil_of_length_eq_zero (by rw [dlen]; exact hz)
            rw [trimBl, ← HT.out, this]; rfl
          have E := Go.Lib.hid e
          clear e hz
          go_wp2
          go_meet
          case rel => exact ⟨t, rfl, rfl, rfl, E.out, hts, rfl⟩
    case rest =>
      obtain ⟨t, rfl, rfl, rfl, ht, hts, rfl⟩ := hcut
      have HTR := Go.Lib.hid ht
      clear ht HU
      obtain ⟨L, hL⟩ : ∃ L, L = t.data.toList := ⟨_, rfl⟩
      have hls : L.length = t.size := by rw [hL, dlen]
      have kb := Go.Lib.run_convert_string_bytes (P := Tryd.prog) w 9 29 5 t Tryd.underlying9 Tryd.underlying29 Tryd.underlying5
      have hB := BRow.conv w 5 t
      have hb := conv_below w 5 t
      rw [← hL] at hB
      rw [← hls] at kb
      have hlm : L.length ≤ 4294967296 := by omega
      have HLL := Go.Lib.hid hL
      have HLS := Go.Lib.hid hls
      clear hL hls
      generalize Go.Lib.bytesWorld w 5 t = W0 at *
      generalize ((Go.Lib.bytesCells w 5 t).size, (Go.Lib.bytesCells w 5 t).size + 1) = fr at *
      generalize List.replicate (grownCap w t.size 0 5 - t.size) (Value.int .u8 0) = z at *
      generalize grownCap w L.length 0 5 = cc at *
      go_wp2_with fail
      go_loopw [5] (fun v5 wr => ∃ k : Nat, k ≤ L.length ∧ v5 = .int .i64 k ∧ BRow wr w.heap.size 5 (mapTo lowB L k) z fr ∧ Below w.heap.size w wr) (fun v5 _ => L.length - (intOf v5).toNat)
      case atStart => exact ⟨0, Nat.zero_le _, rfl, hB, hb⟩
      case round =>
        obtain ⟨k, hk, rfl, hr, hbw⟩ := hrel
        by_cases hlt : k < L.length
        · have hc := hr.cell (k := k) (by rw [mapTo_length]; exact hlt)
          rw [mapTo_get _ _ _ hlt] at hc
          have hf := hr.frozen (k := k) (by rw [mapTo_length]; exact hlt)
          have hb8 := L[k].toNat_lt
          by_cases hup : (65 : Int) ≤ L[k].toNat ∧ (L[k].toNat : Int) ≤ 90
          · have hy := lowB_yes hup.1 hup.2
            have HT2 := Go.Lib.hid (fun (n : Int) (hn : n = (lowB L[k]).toNat) => hr.turn hlt hn)
            have HY := Go.Lib.hid hy
            obtain ⟨hu1, hu2⟩ := hup
            clear hy hr
            generalize L[k] = b at *
            go_wp2
            go_roundw
            case rel => exact ⟨k + 1, by omega, by go_num, HT2.out _ HY.out, hbw.setCell (p := ⟨w.heap.size, k, none⟩) (Nat.le_refl _) _⟩
            case measure => simp [intOf]; omega
          · have hno := lowB_no hup
            have HT2 := Go.Lib.hid (hr.leave hlt hno)
            have hup' : (L[k].toNat : Int) < 65 ∨ (90 : Int) < L[k].toNat := by omega
            clear hno hr hup
            generalize L[k] = b at *
            rcases hup' with hup | hup
            all_goals
              go_wp2
              go_roundw
              case rel => exact ⟨k + 1, by omega, by go_num, HT2.out, hbw⟩
              case measure => simp [intOf]; omega
        · obtain rfl : k = L.length := by omega
          rw [mapTo_full _ _ _ (Nat.le_refl _)] at hr
          go_wp2_with fail
          refine (labels20 wr).mono ?_
          rintro e W ⟨gl, rfl, hlab, hbl⟩
          have hBW := btr hbw hbl
          obtain ⟨x, hx⟩ : ∃ x, x = mkS (low L) := ⟨_, rfl⟩
          have kc : ∀ m, (convert 29 9 (.slice (some ⟨w.heap.size, 0, none⟩) L.length cc)).run Tryd.prog (W.drewN m) = .ok (.string x) (W.drewN m) := fun m => by
            rw [hx]
            exact ((hr.below hbl).below (bdr (Below.refl _ _) m)).back (P := Tryd.prog) 29 5 cc L.length (by simp) Tryd.underlying29 Tryd.underlying5 9 Tryd.underlying9
          have hxd : low L = x.data.toList := by rw [hx]; rfl
          have HX := Go.Lib.hid hxd
          clear hx hxd hr hbw hbl hB hb kb
          go_wp2_with fail
          go_loopw [2, 3, 7, 8] (fun v2 v3 v7 _ wr => ∃ (i m : Nat), i ≤ labs.length ∧ v2 = .int .i64 0 ∧ v3 = .int .i64 0 ∧ v7 = .int .i64 i ∧ (∀ j (hj : j < labs.length), j < i → (labs[j]).contains x.data.toList = false) ∧ wr = W.drewN m) (fun _ _ v7 _ _ => labs.length - (intOf v7).toNat)
          case atStart => exact ⟨0, 0, by omega, rfl, rfl, rfl, fun j _ hj => by omega, rfl⟩
          case round =>
            obtain ⟨i, m, hi, rfl, rfl, rfl, hnol, rfl⟩ := hrel
            have HNO := Go.Lib.hid hnol
            clear hnol
            have h7 : labs.length = 7 := rfl
            by_cases hlt : i < labs.length
            · obtain ⟨gi, hci, hcells⟩ := hlab i hlt
              have HA := Go.Lib.hid (fun h => ofL_at x.data.toList i hlt h HNO.out)
              have HN2 := Go.Lib.hid (fun (h : (labs[i]).contains x.data.toList = false) (j : Nat) (hj : j < labs.length) (hji : j < i + 1) => show (labs[j]).contains x.data.toList = false from by
                rcases Nat.lt_or_ge j i with h1 | h1
                · exact HNO.out j hj h1
                · obtain rfl : j = i := by omega
                  exact h)
              have hi7 : i < 7 := by omega
              have H7 := Go.Lib.hid h7
              have hR12 : (labs[i]).length ≤ 12 := by
                have hall : (labs.all fun r => decide (r.length ≤ 12)) = true := by decide
                exact of_decide_eq_true (List.all_eq_true.1 hall _ (List.getElem_mem hlt))
              clear HNO h7
              generalize labs[i] = R at *
              go_wp2_with fail
              go_loopw [2, 3, 8] (fun v2 v3 v8 wr => ∃ (k m2 : Nat), k ≤ R.length ∧ v2 = .int .i64 0 ∧ v3 = .int .i64 0 ∧ v8 = .int .i64 k ∧ (∀ j (hj : j < R.length), j < k → R[j] ≠ x.data.toList) ∧ wr = W.drewN m2) (fun _ _ v8 _ => R.length - (intOf v8).toNat)
              case atStart => exact ⟨0, m, by omega, rfl, rfl, rfl, fun j _ hj => by omega, rfl⟩
              case round =>
                obtain ⟨k, m2, hk, rfl, rfl, rfl, hnok, rfl⟩ := hrel
                have HK := Go.Lib.hid hnok
                clear hnok
                by_cases hlk : k < R.length
                · have hc := hcells k hlk
                  clear hcells
                  by_cases hxy : R[k] = x.data.toList
                  · rw [hxy, mkS_self] at hc
                    have hres := HA.out (List.contains_iff_mem.2 (by rw [← hxy]; exact List.getElem_mem hlk))
                    have HR := Go.Lib.hid hres
                    clear hxy hres
                    go_wp2
                    go_quiet (fail)
                    go_wp2
                    go_ret2
                    rw [← HTR.out, ← HLL.out, HX.out, HR.out]
                    exact ⟨rfl, bdr (bdr hBW _) _⟩
                  · obtain ⟨y, hy⟩ : ∃ y, y = mkS R[k] := ⟨_, rfl⟩
                    rw [← hy] at hc
                    have hq : (y.toList == x.toList) = false := by
                      rw [beq_eq_false_iff_ne, hy, tl_mkS, tl]; exact hxy
                    have HZ := Go.Lib.hid hxy
                    clear hxy hy
                    go_wp2
                    go_quiet (fail)
                    go_wp2
                    go_roundw
                    case rel => exact ⟨k + 1, _, by omega, rfl, rfl, by go_num, fun j hj hjk => by
                      rcases Nat.lt_or_ge j k with h1 | h1
                      · exact HK.out j hj h1
                      · obtain rfl : j = k := by omega
                        exact HZ.out, rfl⟩
                    case measure => simp [intOf]; omega
                · have hcon : R.contains x.data.toList = false := by
                    cases hcc : R.contains x.data.toList with
                    | false => rfl
                    | true =>
                      obtain ⟨j, hj, hje⟩ := List.getElem_of_mem (List.contains_iff_mem.1 hcc)
                      exact absurd hje (HK.out j hj (by omega))
                  have HN3 := Go.Lib.hid (HN2.out hcon)
                  clear hcon
                  go_wp2
                  go_roundw
                  case rel => exact ⟨i + 1, m2, by omega, rfl, rfl, by go_num, HN3.out, rfl⟩
                  case measure => simp [intOf]; omega
            · have hno := ofL_no x.data.toList (fun j hj => HNO.out j hj (by omega))
              have HH := Go.Lib.hid hno
              have hi7 : ¬ i < 7 := by omega
              clear hno h7
              go_wp2
              go_ret2
              rw [← HTR.out, ← HLL.out, HX.out, HH.out]
              exact ⟨rfl, bdr hBW _⟩
end Go.Proofs.YtnphjniefklnaaaDoor
