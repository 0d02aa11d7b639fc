/- The walk of the encoding of a label. -/
import Derived.Test.YtcmhfcnjfhcpdaaDoorL1b
import Derived.Deep.DeepMust
import Derived.Lib.OthersKept
namespace Go.Proofs.YtcmhfcnjfhcpdaaDoor
open Go.RowKit
theorem encode_rune (r : Int) : (Utf8.encode r).data.toList = Go.Lib.encodeRune r := by
  unfold Utf8.encode Go.Lib.encodeRune
  by_cases hv : Utf8.valid r = true
  · have hv' : (0 ≤ r ∧ r < 55296) ∨ (57344 ≤ r ∧ r ≤ 1114111) := by simp [Utf8.valid] at hv; omega
    unfold Go.Lib.encodeRuneZ
    simp only [hv, if_true]
    by_cases h1 : r < 128
    · rw [if_pos (show r.toNat < 128 by omega), if_pos (by omega)]; simp
    by_cases h2 : r < 2048
    · rw [if_neg (show ¬ r.toNat < 128 by omega), if_pos (show r.toNat < 2048 by omega), if_neg (by omega), if_pos (by omega)]
      have e1 : (192 + r / 64).toNat = 192 + r.toNat / 64 := by omega
      have e2 : (128 + r % 64).toNat = 128 + r.toNat % 64 := by omega
      simp only [List.map_cons, List.map_nil, e1, e2]
    by_cases h3 : r < 65536
    · rw [if_neg (show ¬ r.toNat < 128 by omega), if_neg (show ¬ r.toNat < 2048 by omega), if_pos (show r.toNat < 65536 by omega), if_neg (by omega), if_neg (by omega), if_pos (by omega)]
      have e1 : (224 + r / 4096).toNat = 224 + r.toNat / 4096 := by omega
      have e2 : (128 + r / 64 % 64).toNat = 128 + r.toNat / 64 % 64 := by omega
      have e3 : (128 + r % 64).toNat = 128 + r.toNat % 64 := by omega
      simp only [List.map_cons, List.map_nil, e1, e2, e3]
    · rw [if_neg (show ¬ r.toNat < 128 by omega), if_neg (show ¬ r.toNat < 2048 by omega), if_neg (show ¬ r.toNat < 65536 by omega), if_neg (by omega), if_neg (by omega), if_neg (by omega), if_pos (by omega)]
      have e0 : (240 + r / 262144).toNat = 240 + r.toNat / 262144 := by omega
      have e1 : (128 + r / 4096 % 64).toNat = 128 + r.toNat / 4096 % 64 := by omega
      have e2 : (128 + r / 64 % 64).toNat = 128 + r.toNat / 64 % 64 := by omega
      have e3 : (128 + r % 64).toNat = 128 + r.toNat % 64 := by omega
      simp only [List.map_cons, List.map_nil, e0, e1, e2, e3]
  · have hv' : ¬ ((0 ≤ r ∧ r < 55296) ∨ (57344 ≤ r ∧ r ≤ 1114111)) := by simp [Utf8.valid] at hv; omega
    rw [if_neg hv, Go.Lib.encodeRuneZ_bad (by omega)]
    rfl
theorem mkS_eq {s : ByteArray} {l : List UInt8} (h : s.data.toList = l) : s = mkS l := by rw [← h]; rfl
theorem mkS_enc (a : List UInt8) (r : Int) : mkS a ++ Utf8.encode r = mkS (a ++ Go.Lib.encodeRune r) := mkS_eq (by rw [ByteArray.data_append, Array.toList_append, encode_rune]; rfl)
theorem encodeRune_len (r : Int) : (Go.Lib.encodeRune r).length ≤ 4 := by
  have := Go.Lib.encodeRuneZ_length r
  simp [Go.Lib.encodeRune]
  omega
theorem encode_size (r : Int) : (Utf8.encode r).size ≤ 4 := by
  rw [← dlen, encode_rune]; exact encodeRune_len r
theorem smFrom_len (s : ByteArray) : ∀ f pos, (smFrom s f pos).length ≤ 4 * f := by
  intro f
  induction f with
  | zero => intro pos; simp [smFrom]
  | succ f ih =>
    intro pos
    by_cases hp : pos < s.size
    · rw [smFrom_step s f pos hp, List.length_append]
      have := ih (pos + (Utf8.decode s pos).2)
      have := encodeRune_len (lowR (Utf8.decode s pos).1)
      omega
    · rw [smFrom_end s _ pos hp]; simp
set_option maxRecDepth 100000 in
set_option maxHeartbeats 4000000 in
theorem of8 (s : ByteArray) (w : World) (hs : s.size ≤ 33554432) (hT : Tabs w) :
    Calls Tryd.prog 35 #[.string s] w fun e w' => e = .returned (.tuple #[.int .i64 (ofL (low (trimBl s.data.toList))).1, .int .i64 (ofL (low (trimBl s.data.toList))).2]) ∧ Below w.heap.size w w' := by
  have K := trim15 s w (by omega)
  obtain ⟨t, ht⟩ : ∃ t, t = mkS (trimBl s.data.toList) := ⟨_, rfl⟩
  have htd : trimBl s.data.toList = t.data.toList := by rw [ht]; rfl
  have hts : t.size ≤ 33554432 := by
    rw [← dlen, ← htd]
    unfold trimBl
    have h1 := (List.dropWhile_suffix (l := (s.data.toList.dropWhile isBl).reverse) isBl).length_le
    have h2 := (List.dropWhile_suffix (l := s.data.toList) isBl).length_le
    rw [List.length_reverse] at h1 ⊢
    rw [dlen] at h2
    omega
  rw [← ht] at K
  rw [htd, ← ofL_small t]
  clear htd ht hs
  go_enter Tryd.func35, Tryd.ntmps35
  go_wp2_with fail
  refine K.mono ?_
  rintro e w1 ⟨rfl, hb1⟩
  go_wp2_with fail
  go_loopw [4, 6] (fun v4 _ wr => ∃ (pos fuel : Nat) (acc : List UInt8), v4 = .string (mkS acc) ∧ wr.heap[w1.heap.size]? = some (.stringIter t pos) ∧ Below w.heap.size w wr ∧ acc ++ smFrom t fuel pos = smG t ∧ t.size ≤ pos + fuel ∧ acc.length ≤ 4 * pos) (fun _ _ wr => t.size - wr.iterPos w1.heap.size)
  case atStart => exact ⟨0, t.size, [], rfl, World.iter_heap w1 t 0, bal hb1 _, rfl, by omega, by simp⟩
  case round =>
    obtain ⟨pos, fuel, acc, rfl, hit, hbw, hacc, hfu, hal⟩ := hrel
    by_cases hp : pos < t.size
    · obtain ⟨r, hr⟩ : ∃ r : Int, r = ((Utf8.decode t pos).1 : Int) := ⟨_, rfl⟩
      have hnx : ∀ ty, (Instr.next (.pointer (some ⟨w1.heap.size, 0, none⟩)) true ty).run Tryd.prog wr = .ok (.tuple #[.bool true, .int .i64 pos, .int .i32 r]) (wr.iterAt w1.heap.size t (pos + (Utf8.decode t pos).2)) := fun ty => by rw [hr]; exact Lib.run_next_any_at wr w1.heap.size t pos ty hit hp
      have hwd := width_pos t pos hp
      have hd1 := decode_le t pos
      have hit2 := Lib.iterAt_heap wr w1.heap.size t pos (pos + (Utf8.decode t pos).2) hit
      have hbw2 := Lib.below_iterAt hbw (k := w1.heap.size) hb1.size t (pos + (Utf8.decode t pos).2)
      obtain ⟨f, rfl⟩ : ∃ f, fuel = f + 1 := ⟨fuel - 1, by omega⟩
      have hstep := smFrom_step t f pos hp
      have hr0 : 0 ≤ r := by omega
      have hr1 : r ≤ 2147483647 := by omega
      rw [← hr] at hstep
      have HSTEP := Go.Lib.hid hstep
      clear hstep hr hd1
      have HA := Go.Lib.hid hacc
      clear hacc
      by_cases hup : 65 ≤ r ∧ r ≤ 90
      · have HL := Go.Lib.hid (show lowR r = r + 32 by rw [lowR, if_pos hup])
        obtain ⟨h65, h90⟩ := hup
        have hcat : (mkS acc).size + (Utf8.encode (r + 32)).size ≤ 9223372036854775807 := by
          have := encode_size (r + 32)
          rw [mkS_size]; omega
        go_wp2
        go_roundw
        case rel =>
          have hl4 := encodeRune_len (r + 32)
          refine ⟨pos + (Utf8.decode t pos).2, f, acc ++ Lib.encodeRune (r + 32), ?_, hit2, hbw2, ?_, by omega, by simp; omega⟩
          · rw [mkS_enc]
          · rw [← HA.out, HSTEP.out, HL.out, List.append_assoc]
        case measure =>
          simp only [World.iterPos, hit2, hit]
          omega
      · have HL := Go.Lib.hid (show lowR r = r by rw [lowR, if_neg hup])
        have hcase : r < 65 ∨ 90 < r := by omega
        clear hup
        have hcat : (mkS acc).size + (Utf8.encode r).size ≤ 9223372036854775807 := by
          have := encode_size r
          rw [mkS_size]; omega
        rcases hcase with hup | hup
        all_goals
          go_wp2
          go_roundw
          case rel =>
            have hl4 := encodeRune_len r
            refine ⟨pos + (Utf8.decode t pos).2, f, acc ++ Lib.encodeRune r, ?_, hit2, hbw2, ?_, by omega, by simp; omega⟩
            · rw [mkS_enc]
            · rw [← HA.out, HSTEP.out, HL.out, List.append_assoc]
          case measure =>
            simp only [World.iterPos, hit2, hit]
            omega
    · have hnx : ∀ ty, (Instr.next (.pointer (some ⟨w1.heap.size, 0, none⟩)) true ty).run Tryd.prog wr = _ := fun ty => Lib.run_next_end_at wr w1.heap.size t pos ty hit hp
      rw [smFrom_end t fuel pos hp, List.append_nil] at hacc
      have hln := smFrom_len t t.size 0
      rw [show smFrom t t.size 0 = smG t from rfl, ← hacc] at hln
      have HT := hT.below hbw
      obtain ⟨x, rfl⟩ : ∃ x : ByteArray, acc = x.data.toList := ⟨mkS acc, rfl⟩
      have HX := Go.Lib.hid hacc
      rw [mkS_self x]
      have F := Tryd.strings_Fields_any x wr (by rw [← dlen]; omega) HT.tab HT.white
      clear hit hacc hfu hal
      go_wp2_with fail
      refine F.mono ?_
      rintro e w2 ⟨A, rfl, hA, ho, hb2⟩
      have hB2 := btr hbw hb2
      have HM := Go.Lib.hid (rfl : (Lib.fieldsD x.data.toList).length = (Lib.fieldsD x.data.toList).length)
      obtain ⟨m, hm⟩ : ∃ m, m = (Lib.fieldsD x.data.toList).length := ⟨_, rfl⟩
      rw [← hm]
      have hno := fun h => ofL_fields x.data.toList (by rw [← hm]; exact h)
      clear ho hm HM F
      by_cases h1 : m = 1
      · subst h1
        clear hno
        go_wp2_with fail
        refine (table17 w2).mono ?_
        rintro e w3 ⟨rfl, hw3⟩
        have hB3 : Below w.heap.size w w3 := by rw [hw3]; exact bal hB2 _
        clear hw3
        generalize hV : tabV = V
        have HV := Go.Lib.hid hV
        clear hV
        go_wp2_with fail
        go_loopw [2, 3, 34] (fun _ _ v34 wr => ∃ i : Nat, i ≤ 7 ∧ v34 = .int .i64 i ∧ (∀ j (hj : j < labs.length), j < i → (labs[j]).contains x.data.toList = false) ∧ Below w.heap.size w wr) (fun _ _ v34 _ => 7 - (intOf v34).toNat)
        case atStart => exact ⟨0, by omega, rfl, fun j _ hj => by omega, hB3⟩
        case round =>
          obtain ⟨i, hi, rfl, hnol, hwi⟩ := hrel
          have HNO := Go.Lib.hid hnol
          clear hnol
          by_cases hlt : i < 7
          · have hi7 : i < labs.length := hlt
            obtain ⟨nm, rw_, hrs, hn1, hn12, hcb, hsp, hix⟩ := tab_at i hi7
            rw [HV.out] at hix
            have HA := Go.Lib.hid (fun h => ofL_at x.data.toList i hi7 h HNO.out)
            have HN2 := Go.Lib.hid (fun (h : (labs[i]).contains x.data.toList = false) (j : Nat) (hj : j < labs.length) (hji : j < i + 1) => show (labs[j]).contains x.data.toList = false from by
              rcases Nat.lt_or_ge j i with h1 | h1
              · exact HNO.out j hj h1
              · obtain rfl : j = i := by omega
                exact h)
            have hbw4 := bal hwi (.cells #[.string nm, .string rw_] 64)
            obtain ⟨mm, hmm⟩ := (hT.below hbw4).m
            have S := Tryd.strings_Split rw_ sp mm _ (by omega) hmm (by decide)
            rw [hsp, hcb] at S
            clear hsp hcb HNO
            generalize labs[i] = R at *
            go_wp2_with fail
            refine S.mono ?_
            rintro e w5 ⟨rfl, hw5⟩
            have hB5 : Below w.heap.size w w5 := by rw [hw5]; exact bal hbw4 _
            have hcells : ∀ k (hk : k < R.length), w5.cell? ⟨wr.heap.size + 1, k, none⟩ = some (.string (mkS R[k])) := fun k hk => by
              rw [hw5, blk_cells (at_new _ _ _ (by simp))]
              simp [hk]
            clear hw5 S hmm hix
            go_wp2_with fail
            go_loop [2, 3, 10, 42] (fun _ _ _ v42 => ∃ k : Nat, k ≤ R.length ∧ v42 = .int .i64 k ∧ ∀ j (hj : j < R.length), j < k → R[j] ≠ x.data.toList) (fun _ _ _ v42 => R.length - (intOf v42).toNat)
            case atStart => exact ⟨0, by omega, rfl, fun j _ hj => by omega⟩
            case round =>
              obtain ⟨k, hk, rfl, hnok⟩ := hrel
              have HK := Go.Lib.hid hnok
              clear hnok
              by_cases hlk : k < R.length
              · have hc := hcells k hlk
                clear hcells
                by_cases hxy : R[k] = x.data.toList
                · rw [hxy, mkS_self] at hc
                  have hres := HA.out (List.contains_iff_mem.2 (by rw [← hxy]; exact List.getElem_mem hlk))
                  have HR := Go.Lib.hid hres
                  clear hxy hres
                  go_wp2
                  go_ret2
                  rw [← HX.out, HR.out]
                  exact ⟨rfl, hB5⟩
                · obtain ⟨z, hz⟩ : ∃ z, z = mkS R[k] := ⟨_, rfl⟩
                  rw [← hz] at hc
                  have hq : (z.toList == x.toList) = false := by
                    rw [beq_eq_false_iff_ne, hz, tl_mkS, tl]; exact hxy
                  have HZ := Go.Lib.hid hxy
                  clear hxy hz
                  go_wp2
                  go_round
                  case rel => exact ⟨k + 1, by omega, by go_num, fun j hj hjk => by
                    rcases Nat.lt_or_ge j k with h1 | h1
                    · exact HK.out j hj h1
                    · obtain rfl : j = k := by omega
                      exact HZ.out⟩
                  case measure => simp [intOf]; omega
              · have hcon : R.contains x.data.toList = false := by
                  cases hcc : R.contains x.data.toList with
                  | false => rfl
                  | true =>
                    obtain ⟨j, hj, hje⟩ := List.getElem_of_mem (List.contains_iff_mem.1 hcc)
                    exact absurd hje (HK.out j hj (by omega))
                have HN3 := Go.Lib.hid (HN2.out hcon)
                clear hcon
                go_wp2
                go_roundw
                case rel => exact ⟨i + 1, by omega, by go_num, HN3.out, hB5⟩
                case measure => simp [intOf]; omega
          · have hno := ofL_no x.data.toList (fun j hj => HNO.out j hj (Nat.lt_of_lt_of_le hj (by have : labs.length = 7 := rfl; omega)))
            have HH := Go.Lib.hid hno
            clear hno
            go_wp2
            go_ret2
            rw [← HX.out, HH.out]
            exact ⟨rfl, hwi⟩
      · have hq : ((m : Int) != 1) = true := by rw [bne_iff_ne]; omega
        have HH := Go.Lib.hid (hno h1)
        clear hno h1
        go_wp2
        go_ret2
        rw [← HX.out, HH.out]
        exact ⟨rfl, hB2⟩
end Go.Proofs.YtcmhfcnjfhcpdaaDoor
