/- The charset that a content type tells: the reference. -/
import Derived.Test.YtcmhfcnjfhcpdaaDoorD1
namespace Go.Proofs.YtcmhfcnjfhcpdaaDoor
open Go.RowKit
theorem run_low (p : UInt8 → Bool) (hp : ∀ c, p (lowB c) = p c) (L : List UInt8) (i : Nat) : run p (low L) i = run p L i := by
  unfold run low
  rw [← List.map_drop]
  congr 1
  generalize L.drop i = X
  induction X with
  | nil => rfl
  | cons a t ih =>
    rw [List.map_cons, List.takeWhile_cons, List.takeWhile_cons, hp]
    split
    · rw [List.length_cons, List.length_cons, ih]
    · rfl
theorem all256 (p : UInt8 → Bool) (h : ∀ d : Fin 256, p (UInt8.ofNat d.val) = true) (c : UInt8) : p c = true := by
  have := h ⟨c.toNat, c.toNat_lt⟩
  simpa using this
theorem bl_low (c : UInt8) : isBl (lowB c) = isBl c := by
  have := all256 (fun c => isBl (lowB c) == isBl c) (by decide +kernel) c
  simpa using this
theorem sc_low (c : UInt8) : nSc (lowB c) = nSc c := by
  have := all256 (fun c => nSc (lowB c) == nSc c) (by decide +kernel) c
  simpa using this
theorem q34_low (c : UInt8) : (lowB c != 34) = (c != 34) := by
  have := all256 (fun c => (lowB c != 34) == (c != 34)) (by decide +kernel) c
  simpa using this
theorem q39_low (c : UInt8) : (lowB c != 39) = (c != 39) := by
  have := all256 (fun c => (lowB c != 39) == (c != 39)) (by decide +kernel) c
  simpa using this
theorem e61_low (c : UInt8) : (lowB c == 61) = (c == 61) := by
  have := all256 (fun c => (lowB c == 61) == (c == 61)) (by decide +kernel) c
  simpa using this
theorem e34_low (c : UInt8) : (lowB c == 34) = (c == 34) := by
  have := all256 (fun c => (lowB c == 34) == (c == 34)) (by decide +kernel) c
  simpa using this
theorem e39_low (c : UInt8) : (lowB c == 39) = (c == 39) := by
  have := all256 (fun c => (lowB c == 39) == (c == 39)) (by decide +kernel) c
  simpa using this
theorem low_getD (L : List UInt8) (i : Nat) (hi : i < L.length) : (low L).getD i 0 = lowB L[i] := by
  rw [List.getD_eq_getElem?_getD, low, List.getElem?_map, List.getElem?_eq_getElem hi]
  rfl
/-- Where the word stands from a place on. -/
def tgt (L : List UInt8) (i : Nat) : Option Nat := if Lib.index (L.drop i) csW < 0 then none else some (i + (Lib.index (L.drop i) csW).toNat)
theorem tgt_len (L : List UInt8) (i : Nat) (h : L.length ≤ i) : tgt L i = none := by
  unfold tgt
  rw [List.drop_of_length_le h, if_pos (by decide)]
theorem index_cons (b : UInt8) (l sub : List UInt8) : Lib.index (b :: l) sub = if sub.isPrefixOf (b :: l) = true then 0 else if (Lib.index l sub == -1) = true then -1 else Lib.index l sub + 1 := rfl
theorem tgt_stop (L : List UInt8) (i : Nat) (h : i < L.length) (hp : Lib.hasPrefix (L.drop i) csW = true) : tgt L i = some i := by
  unfold tgt
  rw [List.drop_eq_getElem_cons h] at hp ⊢
  have hp2 : csW.isPrefixOf (L[i] :: L.drop (i + 1)) = true := hp
  rw [index_cons, if_pos hp2, if_neg (by omega)]
  rfl
theorem tgt_step (L : List UInt8) (i : Nat) (h : i < L.length) (hp : Lib.hasPrefix (L.drop i) csW = false) : tgt L i = tgt L (i + 1) := by
  unfold tgt
  rw [List.drop_eq_getElem_cons h] at hp ⊢
  have hg := Lib.index_ge (L.drop (i + 1)) csW
  have hp2 : ¬ csW.isPrefixOf (L[i] :: L.drop (i + 1)) = true := fun h => by
    have h2 : csW.isPrefixOf (L[i] :: L.drop (i + 1)) = false := hp
    rw [h2] at h
    cases h
  rw [index_cons, if_neg hp2]
  by_cases h1 : Lib.index (L.drop (i + 1)) csW = -1
  · rw [if_pos (show (Lib.index (L.drop (i + 1)) csW == -1) = true from by rw [h1]; rfl), h1, if_pos (by decide), if_pos (by decide)]
  · rw [if_neg (show ¬ (Lib.index (L.drop (i + 1)) csW == -1) = true from fun h => h1 (by simpa using h)), if_neg (by omega), if_neg (by omega)]
    congr 1
    omega
theorem contL_tgt (L : List UInt8) (f i : Nat) : contL L (f + 1) i = match tgt L i with
    | none => none
    | some k => if run isBl L (k + 7) < L.length ∧ L.getD (run isBl L (k + 7)) 0 = 61 then some (run isBl L (k + 7)) else contL L f (run isBl L (k + 7)) := by
  rw [contL]
  unfold tgt
  by_cases h : Lib.index (L.drop i) csW < 0
  · rw [if_pos h, if_pos h]
  · rw [if_neg h, if_neg h]
    simp only [Nat.add_assoc]
theorem Bts.conv {w : World} {g : Nat} {L : List UInt8} (h : Bts w g L) (a n c : Nat) (hn : a + n ≤ L.length) : (convert 26 9 (.slice (some ⟨g, a, none⟩) n c)).run Tryd.prog w = .ok (.string (mkS ((L.drop a).take n))) w := by
  rw [← strOf_nums]
  refine run_convert_bytes_arg w 26 5 Tryd.underlying26 Tryd.underlying5 g a n c _ (by simp [nums]; omega) (fun j hj => ?_) 9 Tryd.underlying9
  rw [h (a + j) (by omega)]
  simp only [nums, List.getD_eq_getElem?_getD, List.getElem?_map, List.getElem?_take, List.getElem?_drop]
  rw [if_pos hj, List.getElem?_eq_getElem (by omega)]
  rfl
theorem bytesWorld_bts (w : World) (s : ByteArray) : Bts (Go.Lib.bytesWorld w 5 s) w.heap.size s.data.toList := fun j hj => by
  rw [Go.Lib.bytesWorld_cell w 5 s j (by rw [← dlen]; exact hj)]
  rw [List.getD_eq_getElem?_getD, List.getElem?_eq_getElem hj]
  rfl
theorem drn_below {w w' : World} (h : Drn w w') : Below w.heap.size w w' := by
  obtain ⟨n, rfl⟩ := h
  exact ⟨rfl, rfl, rfl, Nat.le_refl _, fun _ _ => rfl⟩
theorem Drn.trans {a b c : World} (h : Drn a b) (k : Drn b c) : Drn a c := by
  obtain ⟨m, rfl⟩ := k
  exact h.then m
theorem drn_bts {w w' : World} {g : Nat} {L : List UInt8} (h : Drn w w') (hb : Bts w g L) : Bts w' g L := by
  obtain ⟨n, rfl⟩ := h
  exact hb
set_option maxHeartbeats 4000000 in
set_option maxRecDepth 100000 in
theorem refcontent9 (t : ByteArray) (w : World) (hs : t.size ≤ 1048576) : Calls Tryd.prog 9 #[.string t] w fun e w' => e = contE (contT t.data.toList) ∧ Below w.heap.size w w' := by
  have hdl := dlen t
  have kb := Go.Lib.run_convert_string_bytes (P := Tryd.prog) w 9 26 5 t Tryd.underlying9 Tryd.underlying26 Tryd.underlying5
  have hb1 : Below w.heap.size w (Go.Lib.bytesWorld w 5 t) := conv_below w 5 t
  have hbt := bytesWorld_bts w t
  have hcl : t.size ≤ Go.grownCap w t.size 0 5 := grownCap_ge ..
  have hcont : contT t.data.toList = (contF (low t.data.toList)).map fun p => (t.data.toList.drop p.1).take (p.2 - p.1) := rfl
  generalize t.data.toList = L at *
  go_enter Tryd.func9, Tryd.ntmps9
  generalize Go.Lib.bytesWorld w 5 t = W1 at *
  generalize Go.grownCap w t.size 0 5 = cp at *
  go_wp2
  clear kb
  rw [← hdl] at hcl ⊢
  have HDL := Go.Lib.hid hdl
  have hm : L.length ≤ 1048576 := by omega
  clear hdl hs
  obtain ⟨g, hg⟩ : ∃ g, g = w.heap.size := ⟨_, rfl⟩
  rw [← hg] at hbt ⊢
  have HG := Go.Lib.hid hg
  clear hg
  go_loopw [5] (fun v5 wr => ∃ (i f : Nat), v5 = .int .i64 i ∧ i ≤ L.length ∧ L.length < i + f ∧ Go.RowKit.Hid (contL (low L) f i = contL (low L) (L.length + 1) 0) ∧ Drn W1 wr) (fun v5 _ => L.length + 1 - (intOf v5).toNat)
  case atStart => exact ⟨0, L.length + 1, rfl, by omega, by omega, rfl, 0, rfl⟩
  case round =>
    obtain ⟨i, f, rfl, hi, hf, hfx, hd⟩ := hrel
    obtain ⟨f, rfl⟩ : ∃ f', f = f' + 1 := ⟨f - 1, by omega⟩
    have hll := low_len L
    have HLL := Go.Lib.hid hll
    clear hll
    go_wp2_with fail
    go_loopw [5] (fun v5 wi => ∃ k : Nat, v5 = .int .i64 k ∧ i ≤ k ∧ k ≤ L.length ∧ Go.RowKit.Hid (tgt (low L) k = tgt (low L) i) ∧ Drn W1 wi) (fun v5 _ => L.length - (intOf v5).toNat)
    case atStart => exact ⟨i, rfl, Nat.le_refl _, hi, rfl, hd⟩
    case round =>
      clear hd
      obtain ⟨k, rfl, hik, hk, htx, hd⟩ := hrel
      by_cases hlt : k < L.length
      · have B := fun W => begins23 g cp L k ⟨#[99, 104, 97, 114, 115, 101, 116]⟩ W hk (by omega) (by decide)
        rw [show (⟨#[99, 104, 97, 114, 115, 101, 116]⟩ : ByteArray).data.toList = csW from rfl] at B
        cases hp : Lib.hasPrefix ((low L).drop k) csW with
        | false =>
          rw [hp] at B
          have HR := Go.Lib.hid ((tgt_step (low L) k (by rw [HLL.out]; exact hlt) hp).symm.trans htx.out)
          clear hp
          go_wp2_with fail
          refine (B _ (drn_bts hd hbt)).mono ?_
          rintro e w2 ⟨rfl, hd2⟩
          have hd3 := hd.trans hd2
          go_wp2
          go_roundw
          case rel => exact ⟨k + 1, by go_num, by omega, by omega, HR, hd3⟩
          case measure => simp [intOf]; omega
        | true =>
          rw [hp] at B
          have HT := tgt_stop (low L) k (by rw [HLL.out]; exact hlt) hp
          have hpl := hasPrefix_len hp
          rw [List.length_drop, HLL.out, show csW.length = 7 from rfl] at hpl
          have HX := hfx.out
          rw [contL_tgt, ← htx.out, HT] at HX
          dsimp only at HX
          rw [run_low isBl bl_low, HLL.out] at HX
          have HC := Go.Lib.hid HX
          clear HX HT hp
          go_wp2_with fail
          refine (B _ (drn_bts hd hbt)).mono ?_
          rintro e w2 ⟨rfl, hd2⟩
          have hd3 := hd.trans hd2
          have hbt3 := drn_bts hd3 hbt
          have hne : ((k : Int) == (L.length : Int)) = false := by rw [beq_eq_false_iff_ne]; omega
          clear B hd hd2
          have P := pass24 g cp L (k + 7) w2 (by omega) (by omega) hbt3
          obtain ⟨r1, r2⟩ := run_le isBl L (k + 7) (by omega)
          generalize run isBl L (k + 7) = j at HC P r1 r2
          rw [show (((k + 7 : Nat) : Int)) = (k : Int) + 7 by omega] at P
          go_wp2_with fail
          refine P.mono ?_
          rintro e w3 ⟨rfl, rfl⟩
          clear P
          by_cases hj : j < L.length
          · have hcj := hbt3 j hj
            have hjb : decide ((j : Int) < (L.length : Int)) = true := decide_eq_true (by omega)
            have hg1 := low_getD L j hj
            have hq1 := beq_toNat L[j] 61
            have he1 := e61_low L[j]
            rw [show ((61 : UInt8).toNat : Int) = 61 from rfl] at hq1
            generalize L[j] = x at *
            cases hx : (x == 61) with
            | false =>
              rw [hx] at hq1 he1
              have HR := Go.Lib.hid (show contL (low L) f j = contL (low L) (L.length + 1) 0 by
                rw [← HC.out, if_neg]
                intro h
                have h2 := h.2
                rw [hg1] at h2
                rw [h2] at he1
                cases he1)
              clear hg1 he1 hx
              go_wp2
              go_roundw
              case rel => exact ⟨j, f, rfl, by omega, by omega, HR, hd3⟩
              case measure => simp [intOf]; omega
            | true =>
              rw [hx] at hq1 he1
              have HCF := Go.Lib.hid (show contL (low L) (L.length + 1) 0 = some j by
                rw [← HC.out, if_pos]
                exact ⟨hj, by rw [hg1]; simpa using he1⟩)
              clear hg1 he1 hx HC
              go_wp2_with fail
              have P := pass24 g cp L (j + 1) w3 (by omega) (by omega) hbt3
              obtain ⟨s1, s2⟩ := run_le isBl L (j + 1) (by omega)
              have hcf : contF (low L) = if L.length ≤ run isBl L (j + 1) then none else
                  if (low L).getD (run isBl L (j + 1)) 0 = 34 ∨ (low L).getD (run isBl L (j + 1)) 0 = 39 then
                    if run (· != (low L).getD (run isBl L (j + 1)) 0) (low L) (run isBl L (j + 1) + 1) < L.length then some (run isBl L (j + 1) + 1, run (· != (low L).getD (run isBl L (j + 1)) 0) (low L) (run isBl L (j + 1) + 1)) else none
                  else some (run isBl L (j + 1), run nSc L (run isBl L (j + 1))) := by
                unfold contF
                rw [HLL.out, HCF.out]
                dsimp only
                rw [run_low isBl bl_low, run_low nSc sc_low]
              have HCO := Go.Lib.hid hcont
              have HCL := Go.Lib.hid hcf
              clear hcf
              generalize run isBl L (j + 1) = i5 at *
              rw [show (((j + 1 : Nat) : Int)) = (j : Int) + 1 by omega] at P
              refine P.mono ?_
              rintro e w4 ⟨rfl, rfl⟩
              clear P hcj hcont
              by_cases h5 : i5 < L.length
              · have hc5 := hbt3 i5 h5
                have hne5 : ((i5 : Int) == (L.length : Int)) = false := by rw [beq_eq_false_iff_ne]; omega
                have hg5 := low_getD L i5 h5
                have hq34 := beq_toNat L[i5] 34
                have hq39 := beq_toNat L[i5] 39
                rw [show ((34 : UInt8).toNat : Int) = 34 from rfl] at hq34
                rw [show ((39 : UInt8).toNat : Int) = 39 from rfl] at hq39
                have he34 := e34_low L[i5]
                have he39 := e39_low L[i5]
                generalize L[i5] = q at *
                have HG5 := Go.Lib.hid hg5
                clear hg5
                cases hx34 : (q == 34) <;> cases hx39 : (q == 39)
                · rw [hx34] at hq34 he34
                  rw [hx39] at hq39 he39
                  have HF := Go.Lib.hid (show contT L = some ((L.drop i5).take (run nSc L i5 - i5)) by
                    rw [HCO.out, HCL.out, if_neg (by omega), HG5.out, if_neg (fun h => h.elim (fun h => by rw [h] at he34; cases he34) (fun h => by rw [h] at he39; cases he39))]
                    rfl)
                  clear he34 he39 hx34 hx39
                  go_wp2
                  go_loopw [7] (fun v7 wx => ∃ m : Nat, v7 = .int .i64 m ∧ i5 ≤ m ∧ m ≤ L.length ∧ w4 = wx ∧ Go.RowKit.Hid (run nSc L m = run nSc L i5)) (fun v7 _ => L.length - (intOf v7).toNat)
                  case atStart => exact ⟨i5, rfl, Nat.le_refl _, by omega, rfl, rfl⟩
                  case round =>
                    obtain ⟨m, rfl, him, hml, rfl, hr⟩ := hrel
                    have y0 : (0 : Int) ≤ i5 := by omega
                    have y1 : (i5 : Int) ≤ m := by omega
                    have y2 : (m : Int) ≤ cp := by omega
                    have y3 : ¬ cp = i5 := by omega
                    have hcv : (convert 26 9 (.slice (some ⟨g, i5, none⟩) (m - i5) (cp - i5))).run Tryd.prog w4 = .ok (.string (mkS ((L.drop i5).take (m - i5)))) w4 := hbt3.conv i5 (m - i5) _ (by omega)
                    by_cases hm2 : m < L.length
                    · have hcm := hbt3 m hm2
                      have hmb : decide ((m : Int) < (L.length : Int)) = true := decide_eq_true (by omega)
                      have B := refblank26 L[m]
                      have hq59 := beq_toNat L[m] 59
                      rw [show ((59 : UInt8).toNat : Int) = 59 from rfl] at hq59
                      have hrs := run_stop nSc L m hm2
                      have hrt := run_step nSc L m hm2
                      rw [nSc, isSc] at hrs hrt
                      generalize L[m] = y at *
                      cases hb : isBl y <;> cases h59 : (y == 59)
                      · rw [hb] at B
                        rw [h59] at hq59
                        have hn59 : ((y.toNat : Int) != 59) = true := by rw [bne, hq59]; rfl
                        have HR := Go.Lib.hid ((hrt (by rw [hb, h59]; rfl)).symm.trans hr.out)
                        clear hb h59 hrs hrt
                        go_wp2_with (go_at_call 26; refine (B _).mono ?_; rintro e w5 ⟨rfl, rfl⟩)
                        go_roundw
                        case rel => exact ⟨m + 1, by go_num, by omega, by omega, by trivial, HR⟩
                        case measure => simp [intOf]; omega
                      all_goals
                        rw [hb] at B
                        rw [h59] at hq59
                        have hn59 : ((y.toNat : Int) != 59) = !(y == 59) := by rw [bne, hq59, h59]
                        rw [h59] at hn59
                        have HF2 := Go.Lib.hid (show contT L = some ((L.drop i5).take (m - i5)) by rw [HF.out, ← hr.out, hrs (by rw [hb, h59]; rfl)])
                        clear hb h59 hrs hrt
                        go_wp2_with (go_at_call 26; refine (B _).mono ?_; rintro e w5 ⟨rfl, rfl⟩)
                        go_ret2
                        exact ⟨by rw [HF2.out]; rfl, btr hb1 (drn_below hd3)⟩
                    · obtain rfl : m = L.length := by omega
                      have hmb : decide ((L.length : Int) < (L.length : Int)) = false := decide_eq_false (by omega)
                      have HF2 := Go.Lib.hid (show contT L = some ((L.drop i5).take (L.length - i5)) by rw [HF.out, ← hr.out, run_len nSc L L.length (Nat.le_refl _)])
                      go_wp2
                      go_ret2
                      exact ⟨by rw [HF2.out]; rfl, btr hb1 (drn_below hd3)⟩
                all_goals
                  rw [hx34] at hq34 he34
                  rw [hx39] at hq39 he39
                  have hyq : (low L).getD i5 0 = 34 ∨ (low L).getD i5 0 = 39 := by rw [HG5.out]; first | exact Or.inl (by simpa using he34) | exact Or.inr (by simpa using he39)
                  have hlq : lowB q = q := by first | (have : q = 34 := by simpa using hx34); subst this; decide | (have : q = 39 := by simpa using hx39); subst this; decide
                  have hqq : ∀ c, (lowB c != q) = (c != q) := by first | (have : q = 34 := by simpa using hx34); subst this; exact q34_low | (have : q = 39 := by simpa using hx39); subst this; exact q39_low
                  have HF := Go.Lib.hid (show contT L = (if run (· != q) L (i5 + 1) < L.length then some (i5 + 1, run (· != q) L (i5 + 1)) else none).map fun p => (L.drop p.1).take (p.2 - p.1) by
                    rw [HCO.out, HCL.out, if_neg (by omega), if_pos hyq, HG5.out, hlq, run_low (· != q) hqq])
                  have BH := behind25 g cp L (i5 + 1) q w4 (by omega) (by omega) hbt3
                  rw [show (((i5 + 1 : Nat) : Int)) = (i5 : Int) + 1 by omega] at BH
                  unfold behF at BH
                  obtain ⟨t1, t2⟩ := run_le (· != q) L (i5 + 1) (by omega)
                  clear hyq hlq hqq he34 he39 hx34 hx39
                  generalize run (· != q) L (i5 + 1) = r at *
                  go_wp2_with fail
                  refine BH.mono ?_
                  rintro e w5 ⟨rfl, rfl⟩
                  by_cases hr : r < L.length
                  · rw [if_pos hr]
                    have HF2 := Go.Lib.hid (show contT L = some ((L.drop (i5 + 1)).take (r - (i5 + 1))) by rw [HF.out, if_pos hr]; rfl)
                    have hcv : (convert 26 9 (.slice (some ⟨g, i5 + 1, none⟩) (r - (i5 + 1)) (cp - (i5 + 1)))).run Tryd.prog w5 = .ok (.string (mkS ((L.drop (i5 + 1)).take (r - (i5 + 1))))) w5 := hbt3.conv (i5 + 1) (r - (i5 + 1)) _ (by omega)
                    have y0 : (0 : Int) ≤ (i5 : Int) + 1 := by omega
                    have y1 : (i5 : Int) + 1 ≤ r := by omega
                    have y2 : (r : Int) ≤ cp := by omega
                    have y3 : ¬ cp = i5 + 1 := by omega
                    have y4 : ((i5 : Int) + 1).toNat = i5 + 1 := by omega
                    have y5 : (0 : Int) ≤ r := by omega
                    have y6 : decide (((r : Int) + 1) < 0) = false := decide_eq_false (by omega)
                    have y7 : (r : Int) + 1 - 1 = r := by omega
                    go_wp2
                    go_ret2
                    exact ⟨by rw [HF2.out]; rfl, btr hb1 (drn_below hd3)⟩
                  · rw [if_neg hr]
                    have HN := Go.Lib.hid (show contT L = none by rw [HF.out, if_neg hr]; rfl)
                    go_wp2
                    go_ret2
                    exact ⟨by rw [HN.out]; rfl, btr hb1 (drn_below hd3)⟩
              · obtain rfl : i5 = L.length := by omega
                have HN := Go.Lib.hid (show contT L = none by rw [HCO.out, HCL.out, if_pos (Nat.le_refl _)]; rfl)
                go_wp2
                go_ret2
                exact ⟨by rw [HN.out]; rfl, btr hb1 (drn_below hd3)⟩
          · obtain rfl : j = L.length := by omega
            have HR := Go.Lib.hid (show contL (low L) f L.length = contL (low L) (L.length + 1) 0 by
              rw [← HC.out, if_neg]
              intro h
              have := h.1
              omega)
            go_wp2
            go_roundw
            case rel => exact ⟨L.length, f, rfl, by omega, by omega, HR, hd3⟩
            case measure => simp [intOf]; omega
      · obtain rfl : k = L.length := by omega
        have HX := hfx.out
        rw [contL_tgt, ← htx.out, tgt_len (low L) L.length (by rw [HLL.out]; exact Nat.le_refl _)] at HX
        have HN := Go.Lib.hid (show contT L = none by rw [hcont]; unfold contF; rw [HLL.out, ← HX]; rfl)
        clear HX
        go_wp2
        go_ret2
        exact ⟨by rw [HN.out]; rfl, btr hb1 (drn_below hd)⟩
end Go.Proofs.YtcmhfcnjfhcpdaaDoor
