/- The walks of the reference's starts and Mode. -/
import Derived.Test.YtkkhaaapokkhlaaW6
namespace Go.Proofs.Ytkkhaaapokkhlaa
open Go.RowKit

theorem low_take (l : List UInt8) (n : Nat) : low (l.take n) = (low l).take n := by simp [low, List.map_take]
theorem starts_eq (p t : List UInt8) (h : low p = p) (hl : t.length ≤ p.length) : (low (p.take t.length) == low t) = (low t).isPrefixOf p := by
  rw [low_take, h, ← take_beq p (low t) (by rw [low_length]; exact hl), low_length]

set_option maxHeartbeats 400000 in
theorem starts17 (p t : ByteArray) (w : World) (hp : p.size ≤ maxLen) (ht : t.size ≤ maxLen) (hlow : low p.data.toList = p.data.toList) :
    Calls Try.prog 17 #[.string p, .string t] w fun e w' => e = .returned (.bool ((low t.data.toList).isPrefixOf p.data.toList)) ∧ Below w.heap.size w w' := by
  have HL := Go.Lib.hid hlow
  clear hlow
  by_cases hle : t.size ≤ p.size
  · have hcut : (p.extract 0 t.size).size ≤ maxLen := by rw [ByteArray.size_extract]; omega
    go_enter Try.func17, Try.ntmps17
    go_wp2_with (first
      | (go_at_call 15; (with_reducible refine (small15 (p.extract 0 t.size) _ hcut).mono ?_); rintro e w1 ⟨rfl, hb1⟩)
      | (go_at_call 15; (with_reducible refine (small15 t _ ht).mono ?_); rintro e w2 ⟨rfl, hb2⟩))
    go_ret
    refine ⟨ret_bool ?_, btr hb1 hb2⟩
    rw [tl_mkS, tl_mkS, ← starts_eq _ _ HL.out (by rw [dlen, dlen]; exact hle), dlen t]
  · go_enter Try.func17, Try.ntmps17
    go_wp2_with (fail)
    go_ret
    refine ⟨ret_bool ?_, Below.refl _ _⟩
    rw [not_prefix (by rw [low_length, dlen, dlen]; exact hle)]
abbrev lW3 : List UInt8 := [45, 47, 47, 119, 51, 111, 47, 47, 100, 116, 100, 32, 119, 51, 32, 104, 116, 109, 108, 32, 115, 116, 114, 105, 99, 116, 32, 51, 46, 48, 47, 47, 101, 110, 47, 47]
abbrev lTE : List UInt8 := [45, 47, 119, 51, 99, 47, 100, 116, 100, 32, 104, 116, 109, 108, 32, 52, 46, 48, 32, 116, 114, 97, 110, 115, 105, 116, 105, 111, 110, 97, 108, 47, 101, 110]
abbrev lHT : List UInt8 := [104, 116, 109, 108]
/-- The mode as the reference reckons it: p the public identifier in small letters. -/
def modeR (p sys : List UInt8) (has : Int) : Int :=
  if hasB has 4 && low sys == sIBM then 2
  else if !hasB has 2 then 0
  else if p == lW3 || p == lTE || p == lHT then 2
  else if oldL.any (fun t => (low t.data.toList).isPrefixOf p) then 2
  else if (low s4F.data.toList).isPrefixOf p || (low s4T.data.toList).isPrefixOf p then (if hasB has 4 then 1 else 2)
  else if (low sXF.data.toList).isPrefixOf p || (low sXT.data.toList).isPrefixOf p then 1 else 0
theorem isP_eq (p : List UInt8) (s : ByteArray) : isP true p s = (p == low s.data.toList) := by
  rw [Bool.eq_iff_iff, beq_iff_eq]
  simp only [isP, bgP, Bool.true_and, List.any_cons, List.any_nil, Bool.or_false, Bool.and_eq_true, decide_eq_true_eq, List.isPrefixOf_iff_prefix]
  constructor
  · rintro ⟨h, hl⟩
    exact (h.eq_of_length (by rw [low_length, dlen]; exact hl.symm)).symm
  · rintro rfl
    exact ⟨List.prefix_refl _, by rw [low_length, dlen]⟩
theorem modeR_eq (p sys : List UInt8) (has : Int) : modeR p sys has = modeQ p sys has := by
  unfold modeR modeQ
  cases h2 : hasB has 2 with
  | false => cases h4 : hasB has 4 <;> cases hs : low sys == sIBM <;> simp [isP, bgP]
  | true =>
    rw [isP_eq, isP_eq, isP_eq, show low sW3.data.toList = lW3 from by decide, show low sTE.data.toList = lTE from by decide, show low sHT.data.toList = lHT from by decide]
    simp only [bgP, Bool.true_and, Bool.not_true, List.any_cons, List.any_nil, Bool.or_false]
    cases h4 : hasB has 4 <;> cases hs : low sys == sIBM <;> cases ha : (p == lW3 || p == lTE || p == lHT) <;> cases hb : oldL.any (fun t => (low t.data.toList).isPrefixOf p) <;>
      cases hc : ((low s4F.data.toList).isPrefixOf p || (low s4T.data.toList).isPrefixOf p) <;> simp_all

theorem any_step {L : List ByteArray} {p : List UInt8} {k : Nat} (hk : k < L.length) (h : (L.take k).any (fun t => (low t.data.toList).isPrefixOf p) = false) (hn : (low L[k].data.toList).isPrefixOf p = false) : (L.take (k + 1)).any (fun t => (low t.data.toList).isPrefixOf p) = false := by
  simp only [List.take_succ_eq_append_getElem hk, List.any_append, List.any_cons, List.any_nil, Bool.or_false, hn, h]
theorem any_yes {L : List ByteArray} {p : List UInt8} {k : Nat} (hk : k < L.length) (hn : (low L[k].data.toList).isPrefixOf p = true) : L.any (fun t => (low t.data.toList).isPrefixOf p) = true := by
  simp only [List.any_eq_true]
  exact ⟨_, List.getElem_mem hk, hn⟩
theorem starts_lit (data : ByteArray) (t : ByteArray) (w : World) (hd : data.size ≤ maxLen) (ht : t.size ≤ maxLen) :
    Calls Try.prog 17 #[.string (mkS (low data.data.toList)), .string t] w fun e w' => e = .returned (.bool ((low t.data.toList).isPrefixOf (low data.data.toList))) ∧ Below w.heap.size w w' :=
  starts17 (mkS (low data.data.toList)) t w (by rw [mkS_size, low_length, dlen]; exact hd) ht (by rw [mkS_data, low_low])
theorem small15_html (nm : ByteArray) (w : World) (hn : nm.size ≤ maxLen) (h : (low nm.data.toList == [104, 116, 109, 108]) = true) :
    Calls Try.prog 15 #[.string nm] w fun e w' => e = .returned (.string ⟨#[104, 116, 109, 108]⟩) ∧ Below w.heap.size w w' := by
  have := small15 nm w hn
  rwa [beq_iff_eq.1 h] at this

set_option maxHeartbeats 2000000 in
theorem refmode7_yes (has ch : Int) (nm data sys : ByteArray) (sf : Bool) (at_ : Value) (w : World) (hn : nm.size ≤ maxLen) (hd : data.size ≤ maxLen) (hs : sys.size ≤ maxLen) (hh : (low nm.data.toList == [104, 116, 109, 108]) = true) :
    Calls Try.prog 7 #[.agg #[.int .i64 0, .string nm, .string data, .string sys, .int .i64 has, .bool false, .int .i32 ch, .bool sf, at_]] w fun e w' => e = .returned (.int .i64 (modeR (low data.data.toList) sys.data.toList has)) ∧ Below w.heap.size w w' := by
  have HH := Go.Lib.hid hh
  clear hh
  go_enter Try.func7, Try.ntmps7
  go_wp2_with (first
    | (go_at_call 15; (with_reducible refine ((small15_html nm _ hn HH.out).mono ?_)); rintro e w1 ⟨rfl, hb1⟩; obtain ⟨hD1, hT1, hS1, hB1⟩ := box_cells hb1)
    | (go_at_call 15; (with_reducible refine (small15 data _ hd).mono ?_); rintro e w2 ⟨rfl, hb2⟩; have hB2 := btr hB1 hb2)
    | (go_at_call 15; (with_reducible refine (small15 sys _ hs).mono ?_); rintro e w2 ⟨rfl, hb2⟩; have hT1 := bcl hb2 hT1; have hD1 := bcl hb2 hD1; have hS1 := bcl hb2 hS1; have hB1 := btr hB1 hb2)
    | (go_at_call 16; (with_reducible refine (old16 _).mono ?_); rintro e w3 ⟨rfl, rfl⟩; have hB3 := bal hB2 (.cells oldV 9)))
  all_goals first
    | (go_ret; exact ⟨ret_int (by simp_all [modeR, hasB, sIBM, tl_mkS]), by first | exact hB2 | exact hB1⟩)
    | skip
  all_goals
    have hA := Go.Lib.hid (show (hasB has 4 && low sys.data.toList == sIBM) = false by simp_all [hasB, sIBM, tl_mkS])
    have h2 := Go.Lib.hid (show hasB has 2 = true by simp_all [hasB])
    have hP := Go.Lib.hid (show (low data.data.toList == lW3 || low data.data.toList == lTE || low data.data.toList == lHT) = false by simp_all [tl_mkS])
    have h29 := Go.Lib.hid oldL_length
    clear hb1 hb2 hD1 hT1 hS1 HH
    go_loopw [6] (fun v6 wr => ∃ k : Nat, k ≤ 29 ∧ v6 = .int .i64 k ∧ Below (w2.alloc (.cells oldV 9)).heap.size (w2.alloc (.cells oldV 9)) wr ∧ Hid ((oldL.take k).any (fun t => (low t.data.toList).isPrefixOf (low data.data.toList)) = false)) (fun v6 _ => 29 - (intOf v6).toNat)
    case atStart => exact ⟨0, by omega, rfl, Below.refl _ _, Go.Lib.hid rfl⟩
    case round =>
      obtain ⟨k, hk, rfl, hBr, hno⟩ := hrel
      have hBw := btr hB3 hBr
      by_cases hlt : k < 29
      · have hko : k < oldL.length := by rw [h29.out]; exact hlt
        have hc : wr.cell? ⟨w2.heap.size, k, none⟩ = some (.string oldL[k]) := bcl hBr (by rw [World.cell?_alloc_new]; exact oldV_at k hko)
        have hs' := oldL_short _ (List.getElem_mem hko)
        go_wp2_with (go_at_call 17; (with_reducible refine (starts_lit data _ _ hd hs').mono ?_); rintro e w4 ⟨rfl, hb4⟩; cases hx : (low oldL[k].data.toList).isPrefixOf (low data.data.toList))
        · go_roundw
          case rel => exact ⟨k + 1, by omega, by go_num, btr hBr hb4, Go.Lib.hid (any_step hko hno.out hx)⟩
          case measure => simp [intOf]; omega
        · go_ret
          refine ⟨ret_int ?_, btr hBw hb4⟩
          rw [modeR, hA.out, h2.out, hP.out, any_yes hko hx]
          simp
      · obtain rfl : k = 29 := by omega
        have hno' := Go.Lib.hid (show oldL.any (fun t => (low t.data.toList).isPrefixOf (low data.data.toList)) = false by have := hno.out; rwa [List.take_of_length_le (by rw [h29.out]; omega)] at this)
        clear hno
        go_wp2_with (first
          | (go_at_call 17; (with_reducible refine (starts_lit data s4F _ hd s4F_short).mono ?_); rintro e w4 ⟨rfl, hb4⟩; have hBw := btr hBw hb4; cases h4F : (low s4F.data.toList).isPrefixOf (low data.data.toList))
          | (go_at_call 17; (with_reducible refine (starts_lit data s4T _ hd s4T_short).mono ?_); rintro e w4 ⟨rfl, hb4⟩; have hBw := btr hBw hb4; cases h4T : (low s4T.data.toList).isPrefixOf (low data.data.toList))
          | (go_at_call 17; (with_reducible refine (starts_lit data sXF _ hd sXF_short).mono ?_); rintro e w4 ⟨rfl, hb4⟩; have hBw := btr hBw hb4; cases hXF : (low sXF.data.toList).isPrefixOf (low data.data.toList))
          | (go_at_call 17; (with_reducible refine (starts_lit data sXT _ hd sXT_short).mono ?_); rintro e w4 ⟨rfl, hb4⟩; have hBw := btr hBw hb4; cases hXT : (low sXT.data.toList).isPrefixOf (low data.data.toList)))
        all_goals
          go_ret
          refine ⟨ret_int ?_, hBw⟩
          rw [modeR, hA.out, h2.out, hP.out, hno'.out]
          simp_all [hasB]
end Go.Proofs.Ytkkhaaapokkhlaa
