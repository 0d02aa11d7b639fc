/- The walk of the law that others stay. -/
import Derived.Test.YtpicgchcdbginaaC1
import Derived.OwnWalk
namespace Go.Proofs.Ytpicgchcdbginaa
open Go.RowKit
def zeroA : A4 := ⟨0, ⟨#[]⟩, ⟨#[]⟩, ⟨#[]⟩⟩
def farA (x : A4) : A4 := { x with sp := 3 }
def farTo (L : List A4) (k : Nat) : List A4 := (L.take k).map farA ++ List.replicate (L.length - k) zeroA
theorem farTo_length (L : List A4) (k : Nat) (h : k ≤ L.length) : (farTo L k).length = L.length := by simp [farTo]; omega
theorem farTo_full (L : List A4) : farTo L L.length = L.map farA := by simp [farTo]
theorem farTo_get (L : List A4) (k : Nat) (h : k < L.length) (h' : k < (farTo L k).length) : (farTo L k)[k] = zeroA := by
  simp only [farTo]
  rw [List.getElem_append_right (by simp; omega)]
  simp
theorem farTo_set (L : List A4) (k : Nat) (h : k < L.length) : (farTo L k).set k (farA L[k]) = farTo L (k + 1) := by
  simp only [farTo]
  rw [List.set_append_right _ _ (by simp; omega), List.take_succ_eq_append_getElem h, show L.length - k = (L.length - (k + 1)) + 1 from by omega, List.replicate_succ]
  simp only [List.map_append, List.map_cons, List.map_nil, List.append_assoc, List.cons_append, List.nil_append, List.length_map, List.length_take, Nat.min_eq_left (Nat.le_of_lt h), Nat.sub_self, List.set_cons_zero]
theorem made_zero (n : Nat) : (madeCells (Value.agg #[.int .i64 0, .string ⟨#[]⟩, .string ⟨#[]⟩, .string ⟨#[]⟩]).cells (n * 4)).toList = cellsA (List.replicate n zeroA) := by
  apply List.ext_getElem?
  intro j
  have hl := cellsA_length (List.replicate n zeroA)
  rw [List.length_replicate] at hl
  by_cases hj : j < n * 4
  · have e := cellsA_at (List.replicate n zeroA) (j / 4) (j % 4) (by rw [List.length_replicate]; omega) (by omega)
    rw [show j / 4 * 4 + j % 4 = j from by omega] at e
    rw [e, List.getElem_replicate]
    have hr : j % 4 = 0 ∨ j % 4 = 1 ∨ j % 4 = 2 ∨ j % 4 = 3 := by omega
    simp only [madeCells, Value.cells, Array.toList_map, List.getElem?_map, Array.toList_range, List.getElem?_range hj, Option.map_some]
    rcases hr with hr | hr | hr | hr <;> simp [hr, zeroA, A4.c]
  · rw [List.getElem?_eq_none (by simp [size_madeCells]; omega), List.getElem?_eq_none (by omega)]
theorem cellsA_put (L : List A4) (k : Nat) (hk : k < L.length) (x : A4) : (((((cellsA L).set (k * 4) (.int .i64 x.sp)).set (k * 4 + 1) (.string x.pre)).set (k * 4 + 2) (.string x.nm)).set (k * 4 + 3) (.string x.va)) = cellsA (L.set k x) := by
  apply List.ext_getElem?
  intro j
  have hl := cellsA_length L
  have hl' := cellsA_length (L.set k x)
  rw [List.length_set] at hl'
  simp only [List.getElem?_set, List.length_set, hl]
  by_cases hj : j < L.length * 4
  · have hj4 : j / 4 < L.length := by omega
    have e := cellsA_at L (j / 4) (j % 4) hj4 (by omega)
    have e' := cellsA_at (L.set k x) (j / 4) (j % 4) (by rw [List.length_set]; exact hj4) (by omega)
    rw [show j / 4 * 4 + j % 4 = j from by omega] at e e'
    rw [e', e, List.getElem_set]
    by_cases hk' : k = j / 4
    · subst hk'
      rw [if_pos rfl]
      have hr : j % 4 = 0 ∨ j % 4 = 1 ∨ j % 4 = 2 ∨ j % 4 = 3 := by omega
      rcases hr with hr | hr | hr | hr <;> rw [hr] <;> simp only [show (j / 4 * 4 + 3 = j) = (j % 4 = 3) from propext (by omega), show (j / 4 * 4 + 2 = j) = (j % 4 = 2) from propext (by omega), show (j / 4 * 4 + 1 = j) = (j % 4 = 1) from propext (by omega), show (j / 4 * 4 = j) = (j % 4 = 0) from propext (by omega), hr] <;> simp <;> omega
    · rw [if_neg hk', if_neg (by omega), if_neg (by omega), if_neg (by omega), if_neg (by omega)]
  · rw [if_neg (by omega), if_neg (by omega), if_neg (by omega), if_neg (by omega), List.getElem?_eq_none (by omega), List.getElem?_eq_none (by omega)]
theorem info30' : ∃ i, Try.prog.info? 30 = some i ∧ i.zero = some (.agg #[.int .i64 0, .string ⟨#[]⟩, .string ⟨#[]⟩, .string ⟨#[]⟩]) ∧ i.size = 4 ∧ i.bytes = 56 := by
  obtain ⟨i, h, h'⟩ := Option.map_eq_some_iff.1 info30
  simp only [Prod.mk.injEq] at h'
  exact ⟨i, h, h'⟩
theorem far_length (L : List A4) : L.length = (L.map farA).length := by simp
theorem far_each (f : A4 → A4) (L : List A4) : eachF f (L.map farA) = L.map farA := by
  simp [eachF, farA]
theorem far_names {L : List A4} (h : ∀ x ∈ L, x.nm.size ≤ maxLen) : ∀ x ∈ L.map farA, x.nm.size ≤ maxLen := by
  intro y hy
  obtain ⟨x, hx, rfl⟩ := List.mem_map.1 hy
  exact h x hx
theorem pick_elem (s : ByteArray) : s = pickL elemL s ∨ ((pickL elemL s).toList == s.toList) = false ∧ ((pickL elemL s).size : Int) = (s.size : Int) ∧
    ∀ w, Calls Try.prog 19 #[.string (pickL elemL s)] w fun e w' => e = .returned (.string s) ∧ Below w.heap.size w w' := by
  by_cases h0 : s = pickL elemL s
  · exact .inl h0
  · right
    rcases pick_cases elemL s with h | ⟨hm, hl⟩
    · exact absurd h.symm h0
    · obtain ⟨k, hk, he⟩ := List.getElem_of_mem hm
      have hok := tabOK_at elem_ok k hk
      rw [he] at hok
      refine ⟨?_, ?_, fun w => ?_⟩
      · rw [beq_eq_false_iff_ne]
        intro h
        rw [tl, tl] at h
        exact h0 (Go.WideShapes.bytes_inj h.symm)
      · have := congrArg List.length hl
        rw [low_length, dlen, dlen] at this
        omega
      · have := small19t hok w
        rw [hl, mkS_self] at this
        exact this
set_option maxHeartbeats 2000000 in
theorem plain8 (s : ByteArray) (oa : Option Addr) (cap : Nat) (L : List A4) (w : World) (hL : RdA w oa L) (hm : L.length * 56 ≤ 140737488351232) (hS : ∀ x ∈ L, x.nm.size ≤ maxLen) :
    Calls Try.prog 8 #[.string s, .slice oa L.length cap] w fun e w' => e = .returned (.bool true) ∧ Below w.heap.size w w' := by
  obtain ⟨i, hi, hi0, hi1, hi2⟩ := info30'
  go_enter Try.func8, Try.ntmps8
  go_wp2_with ((with_reducible refine at_op ⟨some 10, .makeSlice 25 (.tmp 9) (.tmp 9), _, _, _, _⟩ ?_); refine wpList_make_full w rfl (.tmp 9) (.tmp 9) 25 rfl w.heap.size 30 i _ 4 Try.underlying25 hi hi0 hi1 .i64 .i64 _ _ L.length rfl rfl rfl rfl (by rw [hi2]; omega) (by simp only [maxLen]; omega) (Nat.le_refl _) ?_; intro w1 hown1 hg1; clear hi hi0 hi1 hi2)
  have hB1 : Below w.heap.size w w1 := (Below.refl w.heap.size w).grown hg1 (Nat.le_refl _) (fun k h => by cases h)
  rw [made_zero] at hown1
  clear hg1
  go_loopw [6] (fun v6 wr => ∃ k : Nat, k ≤ L.length ∧ v6 = .int .i64 k ∧ Below w.heap.size w wr ∧ wr.ownsRow w.heap.size 30 4 (.slice (some ⟨w.heap.size, 0, none⟩) L.length L.length) L.length (cellsA (farTo L k))) (fun v6 _ => L.length - (intOf v6).toNat)
  case atStart => exact ⟨0, Nat.zero_le _, rfl, hB1, hown1⟩
  case round =>
    clear hB1 hown1
    obtain ⟨k, hk, rfl, hB, hown⟩ := hrel
    by_cases hlt : k < L.length
    · obtain ⟨b, off, rfl, hc⟩ := hL (by intro h; subst h; simp at hlt)
      obtain ⟨c0, c1, c2, c3⟩ := hc k hlt
      have d0 := bcl hB c0
      have d1 := bcl hB c1
      have d2 := bcl hB c2
      have d3 := bcl hB c3
      have hke : k < (farTo L k).length := by rw [farTo_length L k hk]; exact hlt
      obtain ⟨⟨e0, e1, e2, e3⟩, hfz⟩ := ownA_at hown k hke
      have HP := Go.Lib.hid (cellsA_put (farTo L k) k hke (farA L[k]))
      rw [farTo_set L k hlt] at HP
      rw [farTo_get L k hlt hke] at e0 e1 e2 e3
      simp only [zeroA] at e0 e1 e2 e3
      clear hc c0 c1 c2 c3 hL hke
      simp only [farA] at HP
      generalize L[k] = x at *
      go_wp2
      go_roundw
      case rel =>
        refine ⟨k + 1, by omega, by go_num, ?_, ?_⟩
        · exact ((((hB.setCell (Nat.le_refl _) _).setCell (Nat.le_refl _) _).setCell (Nat.le_refl _) _).setCell (Nat.le_refl _) _).setCell (Nat.le_refl _) _
        · have := (((((hown.stored (k * 4) (.int .i64 x.sp)).1.stored (k * 4 + 1) (.string x.pre)).1.stored (k * 4 + 2) (.string x.nm)).1.stored (k * 4 + 3) (.string x.va)).1.stored (k * 4) (.int .i64 3)).1
          rw [List.set_comm _ _ (show k * 4 + 3 ≠ k * 4 by omega), List.set_comm _ _ (show k * 4 + 2 ≠ k * 4 by omega), List.set_comm _ _ (show k * 4 + 1 ≠ k * 4 by omega), List.set_set, HP.out] at this
          exact this
      case measure => simp [intOf]; omega
    · obtain rfl : k = L.length := by omega
      rw [farTo_full] at hown
      have HM := Go.Lib.hid (far_length L)
      have T5 := Go.Lib.hid (far_each svgF L)
      have T6 := Go.Lib.hid (far_each mathF L)
      have T7 := Go.Lib.hid (far_each foreignF L)
      have HS := far_names hS
      generalize L.map farA = M at *
      obtain ⟨o5, c5, hv, -, h5⟩ := RdA.own hown
      simp only [Value.slice.injEq, true_and] at hv
      obtain ⟨rfl, rfl⟩ := hv
      clear hown
      have C1 := fun w => element9 s w
      have hE := pick_elem s
      generalize pickL elemL s = E at C1 hE
      rcases hE with rfl | ⟨hne, hsz, C2⟩
      · go_wp2_with (first
          | (go_at_call 9; (with_reducible refine (C1 _).mono ?_); rintro e w1 ⟨rfl, hb⟩; replace hB := btr hB hb; replace h5 := h5.below hb)
          | (go_at_call 15; (with_reducible refine (svg15y _ _ _ M M _ HM.out h5 hm T5.out).mono ?_); rintro e w1 ⟨o8, c8, rfl, h8, hb⟩; replace hB := btr hB hb; replace h5 := h5.below hb)
          | (go_at_call 12; (with_reducible refine (same12y o8 _ c8 _ _ _ M HM.out HM.out _ h8 h5 (by rw [← HM.out]; exact hm)).mono ?_); rintro e w1 ⟨rfl, hb⟩; replace hB := btr hB hb; replace h5 := h5.below hb)
          | (go_at_call 17; (with_reducible refine (foreign17y _ _ _ M M _ HM.out h5 hm HS T7.out).mono ?_); rintro e w1 ⟨o9, c9, rfl, h9, hb⟩; replace hB := btr hB hb; replace h5 := h5.below hb)
          | (go_at_call 12; (with_reducible refine (same12y o9 _ c9 _ _ _ M HM.out HM.out _ h9 h5 (by rw [← HM.out]; exact hm)).mono ?_); rintro e w1 ⟨rfl, hb⟩; replace hB := btr hB hb; replace h5 := h5.below hb)
          | (go_at_call 13; (with_reducible refine (mathml13y _ _ _ M M _ HM.out h5 hm T6.out).mono ?_); rintro e w1 ⟨oA, cA, rfl, hA, hb⟩; replace hB := btr hB hb; replace h5 := h5.below hb)
          | (go_at_call 12; (with_reducible refine (same12y oA _ cA _ _ _ M HM.out HM.out _ hA h5 (by rw [← HM.out]; exact hm)).mono ?_); rintro e w1 ⟨rfl, hb⟩; replace hB := btr hB hb; replace h5 := h5.below hb)
          | (go_at_call 11; (with_reducible refine (awake11 _).mono ?_); rintro e w6 ⟨rfl, hb6⟩))
        go_ret
        exact ⟨rfl, btr hB hb6⟩
      · go_wp2_with (first
          | (go_at_call 9; (with_reducible refine (C1 _).mono ?_); rintro e w1 ⟨rfl, hb⟩; replace hB := btr hB hb; replace h5 := h5.below hb)
          | (go_at_call 15; (with_reducible refine (svg15y _ _ _ M M _ HM.out h5 hm T5.out).mono ?_); rintro e w1 ⟨o8, c8, rfl, h8, hb⟩; replace hB := btr hB hb; replace h5 := h5.below hb)
          | (go_at_call 12; (with_reducible refine (same12y o8 _ c8 _ _ _ M HM.out HM.out _ h8 h5 (by rw [← HM.out]; exact hm)).mono ?_); rintro e w1 ⟨rfl, hb⟩; replace hB := btr hB hb; replace h5 := h5.below hb)
          | (go_at_call 17; (with_reducible refine (foreign17y _ _ _ M M _ HM.out h5 hm HS T7.out).mono ?_); rintro e w1 ⟨o9, c9, rfl, h9, hb⟩; replace hB := btr hB hb; replace h5 := h5.below hb)
          | (go_at_call 12; (with_reducible refine (same12y o9 _ c9 _ _ _ M HM.out HM.out _ h9 h5 (by rw [← HM.out]; exact hm)).mono ?_); rintro e w1 ⟨rfl, hb⟩; replace hB := btr hB hb; replace h5 := h5.below hb)
          | (go_at_call 13; (with_reducible refine (mathml13y _ _ _ M M _ HM.out h5 hm T6.out).mono ?_); rintro e w1 ⟨oA, cA, rfl, hA, hb⟩; replace hB := btr hB hb; replace h5 := h5.below hb)
          | (go_at_call 12; (with_reducible refine (same12y oA _ cA _ _ _ M HM.out HM.out _ hA h5 (by rw [← HM.out]; exact hm)).mono ?_); rintro e w1 ⟨rfl, hb⟩; replace hB := btr hB hb; replace h5 := h5.below hb)
          | (go_at_call 19; (with_reducible refine (C2 _).mono ?_); rintro e w1 ⟨rfl, hb⟩; replace hB := btr hB hb)
          | (go_at_call 11; (with_reducible refine (awake11 _).mono ?_); rintro e w6 ⟨rfl, hb6⟩))
        go_ret
        exact ⟨rfl, btr hB hb6⟩
end Go.Proofs.Ytpicgchcdbginaa
