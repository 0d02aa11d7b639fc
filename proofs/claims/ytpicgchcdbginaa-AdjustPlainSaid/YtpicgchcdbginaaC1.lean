/- What adjusting twice gives: plain laws; and the walk of the law of doing it twice. -/
import Derived.Test.YtpicgchcdbginaaB5
namespace Go.Proofs.Ytpicgchcdbginaa
open Go.RowKit

theorem pick_cases (L : List ByteArray) (s : ByteArray) : pickL L s = s ∨ (pickL L s ∈ L ∧ low (pickL L s).data.toList = s.data.toList) := by
  unfold pickL
  cases h : L.find? (fun t => low t.data.toList == s.data.toList) with
  | none => exact .inl rfl
  | some t => exact .inr ⟨List.mem_of_find?_eq_some h, by simpa using List.find?_some h⟩
theorem elem_fix : (elemL.all fun t => decide (pickL elemL t = t)) = true := by decide +kernel
theorem attr_fix : (attrL.all fun t => decide (pickL attrL t = t)) = true := by decide +kernel
theorem pick_twice {L : List ByteArray} (hf : (L.all fun t => decide (pickL L t = t)) = true) (s : ByteArray) : pickL L (pickL L s) = pickL L s := by
  rcases pick_cases L s with h | ⟨h, _⟩
  · rw [h, h]
  · exact of_decide_eq_true (List.all_eq_true.1 hf _ h)
theorem eachF_twice {f : A4 → A4} (h : ∀ x, x.sp = 0 → (if (f x).sp = 0 then f (f x) else f x) = f x) (L : List A4) : eachF f (eachF f L) = eachF f L := by
  simp only [eachF, List.map_map]
  apply List.map_congr_left
  intro x _
  simp only [Function.comp]
  by_cases hx : x.sp = 0
  · rw [if_pos hx, h x hx]
  · rw [if_neg hx, if_neg hx]
theorem eachF_va {f : A4 → A4} (h : ∀ x, (f x).va = x.va) (L : List A4) (k : Nat) (hk : k < L.length) (hk' : k < (eachF f L).length) : (eachF f L)[k].va = L[k].va := by
  simp only [eachF, List.getElem_map]
  split
  · exact h _
  · rfl
theorem svg_twice (L : List A4) : eachF svgF (eachF svgF L) = eachF svgF L :=
  eachF_twice (fun x hx => by simp [svgF, hx, pick_twice attr_fix]) L
theorem math_twice (L : List A4) : eachF mathF (eachF mathF L) = eachF mathF L :=
  eachF_twice (fun x hx => by
    have hU : (sdU.toList == sdu) = false := by decide +kernel
    cases h : x.nm.toList == sdu <;> simp [mathF, h, hx, hU]) L
theorem foreignF_cases (x : A4) : foreignF x = x ∨ (foreignF x).sp ≠ 0 ∧ (foreignF x).nm.size ≤ 100 := by
  unfold foreignF
  cases h : forT.find? (fun t => x.nm.toList == t.1) with
  | none => exact .inl rfl
  | some t =>
    right
    have hm := List.mem_of_find?_eq_some h
    have ha : (forT.all fun t => t.2.1 != 0 && decide (t.2.2.2.size ≤ 100)) = true := by decide +kernel
    have := List.all_eq_true.1 ha t hm
    simpa using this
theorem foreign_twice (L : List A4) : eachF foreignF (eachF foreignF L) = eachF foreignF L :=
  eachF_twice (fun x hx => by
    rcases foreignF_cases x with h | ⟨h, _⟩
    · simp [h]
    · rw [if_neg h]) L
theorem svg_va (x : A4) : (svgF x).va = x.va := rfl
theorem math_va (x : A4) : (mathF x).va = x.va := by unfold mathF; split <;> rfl
theorem foreign_va (x : A4) : (foreignF x).va = x.va := by unfold foreignF; split <;> rfl
theorem foreign_names {L : List A4} (h : ∀ x ∈ L, x.nm.size ≤ maxLen) : ∀ x ∈ eachF foreignF L, x.nm.size ≤ maxLen := by
  intro y hy
  obtain ⟨x, hx, rfl⟩ := List.mem_map.1 hy
  split
  · rcases foreignF_cases x with h1 | ⟨_, h1⟩
    · rw [h1]; exact h x hx
    · unfold maxLen; omega
  · exact h x hx
section
variable (oa : Option Addr) (cap n : Nat) (L N : List A4) (w : World) (hn : n = L.length) (hL : RdA w oa L) (hm : n * 56 ≤ 140737488351232)
include hn hL hm
theorem svg15y (hN : eachF svgF L = N) : Calls Try.prog 15 #[.slice oa n cap] w fun e w' => ∃ oa' cap', e = .returned (.slice oa' n cap') ∧ RdA w' oa' N ∧ Below w.heap.size w w' := by
  subst hn hN
  exact svg15 oa cap L w hL hm
theorem mathml13y (hN : eachF mathF L = N) : Calls Try.prog 13 #[.slice oa n cap] w fun e w' => ∃ oa' cap', e = .returned (.slice oa' n cap') ∧ RdA w' oa' N ∧ Below w.heap.size w w' := by
  subst hn hN
  exact mathml13 oa cap L w hL hm
theorem foreign17y (hS : ∀ x ∈ L, x.nm.size ≤ maxLen) (hN : eachF foreignF L = N) : Calls Try.prog 17 #[.slice oa n cap] w fun e w' => ∃ oa' cap', e = .returned (.slice oa' n cap') ∧ RdA w' oa' N ∧ Below w.heap.size w w' := by
  subst hn hN
  exact foreign17 oa cap L w hL hm hS
end
set_option maxHeartbeats 2000000 in
theorem once7 (s : ByteArray) (oa : Option Addr) (cap : Nat) (L : List A4) (w : World) (hL : RdA w oa L) (hm : L.length * 56 ≤ 140737488351232) (hS : ∀ x ∈ L, x.nm.size ≤ maxLen) :
    Calls Try.prog 7 #[.string s, .slice oa L.length cap] w fun e w' => e = .returned (.bool true) ∧ Below w.heap.size w w' := by
  have C1 := fun w => element9 s w
  have C2 := fun w => element9 (pickL elemL s) w
  rw [pick_twice elem_fix s] at C2
  generalize pickL elemL s = E at C1 C2
  have HS' := foreign_names hS
  have H5 := Go.Lib.hid (eachF_length svgF L).symm
  have H6 := Go.Lib.hid (eachF_length mathF L).symm
  have H7 := Go.Lib.hid (eachF_length foreignF L).symm
  have T5 := Go.Lib.hid (svg_twice L)
  have T6 := Go.Lib.hid (math_twice L)
  have T7 := Go.Lib.hid (foreign_twice L)
  have R5 := Go.Lib.hid (rfl : eachF svgF L = eachF svgF L)
  have V5 := Go.Lib.hid (eachF_va svg_va L)
  have V6 := Go.Lib.hid (eachF_va math_va L)
  have V7 := Go.Lib.hid (eachF_va foreign_va L)
  generalize hX : eachF svgF L = X at *
  generalize hY : eachF mathF L = Y at *
  generalize hZ : eachF foreignF L = Z at *
  have HX := Go.Lib.hid hX
  have HY := Go.Lib.hid hY
  have HZ := Go.Lib.hid hZ
  clear hX hY hZ
  have hB := Below.refl w.heap.size w
  go_enter Try.func7, Try.ntmps7
  go_wp2_with (first
    | (go_at_call 9; (with_reducible refine (C1 _).mono ?_); rintro e w1 ⟨rfl, hb⟩; replace hB := btr hB hb; replace hL := hL.below hb)
    | (go_at_call 9; (with_reducible refine (C2 _).mono ?_); rintro e w1 ⟨rfl, hb⟩; replace hB := btr hB hb; replace hL := hL.below hb)
    | (go_at_call 15; (with_reducible refine (svg15y oa cap _ L X _ rfl hL hm HX.out).mono ?_); rintro e w1 ⟨o5, c5, rfl, h5, hb⟩; replace hB := btr hB hb; replace hL := hL.below hb)
    | (go_at_call 13; (with_reducible refine (mathml13y oa cap _ L Y _ rfl hL hm HY.out).mono ?_); rintro e w1 ⟨o6, c6, rfl, h6, hb⟩; replace hB := btr hB hb; replace hL := hL.below hb; replace h5 := h5.below hb)
    | (go_at_call 17; (with_reducible refine (foreign17y oa cap _ L Z _ rfl hL hm hS HZ.out).mono ?_); rintro e w1 ⟨o7, c7, rfl, h7, hb⟩; replace hB := btr hB hb; replace hL := hL.below hb; replace h5 := h5.below hb; replace h6 := h6.below hb)
    | (go_at_call 15; (with_reducible refine (svg15y o5 c5 _ X X _ H5.out h5 hm T5.out).mono ?_); rintro e w1 ⟨o8, c8, rfl, h8, hb⟩; replace hB := btr hB hb; replace hL := hL.below hb; replace h5 := h5.below hb; replace h6 := h6.below hb; replace h7 := h7.below hb)
    | (go_at_call 12; (with_reducible refine (same12y o8 o5 c8 c5 _ _ X H5.out H5.out _ h8 h5 (by rw [← H5.out]; exact hm)).mono ?_); rintro e w1 ⟨rfl, hb⟩; replace hB := btr hB hb; replace hL := hL.below hb; replace h5 := h5.below hb; replace h6 := h6.below hb; replace h7 := h7.below hb)
    | (go_at_call 13; (with_reducible refine (mathml13y o6 c6 _ Y Y _ H6.out h6 hm T6.out).mono ?_); rintro e w1 ⟨o9, c9, rfl, h9, hb⟩; replace hB := btr hB hb; replace hL := hL.below hb; replace h5 := h5.below hb; replace h6 := h6.below hb; replace h7 := h7.below hb)
    | (go_at_call 12; (with_reducible refine (same12y o9 o6 c9 c6 _ _ Y H6.out H6.out _ h9 h6 (by rw [← H6.out]; exact hm)).mono ?_); rintro e w1 ⟨rfl, hb⟩; replace hB := btr hB hb; replace hL := hL.below hb; replace h5 := h5.below hb; replace h6 := h6.below hb; replace h7 := h7.below hb)
    | (go_at_call 17; (with_reducible refine (foreign17y o7 c7 _ Z Z _ H7.out h7 hm HS' T7.out).mono ?_); rintro e w1 ⟨oA, cA, rfl, hA, hb⟩; replace hB := btr hB hb; replace hL := hL.below hb; replace h5 := h5.below hb; replace h6 := h6.below hb; replace h7 := h7.below hb)
    | (go_at_call 12; (with_reducible refine (same12y oA o7 cA c7 _ _ Z H7.out H7.out _ hA h7 (by rw [← H7.out]; exact hm)).mono ?_); rintro e wL ⟨rfl, hb⟩; replace hB := btr hB hb; replace hL := hL.below hb; replace h5 := h5.below hb; replace h6 := h6.below hb; replace h7 := h7.below hb))
  go_loopw [8] (fun v8 wr => ∃ k : Nat, k ≤ L.length ∧ v8 = .int .i64 k ∧ Below w.heap.size w wr ∧ RdA wr oa L ∧ RdA wr o5 X ∧ RdA wr o6 Y ∧ RdA wr o7 Z) (fun v8 _ => L.length - (intOf v8).toNat)
  case atStart => exact ⟨0, Nat.zero_le _, rfl, hB, hL, h5, h6, h7⟩
  case round =>
    clear hB hL h5 h6 h7
    obtain ⟨k, hk, rfl, hB, hL, h5, h6, h7⟩ := hrel
    by_cases hlt : k < L.length
    · have l5 : k < X.length := by rw [← H5.out]; exact hlt
      have l6 : k < Y.length := by rw [← H6.out]; exact hlt
      have l7 : k < Z.length := by rw [← H7.out]; exact hlt
      obtain ⟨b, off, rfl, hc⟩ := (show RdA wr oa L from hL) (by intro h; subst h; simp at hlt)
      obtain ⟨b5, off5, rfl, hc5⟩ := (show RdA wr o5 X from h5) (by intro h; subst h; simp at l5)
      obtain ⟨b6, off6, rfl, hc6⟩ := (show RdA wr o6 Y from h6) (by intro h; subst h; simp at l6)
      obtain ⟨b7, off7, rfl, hc7⟩ := (show RdA wr o7 Z from h7) (by intro h; subst h; simp at l7)
      have d := (hc k hlt).2.2.2
      have d5 := (hc5 k l5).2.2.2
      have d6 := (hc6 k l6).2.2.2
      have d7 := (hc7 k l7).2.2.2
      rw [V5.out k hlt l5] at d5
      rw [V6.out k hlt l6] at d6
      rw [V7.out k hlt l7] at d7
      clear hc hc5 hc6 hc7 l5 l6 l7
      generalize L[k].va = va at *
      go_wp2
      go_quiet (fail)
      go_wp2
      go_roundw
      case rel => exact ⟨k + 1, by omega, by go_num, bdr hB _, hL, h5, h6, h7⟩
      case measure => simp [intOf]; omega
    · obtain rfl : k = L.length := by omega
      go_wp2_with (go_at_call 11; (with_reducible refine (awake11 _).mono ?_); rintro e w6 ⟨rfl, hb6⟩)
      go_ret
      exact ⟨rfl, btr hB hb6⟩
end Go.Proofs.Ytpicgchcdbginaa
