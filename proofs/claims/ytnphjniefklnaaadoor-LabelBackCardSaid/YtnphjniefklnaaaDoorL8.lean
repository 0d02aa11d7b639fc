/- The walk of the law that a name is a label, with blanks around it and letters of any size. -/
import Derived.Test.YtnphjniefklnaaaDoorL6
import Derived.Test.YtnphjniefklnaaaDoorKitY
namespace Go.Proofs.YtnphjniefklnaaaDoor
open Go.RowKit
theorem isBl_low (c : UInt8) : isBl (lowB c) = isBl c := by
  have := lowB_cases (fun c => isBl (lowB c) == isBl c) (by decide +kernel) c
  simpa using this
theorem low_drop (l : List UInt8) : (low l).dropWhile isBl = low (l.dropWhile isBl) := by
  induction l with
  | nil => rfl
  | cons c t ih =>
    cases h : isBl c
    · rw [List.dropWhile_cons_of_neg (by simp [h]), low, List.map_cons, List.dropWhile_cons_of_neg (by simp [isBl_low, h])]
    · rw [List.dropWhile_cons_of_pos h, low, List.map_cons, List.dropWhile_cons_of_pos (by rw [isBl_low]; exact h)]
      exact ih
theorem low_rev (l : List UInt8) : (low l).reverse = low l.reverse := by simp [low]
theorem low_trim (l : List UInt8) : low (trimBl l) = trimBl (low l) := by
  unfold trimBl
  rw [low_drop, low_rev, low_drop, low_rev]
theorem name_label (k : Nat) (h : k < 7) : ofL (trimBl (low (names.getD k []))) = ((k : Int), 0) := by
  rcases (show k = 0 ∨ k = 1 ∨ k = 2 ∨ k = 3 ∨ k = 4 ∨ k = 5 ∨ k = 6 by omega) with rfl | rfl | rfl | rfl | rfl | rfl | rfl <;> decide +kernel
theorem name_len (k : Nat) (h : k < 7) : (names.getD k []).length ≤ 14 := by
  rcases (show k = 0 ∨ k = 1 ∨ k = 2 ∨ k = 3 ∨ k = 4 ∨ k = 5 ∨ k = 6 by omega) with rfl | rfl | rfl | rfl | rfl | rfl | rfl <;> decide
/-- The blanks that the law takes. -/
def blanks : List (List UInt8) := [[32], [9], [10], [12], [13]]
theorem strs_get (k : Nat) (hk : k < blanks.length) : ∃ c : UInt8, isBl c = true ∧ (strs blanks)[k]? = some (.string (mkS [c])) := by
  have h5 : k < 5 := hk
  rw [strs_at blanks k hk]
  rcases (show k = 0 ∨ k = 1 ∨ k = 2 ∨ k = 3 ∨ k = 4 by omega) with rfl | rfl | rfl | rfl | rfl
  · exact ⟨32, rfl, rfl⟩
  · exact ⟨9, rfl, rfl⟩
  · exact ⟨10, rfl, rfl⟩
  · exact ⟨12, rfl, rfl⟩
  · exact ⟨13, rfl, rfl⟩
/-- The letters of a name, as far as they have been turned. -/
structure Turned (nm l : List UInt8) (i : Nat) : Prop where
  len : l.length = nm.length
  done : low (l.take i) = low (nm.take i)
  rest : l.drop i = nm.drop i
theorem Turned.start (nm : List UInt8) : Turned nm nm 0 := ⟨rfl, rfl, rfl⟩
theorem Turned.at_ {nm l : List UInt8} {i : Nat} (h : Turned nm l i) (hi : i < nm.length) : ∃ hl : i < l.length, l[i] = nm[i] := by
  have hl : i < l.length := by rw [h.len]; exact hi
  refine ⟨hl, ?_⟩
  have := h.rest
  rw [List.drop_eq_getElem_cons hl, List.drop_eq_getElem_cons hi] at this
  exact (List.cons.inj this).1
theorem Turned.step {nm l : List UInt8} {i : Nat} (h : Turned nm l i) (hi : i < nm.length) (c : UInt8) (hc : lowB c = lowB nm[i]) : Turned nm (l.set i c) (i + 1) := by
  obtain ⟨hl, he⟩ := h.at_ hi
  refine ⟨by rw [List.length_set]; exact h.len, ?_, ?_⟩
  · have hl2 : i < (l.set i c).length := by rw [List.length_set]; exact hl
    rw [List.take_succ_eq_append_getElem hl2, List.take_succ_eq_append_getElem hi, List.take_set, List.set_eq_of_length_le (by rw [List.length_take]; omega)]
    have h1 := h.done
    simp only [low] at h1 ⊢
    rw [List.map_append, List.map_append, h1, List.getElem_set_self]
    simp [hc]
  · have := h.rest
    rw [List.drop_eq_getElem_cons hl, List.drop_eq_getElem_cons hi] at this
    rw [List.drop_set_of_lt (by omega)]
    exact (List.cons.inj this).2
theorem Turned.full {nm l : List UInt8} (h : Turned nm l nm.length) : low l = low nm := by
  have := h.done
  rwa [List.take_of_length_le (by rw [h.len]; exact Nat.le_refl _), List.take_length] at this
theorem lowB_twice (c : UInt8) : lowB (lowB c) = lowB c := lowB_lowB c
end Go.Proofs.YtnphjniefklnaaaDoor
