/- A meta with a charset behind anything without a tag: plainly. -/
import Derived.Test.YtcmhfcnjfhcpdaaDoorC2
namespace Go.Proofs.YtcmhfcnjfhcpdaaDoor
open Go.RowKit
section
variable (A S : List UInt8)
theorem drop_sh (i : Nat) : (A ++ S).drop (A.length + i) = S.drop i := by
  rw [← List.drop_drop, List.drop_left]
theorem run_sh (p : UInt8 → Bool) (i : Nat) : run p (A ++ S) (A.length + i) = A.length + run p S i := by
  unfold run
  rw [drop_sh]
  omega
theorem getD_sh (i : Nat) : (A ++ S).getD (A.length + i) 0 = S.getD i 0 := by
  rw [List.getD_eq_getElem?_getD, List.getD_eq_getElem?_getD, List.getElem?_append_right (by omega), Nat.add_sub_cancel_left]
theorem le_sh (i : Nat) : ((A ++ S).length ≤ A.length + i) = (S.length ≤ i) := by
  rw [List.length_append, eq_iff_iff]
  omega
theorem lt_sh (i : Nat) : (A.length + i < (A ++ S).length) = (i < S.length) := by
  rw [List.length_append, eq_iff_iff]
  omega
theorem attr_sh (i : Nat) : attrF (A ++ S) (A.length + i) = ((attrF S i).1, A.length + (attrF S i).2) := by
  simp only [attrF, run_sh, Nat.add_assoc, getD_sh, drop_sh, le_sh, lt_sh]
  by_cases c1 : S.length ≤ run isSl S i
  · simp only [if_pos c1]
  simp only [if_neg c1]
  by_cases c2 : S.getD (run isSl S i) 0 = 62
  · simp only [if_pos c2]
  simp only [if_neg c2]
  by_cases c3 : S.length ≤ run nIs S (run isSl S i + 1)
  · simp only [if_pos c3]
  simp only [if_neg c3]
  generalize run nIs S (run isSl S i + 1) = i3
  by_cases c4 : S.length ≤ run isBl S i3
  · simp only [if_pos c4]
  simp only [if_neg c4]
  generalize run isBl S i3 = i4
  by_cases c5 : S.getD i4 0 ≠ 61
  · simp only [if_pos c5]
  simp only [if_neg c5]
  generalize run isBl S (i4 + 1) = i5
  by_cases c6 : S.length ≤ i5
  · simp only [if_pos c6]
  simp only [if_neg c6]
  by_cases c7 : S.getD i5 0 = 34 ∨ S.getD i5 0 = 39
  · simp only [if_pos c7]
    generalize run (fun x => x != S.getD i5 0) S (i5 + 1) = i6
    by_cases c8 : i6 < S.length
    · simp only [if_pos c8]
    · simp only [if_neg c8, List.length_append]
  simp only [if_neg c7]
  generalize run nTe S i5 = i7
  by_cases c8 : S.length ≤ i7
  · simp only [if_pos c8]
  · simp only [if_neg c8]
theorem pre_skip (hA : ∀ c ∈ A, c ≠ 60) : ∀ (d i f : Nat), i + d = A.length → preL (A ++ S) (f + d) i = preL (A ++ S) f A.length
  | 0, i, f, h => by
    obtain rfl : i = A.length := by omega
    rfl
  | d + 1, i, f, h => by
    have hi : i < A.length := by omega
    have hd : (A ++ S).drop i = A[i] :: (A ++ S).drop (i + 1) := by
      rw [List.drop_eq_getElem_cons (by rw [List.length_append]; omega), List.getElem_append_left hi]
    have hc := hA A[i] (List.getElem_mem hi)
    have hp : ∀ Y : List UInt8, ¬ Lib.hasPrefix ((A ++ S).drop i) (60 :: Y) = true := fun Y h1 => by
      rw [hd] at h1
      obtain ⟨t, ht⟩ := List.isPrefixOf_iff_prefix.1 h1
      injection ht with h2 _
      exact hc h2.symm
    rw [show f + (d + 1) = (f + d) + 1 by omega, preL]
    rw [if_neg (by rw [List.length_append]; omega), if_neg (show ¬ Lib.hasPrefix ((A ++ S).drop i) cmW = true from hp [33, 45, 45]), if_neg (show ¬ (Lib.hasPrefix ((A ++ S).drop i) mtW = true ∧ slAt ((A ++ S).drop i) = true) from fun h => hp [109, 101, 116, 97] h.1), if_neg (fun h => h.elim (fun h => hp _ h.1) (fun h => hp _ h.1)), if_neg (fun h => h.elim (hp _) (fun h => h.elim (hp _) (hp _)))]
    exact pre_skip hA d (i + 1) f (by omega)
end
def nameW : Nat → List UInt8
  | 0 => [117, 116, 102, 45, 56]
  | 1 => [117, 116, 102, 45, 49, 54, 108, 101]
  | 2 => [117, 116, 102, 45, 49, 54, 98, 101]
  | 3 => [119, 105, 110, 100, 111, 119, 115, 45, 49, 50, 53, 50]
  | 4 => [105, 115, 111, 45, 56, 56, 53, 57, 45, 49, 53]
  | 5 => [105, 115, 111, 45, 56, 56, 53, 57, 45, 53]
  | _ => [120, 45, 117, 115, 101, 114, 45, 100, 101, 102, 105, 110, 101, 100]
def quoW : Nat → List UInt8
  | 0 => []
  | 1 => [34]
  | _ => [39]
def headW : List UInt8 := [60, 109, 101, 116, 97, 32, 99, 104, 97, 114, 115, 101, 116, 61]
def tailS (n q : Nat) : List UInt8 := headW ++ (quoW q ++ nameW n ++ quoW q) ++ [32, 62]
/-- What is to be seen of a meta. -/
def metaSee (S : List UInt8) : Option (Cs × Nat) := match attrF S 5 with
  | (some (nm, v), j) => match attrF S j with
    | (none, j') => some (csStep cs0 nm v, j')
    | _ => none
  | _ => none
def metaChk (n q : Nat) : Bool :=
  (low (tailS n q) == tailS n q) && (!Lib.hasPrefix (tailS n q) cmW) && Lib.hasPrefix (tailS n q) mtW && slAt (tailS n q) && decide ((tailS n q).length ≤ 60) &&
  match metaSee (tailS n q) with
  | some (s, _) => decide (csEnd s = metaF n ∧ 0 ≤ csEnd s)
  | none => false
theorem metaChk_all : ∀ n : Fin 7, ∀ q : Fin 3, metaChk n.val q.val = true := by decide +kernel
theorem csL_sh (A S : List UInt8) (f i : Nat) (s : Cs) {nm v : List UInt8} {j j' : Nat} (h1 : attrF S i = (some (nm, v), j)) (h2 : attrF S j = (none, j')) : csL (A ++ S) (f + 2) (A.length + i) s = (csStep s nm v, A.length + j') := by
  have e1 := attr_sh A S i
  have e2 := attr_sh A S j
  rw [h1] at e1
  rw [h2] at e2
  rw [csL_some (f + 1) s e1.symm, csL_none f _ e2.symm]
theorem pre_meta (X : List UInt8) (n q : Nat) (hn : n < 7) (hq : q < 3) (hX : ∀ c ∈ X, c ≠ 60) (hl : X.length ≤ 500) : preT (X ++ tailS n q) = some (metaF n) := by
  have hc := metaChk_all ⟨n, hn⟩ ⟨q, hq⟩
  unfold metaChk at hc
  simp only [Bool.and_eq_true, beq_iff_eq, Bool.not_eq_true', decide_eq_true_eq] at hc
  obtain ⟨⟨⟨⟨⟨c1, c2⟩, c3⟩, c4⟩, c5⟩, c6⟩ := hc
  generalize tailS n q = S at *
  unfold preT
  rw [List.take_of_length_le (by rw [List.length_append]; omega), show low (X ++ S) = low X ++ low S by simp [low], c1]
  have hA : ∀ c ∈ low X, c ≠ 60 := fun c hc => by
    obtain ⟨d, hd, rfl⟩ := List.mem_map.1 hc
    exact low_ne (hX d hd)
  have hAl : (low X).length ≤ 500 := by rw [low_len]; exact hl
  generalize low X = A at *
  have hk := pre_skip A S hA A.length 0 (1025 - A.length) (by omega)
  rw [show 1025 - A.length + A.length = (1025 - A.length - 1) + 1 + A.length by omega] at hk
  rw [show 1025 = (1025 - A.length - 1) + 1 + A.length by omega, hk, show 1025 - A.length = (1025 - A.length - 1) + 1 by omega]
  have hd : (A ++ S).drop A.length = S := List.drop_left
  have hSl : 0 < S.length := by
    have := hasPrefix_len c3
    have h5 : mtW.length = 5 := rfl
    omega
  rw [preL, if_neg (by rw [List.length_append]; omega), hd, if_neg (by rw [c2]; decide), if_pos ⟨c3, c4⟩]
  unfold metaSee at c6
  split at c6
  case h_2 => cases c6
  case h_1 s k hs =>
    split at hs
    case h_2 => cases hs
    case h_1 nm v j e1 =>
      split at hs
      case h_2 => cases hs
      case h_1 j' e2 =>
        injection hs with hs
        injection hs with hs hk'
        subst hs
        have hL : (A ++ S).length + 1 = ((A ++ S).length - 1) + 2 := by rw [List.length_append]; omega
        rw [hL, csL_sh A S _ 5 cs0 e1 e2]
        have h6 := of_decide_eq_true c6
        rw [if_pos h6.2, h6.1]
end Go.Proofs.YtcmhfcnjfhcpdaaDoor
