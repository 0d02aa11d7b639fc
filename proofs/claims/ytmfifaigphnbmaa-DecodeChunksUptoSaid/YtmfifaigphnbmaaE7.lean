/- A slice of code points among the arguments: what it holds. -/
import Derived.Test.YtmfifaigphnbmaaE4
namespace Go.Proofs.Ytmfifaigphnbmaa
open Go.RowKit Go.ChangeShapes
theorem i32_of {n : Int} (h : (Lit.int .i32 n).wf = true) : -2147483648 ≤ n ∧ n ≤ 2147483647 := by
  have e1 : IntKind.i32.min = -2147483648 := rfl
  have e2 : IntKind.i32.max = 2147483647 := rfl
  simp [Lit.wf, e1, e2] at h
  omega
theorem open_runesv {H : Type} {enc : TypeId × Value → H} {P : Program} {w : World} {spare : Nat → Bool} {held : Bool} {r : Reach} {b0 : Nat} {t e : TypeId} {v : Value} {d : DataW H} {p : List MemPlace} (ht : P.underlying t = some (.slice e)) (he : P.underlying e = some (.int .i32)) (hc : P.cellsOf e = 1)
    (hv : Value.okWide P w r b0 t v) (h : DataW.Trod enc P w 0 spare held t v d p) : ∃ oa n cap X, v = .slice oa n cap ∧ n = X.length ∧ n ≤ maxLen ∧ RdR w oa X ∧ (d = .nil ∧ X = [] ∨ ∃ r, d = .slice (lits .i32 X) r) ∧ ∀ x ∈ X, -2147483648 ≤ x ∧ x ≤ 2147483647 := by
  obtain ⟨a0, len0, cap0, rfl⟩ := Go.WideShapes.okWide_slice ht hv
  obtain ⟨fuel, hf⟩ := h
  rcases open_ints (x := (d, p)) ht he hc hf with ⟨hv, hd⟩ | ⟨a, len, cap, zs, hv, _, hlc, hcm, hzl, hd, hcell, hwf⟩
  · have hv : Value.slice a0 len0 cap0 = .slice none 0 0 := by simpa [Value.cells] using hv
    injection hd with hd1 hd2
    exact ⟨none, 0, 0, [], hv, rfl, Nat.zero_le _, (fun j hj => absurd hj (by simp)), .inl ⟨hd1, rfl⟩, (fun x hx => absurd hx (by simp))⟩
  · have hv : Value.slice a0 len0 cap0 = .slice (some a) len cap := by simpa [Value.cells] using hv
    injection hd with hd1 hd2
    have hz : len ≤ zs.length := by rw [hzl]; split <;> omega
    refine ⟨some a, len, cap, zs.take len, hv, by rw [List.length_take]; omega, Nat.le_trans hlc hcm, fun j hj => ⟨a, rfl, ?_⟩, .inr ⟨_, hd1⟩, fun x hx => i32_of (hwf x (List.mem_of_mem_take hx))⟩
    rw [List.length_take] at hj
    rw [hcell j (by omega), List.getElem_take, List.getD_eq_getElem?_getD, List.getElem?_eq_getElem (by omega)]
    rfl
end Go.Proofs.Ytmfifaigphnbmaa
