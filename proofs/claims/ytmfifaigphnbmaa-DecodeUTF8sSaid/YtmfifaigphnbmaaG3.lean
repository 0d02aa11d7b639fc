/- How many code points a slice among the arguments holds, by the form's reach. -/
import Derived.Test.YtmfifaigphnbmaaE7
import Derived.SizedLaws
namespace Go.Proofs.Ytmfifaigphnbmaa
open Go.RowKit Go.ChangeShapes
theorem bytes21 : Try.prog.bytesOf 21 = 4 := by kernel_rfl
theorem runes_sized {H : Type} {X : List Int} {ts : List TypeId} {ds : List (DataW H)} {d : DataW H} {j : Nat} (h : (DataW.weightsEach Try.prog ts ds).all (· ≤ reachBytes) = true) (ht : ts[j]? = some 28) (hd : ds[j]? = some d)
    (hL : d = .nil ∧ X = [] ∨ ∃ r, d = .slice (lits .i32 X) r) : X.length ≤ 35184372088832 := by
  rcases hL with ⟨_, rfl⟩ | ⟨sp, rfl⟩
  · simp
  · have := sized_slice h ht hd Try.underlying28
    rw [bytes21] at this
    have hr : reachBytes = 140737488351232 := rfl
    have hl : (lits (H := H) .i32 X).length = X.length := by simp [lits]
    rw [hr, hl] at this
    omega
end Go.Proofs.Ytmfifaigphnbmaa
