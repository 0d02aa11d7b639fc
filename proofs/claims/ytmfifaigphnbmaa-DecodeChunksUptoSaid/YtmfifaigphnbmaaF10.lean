/- What the second form's bound gives of slices of numbers. -/
import Derived.Test.YtmfifaigphnbmaaE7
import Derived.Test.YtmfifaigphnbmaaKitBulk
namespace Go.Proofs.Ytmfifaigphnbmaa
open Go.ChangeShapes
theorem bulk_lits {H : Type} (k : IntKind) (zs : List Int) : Rows.uptoBulkAll (lits (H := H) k zs) = zs.length := by
  induction zs with
  | nil => rfl
  | cons z r ih =>
    show Rows.uptoBulkAll (.lit (.int k z) :: lits k r) = _
    rw [Rows.uptoBulkAll, ih, List.length_cons]
    simp only [Rows.uptoBulk]
    omega
theorem bulk_slice {H : Type} {k : IntKind} {zs : List Int} {sp : List (DataW H)} {d : DataW H} {l : List (DataW H)} (h : Rows.uptoSmall H l = true) (hd : d ∈ l) (he : d = .slice (lits k zs) sp) : zs.length ≤ 1048576 := by
  subst he
  have h1 := bulk_most h
  have h2 := bulk_mem hd
  simp only [Rows.uptoBulk, bulk_lits] at h2
  omega
theorem bulk_bytes {H : Type} {L : List UInt8} {d : DataW H} {l : List (DataW H)} (h : Rows.uptoSmall H l = true) (hd : d ∈ l) (he : d = .nil ∧ L = [] ∨ ∃ r, d = .slice (lits .u8 (nums L)) r) : L.length ≤ 1048576 := by
  rcases he with ⟨_, rfl⟩ | ⟨r, he⟩
  · simp
  · have := bulk_slice h hd he
    rwa [nums_length] at this
theorem bulk_runes {H : Type} {X : List Int} {d : DataW H} {l : List (DataW H)} (h : Rows.uptoSmall H l = true) (hd : d ∈ l) (he : d = .nil ∧ X = [] ∨ ∃ r, d = .slice (lits .i32 X) r) : X.length ≤ 1048576 := by
  rcases he with ⟨_, rfl⟩ | ⟨r, he⟩
  · simp
  · exact bulk_slice h hd he
end Go.Proofs.Ytmfifaigphnbmaa
