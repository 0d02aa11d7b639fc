/- The reference's walks: blanks, the list of labels. -/
import Derived.Test.YtnphjniefklnaaaDoorL2
namespace Go.Proofs.YtnphjniefklnaaaDoor
open Go.RowKit
theorem ne_cast {b : UInt8} {n : Nat} (h : b.toNat ≠ n) : ((b.toNat : Int) == (n : Int)) = false := by rw [beq_eq_false_iff_ne]; omega
theorem blank19 (b : UInt8) (v : Bool) (hv : isBl b = v) (w : World) : Calls Tryd.prog 19 #[.int .u8 b.toNat] w fun e w' => e = .returned (.bool v) ∧ w = w' := by
  subst hv
  by_cases h : b = 9 ∨ b = 10 ∨ b = 12 ∨ b = 13 ∨ b = 32
  · rcases h with rfl | rfl | rfl | rfl | rfl
    all_goals
      go_enter Tryd.func19, Tryd.ntmps19
      go_wp2
      go_ret
      exact ⟨rfl, rfl⟩
  · have e : isBl b = false := by
      simp only [isBl, Bool.or_eq_false_iff, beq_eq_false_iff_ne]
      simp only [not_or] at h
      obtain ⟨h1, h2, h3, h4, h5⟩ := h
      exact ⟨⟨⟨⟨h1, h2⟩, h3⟩, h4⟩, h5⟩
    have k : ∀ n : Nat, n < 256 → b ≠ UInt8.ofNat n → ((b.toNat : Int) == (n : Int)) = false := fun n hn hne => ne_cast (by
      intro hb
      apply hne
      rw [← UInt8.toNat_inj, UInt8.toNat_ofNat', Nat.mod_eq_of_lt hn]
      exact hb)
    simp only [not_or] at h
    obtain ⟨h1, h2, h3, h4, h5⟩ := h
    have k1 : ((b.toNat : Int) == 9) = false := k 9 (by decide) h1
    have k2 : ((b.toNat : Int) == 10) = false := k 10 (by decide) h2
    have k3 : ((b.toNat : Int) == 12) = false := k 12 (by decide) h3
    have k4 : ((b.toNat : Int) == 13) = false := k 13 (by decide) h4
    have k5 : ((b.toNat : Int) == 32) = false := k 32 (by decide) h5
    rw [e]
    clear k h1 h2 h3 h4 h5 e
    go_enter Tryd.func19, Tryd.ntmps19
    go_wp2
    go_ret
    exact ⟨rfl, rfl⟩
/-- The reference's labels lie in memory. -/
def LabsAt (w : World) (g : Nat) : Prop := ∀ i (hi : i < labs.length), ∃ gi, w.cell? ⟨g, i, none⟩ = some (.slice (some ⟨gi, 0, none⟩) (labs[i]).length (labs[i]).length) ∧ ∀ k (hk : k < (labs[i]).length), w.cell? ⟨gi, k, none⟩ = some (.string (mkS (labs[i])[k]))
theorem LabsAt.below {w w1 : World} {g : Nat} (h : LabsAt w g) (hb : Below w.heap.size w w1) : LabsAt w1 g := fun i hi => by
  obtain ⟨gi, h1, h2⟩ := h i hi
  exact ⟨gi, bcl hb h1, fun k hk => bcl hb (h2 k hk)⟩
def strs (r : List (List UInt8)) : Array Value := (r.map fun x => Value.string (mkS x)).toArray
theorem strs_at (r : List (List UInt8)) (k : Nat) (hk : k < r.length) : (strs r)[k]? = some (.string (mkS r[k])) := by simp [strs, hk]
def slc (w : World) : Array Value := ((List.range 7).map fun i => Value.slice (some ⟨w.heap.size + i, 0, none⟩) (labs.getD i []).length (labs.getD i []).length).toArray
def laidN (w : World) : Nat → World
  | 0 => w
  | i + 1 => (laidN w i).alloc (.cells (strs (labs.getD i [])) 9)
theorem laidN_size (w : World) (i : Nat) : (laidN w i).heap.size = w.heap.size + i := by
  induction i with
  | zero => rfl
  | succ i ih => rw [laidN]; simp [ih]; omega
theorem laidN_at (w : World) (i j : Nat) (h : j < i) : (laidN w i).heap[w.heap.size + j]? = some (.cells (strs (labs.getD j [])) 9 (0, 0)) := by
  induction i with
  | zero => omega
  | succ i ih =>
    rw [laidN]
    rcases Nat.lt_or_ge j i with h1 | h1
    · exact at_old (ih h1) _
    · obtain rfl : j = i := by omega
      exact at_new _ _ _ (laidN_size w j).symm
theorem laidN_below (w : World) (i : Nat) : Below w.heap.size w (laidN w i) := by
  induction i with
  | zero => exact Below.refl _ _
  | succ i ih => rw [laidN]; exact bal ih _
set_option maxRecDepth 100000 in
theorem labels20 (w : World) : Calls Tryd.prog 20 #[] w fun e w' => ∃ g, e = .returned (.slice (some ⟨g, 0, none⟩) 7 7) ∧ LabsAt w' g ∧ Below w.heap.size w w' := by
  go_enter Tryd.func20, Tryd.ntmps20
  go_wp2
  go_ret
  refine ⟨_, rfl, ?_, ?_⟩
  · show LabsAt ((laidN w 7).alloc (.cells (slc w) 32)) (w.heap.size + 7)
    intro i hi
    have h7 : i < 7 := Nat.lt_of_lt_of_le hi (by decide)
    have hb := at_old (laidN_at w 7 i h7) (.cells (slc w) 32)
    have ho := at_new (laidN w 7) (.cells (slc w) 32) (w.heap.size + 7) (laidN_size w 7).symm
    have e : labs.getD i [] = labs[i] := by rw [List.getD_eq_getElem?_getD, List.getElem?_eq_getElem hi]; rfl
    rw [e] at hb
    refine ⟨w.heap.size + i, ?_, fun k hk => by rw [blk_cells hb]; exact strs_at _ k hk⟩
    rw [blk_cells ho]
    simp [slc, h7, List.getElem?_eq_getElem hi]
  · show Below w.heap.size w ((laidN w 7).alloc (.cells (slc w) 32))
    exact bal (laidN_below w 7) _
end Go.Proofs.YtnphjniefklnaaaDoor
