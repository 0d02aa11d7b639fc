/- Two slices of code points that hold the same: the law's own test says yes. -/
import Derived.Test.YtmfifaigphnbmaaE2
namespace Go.Proofs.Ytmfifaigphnbmaa
open Go.RowKit
/-- The code points X lie at the slice's place. -/
def RdR (w : World) (oa : Option Addr) (X : List Int) : Prop := ∀ j (h : j < X.length), ∃ ad, oa = some ad ∧ w.cell? (ad.add j) = some (.int .i32 X[j])
theorem RdR.below {w w1 : World} {oa : Option Addr} {X : List Int} (h : RdR w oa X) (hb : Below w.heap.size w w1) : RdR w1 oa X := fun j hj => by
  obtain ⟨ad, h1, h2⟩ := h j hj
  exact ⟨ad, h1, bcl hb h2⟩
theorem RdR.own {w : World} {base n c : Nat} {oa : Option Addr} {X : List Int} {m : Nat} (h : w.ownsRow base 21 1 (.slice oa m c) n (X.map (Value.int .i32))) : RdR w oa X := fun j hj => (own_read h).2 j _ (by simp [hj])
set_option maxRecDepth 100000 in
theorem runes15 (oa ob : Option Addr) (n ca cb : Nat) (X : List Int) (w : World) (hn : n = X.length) (hm : n ≤ maxLen) (hA : RdR w oa X) (hB : RdR w ob X) :
    Calls Try.prog 15 #[.slice oa n ca, .slice ob n cb] w fun e w' => e = .returned (.bool true) ∧ Below w.heap.size w w' := by
  subst hn
  unfold maxLen at hm
  go_enter Try.func15, Try.ntmps15
  go_wp2
  go_loopw [5] (fun v5 wr => ∃ k : Nat, k ≤ X.length ∧ v5 = .int .i64 k ∧ Below w.heap.size w wr) (fun v5 _ => X.length - (intOf v5).toNat)
  case atStart => exact ⟨0, Nat.zero_le _, rfl, Below.refl _ _⟩
  case round =>
    obtain ⟨k, hk, rfl, hw⟩ := hrel
    by_cases hlt : k < X.length
    · obtain ⟨ada, rfl, hca⟩ := (hA.below hw) k hlt
      obtain ⟨adb, rfl, hcb⟩ := (hB.below hw) k hlt
      generalize X[k] = x at *
      clear hA hB
      go_wp2
      go_quiet (fail)
      go_wp2
      go_roundw
      case rel => exact ⟨k + 1, by omega, by go_num, bdr hw _⟩
      case measure => simp [intOf]; omega
    · obtain rfl : k = X.length := by omega
      go_wp2
      go_ret
      exact ⟨rfl, hw⟩
end Go.Proofs.Ytmfifaigphnbmaa
