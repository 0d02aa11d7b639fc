/- No decoder tells a code point that can't be: plain laws. -/
import Derived.Test.YtmfifaigphnbmaaF9
import Derived.Test.YtmfifaigphnbmaaE1
namespace Go.Proofs.Ytmfifaigphnbmaa
def goodR (r : Int) : Prop := 0 ≤ r ∧ r ≤ 1114111 ∧ (r < 55296 ∨ 57343 < r)
theorem good_mark : goodR 65533 := by unfold goodR; omega
theorem run_cons' {S : Type} (f : S → Int → S × List Int) (s : S) (c : Int) (r : List Int) : run f s (c :: r) = ((run f (f s c).1 r).1, (f s c).2 ++ (run f (f s c).1 r).2) := rfl
theorem run_all {S : Type} (f : S → Int → S × List Int) (inv : S → Prop) (h : ∀ s c, 0 ≤ c → c < 256 → inv s → inv (f s c).1 ∧ ∀ x ∈ (f s c).2, goodR x) (s : S) (L : List UInt8) (h0 : inv s) : inv (run f s (nums L)).1 ∧ ∀ x ∈ (run f s (nums L)).2, goodR x := by
  induction L generalizing s with
  | nil => exact ⟨h0, fun x hx => by cases hx⟩
  | cons b r ih =>
    have hb := b.toNat_lt
    obtain ⟨h1, h2⟩ := h s (b.toNat : Int) (by omega) (by omega) h0
    obtain ⟨h3, h4⟩ := ih _ h1
    refine ⟨h3, fun x hx => ?_⟩
    rw [nums_cons, run_cons'] at hx
    rcases List.mem_append.1 hx with hx | hx
    · exact h2 x hx
    · exact h4 x hx
/-- What holds of UTF-8's state under way. -/
def U8.inv (s : U8) : Prop := s.w = 0 ∨
  (s.w = 1 ∧ s.lo = 128 ∧ s.hi = 191 ∧ ((2 ≤ s.h ∧ s.h ≤ 863) ∨ (896 ≤ s.h ∧ s.h ≤ 17407))) ∨
  (s.w = 2 ∧ ((s.h = 0 ∧ s.lo = 160 ∧ s.hi = 191) ∨ (s.h = 13 ∧ s.lo = 128 ∧ s.hi = 159) ∨ (1 ≤ s.h ∧ s.h ≤ 271 ∧ s.h ≠ 13 ∧ s.lo = 128 ∧ s.hi = 191))) ∨
  (s.w = 3 ∧ ((s.h = 0 ∧ s.lo = 144 ∧ s.hi = 191) ∨ (1 ≤ s.h ∧ s.h ≤ 3 ∧ s.lo = 128 ∧ s.hi = 191) ∨ (s.h = 4 ∧ s.lo = 128 ∧ s.hi = 143)))
theorem U8.fresh_inv (s : U8) (c : Int) (h0 : 0 ≤ c) (hw : s.w = 0) : (s.fresh c).1.inv ∧ ∀ x ∈ (s.fresh c).2, goodR x := by
  unfold U8.fresh
  repeat' split
  all_goals refine ⟨?_, fun x hx => ?_⟩
  all_goals first
    | exact .inl hw
    | (rw [List.mem_singleton] at hx; subst hx; unfold goodR; omega)
    | (cases hx; done)
    | (unfold U8.inv; dsimp only; omega)
theorem U8.step_inv (s : U8) (c : Int) (h0 : 0 ≤ c) (_h1 : c < 256) (h : s.inv) : (s.step c).1.inv ∧ ∀ x ∈ (s.step c).2, goodR x := by
  unfold U8.step
  split
  · split
    · next hw hr =>
      unfold U8.inv at h
      refine ⟨by unfold U8.inv; dsimp only; omega, fun x hx => ?_⟩
      split at hx
      · rw [List.mem_singleton] at hx
        subst hx
        unfold goodR
        omega
      · cases hx
    · obtain ⟨h2, h3⟩ := U8.fresh_inv ⟨s.h, 0, s.lo, s.hi⟩ c h0 rfl
      refine ⟨h2, fun x hx => ?_⟩
      rcases List.mem_cons.1 hx with rfl | hx
      · exact good_mark
      · exact h3 x hx
  · unfold U8.inv at h
    exact U8.fresh_inv s c h0 (by omega)
theorem told8_good (L : List UInt8) : ∀ x ∈ told8 L, goodR x := by
  have h := run_all U8.step U8.inv U8.step_inv U8.zero L (.inl rfl)
  intro x hx
  rcases List.mem_append.1 hx with hx | hx
  · exact h.2 x hx
  · unfold U8.fin at hx
    split at hx
    · rw [List.mem_singleton] at hx; subst hx; exact good_mark
    · cases hx
theorem U16.fresh_good (u : Int) (h0 : 0 ≤ u) (h1 : u < 65536) : (U16.fresh u).1.ok ∧ ∀ x ∈ (U16.fresh u).2, goodR x := by
  refine ⟨U16.fresh_ok u, ?_⟩
  unfold U16.fresh
  repeat' split
  all_goals intro x hx
  all_goals first
    | (rw [List.mem_singleton] at hx; subst hx; unfold goodR; omega)
    | (cases hx; done)
theorem U16.step_good (big : Bool) (s : U16) (c : Int) (h0 : 0 ≤ c) (h1 : c < 256) (h : s.ok) : (s.step big c).1.ok ∧ ∀ x ∈ (s.step big c).2, goodR x := by
  refine ⟨U16.step_ok big s c ⟨h0, h1⟩ h, ?_⟩
  obtain ⟨h2, h3⟩ := h
  unfold U16.step
  split
  · intro x hx; cases hx
  · next hs =>
    have hu : 0 ≤ U16.unit big s c ∧ U16.unit big s c < 65536 := by cases big <;> simp [U16.unit] <;> omega
    split
    · split
      · intro x hx
        rw [List.mem_singleton] at hx
        subst hx
        unfold goodR
        omega
      · intro x hx
        rcases List.mem_cons.1 hx with rfl | hx
        · exact good_mark
        · exact (U16.fresh_good _ hu.1 hu.2).2 x hx
    · exact (U16.fresh_good _ hu.1 hu.2).2
theorem told16_good (big : Bool) (L : List UInt8) : ∀ x ∈ (run (U16.step big) U16.zero (nums L)).2 ++ U16.fin (run (U16.step big) U16.zero (nums L)).1, goodR x := by
  have h := run_all (U16.step big) U16.ok (U16.step_good big) U16.zero L U16.ok_zero
  intro x hx
  rcases List.mem_append.1 hx with hx | hx
  · exact h.2 x hx
  · unfold U16.fin at hx
    split at hx
    · rw [List.mem_singleton] at hx; subst hx; exact good_mark
    · cases hx
def goodB (r : Int) : Bool := decide (0 ≤ r) && decide (r ≤ 1114111) && (decide (r < 55296) || decide (57343 < r))
theorem goodB_of {r : Int} (h : goodB r = true) : goodR r := by
  simp only [goodB, Bool.and_eq_true, Bool.or_eq_true, decide_eq_true_eq] at h
  unfold goodR
  omega
theorem one_good (up : Int → Int) (h : (List.range 256).all (fun n => goodB (one up ((UInt8.ofNat n).toNat : Int))) = true) (L : List UInt8) : ∀ x ∈ (nums L).map (one up), goodR x := by
  intro x hx
  obtain ⟨c, hc, rfl⟩ := List.mem_map.1 hx
  obtain ⟨b, _, rfl⟩ := List.mem_map.1 hc
  exact goodB_of (bytes_all (fun b => goodB (one up (b.toNat : Int))) h b)
theorem upW_good (L : List UInt8) : ∀ x ∈ (nums L).map (one upW), goodR x := one_good upW (by decide +kernel) L
theorem upL_good (L : List UInt8) : ∀ x ∈ (nums L).map (one upL), goodR x := one_good upL (by decide +kernel) L
theorem upC_good (L : List UInt8) : ∀ x ∈ (nums L).map (one upC), goodR x := one_good upC (by decide +kernel) L
theorem upU_good (L : List UInt8) : ∀ x ∈ (nums L).map (one upU), goodR x := one_good upU (by decide +kernel) L
end Go.Proofs.Ytmfifaigphnbmaa
