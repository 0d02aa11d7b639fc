/- What a text tells from a state of UTF-8's or UTF-16's decoder on, and how the reference's look ahead agrees with it: plain laws. -/
import Derived.Test.YtmfifaigphnbmaaD10
namespace Go.Proofs.Ytmfifaigphnbmaa

/-- What UTF-8's decoder tells from a state on. -/
def tells8 (s : U8) (l : List Int) : List Int := (run U8.step s l).2 ++ U8.fin (run U8.step s l).1
theorem told8_tells (L : List UInt8) : told8 L = tells8 U8.zero (nums L) := rfl
theorem tells8_nil (s : U8) : tells8 s [] = s.fin := rfl
theorem tells8_cons (s : U8) (c : Int) (r : List Int) : tells8 s (c :: r) = (s.step c).2 ++ tells8 (s.step c).1 r := by
  simp only [tells8, run, List.append_assoc]
theorem step8_clean (s : U8) (c : Int) (h : s.w = 0) : s.step c = s.fresh c := by
  rw [U8.step, if_neg (by omega)]
/-- What was kept of a code point that is told says nothing more. -/
theorem tells8_clean (l : List Int) (s t : U8) (hs : s.w = 0) (ht : t.w = 0) : tells8 s l = tells8 t l := by
  induction l generalizing s t with
  | nil =>
    rw [tells8_nil, tells8_nil, U8.fin, U8.fin, if_neg (by omega), if_neg (by omega)]
  | cons c r ih =>
    rw [tells8_cons, tells8_cons, step8_clean s c hs, step8_clean t c ht]
    unfold U8.fresh
    repeat' split
    all_goals first
      | rfl
      | (show _ ++ _ = _ ++ _; rw [ih s t hs ht])
theorem tells8_zero (l : List Int) (s : U8) (hs : s.w = 0) : tells8 s l = tells8 U8.zero l := tells8_clean l s U8.zero hs rfl
/-- A byte that does not fit: a mark, and all anew. -/
theorem tells8_misfit (s : U8) (c : Int) (r : List Int) (h0 : 0 < s.w) (hr : ¬ (s.lo ≤ c ∧ c ≤ s.hi)) : tells8 s (c :: r) = 65533 :: tells8 U8.zero (c :: r) := by
  rw [← tells8_zero (c :: r) ⟨s.h, 0, s.lo, s.hi⟩ rfl, tells8_cons, tells8_cons, step8_clean ⟨s.h, 0, s.lo, s.hi⟩ c rfl, U8.step, if_pos h0, if_neg hr]
  rfl
theorem tells8_end (s : U8) (h0 : 0 < s.w) : tells8 s [] = [65533] := by rw [tells8_nil, U8.fin, if_pos h0]
theorem tells8_run (s : U8) (a b : List Int) : tells8 s (a ++ b) = (run U8.step s a).2 ++ tells8 (run U8.step s a).1 b := by
  simp only [tells8, run_append, List.append_assoc]

/-- What the reference's look at the first code point may answer: nothing yet, or a code point and how many bytes it takes. -/
def Got (T : List Int → List Int) (L : List UInt8) (fin : Bool) (r : Int) (m : Nat) : Prop :=
  (m = 0 ∧ fin = false) ∨ (0 < m ∧ m ≤ L.length ∧ T (nums L) = r :: T (nums (L.drop m)))

/-- How many bytes a first byte wants, and between which the next one lies. -/
def wantsF (c : Int) : Int × Int × Int :=
  if c < 128 then (0, 0, 0)
  else if 194 ≤ c ∧ c ≤ 223 then (1, 128, 191)
  else if c = 224 then (2, 160, 191)
  else if c = 237 then (2, 128, 159)
  else if 225 ≤ c ∧ c ≤ 239 then (2, 128, 191)
  else if c = 240 then (3, 144, 191)
  else if c = 244 then (3, 128, 143)
  else if 241 ≤ c ∧ c ≤ 243 then (3, 128, 191)
  else (-1, 0, 0)
theorem wantsF_cases (c : Int) : ((wantsF c).1 = -1 ∧ U8.zero.fresh c = (U8.zero, [65533])) ∨ ((wantsF c).1 = 0 ∧ U8.zero.fresh c = (U8.zero, [c])) ∨
    (∃ n : Nat, (n = 1 ∨ n = 2 ∨ n = 3) ∧ (wantsF c).1 = n ∧ U8.zero.fresh c = (⟨c % (64 / 2 ^ n), n, (wantsF c).2.1, (wantsF c).2.2⟩, []) ∧ 0 ≤ c ∧ c < 256) := by
  unfold wantsF U8.fresh
  by_cases h1 : c < 128
  · simp only [if_pos h1]; exact .inr (.inl ⟨trivial, trivial⟩)
  by_cases h2 : 194 ≤ c ∧ c ≤ 223
  · simp only [if_neg h1, if_pos h2]
    refine .inr (.inr ⟨1, .inl rfl, rfl, ?_, by omega, by omega⟩)
    rw [show c - 192 = c % (64 / 2 ^ 1) by omega]; rfl
  by_cases h3 : c = 224
  · subst h3; exact .inr (.inr ⟨2, by omega, rfl, rfl, by omega, by omega⟩)
  by_cases h4 : c = 237
  · subst h4; exact .inr (.inr ⟨2, by omega, rfl, rfl, by omega, by omega⟩)
  by_cases h5 : 225 ≤ c ∧ c ≤ 239
  · simp only [if_neg h1, if_neg h2, if_neg h3, if_neg h4, if_pos h5, if_pos (show 224 < c ∧ c ≤ 239 by omega)]
    refine .inr (.inr ⟨2, by omega, rfl, ?_, by omega, by omega⟩)
    rw [show c - 224 = c % (64 / 2 ^ 2) by omega]; rfl
  by_cases h6 : c = 240
  · subst h6; exact .inr (.inr ⟨3, by omega, rfl, rfl, by omega, by omega⟩)
  by_cases h7 : c = 244
  · subst h7; exact .inr (.inr ⟨3, by omega, rfl, rfl, by omega, by omega⟩)
  by_cases h8 : 241 ≤ c ∧ c ≤ 243
  · simp only [if_neg h1, if_neg h2, if_neg h3, if_neg h4, if_neg h5, if_neg h6, if_neg h7, if_pos h8, if_neg (show ¬ (224 < c ∧ c ≤ 239) by omega), if_pos (show 240 < c ∧ c < 244 by omega)]
    refine .inr (.inr ⟨3, by omega, rfl, ?_, by omega, by omega⟩)
    rw [show c - 240 = c % (64 / 2 ^ 3) by omega]; rfl
  · simp only [if_neg h1, if_neg h2, if_neg h3, if_neg h4, if_neg h5, if_neg h6, if_neg h7, if_neg h8, if_neg (show ¬ (224 < c ∧ c ≤ 239) by omega), if_neg (show ¬ (240 < c ∧ c < 244) by omega)]
    exact .inl ⟨trivial, trivial⟩

/-- What UTF-16's decoder tells from a state on. -/
def tells16 (big : Bool) (s : U16) (l : List Int) : List Int := (run (U16.step big) s l).2 ++ U16.fin (run (U16.step big) s l).1
theorem tells16_nil (big : Bool) (s : U16) : tells16 big s [] = s.fin := rfl
theorem tells16_cons (big : Bool) (s : U16) (c : Int) (r : List Int) : tells16 big s (c :: r) = (s.step big c).2 ++ tells16 big (s.step big c).1 r := by
  simp only [tells16, run, List.append_assoc]
def unitOf (big : Bool) (a b : Int) : Int := if big then b + 256 * a else a + 256 * b
theorem unit_of (big : Bool) (a b l : Int) : U16.unit big ⟨a, l⟩ b = unitOf big a b := by cases big <;> simp [U16.unit, unitOf] <;> omega
/-- Two bytes without a leader. -/
theorem tells16_two (big : Bool) (a b : Int) (r : List Int) (ha : 0 ≤ a) : tells16 big U16.zero (a :: b :: r) = (U16.fresh (unitOf big a b)).2 ++ tells16 big (U16.fresh (unitOf big a b)).1 r := by
  rw [tells16_cons, tells16_cons]
  have h1 : U16.zero.step big a = (⟨a, -1⟩, []) := by rw [U16.step, if_pos (by decide)]; rfl
  rw [h1]
  have h2 : U16.step big ⟨a, -1⟩ b = U16.fresh (unitOf big a b) := by
    rw [U16.step, if_neg (by show ¬ a < 0; omega), if_neg (by show ¬ (0 : Int) ≤ -1; decide), unit_of]
  simp only [h2, List.nil_append]
/-- Two bytes behind a leader. -/
theorem tells16_lead (big : Bool) (l a b : Int) (r : List Int) (ha : 0 ≤ a) (hl : 0 ≤ l) : tells16 big ⟨-1, l⟩ (a :: b :: r) =
    if 56320 ≤ unitOf big a b ∧ unitOf big a b ≤ 57343 then (65536 + (l - 55296) * 1024 + unitOf big a b - 56320) :: tells16 big U16.zero r else 65533 :: tells16 big U16.zero (a :: b :: r) := by
  rw [tells16_two big a b r ha, tells16_cons, tells16_cons]
  have h1 : U16.step big ⟨-1, l⟩ a = (⟨a, l⟩, []) := by rw [U16.step, if_pos (by show (-1 : Int) < 0; decide)]
  rw [h1]
  simp only [U16.step, if_neg (show ¬ a < 0 by omega), if_pos hl, unit_of, List.nil_append]
  split
  · rfl
  · rfl
theorem tells16_half (big : Bool) (a l : Int) (ha : 0 ≤ a) : tells16 big ⟨-1, l⟩ [a] = [65533] := by
  rw [tells16_cons]
  have h1 : U16.step big ⟨-1, l⟩ a = (⟨a, l⟩, []) := by rw [U16.step, if_pos (by show (-1 : Int) < 0; decide)]
  rw [h1, tells16_nil, U16.fin, if_pos (.inl ha)]
  rfl
end Go.Proofs.Ytmfifaigphnbmaa
