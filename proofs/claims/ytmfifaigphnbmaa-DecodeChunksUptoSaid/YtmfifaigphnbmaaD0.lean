/- The decoders as plain step functions on numbers: UTF-8, UTF-16, single bytes; what a run over a list of bytes tells. -/
import Derived.WalkKit
namespace Go.Proofs.Ytmfifaigphnbmaa

/-- A run of a machine that tells numbers. -/
def run {S : Type} (f : S → Int → S × List Int) : S → List Int → S × List Int
  | s, [] => (s, [])
  | s, c :: r => ((run f (f s c).1 r).1, (f s c).2 ++ (run f (f s c).1 r).2)
theorem run_append {S : Type} (f : S → Int → S × List Int) (s : S) (a b : List Int) : run f s (a ++ b) = ((run f (run f s a).1 b).1, (run f s a).2 ++ (run f (run f s a).1 b).2) := by
  induction a generalizing s with
  | nil => simp [run]
  | cons c r ih => simp [run, ih, List.append_assoc]
theorem run_snoc {S : Type} (f : S → Int → S × List Int) (s : S) (a : List Int) (c : Int) : run f s (a ++ [c]) = ((f (run f s a).1 c).1, (run f s a).2 ++ (f (run f s a).1 c).2) := by
  rw [run_append]; simp [run]
theorem run_len {S : Type} (f : S → Int → S × List Int) (h : ∀ s c, (f s c).2.length ≤ 2) (s : S) (a : List Int) : (run f s a).2.length ≤ 2 * a.length := by
  induction a generalizing s with
  | nil => simp [run]
  | cons c r ih => have := h s c; have := ih (f s c).1; simp [run]; omega

/-- Bytes as numbers. -/
def nums (l : List UInt8) : List Int := l.map fun b => (b.toNat : Int)
theorem nums_length (l : List UInt8) : (nums l).length = l.length := by simp [nums]
theorem nums_byte {l : List UInt8} {c : Int} (h : c ∈ nums l) : 0 ≤ c ∧ c < 256 := by
  obtain ⟨b, _, rfl⟩ := List.mem_map.1 h
  have := b.toNat_lt
  constructor <;> omega

/-- What UTF-8 keeps: what was read, how many bytes are wanted, between which the next lies. -/
structure U8 where
  h : Int
  w : Int
  lo : Int
  hi : Int
def U8.zero : U8 := ⟨0, 0, 0, 0⟩
def U8.fresh (s : U8) (c : Int) : U8 × List Int :=
  if c < 128 then (s, [c])
  else if 194 ≤ c ∧ c ≤ 223 then (⟨c - 192, 1, 128, 191⟩, [])
  else if c = 224 then (⟨0, 2, 160, 191⟩, [])
  else if c = 237 then (⟨13, 2, 128, 159⟩, [])
  else if 224 < c ∧ c ≤ 239 then (⟨c - 224, 2, 128, 191⟩, [])
  else if c = 240 then (⟨0, 3, 144, 191⟩, [])
  else if 240 < c ∧ c < 244 then (⟨c - 240, 3, 128, 191⟩, [])
  else if c = 244 then (⟨4, 3, 128, 143⟩, [])
  else (s, [65533])
def U8.step (s : U8) (c : Int) : U8 × List Int :=
  if 0 < s.w then
    if s.lo ≤ c ∧ c ≤ s.hi then (⟨64 * s.h + (c - 128), s.w - 1, 128, 191⟩, if s.w = 1 then [64 * s.h + (c - 128)] else [])
    else ((U8.fresh ⟨s.h, 0, s.lo, s.hi⟩ c).1, 65533 :: (U8.fresh ⟨s.h, 0, s.lo, s.hi⟩ c).2)
  else U8.fresh s c
def U8.fin (s : U8) : List Int := if 0 < s.w then [65533] else []
/-- The state of a decoder under way. -/
def U8.ok (s : U8) : Prop := (s.w = 0 ∨ s.w = 1 ∧ s.h < 32768 ∨ s.w = 2 ∧ s.h < 512 ∨ s.w = 3 ∧ s.h < 8) ∧ 0 ≤ s.h ∧ (0 < s.w → 128 ≤ s.lo ∧ s.hi ≤ 191)
theorem U8.ok_zero : U8.zero.ok := by simp [U8.ok, U8.zero]
theorem U8.fresh_ok (s : U8) (c : Int) (h : s.ok) (_h0 : s.w = 0) : (s.fresh c).1.ok := by
  unfold U8.fresh
  repeat' split
  all_goals first
    | exact h
    | (dsimp only [U8.ok]; refine ⟨?_, ?_, ?_⟩ <;> omega)
theorem U8.step_ok (s : U8) (c : Int) (h : s.ok) : (s.step c).1.ok := by
  have h' := h
  obtain ⟨h1, h2, h3⟩ := h
  unfold U8.step
  split
  · split
    · dsimp only [U8.ok]
      refine ⟨?_, ?_, ?_⟩ <;> omega
    · exact U8.fresh_ok _ c ⟨.inl rfl, h2, by intro h; exact absurd h (by simp)⟩ rfl
  · exact U8.fresh_ok s c h' (by omega)
theorem U8.fresh_len (s : U8) (c : Int) : (s.fresh c).2.length ≤ 1 := by
  unfold U8.fresh
  repeat' split
  all_goals simp
theorem U8.step_len (s : U8) (c : Int) : (s.step c).2.length ≤ 2 := by
  unfold U8.step
  repeat' split
  all_goals try simp
  · exact U8.fresh_len _ c
  · have := U8.fresh_len s c; omega
theorem run_ok {S : Type} (f : S → Int → S × List Int) (ok : S → Prop) (h : ∀ s c, ok s → ok (f s c).1) (s : S) (a : List Int) (h0 : ok s) : ok (run f s a).1 := by
  induction a generalizing s with
  | nil => exact h0
  | cons c r ih => exact ih _ (h _ _ h0)

/-- What UTF-16 keeps: the byte and the unit that wait. -/
structure U16 where
  half : Int
  lead : Int
def U16.zero : U16 := ⟨-1, -1⟩
def U16.fresh (u : Int) : U16 × List Int :=
  if 56320 ≤ u ∧ u ≤ 57343 then (⟨-1, -1⟩, [65533])
  else if 55296 ≤ u ∧ u ≤ 56319 then (⟨-1, u⟩, [])
  else (⟨-1, -1⟩, [u])
def U16.unit (big : Bool) (s : U16) (c : Int) : Int := if big then 256 * s.half + c else s.half + 256 * c
def U16.step (big : Bool) (s : U16) (c : Int) : U16 × List Int :=
  if s.half < 0 then (⟨c, s.lead⟩, [])
  else if 0 ≤ s.lead then
    if 56320 ≤ U16.unit big s c ∧ U16.unit big s c ≤ 57343 then (⟨-1, -1⟩, [65536 + (s.lead - 55296) * 1024 + U16.unit big s c - 56320])
    else ((U16.fresh (U16.unit big s c)).1, 65533 :: (U16.fresh (U16.unit big s c)).2)
  else U16.fresh (U16.unit big s c)
def U16.fin (s : U16) : List Int := if 0 ≤ s.half ∨ 0 ≤ s.lead then [65533] else []
def U16.ok (s : U16) : Prop := (s.half = -1 ∨ 0 ≤ s.half ∧ s.half < 256) ∧ (s.lead = -1 ∨ 55296 ≤ s.lead ∧ s.lead ≤ 56319)
theorem U16.ok_zero : U16.zero.ok := by simp [U16.ok, U16.zero]
theorem U16.fresh_ok (u : Int) : (U16.fresh u).1.ok := by
  unfold U16.fresh
  repeat' split
  all_goals (dsimp only [U16.ok]; omega)
theorem U16.step_ok (big : Bool) (s : U16) (c : Int) (hc : 0 ≤ c ∧ c < 256) (h : s.ok) : (s.step big c).1.ok := by
  obtain ⟨h1, h2⟩ := h
  unfold U16.step
  split
  · dsimp only [U16.ok]; omega
  · split
    · split
      · simp [U16.ok]
      · exact U16.fresh_ok _
    · exact U16.fresh_ok _
theorem U16.fresh_len (u : Int) : (U16.fresh u).2.length ≤ 1 := by
  unfold U16.fresh
  repeat' split
  all_goals simp
theorem U16.step_len (big : Bool) (s : U16) (c : Int) : (s.step big c).2.length ≤ 2 := by
  unfold U16.step
  repeat' split
  all_goals try simp
  · exact U16.fresh_len _
  · have := U16.fresh_len (U16.unit big s c); omega

/-- The upper half of the encodings of single bytes. -/
def windowsUp : List Int := [0x20AC, 0x81, 0x201A, 0x192, 0x201E, 0x2026, 0x2020, 0x2021, 0x2C6, 0x2030, 0x160, 0x2039, 0x152, 0x8D, 0x17D, 0x8F, 0x90, 0x2018, 0x2019, 0x201C, 0x201D, 0x2022, 0x2013, 0x2014, 0x2DC, 0x2122, 0x161, 0x203A, 0x153, 0x9D, 0x17E, 0x178]
def latinUp : List Int := [0x20AC, 0, 0x160, 0, 0x161, 0, 0, 0, 0, 0, 0, 0, 0, 0, 0, 0, 0x17D, 0, 0, 0, 0x17E, 0, 0, 0, 0x152, 0x153, 0x178]
def upW (c : Int) : Int := if c < 160 then windowsUp.getD (c - 128).toNat 0 else c
def upL (c : Int) : Int := if 164 ≤ c ∧ c ≤ 190 then (if latinUp.getD (c - 164).toNat 0 = 0 then c else latinUp.getD (c - 164).toNat 0) else c
def upC (c : Int) : Int := if c = 240 then 8470 else if c = 253 then 167 else if 160 < c ∧ c ≠ 173 then c + 864 else c
def upU (c : Int) : Int := c + 63232
def one (up : Int → Int) (c : Int) : Int := if c < 128 then c else up c
def oneStep (up : Int → Int) (_ : Unit) (c : Int) : Unit × List Int := ((), [one up c])
theorem run_one (up : Int → Int) (l : List Int) : run (oneStep up) () l = ((), l.map (one up)) := by
  induction l with
  | nil => rfl
  | cons c r ih => simp [run, oneStep, ih]
end Go.Proofs.Ytmfifaigphnbmaa
