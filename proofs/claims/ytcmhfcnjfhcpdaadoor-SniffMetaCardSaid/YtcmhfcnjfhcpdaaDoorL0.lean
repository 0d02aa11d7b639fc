/- The labels of encodings as plain data, and when a text is one: plain laws. -/
import Derived.Test.YtcmhfcnjfhcpdaaDoorKitE
import Derived.Lib.SlTrimSet
import Derived.Lib.FieldsU
import Derived.Lib.SpaceUEq
namespace Go.Proofs.YtcmhfcnjfhcpdaaDoor
/-- The encodings' names. -/
def names : List (List UInt8) := [[85, 84, 70, 45, 56], [85, 84, 70, 45, 49, 54, 76, 69], [85, 84, 70, 45, 49, 54, 66, 69], [119, 105, 110, 100, 111, 119, 115, 45, 49, 50, 53, 50], [73, 83, 79, 45, 56, 56, 53, 57, 45, 49, 53], [73, 83, 79, 45, 56, 56, 53, 57, 45, 53], [120, 45, 117, 115, 101, 114, 45, 100, 101, 102, 105, 110, 101, 100]]
/-- The labels of each encoding. -/
def labs : List (List (List UInt8)) := [
  [[117, 116, 102, 45, 56], [117, 116, 102, 56], [117, 110, 105, 99, 111, 100, 101, 45, 49, 45, 49, 45, 117, 116, 102, 45, 56], [117, 110, 105, 99, 111, 100, 101, 49, 49, 117, 116, 102, 56], [117, 110, 105, 99, 111, 100, 101, 50, 48, 117, 116, 102, 56], [120, 45, 117, 110, 105, 99, 111, 100, 101, 50, 48, 117, 116, 102, 56]],
  [[117, 116, 102, 45, 49, 54], [117, 116, 102, 45, 49, 54, 108, 101], [117, 110, 105, 99, 111, 100, 101], [117, 99, 115, 45, 50], [105, 115, 111, 45, 49, 48, 54, 52, 54, 45, 117, 99, 115, 45, 50], [99, 115, 117, 110, 105, 99, 111, 100, 101], [117, 110, 105, 99, 111, 100, 101, 102, 101, 102, 102]],
  [[117, 116, 102, 45, 49, 54, 98, 101], [117, 110, 105, 99, 111, 100, 101, 102, 102, 102, 101]],
  [[119, 105, 110, 100, 111, 119, 115, 45, 49, 50, 53, 50], [108, 97, 116, 105, 110, 49], [105, 115, 111, 45, 56, 56, 53, 57, 45, 49], [105, 115, 111, 56, 56, 53, 57, 45, 49], [105, 115, 111, 95, 56, 56, 53, 57, 45, 49], [97, 115, 99, 105, 105], [117, 115, 45, 97, 115, 99, 105, 105], [99, 112, 49, 50, 53, 50], [120, 45, 99, 112, 49, 50, 53, 50], [108, 49], [105, 98, 109, 56, 49, 57], [99, 112, 56, 49, 57]],
  [[105, 115, 111, 45, 56, 56, 53, 57, 45, 49, 53], [105, 115, 111, 56, 56, 53, 57, 45, 49, 53], [105, 115, 111, 95, 56, 56, 53, 57, 45, 49, 53], [108, 57], [99, 115, 105, 115, 111, 108, 97, 116, 105, 110, 57]],
  [[105, 115, 111, 45, 56, 56, 53, 57, 45, 53], [105, 115, 111, 56, 56, 53, 57, 45, 53], [105, 115, 111, 95, 56, 56, 53, 57, 45, 53], [99, 121, 114, 105, 108, 108, 105, 99], [99, 115, 105, 115, 111, 108, 97, 116, 105, 110, 99, 121, 114, 105, 108, 108, 105, 99], [105, 115, 111, 45, 105, 114, 45, 49, 52, 52]],
  [[120, 45, 117, 115, 101, 114, 45, 100, 101, 102, 105, 110, 101, 100]]]
/-- The same, a blank between. -/
def joined : List (List UInt8) := [
  [117, 116, 102, 45, 56, 32, 117, 116, 102, 56, 32, 117, 110, 105, 99, 111, 100, 101, 45, 49, 45, 49, 45, 117, 116, 102, 45, 56, 32, 117, 110, 105, 99, 111, 100, 101, 49, 49, 117, 116, 102, 56, 32, 117, 110, 105, 99, 111, 100, 101, 50, 48, 117, 116, 102, 56, 32, 120, 45, 117, 110, 105, 99, 111, 100, 101, 50, 48, 117, 116, 102, 56],
  [117, 116, 102, 45, 49, 54, 32, 117, 116, 102, 45, 49, 54, 108, 101, 32, 117, 110, 105, 99, 111, 100, 101, 32, 117, 99, 115, 45, 50, 32, 105, 115, 111, 45, 49, 48, 54, 52, 54, 45, 117, 99, 115, 45, 50, 32, 99, 115, 117, 110, 105, 99, 111, 100, 101, 32, 117, 110, 105, 99, 111, 100, 101, 102, 101, 102, 102],
  [117, 116, 102, 45, 49, 54, 98, 101, 32, 117, 110, 105, 99, 111, 100, 101, 102, 102, 102, 101],
  [119, 105, 110, 100, 111, 119, 115, 45, 49, 50, 53, 50, 32, 108, 97, 116, 105, 110, 49, 32, 105, 115, 111, 45, 56, 56, 53, 57, 45, 49, 32, 105, 115, 111, 56, 56, 53, 57, 45, 49, 32, 105, 115, 111, 95, 56, 56, 53, 57, 45, 49, 32, 97, 115, 99, 105, 105, 32, 117, 115, 45, 97, 115, 99, 105, 105, 32, 99, 112, 49, 50, 53, 50, 32, 120, 45, 99, 112, 49, 50, 53, 50, 32, 108, 49, 32, 105, 98, 109, 56, 49, 57, 32, 99, 112, 56, 49, 57],
  [105, 115, 111, 45, 56, 56, 53, 57, 45, 49, 53, 32, 105, 115, 111, 56, 56, 53, 57, 45, 49, 53, 32, 105, 115, 111, 95, 56, 56, 53, 57, 45, 49, 53, 32, 108, 57, 32, 99, 115, 105, 115, 111, 108, 97, 116, 105, 110, 57],
  [105, 115, 111, 45, 56, 56, 53, 57, 45, 53, 32, 105, 115, 111, 56, 56, 53, 57, 45, 53, 32, 105, 115, 111, 95, 56, 56, 53, 57, 45, 53, 32, 99, 121, 114, 105, 108, 108, 105, 99, 32, 99, 115, 105, 115, 111, 108, 97, 116, 105, 110, 99, 121, 114, 105, 108, 108, 105, 99, 32, 105, 115, 111, 45, 105, 114, 45, 49, 52, 52],
  [120, 45, 117, 115, 101, 114, 45, 100, 101, 102, 105, 110, 101, 100]]
/-- The row in which a text stands. -/
def rowOf (x : List UInt8) : Option Nat := labs.findIdx? (·.contains x)
def ofL (x : List UInt8) : Int × Int := match rowOf x with | some i => ((i : Int), 0) | none => (0, 40)
theorem ofL_at (x : List UInt8) (i : Nat) (hi : i < labs.length) (h : (labs[i]).contains x = true) (hno : ∀ j (hj : j < labs.length), j < i → (labs[j]).contains x = false) : ofL x = ((i : Int), 0) := by
  have : rowOf x = some i := by
    rw [rowOf, List.findIdx?_eq_some_iff_getElem]
    exact ⟨hi, h, fun j hj => by rw [hno j (by omega) hj]; decide⟩
  rw [ofL, this]
theorem ofL_no (x : List UInt8) (hno : ∀ j (hj : j < labs.length), (labs[j]).contains x = false) : ofL x = (0, 40) := by
  have : rowOf x = none := by
    rw [rowOf, List.findIdx?_eq_none_iff]
    intro r hr
    obtain ⟨j, hj, rfl⟩ := List.getElem_of_mem hr
    exact hno j hj
  rw [ofL, this]
theorem rowOf_none (x : List UInt8) (h : ∀ r ∈ labs, ∀ y ∈ r, y ≠ x) : ofL x = (0, 40) := by
  refine ofL_no x fun j hj => ?_
  have h1 := h _ (List.getElem_mem hj)
  cases hc : (labs[j]).contains x with
  | false => rfl
  | true => exact absurd rfl (h1 x (List.contains_iff_mem.1 hc))
/-- What holds of each label holds of every text that is one. -/
theorem lab_all (p : List UInt8 → Bool) (h : (labs.all fun r => r.all p) = true) (x : List UInt8) (hx : ofL x ≠ (0, 40)) : p x = true := by
  by_cases hm : ∀ r ∈ labs, ∀ y ∈ r, y ≠ x
  · exact absurd (rowOf_none x hm) hx
  · simp only [Classical.not_forall] at hm
    obtain ⟨r, hr, y, hy, he⟩ := hm
    have he : y = x := Classical.not_not.1 he
    subst he
    exact List.all_eq_true.1 (List.all_eq_true.1 h r hr) y hy
theorem lab_no (p : List UInt8 → Bool) (h : (labs.all fun r => r.all p) = true) (x : List UInt8) (hx : p x = false) : ofL x = (0, 40) := by
  apply Classical.byContradiction
  intro hc
  rw [lab_all p h x hc] at hx
  cases hx
theorem enc_high (r : Int) (h : 128 ≤ r) : ∃ c ∈ Go.Lib.encodeRune r, 128 ≤ c.toNat := by
  have key : ∃ x ∈ Go.Lib.encodeRuneZ r, 128 ≤ x ∧ x < 256 := by
    have hb := Go.Lib.encodeRuneZ_byte r
    by_cases h2 : r ≤ 2047
    · rw [Go.Lib.encodeRuneZ_two h h2] at hb ⊢
      exact ⟨192 + r / 64, by simp, by omega, (hb _ (by simp)).2⟩
    · by_cases h3 : (2048 ≤ r ∧ r < 55296) ∨ (57343 < r ∧ r ≤ 65535)
      · rw [Go.Lib.encodeRuneZ_three h3] at hb ⊢
        exact ⟨224 + r / 4096, by simp, by omega, (hb _ (by simp)).2⟩
      · by_cases h4 : 65536 ≤ r ∧ r ≤ 1114111
        · rw [Go.Lib.encodeRuneZ_four h4.1 h4.2] at hb ⊢
          exact ⟨240 + r / 262144, by simp, by omega, (hb _ (by simp)).2⟩
        · rw [Go.Lib.encodeRuneZ_bad (by omega)]
          exact ⟨239, by simp, by omega, by omega⟩
  obtain ⟨x, hx, h1, h2⟩ := key
  refine ⟨_, List.mem_map.2 ⟨x, hx, rfl⟩, ?_⟩
  simp only [Nat.toUInt8, UInt8.toNat_ofNat']
  omega
theorem smFrom_high (s : ByteArray) : ∀ f pos, s.size ≤ pos + f → (∃ c ∈ s.data.toList.drop pos, 128 ≤ c.toNat) → ∃ c ∈ smFrom s f pos, 128 ≤ c.toNat := by
  intro f
  induction f with
  | zero =>
    intro pos h hc
    obtain ⟨c, hc, _⟩ := hc
    rw [List.drop_of_length_le (by rw [dlen]; omega)] at hc
    cases hc
  | succ f ih =>
    intro pos h hc
    by_cases hp : pos < s.size
    · have hp' : pos < s.data.toList.length := by rw [dlen]; exact hp
      rw [smFrom_step s f pos hp]
      by_cases ha : (s[pos]'hp).toNat < 128
      · rw [decode_ascii s pos hp ha]
        rw [List.drop_eq_getElem_cons hp'] at hc
        obtain ⟨c, hc, h1⟩ := hc
        rcases List.mem_cons.1 hc with rfl | hc
        · have : s[pos]'hp = s.data.toList[pos]'hp' := by simp; rfl
          rw [this] at ha
          omega
        · obtain ⟨c', hc', h2⟩ := ih (pos + 1) (by omega) ⟨c, hc, h1⟩
          exact ⟨c', List.mem_append.2 (.inr hc'), h2⟩
      · have hd := decode_high s pos hp (by omega)
        have hr : lowR ((Utf8.decode s pos).1 : Int) = ((Utf8.decode s pos).1 : Int) := by rw [lowR, if_neg (by omega)]
        obtain ⟨c, hc, h1⟩ := enc_high ((Utf8.decode s pos).1 : Int) (by omega)
        exact ⟨c, List.mem_append.2 (.inl (by rw [hr]; exact hc)), h1⟩
    · obtain ⟨c, hc, _⟩ := hc
      rw [List.drop_of_length_le (by rw [dlen]; omega)] at hc
      cases hc
theorem lowB_high (c : UInt8) (h : 128 ≤ c.toNat) : 128 ≤ (lowB c).toNat := by
  have := lowB_cases (fun c => decide (128 ≤ c.toNat → 128 ≤ (lowB c).toNat)) (by decide +kernel) c
  exact (of_decide_eq_true this) h
theorem labs_ascii : (labs.all fun r => r.all fun y => y.all fun c => decide (c.toNat < 128)) = true := by decide +kernel
theorem ofL_high (x : List UInt8) (h : ∃ c ∈ x, 128 ≤ c.toNat) : ofL x = (0, 40) := by
  refine lab_no _ labs_ascii x ?_
  rw [List.all_eq_false]
  obtain ⟨c, hc, h1⟩ := h
  exact ⟨c, hc, by simp; omega⟩
/-- Turned small rune by rune or byte by byte: the same label or none. -/
theorem ofL_small (s : ByteArray) : ofL (smG s) = ofL (low s.data.toList) := by
  by_cases ha : ∀ c ∈ s.data.toList, c.toNat < 128
  · rw [smG_ascii s ha]
  · have hc : ∃ c ∈ s.data.toList, 128 ≤ c.toNat := by
      apply Classical.byContradiction
      intro h
      exact ha fun c hc => Nat.lt_of_not_le fun h' => h ⟨c, hc, h'⟩
    rw [show smG s = smFrom s s.size 0 from rfl, ofL_high _ (smFrom_high s s.size 0 (by omega) (by simpa using hc))]
    obtain ⟨c, hc, h1⟩ := hc
    rw [show low s.data.toList = s.data.toList.map lowB from rfl, ofL_high _ ⟨lowB c, List.mem_map.2 ⟨c, hc, rfl⟩, lowB_high c h1⟩]
theorem labs_one : (labs.all fun r => r.all fun y => (Go.Lib.fieldsD y).length == 1) = true := by decide +kernel
/-- What is no one field is no label. -/
theorem ofL_fields (x : List UInt8) (h : ¬ (Go.Lib.fieldsD x).length = 1) : ofL x = (0, 40) := lab_no _ labs_one x (by simpa using h)
/-- The blanks of a label. -/
def isBl (c : UInt8) : Bool := c == 9 || c == 10 || c == 12 || c == 13 || c == 32
def trimBl (l : List UInt8) : List UInt8 := ((l.dropWhile isBl).reverse.dropWhile isBl).reverse
theorem isBl_cut (c : UInt8) : isBl c = [9, 10, 12, 13, 32].contains c := by rw [Bool.eq_iff_iff]; simp [isBl, Bool.or_assoc]
theorem rdrop_cons (p : UInt8 → Bool) (c : UInt8) (t : List UInt8) : ((c :: t).reverse.dropWhile p).reverse = if (t.reverse.dropWhile p).isEmpty && p c then [] else c :: (t.reverse.dropWhile p).reverse := by
  rw [List.reverse_cons, List.dropWhile_append]
  cases h : (t.reverse.dropWhile p).isEmpty
  · simp
  · rw [if_pos rfl]
    have e : t.reverse.dropWhile p = [] := List.isEmpty_iff.1 h
    cases hp : p c <;> simp [e, hp]
theorem trim_comm (p : UInt8 → Bool) (l : List UInt8) : ((l.reverse.dropWhile p).reverse).dropWhile p = ((l.dropWhile p).reverse.dropWhile p).reverse := by
  induction l with
  | nil => rfl
  | cons c t ih =>
    rw [rdrop_cons]
    cases hp : p c
    · rw [Bool.and_false, if_neg (by simp), List.dropWhile_cons_of_neg (by simp [hp]), List.dropWhile_cons_of_neg (by simp [hp]), rdrop_cons, hp, Bool.and_false, if_neg (by simp)]
    · rw [Bool.and_true, List.dropWhile_cons_of_pos hp, ← ih]
      cases he : (t.reverse.dropWhile p).isEmpty
      · rw [if_neg (by simp), List.dropWhile_cons_of_pos hp]
      · rw [if_pos rfl, List.isEmpty_iff.1 he]
        rfl
theorem trim_cut (l : List UInt8) : Go.Lib.trimS l [9, 10, 12, 13, 32] = trimBl l := by
  have e : (fun c => [9, 10, 12, 13, 32].contains c) = isBl := funext fun c => (isBl_cut c).symm
  unfold trimBl Go.Lib.trimS Go.Lib.trimRightS Go.Lib.trimLeftS
  rw [e]
  exact trim_comm isBl l
end Go.Proofs.YtcmhfcnjfhcpdaaDoor
