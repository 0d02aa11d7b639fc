/- A text turned small, rune by rune or byte by byte, is the same word of ASCII letters or none. -/
import Derived.Test.YtpicgchcdbginaaDoorE1
namespace Go.Proofs.YtpicgchcdbginaaDoor
open Go.RowKit
theorem enc_high (r : Int) (h : 128 ≤ r) : ∃ c ∈ Lib.encodeRune r, 128 ≤ c.toNat := by
  have key : ∃ x ∈ Lib.encodeRuneZ r, 128 ≤ x ∧ x < 256 := by
    have hb := Lib.encodeRuneZ_byte r
    by_cases h2 : r ≤ 2047
    · rw [Lib.encodeRuneZ_two h h2] at hb ⊢
      exact ⟨192 + r / 64, by simp, by omega, (hb _ (by simp)).2⟩
    · by_cases h3 : (2048 ≤ r ∧ r < 55296) ∨ (57343 < r ∧ r ≤ 65535)
      · rw [Lib.encodeRuneZ_three h3] at hb ⊢
        exact ⟨224 + r / 4096, by simp, by omega, (hb _ (by simp)).2⟩
      · by_cases h4 : 65536 ≤ r ∧ r ≤ 1114111
        · rw [Lib.encodeRuneZ_four h4.1 h4.2] at hb ⊢
          exact ⟨240 + r / 262144, by simp, by omega, (hb _ (by simp)).2⟩
        · rw [Lib.encodeRuneZ_bad (by omega)]
          exact ⟨239, by simp, by omega, by omega⟩
  obtain ⟨x, hx, h1, h2⟩ := key
  refine ⟨_, List.mem_map.2 ⟨x, hx, rfl⟩, ?_⟩
  simp only [Nat.toUInt8, UInt8.toNat_ofNat']
  omega
theorem smFrom_high (s : ByteArray) : ∀ f pos, s.size ≤ pos + f → (∃ c ∈ s.data.toList.drop pos, 128 ≤ c.toNat) → ∃ c ∈ smFrom s f pos, 128 ≤ c.toNat := by
  intro f
  induction f with
  | zero =>
    intro pos h hc
    obtain ⟨c, hc, _⟩ := hc
    rw [List.drop_of_length_le (by rw [dlen]; omega)] at hc
    cases hc
  | succ f ih =>
    intro pos h hc
    by_cases hp : pos < s.size
    · have hp' : pos < s.data.toList.length := by rw [dlen]; exact hp
      rw [smFrom_step s f pos hp]
      by_cases ha : (s[pos]'hp).toNat < 128
      · rw [decode_ascii s pos hp ha]
        rw [List.drop_eq_getElem_cons hp'] at hc
        obtain ⟨c, hc, h1⟩ := hc
        rcases List.mem_cons.1 hc with rfl | hc
        · have : s[pos]'hp = s.data.toList[pos]'hp' := by simp; rfl
          rw [this] at ha
          omega
        · obtain ⟨c', hc', h2⟩ := ih (pos + 1) (by omega) ⟨c, hc, h1⟩
          exact ⟨c', List.mem_append.2 (.inr hc'), h2⟩
      · have hd := decode_high s pos hp (by omega)
        have hr : lowR ((Utf8.decode s pos).1 : Int) = ((Utf8.decode s pos).1 : Int) := by rw [lowR, if_neg (by omega)]
        obtain ⟨c, hc, h1⟩ := enc_high ((Utf8.decode s pos).1 : Int) (by omega)
        exact ⟨c, List.mem_append.2 (.inl (by rw [hr]; exact hc)), h1⟩
    · obtain ⟨c, hc, _⟩ := hc
      rw [List.drop_of_length_le (by rw [dlen]; omega)] at hc
      cases hc
theorem lowB_high (c : UInt8) (h : 128 ≤ c.toNat) : 128 ≤ (lowB c).toNat := by
  have := lowB_cases (fun c => decide (128 ≤ c.toNat → 128 ≤ (lowB c).toNat)) (by decide +kernel) c
  exact (of_decide_eq_true this) h
/-- Of words of ASCII letters the two ways to turn a text small find the same. -/
theorem small_same (L : List ByteArray) (hL : (L.all fun t => t.toList.all fun c => decide (c.toNat < 128)) = true) (s : ByteArray) : oneB L (mkS (smG s)) = oneB L (mkS (low s.data.toList)) := by
  by_cases ha : ∀ c ∈ s.data.toList, c.toNat < 128
  · rw [smG_ascii s ha]
  · have hc : ∃ c ∈ s.data.toList, 128 ≤ c.toNat := by
      apply Classical.byContradiction
      intro h
      exact ha fun c hc => Nat.lt_of_not_le fun h' => h ⟨c, hc, h'⟩
    have no : ∀ l : List UInt8, (∃ c ∈ l, 128 ≤ c.toNat) → oneB L (mkS l) = false := by
      intro l ⟨c, hc, h1⟩
      rw [oneB, List.any_eq_false]
      intro t ht he
      rw [tl_mkS] at he
      have e := eq_of_beq he
      have h2 := List.all_eq_true.1 hL t ht
      rw [e] at h2
      have h3 := of_decide_eq_true (List.all_eq_true.1 h2 c hc)
      omega
    rw [smG, no _ (smFrom_high s s.size 0 (by omega) (by simpa using hc))]
    obtain ⟨c, hc, h1⟩ := hc
    rw [low, no _ ⟨lowB c, List.mem_map.2 ⟨c, hc, rfl⟩, lowB_high c h1⟩]
end Go.Proofs.YtpicgchcdbginaaDoor
