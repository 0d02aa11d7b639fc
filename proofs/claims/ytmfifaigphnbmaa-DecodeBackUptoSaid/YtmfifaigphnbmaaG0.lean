/- Code points as bytes, and read again: plain laws. -/
import Derived.Test.YtmfifaigphnbmaaF0
import Derived.Lib.RuneBytes
import Derived.Laws.Cover4
namespace Go.Proofs.Ytmfifaigphnbmaa
/-- Code points as bytes. -/
def encs (X : List Int) : List UInt8 := X.flatMap Go.Lib.encodeRune
theorem u8_ofNat_toNat (n : Nat) : (UInt8.ofNat n) = n.toUInt8 := rfl
theorem encode_rune (r : Int) : (Utf8.encode r).data.toList = Go.Lib.encodeRune r := by
  unfold Utf8.encode Go.Lib.encodeRune
  by_cases hv : Utf8.valid r = true
  · have hv' : (0 ≤ r ∧ r < 55296) ∨ (57344 ≤ r ∧ r ≤ 1114111) := by simp [Utf8.valid] at hv; omega
    unfold Go.Lib.encodeRuneZ
    simp only [hv, if_true]
    by_cases h1 : r < 128
    · rw [if_pos (show r.toNat < 128 by omega), if_pos (by omega)]; simp
    by_cases h2 : r < 2048
    · rw [if_neg (show ¬ r.toNat < 128 by omega), if_pos (show r.toNat < 2048 by omega), if_neg (by omega), if_pos (by omega)]
      have e1 : (192 + r / 64).toNat = 192 + r.toNat / 64 := by omega
      have e2 : (128 + r % 64).toNat = 128 + r.toNat % 64 := by omega
      simp only [List.map_cons, List.map_nil, e1, e2]
    by_cases h3 : r < 65536
    · rw [if_neg (show ¬ r.toNat < 128 by omega), if_neg (show ¬ r.toNat < 2048 by omega), if_pos (show r.toNat < 65536 by omega), if_neg (by omega), if_neg (by omega), if_pos (by omega)]
      have e1 : (224 + r / 4096).toNat = 224 + r.toNat / 4096 := by omega
      have e2 : (128 + r / 64 % 64).toNat = 128 + r.toNat / 64 % 64 := by omega
      have e3 : (128 + r % 64).toNat = 128 + r.toNat % 64 := by omega
      simp only [List.map_cons, List.map_nil, e1, e2, e3]
    · rw [if_neg (show ¬ r.toNat < 128 by omega), if_neg (show ¬ r.toNat < 2048 by omega), if_neg (show ¬ r.toNat < 65536 by omega), if_neg (by omega), if_neg (by omega), if_neg (by omega), if_pos (by omega)]
      have e0 : (240 + r / 262144).toNat = 240 + r.toNat / 262144 := by omega
      have e1 : (128 + r / 4096 % 64).toNat = 128 + r.toNat / 4096 % 64 := by omega
      have e2 : (128 + r / 64 % 64).toNat = 128 + r.toNat / 64 % 64 := by omega
      have e3 : (128 + r % 64).toNat = 128 + r.toNat % 64 := by omega
      simp only [List.map_cons, List.map_nil, e0, e1, e2, e3]
  · have hv' : ¬ ((0 ≤ r ∧ r < 55296) ∨ (57344 ≤ r ∧ r ≤ 1114111)) := by simp [Utf8.valid] at hv; omega
    rw [if_neg hv, Go.Lib.encodeRuneZ_bad (by omega)]
    rfl
theorem runesBytes_fold (X : List Int) (r : ByteArray) : (X.foldl (fun r n => r ++ Utf8.encode n) r).data.toList = r.data.toList ++ encs X := by
  induction X generalizing r with
  | nil => simp [encs]
  | cons x t ih =>
    rw [List.foldl_cons, ih]
    simp only [encs, List.flatMap_cons, ByteArray.data_append, Array.toList_append, encode_rune, List.append_assoc]
theorem runesBytes_encs (X : List Int) : (runesBytes X).data.toList = encs X := by
  unfold runesBytes
  rw [runesBytes_fold]
  rfl
theorem encodeRune_len (r : Int) : (Go.Lib.encodeRune r).length ≤ 4 := by
  have := Go.Lib.encodeRuneZ_length r
  simp [Go.Lib.encodeRune]
  omega
theorem encs_len (X : List Int) : (encs X).length ≤ 4 * X.length := by
  induction X with
  | nil => simp [encs]
  | cons x t ih =>
    have := encodeRune_len x
    simp only [encs, List.flatMap_cons, List.length_append, List.length_cons] at *
    omega
theorem encs_snoc (X : List Int) (r : Int) : encs (X ++ [r]) = encs X ++ Go.Lib.encodeRune r := by simp [encs]
theorem nums_encode (r : Int) : nums (Go.Lib.encodeRune r) = Go.Lib.encodeRuneZ r := by
  have h := Go.Lib.encodeRuneZ_byte r
  unfold nums Go.Lib.encodeRune
  rw [List.map_map]
  conv => rhs; rw [← List.map_id (Go.Lib.encodeRuneZ r)]
  apply List.map_congr_left
  intro x hx
  have := h x hx
  have e : x.toNat.toUInt8.toNat = x.toNat := by rw [Nat.toUInt8, UInt8.toNat_ofNat']; omega
  simp only [Function.comp, e, id]
  omega
/-- What can't be is a mark. -/
def fixR (r : Int) : Int := if r < 0 ∨ 1114111 < r ∨ (55296 ≤ r ∧ r ≤ 57343) then 65533 else r
theorem run_cons {S : Type} (f : S → Int → S × List Int) (s : S) (c : Int) (r : List Int) : run f s (c :: r) = ((run f (f s c).1 r).1, (f s c).2 ++ (run f (f s c).1 r).2) := rfl
theorem tells8_fresh0 (c : Int) (rest : List Int) (h : c < 128) : tells8 U8.zero (c :: rest) = c :: tells8 U8.zero rest := by
  rw [tells8_cons, step8_clean _ _ rfl]
  simp only [U8.fresh, if_pos h]
  rfl
theorem tells8_in (s : U8) (c : Int) (rest : List Int) (hw : 0 < s.w) (h1 : s.lo ≤ c) (h2 : c ≤ s.hi) : tells8 s (c :: rest) = (if s.w = 1 then [64 * s.h + (c - 128)] else []) ++ tells8 ⟨64 * s.h + (c - 128), s.w - 1, 128, 191⟩ rest := by
  rw [tells8_cons, U8.step, if_pos hw, if_pos ⟨h1, h2⟩]
theorem tells8_rune (r : Int) (rest : List Int) : tells8 U8.zero (Go.Lib.encodeRuneZ r ++ rest) = fixR r :: tells8 U8.zero rest := by
  by_cases h0 : r < 0 ∨ (55296 ≤ r ∧ r ≤ 57343) ∨ 1114111 < r
  · rw [Go.Lib.encodeRuneZ_bad h0, fixR, if_pos (by omega)]
    simp only [List.cons_append, List.nil_append]
    rw [tells8_cons, show U8.zero.step 239 = (⟨15, 2, 128, 191⟩, []) from rfl]
    simp only [List.nil_append]
    rw [tells8_in _ _ _ (by decide) (by decide) (by decide), tells8_in _ _ _ (by decide) (by decide) (by decide)]
    exact congrArg (65533 :: ·) (tells8_zero rest _ rfl)
  have hf : fixR r = r := by rw [fixR, if_neg (by omega)]
  rw [hf]
  by_cases h1 : r < 128
  · rw [Go.Lib.encodeRuneZ_one (by omega) (by omega)]
    exact tells8_fresh0 r rest h1
  by_cases h2 : r < 2048
  · rw [Go.Lib.encodeRuneZ_two (by omega) (by omega)]
    simp only [List.cons_append, List.nil_append]
    rw [tells8_cons, step8_clean _ _ rfl]
    have hs : U8.zero.fresh (192 + r / 64) = (⟨r / 64, 1, 128, 191⟩, []) := by
      unfold U8.fresh
      rw [if_neg (by omega), if_pos (by omega)]
      simp only [Prod.mk.injEq, and_true, U8.mk.injEq]
      omega
    rw [hs]
    simp only [List.nil_append]
    rw [tells8_in _ _ _ (by show (0 : Int) < 1; decide) (by show (128 : Int) ≤ _; omega) (by show _ ≤ (191 : Int); omega), tells8_zero rest _ rfl]
    simp only [if_true, List.cons_append, List.nil_append, List.cons.injEq, and_true]
    omega
  by_cases h3 : r < 65536
  · rw [Go.Lib.encodeRuneZ_three (by omega)]
    simp only [List.cons_append, List.nil_append]
    rw [tells8_cons, step8_clean _ _ rfl]
    obtain ⟨lo, hi, hs, h4, h5⟩ : ∃ lo hi : Int, U8.zero.fresh (224 + r / 4096) = (⟨r / 4096, 2, lo, hi⟩, []) ∧ lo ≤ 128 + r / 64 % 64 ∧ 128 + r / 64 % 64 ≤ hi := by
      by_cases a : r / 4096 = 0
      · exact ⟨160, 191, by rw [a]; rfl, by omega, by omega⟩
      by_cases b : r / 4096 = 13
      · exact ⟨128, 159, by rw [b]; rfl, by omega, by omega⟩
      · refine ⟨128, 191, ?_, by omega, by omega⟩
        unfold U8.fresh
        rw [if_neg (by omega), if_neg (by omega), if_neg (by omega), if_neg (by omega), if_pos (by omega)]
        simp only [Prod.mk.injEq, and_true, U8.mk.injEq]
        omega
    rw [hs]
    simp only [List.nil_append]
    rw [tells8_in _ _ _ (by show (0 : Int) < 2; decide) h4 h5]
    simp only [if_neg (show ¬ (2 : Int) = 1 by decide), List.nil_append]
    rw [tells8_in _ _ _ (by show (0 : Int) < 2 - 1; decide) (by show (128 : Int) ≤ _; omega) (by show _ ≤ (191 : Int); omega), tells8_zero rest _ rfl]
    simp only [if_pos (show (2 : Int) - 1 = 1 by decide), List.cons_append, List.nil_append, List.cons.injEq, and_true]
    omega
  · rw [Go.Lib.encodeRuneZ_four (by omega) (by omega)]
    simp only [List.cons_append, List.nil_append]
    rw [tells8_cons, step8_clean _ _ rfl]
    obtain ⟨lo, hi, hs, h4, h5⟩ : ∃ lo hi : Int, U8.zero.fresh (240 + r / 262144) = (⟨r / 262144, 3, lo, hi⟩, []) ∧ lo ≤ 128 + r / 4096 % 64 ∧ 128 + r / 4096 % 64 ≤ hi := by
      by_cases a : r / 262144 = 0
      · exact ⟨144, 191, by rw [a]; rfl, by omega, by omega⟩
      by_cases b : r / 262144 = 4
      · exact ⟨128, 143, by rw [b]; rfl, by omega, by omega⟩
      · refine ⟨128, 191, ?_, by omega, by omega⟩
        unfold U8.fresh
        rw [if_neg (by omega), if_neg (by omega), if_neg (by omega), if_neg (by omega), if_neg (by omega), if_neg (by omega), if_pos (by omega)]
        simp only [Prod.mk.injEq, and_true, U8.mk.injEq]
        omega
    rw [hs]
    simp only [List.nil_append]
    rw [tells8_in _ _ _ (by show (0 : Int) < 3; decide) h4 h5]
    simp only [if_neg (show ¬ (3 : Int) = 1 by decide), List.nil_append]
    rw [tells8_in _ _ _ (by show (0 : Int) < 3 - 1; decide) (by show (128 : Int) ≤ _; omega) (by show _ ≤ (191 : Int); omega)]
    simp only [if_neg (show ¬ (3 : Int) - 1 = 1 by decide), List.nil_append]
    rw [tells8_in _ _ _ (by show (0 : Int) < 3 - 1 - 1; decide) (by show (128 : Int) ≤ _; omega) (by show _ ≤ (191 : Int); omega), tells8_zero rest _ rfl]
    simp only [if_pos (show (3 : Int) - 1 - 1 = 1 by decide), List.cons_append, List.nil_append, List.cons.injEq, and_true]
    omega
theorem told8_encs (X : List Int) : told8 (encs X) = X.map fixR := by
  rw [told8_tells]
  induction X with
  | nil => rfl
  | cons x t ih =>
    have e : nums (encs (x :: t)) = Go.Lib.encodeRuneZ x ++ nums (encs t) := by
      rw [← nums_encode]
      simp [encs, nums]
    rw [e, tells8_rune, ih]
    rfl
end Go.Proofs.Ytmfifaigphnbmaa
