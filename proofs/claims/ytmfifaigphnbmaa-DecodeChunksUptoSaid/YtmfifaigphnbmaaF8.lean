/- The walk of the law that the code points of any bytes are the reference's, in every encoding. -/
import Derived.Test.YtmfifaigphnbmaaF7
import Derived.Test.YtmfifaigphnbmaaE4
namespace Go.Proofs.Ytmfifaigphnbmaa
open Go.RowKit
theorem u8s_read {w w1 : World} {oa : Option Addr} {L : List UInt8} (hR : RdB w oa L) (hb : Below w.heap.size w w1) : ∀ j u, (u8s L)[j]? = some u → ∃ ad, oa = some ad ∧ w1.cell? (ad.add j) = some u := fun j u hu => by
  have hj : j < L.length := by
    rcases Nat.lt_or_ge j L.length with h | h
    · exact h
    · rw [List.getElem?_eq_none (by rw [u8s_length]; exact h)] at hu; cases hu
  obtain ⟨ad, h1, h2⟩ := (hR.below hb) j hj
  refine ⟨ad, h1, ?_⟩
  rw [h2, ← hu]
  simp [u8s, hj]
theorem RdB.own {w : World} {base n c : Nat} {oa : Option Addr} {L : List UInt8} {m : Nat} (h : w.ownsRow base 5 1 (.slice oa m c) n (u8s L)) : RdB w oa L := fun j hj => (own_read h).2 j _ (by simp [u8s, hj])
set_option maxHeartbeats 1000000 in
theorem texts4_any (k : Int) (oa : Option Addr) (n cap : Nat) (L : List UInt8) (w : World) (hn : n = L.length) (hl : 2 * L.length + 2 ≤ 34359738368) (hR : RdB w oa L) (X : List Int) (hX : X.length ≤ 2 * L.length + 1)
    (F : ∀ (W : World) (oa : Option Addr) (n cap : Nat), n = L.length → RdB W oa L → Calls Try.prog 13 #[.int .i64 k, .slice oa n cap] W fun e w' => ∃ v, e = .returned (.tuple #[v, .int .i64 0]) ∧ w'.ownsRow W.heap.size 21 1 v X.length (X.map (Value.int .i32)) ∧ Below W.heap.size W w')
    (G : ∀ (W : World) (oa : Option Addr) (n cap : Nat), n = L.length → RdB W oa L → Calls Try.prog 14 #[.int .i64 k, .slice oa n cap] W fun e w' => ∃ v, e = .returned (.tuple #[v, .int .i64 0]) ∧ w'.ownsRow W.heap.size 21 1 v X.length (X.map (Value.int .i32)) ∧ Below W.heap.size W w') :
    Calls Try.prog 4 #[.int .i64 k, .slice oa n cap] w fun e w' => e = .returned (.bool true) ∧ Below w.heap.size w w' := by
  have HO := own_empty w w.heap.size 5 1 w.heap.size rfl (Nat.le_refl _)
  have HB := bal (Below.refl w.heap.size w) (.cells #[] 5)
  have hnl : (u8s L).length = n * 1 := by rw [u8s_length, hn, Nat.mul_one]
  have hrd := u8s_read hR HB
  have hhl : (0 + n) * 1 ≤ 140737488355328 := by omega
  have hbs : w.heap.size ≤ (w.alloc (.cells #[] 5)).heap.size := by simp
  have hxm : X.length ≤ maxLen := by unfold maxLen; omega
  have HN := Go.Lib.hid hn
  clear hn
  go_enter Try.func4, Try.ntmps4
  go_wp2_with (at_builtin; refine step_append_slice (w0 := w) rfl w.heap.size (.tmp 11) (.tmp 12) 22 5 (.int .u8 0) 1 1 rfl Try.underlying22 Try.info5 rfl (by decide) (by decide) (.slice (some ⟨w.heap.size, 0, none⟩) 0 0) 0 n cap oa [] (u8s L) rfl rfl hnl hrd (u8_one L) HO HB hbs hhl ?_; intro v1 w1 hown hb1; rw [Nat.zero_add, List.nil_append] at hown; obtain ⟨oa1, c1, rfl⟩ := own_slice hown)
  refine (F _ _ n _ HN.out (RdB.own hown)).mono ?_
  rintro e w2 ⟨v2, rfl, hown2, hb2⟩
  obtain ⟨oa2, c2, rfl⟩ := own_slice hown2
  have hB2 := hb1.trans (hb2.mono hb1.size)
  have G2 := G w2 oa n cap HN.out (hR.below hB2)
  clear G F
  go_wp2_with fail
  refine G2.mono ?_
  rintro e w3 ⟨v3, rfl, hown3, hb3⟩
  obtain ⟨oa3, c3, rfl⟩ := own_slice hown3
  have hB3 := btr hB2 hb3
  have R := runes15 oa2 oa3 X.length c2 c3 X w3 rfl hxm (RdR.own (own_below hown2 hb3)) (RdR.own hown3)
  clear G2 hown hown2 hown3 hb2 hb3 hb1 hxm hX
  go_wp2_with fail
  refine R.mono ?_
  rintro e w4 ⟨rfl, hb4⟩
  have hB4 := btr hB3 hb4
  go_wp2_with fail
  refine (awake16 w4).mono ?_
  rintro e w5 ⟨rfl, hb5⟩
  go_wp2
  go_ret
  exact ⟨rfl, btr hB4 hb5⟩
theorem text13_no (k : Int) (h : k < 0 ∨ 6 < k) (oa : Option Addr) (n cap : Nat) (w : World) :
    Calls Try.prog 13 #[.int .i64 k, .slice oa n cap] w fun e w' => e = .returned (.tuple #[.slice none 0 0, .int .i64 1]) ∧ Below w.heap.size w w' := by
  have N : Calls Try.prog 17 #[.int .i64 k] w fun e w' => e = .returned (.tuple #[.pointer none, .int .i64 1]) ∧ w = w' := by
    rcases h with h | h
    all_goals
      go_enter Try.func17, Try.ntmps17
      go_wp2
      all_goals go_ret2
      all_goals exact ⟨rfl, rfl⟩
  clear h
  go_enter Try.func13, Try.ntmps13
  go_wp2_with (go_at_call 17; (with_reducible refine N.mono ?_); rintro e w1 ⟨rfl, rfl⟩)
  go_ret2
  exact ⟨rfl, Below.refl _ _⟩
set_option maxHeartbeats 1000000 in
theorem texts4_no (k : Int) (h : k < 0 ∨ 6 < k) (oa : Option Addr) (n cap : Nat) (L : List UInt8) (w : World) (hn : n = L.length) (hl : 2 * L.length + 2 ≤ 34359738368) (hR : RdB w oa L) :
    Calls Try.prog 4 #[.int .i64 k, .slice oa n cap] w fun e w' => e = .returned (.bool true) ∧ Below w.heap.size w w' := by
  have HO := own_empty w w.heap.size 5 1 w.heap.size rfl (Nat.le_refl _)
  have HB := bal (Below.refl w.heap.size w) (.cells #[] 5)
  have hnl : (u8s L).length = n * 1 := by rw [u8s_length, hn, Nat.mul_one]
  have hrd := u8s_read hR HB
  have hhl : (0 + n) * 1 ≤ 140737488355328 := by omega
  have hbs : w.heap.size ≤ (w.alloc (.cells #[] 5)).heap.size := by simp
  have HN := Go.Lib.hid hn
  have HK := Go.Lib.hid h
  clear hn h
  go_enter Try.func4, Try.ntmps4
  go_wp2_with (at_builtin; refine step_append_slice (w0 := w) rfl w.heap.size (.tmp 11) (.tmp 12) 22 5 (.int .u8 0) 1 1 rfl Try.underlying22 Try.info5 rfl (by decide) (by decide) (.slice (some ⟨w.heap.size, 0, none⟩) 0 0) 0 n cap oa [] (u8s L) rfl rfl hnl hrd (u8_one L) HO HB hbs hhl ?_; intro v1 w1 hown hb1; rw [Nat.zero_add, List.nil_append] at hown; obtain ⟨oa1, c1, rfl⟩ := own_slice hown)
  refine (text13_no k HK.out _ _ _ _).mono ?_
  rintro e w2 ⟨rfl, hb2⟩
  have hB2 := hb1.trans (hb2.mono hb1.size)
  clear hown hb2 hb1
  go_wp2_with fail
  refine (rtext14_no k HK.out _ _ _ _).mono ?_
  rintro e w3 ⟨rfl, rfl⟩
  have R := runes15 none none 0 0 0 [] w2 rfl (by simp) (fun j hj => by cases hj) (fun j hj => by cases hj)
  go_wp2_with fail
  refine R.mono ?_
  rintro e w4 ⟨rfl, hb4⟩
  have hB4 := btr hB2 hb4
  go_wp2_with fail
  refine (awake16 w4).mono ?_
  rintro e w5 ⟨rfl, hb5⟩
  go_wp2
  go_ret
  exact ⟨rfl, btr hB4 hb5⟩
end Go.Proofs.Ytmfifaigphnbmaa
