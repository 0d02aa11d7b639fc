/- The reference's decoder is made, fed, ended; all of a text. -/
import Derived.Test.YtmfifaigphnbmaaF6
import Derived.Test.YtmfifaigphnbmaaE5
namespace Go.Proofs.Ytmfifaigphnbmaa
open Go.RowKit
/-- The reference's take tells by T. -/
def Takes (T : List Int → List Int) (enc : Int) : Prop := ∀ (d : Nat) (over fin : Bool) (oa0 : Option Addr) (m0 cap0 : Nat) (L : List UInt8) (w : World) (_ : DecR w d enc (.slice oa0 m0 cap0) over) (_ : m0 = L.length) (_ : m0 ≤ cap0) (_ : L.length ≤ 34359738368) (_ : RdN w d w.heap.size oa0 L),
    Calls Try.prog 27 #[.pointer (some ⟨d, 0, none⟩), .bool fin] w fun e w' => Taken T d enc over L fin w.heap.size w e w'
theorem takes_0 : Takes (tells8 U8.zero) 0 := take27_0
theorem takes_1 : Takes (tells16 false U16.zero) 1 := take27_1
theorem takes_2 : Takes (tells16 true U16.zero) 2 := take27_2
theorem takes_3 : Takes (List.map (one upW)) 3 := take27_3
theorem takes_4 : Takes (List.map (one upL)) 4 := take27_4
theorem takes_5 : Takes (List.map (one upC)) 5 := take27_5
theorem takes_6 : Takes (List.map (one upU)) 6 := take27_6
theorem rnew23 (k : Int) (h0 : 0 ≤ k) (h6 : k ≤ 6) (w : World) : Calls Try.prog 23 #[.int .i64 k] w fun e w' => e = .returned (.tuple #[.pointer (some ⟨w.heap.size, 0, none⟩), .int .i64 0]) ∧ w' = w.alloc (.cells #[.int .i64 k, .slice none 0 0, .bool false] 59) := by
  go_enter Try.func23, Try.ntmps23
  go_wp2
  go_ret2
  exact ⟨rfl, rfl⟩
theorem rnew23_no (k : Int) (h : k < 0 ∨ 6 < k) (w : World) : Calls Try.prog 23 #[.int .i64 k] w fun e w' => e = .returned (.tuple #[.pointer none, .int .i64 1]) ∧ w' = w := by
  rcases h with h | h
  all_goals
    go_enter Try.func23, Try.ntmps23
    go_wp2
    all_goals go_ret2
    all_goals exact ⟨rfl, rfl⟩
theorem RdN.own {w : World} {base n m c d : Nat} {oa : Option Addr} {L : List UInt8} (h : w.ownsRow base 5 1 (.slice oa m c) n (u8s L)) (hd : d < base) : RdN w d w.heap.size oa L ∧ m = n ∧ (0 < n → n ≤ c) ∧ n = L.length := by
  have hr := own_read h
  have hn : n = L.length := by have := h.1; rw [u8s_length] at this; omega
  refine ⟨⟨fun j hj => hr.2 j _ (by simp [u8s, hj]), ?_⟩, hr.1, ?_, hn⟩
  · rintro ad rfl
    have hb := own_base h ad.block
    have hlt := own_lt h ad.block
    rcases h.2 with ⟨hv, _⟩ | ⟨g, cap, cur, hv, hg, hh, _⟩
    · cases hv
    · injection hv with e1 e2 e3
      cases e1
      exact ⟨by show g ≠ d; omega, blk_lt hh⟩
  · intro h0
    rcases h.2 with ⟨hv, hz⟩ | ⟨g, cap, cur, hv, hg, hh, hc, _⟩
    · omega
    · injection hv with e1 e2 e3
      omega
/-- What the reference's feed leaves. -/
def Fed (T : List Int → List Int) (d : Nat) (enc : Int) (L : List UInt8) (w : World) (e : Ending) (w' : World) : Prop :=
  ∃ v p X oa m cap, e = .returned (.tuple #[v, .int .i64 0]) ∧ p ≤ L.length ∧ X.length ≤ p ∧ X ++ T (nums (L.drop p)) = T (nums L) ∧ DecR w' d enc (.slice oa m cap) false ∧ m = (L.drop p).length ∧ m ≤ cap ∧ RdN w' d w'.heap.size oa (L.drop p) ∧
    w'.ownsRow w.heap.size 21 1 v X.length (X.map (Value.int .i32)) ∧ But d w.heap.size w w'
theorem RdN.more {w : World} {d B C : Nat} {oa : Option Addr} {L : List UInt8} (h : RdN w d B oa L) (hc : B ≤ C) : RdN w d C oa L := ⟨h.1, fun ad had => ⟨(h.2 ad had).1, Nat.lt_of_lt_of_le (h.2 ad had).2 hc⟩⟩
theorem fed_take {T : List Int → List Int} {enc : Int} (hT : Takes T enc) {d n : Nat} {L : List UInt8} {w w1 : World} {v1 : Value} (hdw : d < w.heap.size) (hd : DecR w d enc (.slice none 0 0) false) (hn : n = L.length) (hl : L.length ≤ 34359738368)
    (hown : w1.ownsRow w.heap.size 5 1 v1 (0 + n) ([] ++ u8s L)) (hb : Below w.heap.size w w1) : ∃ oa1 c, v1 = .slice oa1 n c ∧ Calls Try.prog 27 #[.pointer (some ⟨d, 0, none⟩), .bool false] (w1.setCell ⟨d, 1, none⟩ (.slice oa1 n c)) fun e w' =>
      ∃ v p X oa m cap, e = .returned v ∧ p ≤ L.length ∧ X.length ≤ p ∧ X ++ T (nums (L.drop p)) = T (nums L) ∧ DecR w' d enc (.slice oa m cap) false ∧ m = (L.drop p).length ∧ m ≤ cap ∧ RdN w' d w'.heap.size oa (L.drop p) ∧
        w'.ownsRow w.heap.size 21 1 v X.length (X.map (Value.int .i32)) ∧ But d w.heap.size w w' := by
  rw [Nat.zero_add, List.nil_append] at hown
  obtain ⟨oa1, c, rfl⟩ := own_slice hown
  obtain ⟨r1, _, r3, _⟩ := RdN.own hown hdw
  have hsz : (w1.setCell ⟨d, 1, none⟩ (.slice oa1 n c)).heap.size = w1.heap.size := by simp
  have hbs := hb.size
  have hd2 : DecR (w1.setCell ⟨d, 1, none⟩ (.slice oa1 n c)) d enc (.slice oa1 n c) false := set_blk (bblk hb hd) (.slice oa1 n c)
  refine ⟨oa1, c, rfl, (hT d false false oa1 n c L _ hd2 hn (by rcases Nat.eq_zero_or_pos n with h | h <;> omega) hl (by rw [hsz]; exact r1.but ((But.refl d _ w1).set 1 _))).mono ?_⟩
  rintro e w' ⟨v, p, X, oa, m, cap, rfl, h, _⟩
  have hs := h.size
  rw [hsz] at hs
  refine ⟨v, p, X, oa, m, cap, rfl, h.lp, h.lx, h.tell, h.dec, h.hm, h.hcap, h.rd.more (by rw [hsz]; exact hs), own_mono h.own (by rw [hsz]; exact hbs), ?_⟩
  exact ((But.of hb).set 1 _).trans (h.but.mono (by rw [hsz]; exact hbs))
set_option maxHeartbeats 1000000 in
theorem rfeed24 {T : List Int → List Int} {enc : Int} (hT : Takes T enc) (d : Nat) (oa : Option Addr) (n cap : Nat) (L : List UInt8) (w : World) (hd : DecR w d enc (.slice none 0 0) false) (hn : n = L.length) (hl : L.length ≤ 34359738368) (hR : RdB w oa L) :
    Calls Try.prog 24 #[.pointer (some ⟨d, 0, none⟩), .slice oa n cap] w fun e w' => Fed T d enc L w e w' := by
  have hdw : d < w.heap.size := blk_lt hd
  have c2 : w.cell? ⟨d, 2, none⟩ = some (.bool false) := blk_cells hd 2
  have c1 : w.cell? ⟨d, 1, none⟩ = some (.slice none 0 0) := blk_cells hd 1
  have f1 := blk_free hd 1
  have HO := own_empty w w.heap.size 5 1 w.heap.size rfl (Nat.le_refl _)
  have HB := bal (Below.refl w.heap.size w) (.cells #[] 5)
  have hnl : (u8s L).length = n * 1 := by rw [u8s_length, hn, Nat.mul_one]
  have hrd : ∀ j u, (u8s L)[j]? = some u → ∃ ad, oa = some ad ∧ (w.alloc (.cells #[] 5)).cell? (ad.add j) = some u := fun j u hu => by
    have hj : j < L.length := by
      rcases Nat.lt_or_ge j L.length with h | h
      · exact h
      · rw [List.getElem?_eq_none (by rw [u8s_length]; exact h)] at hu; cases hu
    obtain ⟨ad, h1, h2⟩ := (hR.below (bal (Below.refl w.heap.size w) (.cells #[] 5))) j hj
    refine ⟨ad, h1, ?_⟩
    rw [h2, ← hu]
    simp [u8s, hj]
  have hnb : n ≤ 34359738368 := by omega
  have hhl : (0 + n) * 1 ≤ 140737488355328 := by omega
  have hbs : w.heap.size ≤ (w.alloc (.cells #[] 5)).heap.size := by simp
  have HL := Go.Lib.hid hl
  have HN := Go.Lib.hid hn
  have HD := Go.Lib.hid hd
  clear hl hn hd hR
  go_enter Try.func24, Try.ntmps24
  go_wp2_with (at_builtin; refine step_append_slice (w0 := w) rfl w.heap.size (.tmp 16) (.tmp 17) 22 5 (.int .u8 0) 1 1 rfl Try.underlying22 Try.info5 rfl (by decide) (by decide) (.slice (some ⟨w.heap.size, 0, none⟩) 0 0) 0 n cap oa [] (u8s L) rfl rfl hnl hrd (u8_one L) HO HB hbs hhl ?_; intro v1 w1 hown hb1; have K := fed_take hT hdw HD.out HN.out HL.out hown hb1; obtain ⟨oa1, c, rfl, K⟩ := K; clear hown; have cc1 := bcl hb1 c1; have ff1 : w1.frozen? ⟨d, 1, none⟩ = false := (hb1.frozen (p := ⟨d, 1, none⟩) hdw).trans f1)
  refine K.mono ?_
  rintro e w2 ⟨v, p, X, oa2, m2, cap2, rfl, h1, h2, h3, h4, h5, h6, h7, h8, h9⟩
  have H := Go.Lib.hid (And.intro h3 (And.intro h5 h2))
  clear h2 h3 h5
  go_wp2
  go_ret2
  exact ⟨v, p, X, oa2, m2, cap2, rfl, h1, H.out.2.2, H.out.1, h4, H.out.2.1, h6, h7, h8, h9⟩
set_option maxHeartbeats 1000000 in
theorem rend25 {T : List Int → List Int} {enc : Int} (hT : Takes T enc) (T0 : T [] = []) (d : Nat) (oa : Option Addr) (m cap : Nat) (L : List UInt8) (w : World) (hd : DecR w d enc (.slice oa m cap) false) (hm : m = L.length) (hc : m ≤ cap) (hl : L.length ≤ 34359738368) (hR : RdN w d w.heap.size oa L) :
    Calls Try.prog 25 #[.pointer (some ⟨d, 0, none⟩)] w fun e w' => ∃ v, e = .returned (.tuple #[v, .int .i64 0]) ∧ w'.ownsRow w.heap.size 21 1 v (T (nums L)).length ((T (nums L)).map (Value.int .i32)) ∧ But d w.heap.size w w' := by
  have hdw : d < w.heap.size := blk_lt hd
  have c2 : w.cell? ⟨d, 2, none⟩ = some (.bool false) := blk_cells hd 2
  have f2 := blk_free hd 2
  have hd2 : DecR (w.setCell ⟨d, 2, none⟩ (.bool true)) d enc (.slice oa m cap) true := set_blk hd (.bool true)
  have K := hT d true true oa m cap L _ hd2 hm hc hl (by rw [show (w.setCell ⟨d, 2, none⟩ (.bool true)).heap.size = w.heap.size by simp]; exact hR.but ((But.refl d _ w).set 2 _))
  have hB := (But.refl d w.heap.size w).set 2 (.bool true)
  clear hd hd2 hm hR
  go_enter Try.func25, Try.ntmps25
  go_wp2_with fail
  refine K.mono ?_
  rintro e w2 ⟨v, p, X, oa2, m2, cap2, rfl, h, hp⟩
  have hp := hp rfl
  have e1 : X = T (nums L) := by
    rw [← h.tell, hp, List.drop_length, show nums [] = [] from rfl, T0, List.append_nil]
  have hown := h.own
  rw [e1] at hown
  have hb := h.but
  rw [show (w.setCell ⟨d, 2, none⟩ (.bool true)).heap.size = w.heap.size by simp] at hown hb
  clear hp h e1 K
  go_wp2
  go_ret2
  exact ⟨v, rfl, hown, hB.trans hb⟩
set_option maxHeartbeats 1000000 in
theorem rtext14 {T : List Int → List Int} {k : Int} (h0 : 0 ≤ k) (h6 : k ≤ 6) (hT : Takes T k) (T0 : T [] = []) (oa : Option Addr) (n cap : Nat) (L : List UInt8) (w : World) (hn : n = L.length) (hl : 2 * L.length + 2 ≤ 34359738368) (hlen : (T (nums L)).length ≤ 2 * L.length + 1) (hR : RdB w oa L) :
    Calls Try.prog 14 #[.int .i64 k, .slice oa n cap] w fun e w' => ∃ v, e = .returned (.tuple #[v, .int .i64 0]) ∧ w'.ownsRow w.heap.size 21 1 v (T (nums L)).length ((T (nums L)).map (Value.int .i32)) ∧ Below w.heap.size w w' := by
  have hd : DecR (w.alloc (.cells #[.int .i64 k, .slice none 0 0, .bool false] 59)) w.heap.size k (.slice none 0 0) false := at_new _ _ _ rfl
  have K := rfeed24 hT w.heap.size oa n cap L _ hd hn (by omega) (hR.below (bal (Below.refl w.heap.size w) _))
  have hB := bal (Below.refl w.heap.size w) (.cells #[.int .i64 k, .slice none 0 0, .bool false] 59)
  have HL := Go.Lib.hid (And.intro hl hlen)
  have N := rnew23 k h0 h6 w
  clear hn hl hlen hd hR
  go_enter Try.func14, Try.ntmps14
  go_wp2_with (go_at_call 23; (with_reducible refine N.mono ?_); rintro e w1 ⟨rfl, rfl⟩)
  refine K.mono ?_
  rintro e w2 ⟨v, p, X, oa2, m2, cap2, rfl, h1, h2, h3, h4, h5, h6, h7, h8, h9⟩
  have E := rend25 hT T0 w.heap.size oa2 m2 cap2 (L.drop p) w2 h4 h5 h6 (by have := HL.out.1; rw [List.length_drop]; omega) h7
  obtain ⟨oa3, c3, rfl⟩ := own_slice h8
  have hs9 := h9.size
  rw [show (w.alloc (.cells #[.int .i64 k, .slice none 0 0, .bool false] 59)).heap.size = w.heap.size + 1 by simp] at hs9 h8
  have hB2 : Below w.heap.size w w2 := hB.trans ((h9.mono (by simp)).to (Nat.le_refl _))
  have H3 := Go.Lib.hid h3
  clear h2 h3 h4 h5 h7 h9 K N h1
  go_wp2_with fail
  refine E.mono ?_
  rintro e w3 ⟨v3, rfl, hown3, hb3⟩
  obtain ⟨oa4, c4, rfl⟩ := own_slice hown3
  have HO : w3.ownsRow (w.heap.size + 1) 21 1 (.slice oa3 X.length c3) X.length (X.map (Value.int .i32)) := own_but h8 (Nat.lt_succ_self _) hb3
  have hs3 := hb3.size
  have HB : Below w.heap.size w w3 := hB2.trans ((hb3.mono (by omega)).to (Nat.le_refl _))
  have hhl : (X.length + (T (nums (L.drop p))).length) * 4 ≤ 140737488355328 := by
    have h := congrArg List.length H3.out
    rw [List.length_append] at h
    have := HL.out
    omega
  have hrd := (own_read hown3).2
  have hbs : w.heap.size ≤ w3.heap.size := by omega
  have hone := i32_one (T (nums (L.drop p)))
  have hnl : ((T (nums (L.drop p))).map (Value.int .i32)).length = (T (nums (L.drop p))).length * 1 := by simp
  have HO' := own_mono HO (show w.heap.size ≤ w.heap.size + 1 by omega)
  clear E hown3 hb3 HO h8 hB2
  go_wp2_with (at_builtin; go_must (refine step_append_slice (w0 := w) rfl w.heap.size (.tmp 31) (.tmp 32) 28 21 (.int .i32 0) 1 4 rfl Try.underlying28 Try.info21 rfl (by decide) (by decide) (.slice oa3 X.length c3) X.length _ c4 oa4 _ _ rfl rfl hnl hrd hone HO' HB hbs hhl ?_; intro v1 w4 hown hb4))
  go_ret2
  refine ⟨v1, rfl, ?_, hb4⟩
  rw [← H3.out, List.length_append, List.map_append]
  exact hown
theorem rtext14_no (k : Int) (h : k < 0 ∨ 6 < k) (oa : Option Addr) (n cap : Nat) (w : World) :
    Calls Try.prog 14 #[.int .i64 k, .slice oa n cap] w fun e w' => e = .returned (.tuple #[.slice none 0 0, .int .i64 1]) ∧ w = w' := by
  have N := rnew23_no k h w
  clear h
  go_enter Try.func14, Try.ntmps14
  go_wp2_with (go_at_call 23; (with_reducible refine N.mono ?_); rintro e w1 ⟨rfl, rfl⟩)
  go_ret2
  exact ⟨rfl, rfl⟩
end Go.Proofs.Ytmfifaigphnbmaa
