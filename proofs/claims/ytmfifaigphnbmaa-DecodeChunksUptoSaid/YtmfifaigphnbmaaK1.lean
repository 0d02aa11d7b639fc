/- The walk of the law that bytes cut in any way are the same code points. -/
import Derived.Test.YtmfifaigphnbmaaK0
import Derived.Deep.LoopGhost
namespace Go.Proofs.Ytmfifaigphnbmaa
open Go.RowKit
theorem RdB.take {w : World} {oa : Option Addr} {L : List UInt8} (h : RdB w oa L) (k : Nat) : RdB w oa (L.take k) := fun j hj => by
  rw [List.length_take] at hj
  obtain ⟨ad, h1, h2⟩ := h j (by omega)
  exact ⟨ad, h1, by rw [h2, List.getElem_take]⟩
theorem RdB.cut_cap {w : World} {oa : Option Addr} {L : List UInt8} (h : RdB w oa L) (k cap : Nat) (hc : L.length ≤ cap) : RdB w (if cap = k then oa else oa.map (·.add k)) (L.drop k) := by
  by_cases e : cap = k
  · rw [if_pos e]
    exact fun j hj => by rw [List.length_drop] at hj; omega
  · rw [if_neg e]
    exact h.cut k
/-- Ahead of a round: p bytes have been fed. -/
structure RelC (O : List UInt8 → List Int) (Inv : Nat → Nat → World → List UInt8 → Prop) (u d B : Nat) (L : List UInt8) (w : World) (v : Value) (wr : World) (p : Nat) (oa : Option Addr) (m cap : Nat) : Prop where
  lp : p ≤ L.length
  hm : m = (L.drop p).length
  hcap : m ≤ cap
  rd : RdB w oa (L.drop p)
  inv : Inv u d wr (L.take p)
  own : wr.ownsRow B 21 1 v (O (L.take p)).length ((O (L.take p)).map (Value.int .i32))
  bel : Below w.heap.size w wr
  size : B ≤ wr.heap.size
theorem RelC.next {O : List UInt8 → List Int} {Inv : Nat → Nat → World → List UInt8 → Prop} {u d B : Nat} {L : List UInt8} {w : World} {v : Value} {wr : World} {p : Nat} {oa : Option Addr} {m cap : Nat} (h : RelC O Inv u d B L w v wr p oa m cap)
    (keep : ∀ (u d : Nat) (P : List UInt8) (w w1 : World) (B : Nat), Inv u d w P → u < B → d < B → Below B w w1 → Inv u d w1 P) (hwu : w.heap.size ≤ u) (huB : u < B) (hdB : d < B) {K : Nat} (hK : K ≤ m) {X : List Int} {w2 w3 : World} {v1 : Value}
    (hO : O (L.take p ++ (L.drop p).take K) = O (L.take p) ++ X) (hi : Inv u d w2 (L.take p ++ (L.drop p).take K)) (hb : But u wr.heap.size wr w2) (hown : w3.ownsRow B 21 1 v1 ((O (L.take p)).length + X.length) ((O (L.take p)).map (Value.int .i32) ++ X.map (Value.int .i32))) (hb3 : Below B w2 w3)
    {oa' : Option Addr} {m' cap' : Nat} (hoa : oa' = if cap = K then oa else oa.map (·.add K)) (hm' : m' = m - K) (hc' : cap' = cap - K) : RelC O Inv u d B L w v1 w3 (p + K) oa' m' cap' := by
  have e : L.take p ++ (L.drop p).take K = L.take (p + K) := by rw [List.take_add]
  rw [e] at hO hi
  have hmm := h.hm
  have hlp := h.lp
  have hcc := h.hcap
  rw [List.length_drop] at hmm
  refine ⟨by omega, by rw [List.length_drop]; omega, by omega, ?_, keep u d _ w2 w3 B hi huB hdB hb3, ?_, ?_, ?_⟩
  · have := h.rd.cut_cap K cap (by rw [← h.hm]; exact hcc)
    rwa [← hoa, List.drop_drop] at this
  · rw [hO, List.length_append, List.map_append]
    exact hown
  · have h1 : Below w.heap.size wr w2 := (hb.mono h.bel.size).to hwu
    exact (h.bel.trans h1).trans (hb3.mono (by omega))
  · have := hb.size
    have := hb3.size
    have := h.size
    omega
set_option maxRecDepth 100000 in
set_option maxHeartbeats 4000000 in
theorem chunks5_any {O T : List UInt8 → List Int} {Inv : Nat → Nat → World → List UInt8 → Prop} (k : Nat) (hk : k < 256) (G : Goes ((k : Int) % 7) O T Inv) (oa : Option Addr) (n cap : Nat) (L : List UInt8) (ob : Option Addr) (m cb : Nat) (M : List UInt8) (w : World) (hn : n = L.length) (hc : n ≤ cap) (hL : L.length ≤ 1048576) (hR : RdB w oa L)
    (hm : m = M.length) (hM : M.length ≤ 1048576) (hS : RdB w ob M) :
    Calls Try.prog 5 #[.int .u8 k, .slice oa n cap, .slice ob m cb] w fun e w' => e = .returned (.bool true) ∧ Below w.heap.size w w' := by
  have N := G.new w
  have HG := Go.Lib.hid G
  have HN := Go.Lib.hid hn
  clear G hn
  subst hm
  go_enter Try.func5, Try.ntmps5
  go_wp2_with fail
  refine N.mono ?_
  rintro e w1 ⟨u, d, rfl, hu0, hu1, hd0, hd1, hi1, hb1⟩
  have hi1 := Go.Lib.hid hi1
  go_wp2_with fail
  go_loopg [10, 11, 12, 13, 14, 15] M.length (fun g v10 v11 v12 _ _ _ wr => ∃ (i p : Nat) (oa' : Option Addr) (m' cap' : Nat), i ≤ M.length ∧ M.length - i ≤ g ∧ v12 = .int .i64 i ∧ v11 = .slice oa' m' cap' ∧ RelC O Inv u d w1.heap.size L w v10 wr p oa' m' cap')
  case atStart => exact ⟨0, 0, oa, n, cap, Nat.zero_le _, Nat.le_refl _, rfl, rfl, Nat.zero_le _, HN.out, hc, hR, hi1.out, (by rw [List.take_zero, HG.out.nil]; exact own_nil _ _ _ _), hb1, Nat.le_refl _⟩
  case round =>
    obtain ⟨i, p, oa', m', cap', hi, hg, rfl, rfl, h⟩ := hrel
    obtain ⟨oal, cl, hv⟩ := own_slice h.own
    subst hv
    have H := Go.Lib.hid h
    have hbel := h.bel
    have hml : m' ≤ L.length := by rw [h.hm, List.length_drop]; omega
    have hmc := h.hcap
    have hws := h.size
    clear h
    by_cases hlt : i < M.length
    · have hgk : 0 < gk := by omega
      obtain ⟨ad, rfl, hcb⟩ := (hS.below hbel) i hlt
      have hb := M[i].toNat_lt
      generalize M[i] = c at *
      have hoal := HG.out.olen (L.take p)
      rw [List.length_take] at hoal
      by_cases hmn : (m' : Int) ≤ (c.toNat : Int) % 16
      · have F := HG.out.feed u d (L.take p) oa' m' cap' ((L.drop p).take m') w wr H.out.inv hu0 (by rw [List.length_take, ← H.out.hm]; omega) (H.out.rd.take m') hbel (by rw [List.length_take, ← H.out.hm]; omega)
        go_wp2_with fail
        refine F.mono ?_
        rintro e w2 ⟨v2, X, rfl, hO, ho2, hi2, hb2⟩
        obtain ⟨oa3, c3, rfl⟩ := own_slice ho2
        have HO2 := own_but H.out.own hu1 hb2
        have hlen : ((O (L.take p)).length + X.length) * 4 ≤ 140737488355328 := by
          have h1 := congrArg List.length hO
          have h2 := HG.out.olen (L.take p ++ (L.drop p).take m')
          simp only [List.length_append, List.length_take, List.length_drop] at h1 h2
          omega
        have hrd := (own_read ho2).2
        have h1c := i32_one X
        have hnl : (X.map (Value.int .i32)).length = X.length * 1 := by simp
        have hbs : w1.heap.size ≤ w2.heap.size := Nat.le_trans hws hb2.size
        have HH := Go.Lib.hid (And.intro hO (And.intro hi2 hb2))
        clear hO hi2 hb2 ho2 F
        by_cases hcm : cap' = m'
        · subst hcm
          go_wp2_with (at_builtin; refine step_append_slice (w0 := w2) rfl w1.heap.size (.tmp 56) (.tmp 57) 28 21 (.int .i32 0) 1 4 rfl Try.underlying28 Try.info21 rfl (by decide) (by decide) (.slice oal (O (L.take p)).length cl) (O (L.take p)).length X.length c3 oa3 ((O (L.take p)).map (Value.int .i32)) (X.map (Value.int .i32)) rfl rfl hnl hrd h1c HO2 (Below.refl _ _) hbs hlen ?_; intro v1 w3 hown hb3)
          go_roundg (gk - 1)
          case measure => omega
          case rel => exact ⟨i + 1, _, _, _, _, by omega, by omega, by go_num, rfl, H.out.next HG.out.keep hu0 hu1 hd1 (by omega) HH.out.1 HH.out.2.1 HH.out.2.2 hown hb3 (by rw [if_pos rfl]) (by omega) (by omega)⟩
        · go_wp2_with (at_builtin; refine step_append_slice (w0 := w2) rfl w1.heap.size (.tmp 56) (.tmp 57) 28 21 (.int .i32 0) 1 4 rfl Try.underlying28 Try.info21 rfl (by decide) (by decide) (.slice oal (O (L.take p)).length cl) (O (L.take p)).length X.length c3 oa3 ((O (L.take p)).map (Value.int .i32)) (X.map (Value.int .i32)) rfl rfl hnl hrd h1c HO2 (Below.refl _ _) hbs hlen ?_; intro v1 w3 hown hb3)
          go_roundg (gk - 1)
          case measure => omega
          case rel => exact ⟨i + 1, _, _, _, _, by omega, by omega, by go_num, rfl, H.out.next HG.out.keep hu0 hu1 hd1 (by omega) HH.out.1 HH.out.2.1 HH.out.2.2 hown hb3 (by rw [if_neg hcm]) (by omega) (by omega)⟩
      · obtain ⟨q, hq⟩ : ∃ q : Nat, (c.toNat : Int) % 16 = q := ⟨((c.toNat : Int) % 16).toNat, by omega⟩
        have hqm : q ≤ m' := by omega
        rw [hq] at hmn
        have F := HG.out.feed u d (L.take p) oa' q cap' ((L.drop p).take q) w wr H.out.inv hu0 (by rw [List.length_take, ← H.out.hm]; omega) (H.out.rd.take q) hbel (by rw [List.length_take, ← H.out.hm]; omega)
        go_wp2_with fail
        refine F.mono ?_
        rintro e w2 ⟨v2, X, rfl, hO, ho2, hi2, hb2⟩
        obtain ⟨oa3, c3, rfl⟩ := own_slice ho2
        have HO2 := own_but H.out.own hu1 hb2
        have hlen : ((O (L.take p)).length + X.length) * 4 ≤ 140737488355328 := by
          have h1 := congrArg List.length hO
          have h2 := HG.out.olen (L.take p ++ (L.drop p).take q)
          simp only [List.length_append, List.length_take, List.length_drop] at h1 h2
          omega
        have hrd := (own_read ho2).2
        have h1c := i32_one X
        have hnl : (X.map (Value.int .i32)).length = X.length * 1 := by simp
        have hbs : w1.heap.size ≤ w2.heap.size := Nat.le_trans hws hb2.size
        have HH := Go.Lib.hid (And.intro hO (And.intro hi2 hb2))
        clear hO hi2 hb2 ho2 F
        by_cases hcm : cap' = q
        · subst hcm
          go_wp2_with (at_builtin; refine step_append_slice (w0 := w2) rfl w1.heap.size (.tmp 56) (.tmp 57) 28 21 (.int .i32 0) 1 4 rfl Try.underlying28 Try.info21 rfl (by decide) (by decide) (.slice oal (O (L.take p)).length cl) (O (L.take p)).length X.length c3 oa3 ((O (L.take p)).map (Value.int .i32)) (X.map (Value.int .i32)) rfl rfl hnl hrd h1c HO2 (Below.refl _ _) hbs hlen ?_; intro v1 w3 hown hb3)
          go_roundg (gk - 1)
          case measure => omega
          case rel => exact ⟨i + 1, _, _, _, _, by omega, by omega, by go_num, rfl, H.out.next HG.out.keep hu0 hu1 hd1 (by omega) HH.out.1 HH.out.2.1 HH.out.2.2 hown hb3 (by rw [if_pos rfl]) (by omega) (by omega)⟩
        · go_wp2_with (at_builtin; refine step_append_slice (w0 := w2) rfl w1.heap.size (.tmp 56) (.tmp 57) 28 21 (.int .i32 0) 1 4 rfl Try.underlying28 Try.info21 rfl (by decide) (by decide) (.slice oal (O (L.take p)).length cl) (O (L.take p)).length X.length c3 oa3 ((O (L.take p)).map (Value.int .i32)) (X.map (Value.int .i32)) rfl rfl hnl hrd h1c HO2 (Below.refl _ _) hbs hlen ?_; intro v1 w3 hown hb3)
          go_roundg (gk - 1)
          case measure => omega
          case rel => exact ⟨i + 1, _, _, _, _, by omega, by omega, by go_num, rfl, H.out.next HG.out.keep hu0 hu1 hd1 (by omega) HH.out.1 HH.out.2.1 HH.out.2.2 hown hb3 (by rw [if_neg hcm]) (by omega) (by omega)⟩
    · obtain rfl : i = M.length := by omega
      have F := HG.out.feed u d (L.take p) oa' m' cap' (L.drop p) w wr H.out.inv hu0 H.out.hm H.out.rd hbel (by rw [← H.out.hm]; omega)
      have hoal := HG.out.olen (L.take p)
      rw [List.length_take] at hoal
      clear hbel
      go_wp2_with fail
      refine F.mono ?_
      rintro e w2 ⟨v2, X, rfl, hO, ho2, hi2, hb2⟩
      obtain ⟨oa3, c3, rfl⟩ := own_slice ho2
      rw [List.take_append_drop] at hO hi2
      have HO2 := own_but H.out.own hu1 hb2
      have hol := HG.out.olen L
      have hlen : ((O (L.take p)).length + X.length) * 4 ≤ 140737488355328 := by
        have h1 := congrArg List.length hO
        simp only [List.length_append] at h1
        omega
      have hrd := (own_read ho2).2
      have h1c := i32_one X
      have hnl : (X.map (Value.int .i32)).length = X.length * 1 := by simp
      have hbs : w1.heap.size ≤ w2.heap.size := Nat.le_trans hws hb2.size
      have hB2 : Below w.heap.size w w2 := H.out.bel.trans ((hb2.mono H.out.bel.size).to hu0)
      have HH := Go.Lib.hid (And.intro hO hi2)
      clear hO hi2 hb2 ho2 F
      go_wp2_with (at_builtin; refine step_append_slice (w0 := w2) rfl w1.heap.size (.tmp 68) (.tmp 69) 28 21 (.int .i32 0) 1 4 rfl Try.underlying28 Try.info21 rfl (by decide) (by decide) (.slice oal (O (L.take p)).length cl) (O (L.take p)).length X.length c3 oa3 ((O (L.take p)).map (Value.int .i32)) (X.map (Value.int .i32)) rfl rfl hnl hrd h1c HO2 (Below.refl _ _) hbs hlen ?_; intro v1 w3 hown hb3)
      have hown : w3.ownsRow w1.heap.size 21 1 v1 (O L).length ((O L).map (Value.int .i32)) := by
        rw [HH.out.1, List.length_append, List.map_append]; exact hown
      have hi3 := HG.out.keep u d L w2 w3 w1.heap.size HH.out.2 hu1 hd1 hb3
      have hB3 : Below w.heap.size w w3 := hB2.trans (hb3.mono hb1.size)
      have hs3 := Nat.le_trans hbs hb3.size
      have E := HG.out.fin u d L w3 hi3
      obtain ⟨oa4, c4, rfl⟩ := own_slice hown
      clear hi3 hB2 hb3 HO2 hrd h1c hnl hbs hlen
      refine E.mono ?_
      rintro e w4 ⟨v4, Y, rfl, hT, ho4, hb4⟩
      obtain ⟨oa5, c5, rfl⟩ := own_slice ho4
      have HO4 : w4.ownsRow w1.heap.size 21 1 (.slice oa4 (O L).length c4) (O L).length ((O L).map (Value.int .i32)) := own_end hown hd1 hu1 (by simpa using hb4)
      have hs4 : w1.heap.size ≤ w4.heap.size := by have := hb4.size; simp at this; omega
      have hB4 : Below w.heap.size w w4 := (hB3.setCell (p := ⟨d, 1, none⟩) hd0 (.bool true)).trans ((hb4.mono hB3.size).to hu0)
      have htl := HG.out.tlen L
      have hlen : ((O L).length + Y.length) * 4 ≤ 140737488355328 := by
        have h1 := congrArg List.length hT
        simp only [List.length_append] at h1
        omega
      have hrd := (own_read ho4).2
      have h1c := i32_one Y
      have hnl : (Y.map (Value.int .i32)).length = Y.length * 1 := by simp
      have HT := Go.Lib.hid hT
      clear hT hb4 E hown ho4 hB3
      go_wp2_with (at_builtin; refine step_append_slice (w0 := w4) rfl w1.heap.size (.tmp 76) (.tmp 77) 28 21 (.int .i32 0) 1 4 rfl Try.underlying28 Try.info21 rfl (by decide) (by decide) (.slice oa4 (O L).length c4) (O L).length Y.length c5 oa5 ((O L).map (Value.int .i32)) (Y.map (Value.int .i32)) rfl rfl hnl hrd h1c HO4 (Below.refl _ _) hs4 hlen ?_; intro v5 w5 hown5 hb5)
      have hown5 : w5.ownsRow w1.heap.size 21 1 v5 (T L).length ((T L).map (Value.int .i32)) := by
        rw [← HT.out, List.length_append, List.map_append]; exact hown5
      have hB5 : Below w.heap.size w w5 := hB4.trans (hb5.mono hb1.size)
      obtain ⟨oa6, c6, rfl⟩ := own_slice hown5
      have X6 := HG.out.text oa n cap L w5 HN.out (hR.below hB5) hL
      clear HO4 hrd h1c hnl hlen hs4 hb5 hB4
      refine X6.mono ?_
      rintro e w6 ⟨v6, rfl, ho6, hb6⟩
      obtain ⟨oa7, c7, rfl⟩ := own_slice ho6
      have hB6 := btr hB5 hb6
      have R := runes15 oa6 oa7 (T L).length c6 c7 (T L) w6 rfl (by unfold maxLen; omega) (RdR.own (own_below hown5 hb6)) (RdR.own ho6)
      clear X6 ho6 hown5 hb6 hB5
      go_wp2_with fail
      refine R.mono ?_
      rintro e w7 ⟨rfl, hb7⟩
      have hB7 := btr hB6 hb7
      go_wp2_with fail
      refine (awake16 w7).mono ?_
      rintro e w8 ⟨rfl, hb8⟩
      go_wp2
      go_ret
      exact ⟨rfl, btr hB7 hb8⟩
end Go.Proofs.Ytmfifaigphnbmaa
