/- The walk of the law that UTF-16's bytes are read as what they stand for. Printed by gen16.py. -/
import Derived.Test.YtmfifaigphnbmaaE5
namespace Go.Proofs.Ytmfifaigphnbmaa
open Go.RowKit
theorem enc_len (big : Bool) (U : List Int) : (U.flatMap (ub big)).length = 2 * U.length := by
  induction U with
  | nil => rfl
  | cons u r ih => rw [List.flatMap_cons, List.length_append, ub_length, ih, List.length_cons]; omega
theorem enc_take (big : Bool) (U : List Int) (j : Nat) (h : j < U.length) : (U.take (j + 1)).flatMap (ub big) = (U.take j).flatMap (ub big) ++ ub big U[j] := by
  rw [List.take_succ_eq_append_getElem h, List.flatMap_append]
  simp
theorem u8s_append (a b : List UInt8) : u8s (a ++ b) = u8s a ++ u8s b := by simp [u8s]
/-- The units U are the block g. -/
def UAt (w : World) (g : Nat) (U : List Int) : Prop := w.heap[g]? = some (.cells (U.map (Value.int .i32)).toArray 21 (0, 0))
theorem UAt.cell {w : World} {g : Nat} {U : List Int} (h : UAt w g U) (j : Nat) (hj : j < U.length) : w.cell? ⟨g, j, none⟩ = some (.int .i32 U[j]) := by
  rw [blk_cells h]
  simp [hj]
theorem UAt.other {W w1 : World} {base' e' size' n' g : Nat} {v : Value} {ys : List Value} {U : List Int} (h : UAt W g U) (hv : W.ownsRow base' e' size' v n' ys) (he : 21 ≠ e') (hg : W.grownBy w1 v.ownBlock) : UAt w1 g U := by
  refine (hg.block g (blk_lt h) ?_).trans h
  intro hgv
  rcases hv.2 with ⟨rfl, _⟩ | ⟨g', cap', cur', rfl, _, hh', _⟩
  · simp [Value.ownBlock] at hgv
  · obtain rfl : g = g' := by simpa [Value.ownBlock] using hgv
    rw [show W.heap[g]? = _ from h] at hh'
    simp at hh'
    exact he hh'.2
theorem u8s_ub (big : Bool) (u : Int) (h0 : 0 ≤ u) (h1 : u < 65536) : u8s (ub big u) = if big then [.int .u8 (u / 256), .int .u8 (u % 256)] else [.int .u8 (u % 256), .int .u8 (u / 256)] := by
  have hl := lowB8_val u
  have hh := highB8_val u h0 h1
  cases big
  · show [Value.int .u8 (lowB8 u).toNat, Value.int .u8 (highB8 u).toNat] = _
    rw [hl, hh]; rfl
  · show [Value.int .u8 (highB8 u).toNat, Value.int .u8 (lowB8 u).toNat] = _
    rw [hl, hh]; rfl
theorem quo256 (u : Int) (h0 : 0 ≤ u) : u.tdiv 256 = u / 256 := Int.tdiv_eq_ediv_of_nonneg h0

set_option maxRecDepth 100000 in
set_option maxHeartbeats 4000000 in
theorem sixteen7t (oa : Option Addr) (n cap : Nat) (X : List Int) (w : World) (hn : n = X.length) (hm : n ≤ maxLen) (hR : RdR w oa X) (hw : ∀ x ∈ X, -2147483648 ≤ x ∧ x ≤ 2147483647) :
    Calls Try.prog 7 #[.slice oa n cap, .bool true] w fun e w' => e = .returned (.bool true) ∧ Below w.heap.size w w' := by
  subst hn
  unfold maxLen at hm
  go_enter Try.func7, Try.ntmps7
  go_wp2
  go_loopw [5, 6, 7, 8, 9, 10, 11, 12] (fun v5 v6 v7 _ _ _ _ _ wr => ∃ (k m q : Nat), k ≤ X.length ∧ k ≤ 1000 ∧ v7 = .int .i64 k ∧ m ≤ 4 * k ∧ q ≤ k ∧ wr.ownsRow w.heap.size 5 1 v5 m (u8s (enc16 true (X.take k))) ∧ wr.ownsRow w.heap.size 21 1 v6 q (((X.take k).filter valid).map (Value.int .i32)) ∧ Below w.heap.size w wr)
    (fun _ _ v7 _ _ _ _ _ _ => X.length - (intOf v7).toNat)
  case atStart => exact ⟨0, 0, 0, Nat.zero_le _, by omega, rfl, by omega, by omega, own_nil _ _ _ _, own_nil _ _ _ _, Below.refl _ _⟩
  case round =>
    obtain ⟨k, m, q, hk, hk2, rfl, hm4, hq, ho5, ho6, hB⟩ := hrel
    by_cases hlt : k < X.length ∧ k < 1000
    · obtain ⟨hlt, hlt2⟩ := hlt
      obtain ⟨ad, rfl, hc⟩ := (hR.below hB) k hlt
      have hx := hw X[k] (List.getElem_mem hlt)
      have hs5 := Go.Lib.hid (show enc16 true (X.take (k + 1)) = enc16 true (X.take k) ++ (if valid X[k] then (units X[k]).flatMap (ub true) else []) by rw [List.take_succ_eq_append_getElem hlt, enc16_snoc])
      have hs6 := Go.Lib.hid (show (X.take (k + 1)).filter valid = (X.take k).filter valid ++ (if valid X[k] then [X[k]] else []) by rw [List.take_succ_eq_append_getElem hlt, filter_snoc])
      generalize X[k] = r at *
      obtain ⟨hx1, hx2⟩ := hx
      have hwb := hB.size
      obtain ⟨oa5, c5, rfl⟩ := own_slice ho5
      obtain ⟨oa6, c6, rfl⟩ := own_slice ho6
      by_cases hv : valid r = true
      · obtain ⟨hv1, hv2, hv3⟩ := (valid_iff r).1 hv
        have hs5' := hs5.out
        have hs6' := hs6.out
        rw [if_pos hv] at hs5' hs6'
        have HS5 := Go.Lib.hid hs5'
        have HS6 := Go.Lib.hid hs6'
        have hur := units_range r hv
        have hul := units_length r
        clear hs5 hs6 hs5' hs6' hv
        obtain ⟨E, hE⟩ : ∃ E, E = enc16 true (X.take k) := ⟨_, rfl⟩
        rw [← hE] at ho5 HS5
        clear hE
        have HO5 := ho5.alloc (.cells #[.int .i32 r] 21)
        have HO6 := ho6.alloc (.cells #[.int .i32 r] 21)
        have HB1 := hB.alloc hwb (.cells #[.int .i32 r] 21)
        have hbs1 : w.heap.size ≤ (wr.alloc (.cells #[.int .i32 r] 21)).heap.size := by simp; omega
        have h11 : ∀ u ∈ [Value.int .i32 r], u.oneCell' = true := fun u hu => by simp at hu; rw [hu]; rfl
        have hrd1 : ∀ j u, [Value.int .i32 r][j]? = some u → (wr.alloc (.cells #[.int .i32 r] 21)).cell? ((⟨wr.heap.size, 0, none⟩ : Addr).add j) = some u := fun j u hu => by
          match j, hu with
          | 0, hu => rw [← hu]; exact blk_cells (at_new wr (.cells #[.int .i32 r] 21) _ rfl) 0
        have hl1 : (q + 1) * 4 ≤ 140737488355328 := by omega
        clear ho5 ho6
        by_cases hbig : 65536 ≤ r
        · obtain ⟨U, hU⟩ : ∃ U, U = units r := ⟨_, rfl⟩
          rw [← hU] at HS5 hur hul
          have hU2 : U = [55296 + (r - 65536) / 1024, 56320 + (r - 65536) % 1024] := by rw [hU, units, if_pos hbig]
          have HU := Go.Lib.hid hU2
          have hUl : U.length = 2 := by rw [hU2]; rfl
          clear hU hU2 hul
          go_wp2_with (at_builtin; refine step_append_grown (w0 := w) rfl w.heap.size _ _ 28 21 (.int .i32 0) 1 4 rfl Try.underlying28 Try.info21 rfl (by decide) (by decide) _ _ _ _ _ _ _ rfl rfl rfl hrd1 h11 HO6 HB1 hbs1 hl1 ?_; intro v61 w4 hown6 hb4 hg4; have ho5b := own_other HO5 HO6 (by decide) hg4; have hwb4 := hb4.size; clear hg4)
          go_loopw [5, 10, 11, 12] (fun v5 v10 _ _ w6 => ∃ j : Nat, j ≤ U.length ∧ v10 = .int .i64 j ∧ w6.ownsRow w.heap.size 5 1 v5 (m + 2 * j) (u8s (E ++ (U.take j).flatMap (ub true))) ∧ w6.ownsRow w.heap.size 21 1 v61 (q + 1) (((X.take (k + 1)).filter valid).map (Value.int .i32)) ∧ UAt w6 (w4.heap.size + 1) U ∧ Below w.heap.size w w6)
            (fun _ v10 _ _ _ => U.length - (intOf v10).toNat)
          case atStart =>
            refine ⟨0, Nat.zero_le _, rfl, ?_, ?_, ?_, (hb4.alloc hwb4 _).alloc (by simp; omega) _⟩
            · rw [List.take_zero, List.flatMap_nil, List.append_nil]
              exact ((ho5b.alloc _).alloc _)
            · rw [HS6.out, List.map_append]
              exact ((hown6.alloc _).alloc _)
            · rw [HU.out]
              exact at_new _ _ _ (by simp)
          case round =>
            obtain ⟨j, hj, rfl, hi5, hi6, hRU, hBi⟩ := hrel
            obtain ⟨ob5, d5, rfl⟩ := own_slice hi5
            by_cases hju : j < U.length
            · have hcu := hRU.cell j hju
              obtain ⟨hu0, hu1⟩ := hur U[j] (List.getElem_mem hju)
              have het := Go.Lib.hid (enc_take true U j hju)
              generalize U[j] = u at *
              have hbi := hBi.size
              have HI5 := hi5.alloc (.cells #[.int .u8 (u / 256), .int .u8 (u % 256)] 5)
              have HI6 := hi6.alloc (.cells #[.int .u8 (u / 256), .int .u8 (u % 256)] 5)
              have HRU : UAt (wr.alloc (.cells #[.int .u8 (u / 256), .int .u8 (u % 256)] 5)) (w4.heap.size + 1) U := at_old hRU _
              have HBi2 := hBi.alloc hbi (.cells #[.int .u8 (u / 256), .int .u8 (u % 256)] 5)
              have hbs2 : w.heap.size ≤ (wr.alloc (.cells #[.int .u8 (u / 256), .int .u8 (u % 256)] 5)).heap.size := by simp; omega
              have h12 : ∀ x ∈ ([.int .u8 (u / 256), .int .u8 (u % 256)] : List Value), x.oneCell' = true := fun x hx => by simp at hx; rcases hx with rfl | rfl <;> rfl
              have hrd2 : ∀ i x, ([.int .u8 (u / 256), .int .u8 (u % 256)] : List Value)[i]? = some x → (wr.alloc (.cells #[.int .u8 (u / 256), .int .u8 (u % 256)] 5)).cell? ((⟨wr.heap.size, 0, none⟩ : Addr).add i) = some x := fun i x hx => by
                match i, hx with
                | 0, hx => rw [← hx]; exact blk_cells (at_new wr (.cells #[.int .u8 (u / 256), .int .u8 (u % 256)] 5) _ rfl) 0
                | 1, hx => rw [← hx]; exact blk_cells (at_new wr (.cells #[.int .u8 (u / 256), .int .u8 (u % 256)] 5) _ rfl) 1
              have hl2 : (m + 2 * j + 2) * 1 ≤ 140737488355328 := by omega
              have fin : ∀ (v1 : Value) (w7 : World), w7.ownsRow w.heap.size 5 1 v1 (m + 2 * j + 2) (u8s (E ++ (U.take j).flatMap (ub true)) ++ [.int .u8 (u / 256), .int .u8 (u % 256)]) → w7.ownsRow w.heap.size 5 1 v1 (m + 2 * (j + 1)) (u8s (E ++ (U.take (j + 1)).flatMap (ub true))) := by
                intro v1 w7 h
                rw [het.out, ← List.append_assoc, u8s_append, u8s_ub _ u hu0 hu1]
                simpa [Nat.mul_add, Nat.add_assoc] using h
              clear hi5 hi6 hRU het
              go_wp2_with (at_builtin; refine step_append_grown (w0 := w) rfl w.heap.size _ _ 22 5 (.int .u8 0) 1 1 rfl Try.underlying22 Try.info5 rfl (by decide) (by decide) _ _ _ _ _ _ _ rfl rfl rfl hrd2 h12 HI5 HBi2 hbs2 hl2 ?_; intro v52 w7 hown5 hb7 hg7; have hi6b := own_other HI6 HI5 (by decide) hg7; have hRU7 := UAt.other HRU HI5 (by decide) hg7; clear hg7)
              go_roundw
              case rel => exact ⟨j + 1, by omega, by go_num, fin _ _ hown5, hi6b, hRU7, hb7⟩
              case measure => simp [intOf]; omega
            · obtain rfl : j = U.length := by omega
              rw [List.take_length, ← HS5.out] at hi5
              clear hRU hur HU HO5 HO6 hrd1
              go_wp2
              go_roundw
              case rel => exact ⟨k + 1, m + 2 * U.length, q + 1, by omega, by omega, by go_num, by omega, by omega, hi5, hi6, hBi⟩
              case measure => simp [intOf]; omega
        by_cases hlo : 57343 < r
        · obtain ⟨U, hU⟩ : ∃ U, U = units r := ⟨_, rfl⟩
          rw [← hU] at HS5 hur hul
          have hU2 : U = [r] := by rw [hU, units, if_neg hbig]
          have HU := Go.Lib.hid hU2
          have hUl : U.length = 1 := by rw [hU2]; rfl
          clear hU hU2 hul
          go_wp2_with (at_builtin; refine step_append_grown (w0 := w) rfl w.heap.size _ _ 28 21 (.int .i32 0) 1 4 rfl Try.underlying28 Try.info21 rfl (by decide) (by decide) _ _ _ _ _ _ _ rfl rfl rfl hrd1 h11 HO6 HB1 hbs1 hl1 ?_; intro v61 w4 hown6 hb4 hg4; have ho5b := own_other HO5 HO6 (by decide) hg4; have hwb4 := hb4.size; clear hg4)
          go_loopw [5, 10, 11, 12] (fun v5 v10 _ _ w6 => ∃ j : Nat, j ≤ U.length ∧ v10 = .int .i64 j ∧ w6.ownsRow w.heap.size 5 1 v5 (m + 2 * j) (u8s (E ++ (U.take j).flatMap (ub true))) ∧ w6.ownsRow w.heap.size 21 1 v61 (q + 1) (((X.take (k + 1)).filter valid).map (Value.int .i32)) ∧ UAt w6 (w4.heap.size) U ∧ Below w.heap.size w w6)
            (fun _ v10 _ _ _ => U.length - (intOf v10).toNat)
          case atStart =>
            refine ⟨0, Nat.zero_le _, rfl, ?_, ?_, ?_, hb4.alloc hwb4 _⟩
            · rw [List.take_zero, List.flatMap_nil, List.append_nil]
              exact (ho5b.alloc _)
            · rw [HS6.out, List.map_append]
              exact (hown6.alloc _)
            · rw [HU.out]
              exact at_new _ _ _ (by simp)
          case round =>
            obtain ⟨j, hj, rfl, hi5, hi6, hRU, hBi⟩ := hrel
            obtain ⟨ob5, d5, rfl⟩ := own_slice hi5
            by_cases hju : j < U.length
            · have hcu := hRU.cell j hju
              obtain ⟨hu0, hu1⟩ := hur U[j] (List.getElem_mem hju)
              have het := Go.Lib.hid (enc_take true U j hju)
              generalize U[j] = u at *
              have hbi := hBi.size
              have HI5 := hi5.alloc (.cells #[.int .u8 (u / 256), .int .u8 (u % 256)] 5)
              have HI6 := hi6.alloc (.cells #[.int .u8 (u / 256), .int .u8 (u % 256)] 5)
              have HRU : UAt (wr.alloc (.cells #[.int .u8 (u / 256), .int .u8 (u % 256)] 5)) (w4.heap.size) U := at_old hRU _
              have HBi2 := hBi.alloc hbi (.cells #[.int .u8 (u / 256), .int .u8 (u % 256)] 5)
              have hbs2 : w.heap.size ≤ (wr.alloc (.cells #[.int .u8 (u / 256), .int .u8 (u % 256)] 5)).heap.size := by simp; omega
              have h12 : ∀ x ∈ ([.int .u8 (u / 256), .int .u8 (u % 256)] : List Value), x.oneCell' = true := fun x hx => by simp at hx; rcases hx with rfl | rfl <;> rfl
              have hrd2 : ∀ i x, ([.int .u8 (u / 256), .int .u8 (u % 256)] : List Value)[i]? = some x → (wr.alloc (.cells #[.int .u8 (u / 256), .int .u8 (u % 256)] 5)).cell? ((⟨wr.heap.size, 0, none⟩ : Addr).add i) = some x := fun i x hx => by
                match i, hx with
                | 0, hx => rw [← hx]; exact blk_cells (at_new wr (.cells #[.int .u8 (u / 256), .int .u8 (u % 256)] 5) _ rfl) 0
                | 1, hx => rw [← hx]; exact blk_cells (at_new wr (.cells #[.int .u8 (u / 256), .int .u8 (u % 256)] 5) _ rfl) 1
              have hl2 : (m + 2 * j + 2) * 1 ≤ 140737488355328 := by omega
              have fin : ∀ (v1 : Value) (w7 : World), w7.ownsRow w.heap.size 5 1 v1 (m + 2 * j + 2) (u8s (E ++ (U.take j).flatMap (ub true)) ++ [.int .u8 (u / 256), .int .u8 (u % 256)]) → w7.ownsRow w.heap.size 5 1 v1 (m + 2 * (j + 1)) (u8s (E ++ (U.take (j + 1)).flatMap (ub true))) := by
                intro v1 w7 h
                rw [het.out, ← List.append_assoc, u8s_append, u8s_ub _ u hu0 hu1]
                simpa [Nat.mul_add, Nat.add_assoc] using h
              clear hi5 hi6 hRU het
              go_wp2_with (at_builtin; refine step_append_grown (w0 := w) rfl w.heap.size _ _ 22 5 (.int .u8 0) 1 1 rfl Try.underlying22 Try.info5 rfl (by decide) (by decide) _ _ _ _ _ _ _ rfl rfl rfl hrd2 h12 HI5 HBi2 hbs2 hl2 ?_; intro v52 w7 hown5 hb7 hg7; have hi6b := own_other HI6 HI5 (by decide) hg7; have hRU7 := UAt.other HRU HI5 (by decide) hg7; clear hg7)
              go_roundw
              case rel => exact ⟨j + 1, by omega, by go_num, fin _ _ hown5, hi6b, hRU7, hb7⟩
              case measure => simp [intOf]; omega
            · obtain rfl : j = U.length := by omega
              rw [List.take_length, ← HS5.out] at hi5
              clear hRU hur HU HO5 HO6 hrd1
              go_wp2
              go_roundw
              case rel => exact ⟨k + 1, m + 2 * U.length, q + 1, by omega, by omega, by go_num, by omega, by omega, hi5, hi6, hBi⟩
              case measure => simp [intOf]; omega
        · have hlo2 : r < 55296 := by omega
          obtain ⟨U, hU⟩ : ∃ U, U = units r := ⟨_, rfl⟩
          rw [← hU] at HS5 hur hul
          have hU2 : U = [r] := by rw [hU, units, if_neg hbig]
          have HU := Go.Lib.hid hU2
          have hUl : U.length = 1 := by rw [hU2]; rfl
          clear hU hU2 hul
          go_wp2_with (at_builtin; refine step_append_grown (w0 := w) rfl w.heap.size _ _ 28 21 (.int .i32 0) 1 4 rfl Try.underlying28 Try.info21 rfl (by decide) (by decide) _ _ _ _ _ _ _ rfl rfl rfl hrd1 h11 HO6 HB1 hbs1 hl1 ?_; intro v61 w4 hown6 hb4 hg4; have ho5b := own_other HO5 HO6 (by decide) hg4; have hwb4 := hb4.size; clear hg4)
          go_loopw [5, 10, 11, 12] (fun v5 v10 _ _ w6 => ∃ j : Nat, j ≤ U.length ∧ v10 = .int .i64 j ∧ w6.ownsRow w.heap.size 5 1 v5 (m + 2 * j) (u8s (E ++ (U.take j).flatMap (ub true))) ∧ w6.ownsRow w.heap.size 21 1 v61 (q + 1) (((X.take (k + 1)).filter valid).map (Value.int .i32)) ∧ UAt w6 (w4.heap.size) U ∧ Below w.heap.size w w6)
            (fun _ v10 _ _ _ => U.length - (intOf v10).toNat)
          case atStart =>
            refine ⟨0, Nat.zero_le _, rfl, ?_, ?_, ?_, hb4.alloc hwb4 _⟩
            · rw [List.take_zero, List.flatMap_nil, List.append_nil]
              exact (ho5b.alloc _)
            · rw [HS6.out, List.map_append]
              exact (hown6.alloc _)
            · rw [HU.out]
              exact at_new _ _ _ (by simp)
          case round =>
            obtain ⟨j, hj, rfl, hi5, hi6, hRU, hBi⟩ := hrel
            obtain ⟨ob5, d5, rfl⟩ := own_slice hi5
            by_cases hju : j < U.length
            · have hcu := hRU.cell j hju
              obtain ⟨hu0, hu1⟩ := hur U[j] (List.getElem_mem hju)
              have het := Go.Lib.hid (enc_take true U j hju)
              generalize U[j] = u at *
              have hbi := hBi.size
              have HI5 := hi5.alloc (.cells #[.int .u8 (u / 256), .int .u8 (u % 256)] 5)
              have HI6 := hi6.alloc (.cells #[.int .u8 (u / 256), .int .u8 (u % 256)] 5)
              have HRU : UAt (wr.alloc (.cells #[.int .u8 (u / 256), .int .u8 (u % 256)] 5)) (w4.heap.size) U := at_old hRU _
              have HBi2 := hBi.alloc hbi (.cells #[.int .u8 (u / 256), .int .u8 (u % 256)] 5)
              have hbs2 : w.heap.size ≤ (wr.alloc (.cells #[.int .u8 (u / 256), .int .u8 (u % 256)] 5)).heap.size := by simp; omega
              have h12 : ∀ x ∈ ([.int .u8 (u / 256), .int .u8 (u % 256)] : List Value), x.oneCell' = true := fun x hx => by simp at hx; rcases hx with rfl | rfl <;> rfl
              have hrd2 : ∀ i x, ([.int .u8 (u / 256), .int .u8 (u % 256)] : List Value)[i]? = some x → (wr.alloc (.cells #[.int .u8 (u / 256), .int .u8 (u % 256)] 5)).cell? ((⟨wr.heap.size, 0, none⟩ : Addr).add i) = some x := fun i x hx => by
                match i, hx with
                | 0, hx => rw [← hx]; exact blk_cells (at_new wr (.cells #[.int .u8 (u / 256), .int .u8 (u % 256)] 5) _ rfl) 0
                | 1, hx => rw [← hx]; exact blk_cells (at_new wr (.cells #[.int .u8 (u / 256), .int .u8 (u % 256)] 5) _ rfl) 1
              have hl2 : (m + 2 * j + 2) * 1 ≤ 140737488355328 := by omega
              have fin : ∀ (v1 : Value) (w7 : World), w7.ownsRow w.heap.size 5 1 v1 (m + 2 * j + 2) (u8s (E ++ (U.take j).flatMap (ub true)) ++ [.int .u8 (u / 256), .int .u8 (u % 256)]) → w7.ownsRow w.heap.size 5 1 v1 (m + 2 * (j + 1)) (u8s (E ++ (U.take (j + 1)).flatMap (ub true))) := by
                intro v1 w7 h
                rw [het.out, ← List.append_assoc, u8s_append, u8s_ub _ u hu0 hu1]
                simpa [Nat.mul_add, Nat.add_assoc] using h
              clear hi5 hi6 hRU het
              go_wp2_with (at_builtin; refine step_append_grown (w0 := w) rfl w.heap.size _ _ 22 5 (.int .u8 0) 1 1 rfl Try.underlying22 Try.info5 rfl (by decide) (by decide) _ _ _ _ _ _ _ rfl rfl rfl hrd2 h12 HI5 HBi2 hbs2 hl2 ?_; intro v52 w7 hown5 hb7 hg7; have hi6b := own_other HI6 HI5 (by decide) hg7; have hRU7 := UAt.other HRU HI5 (by decide) hg7; clear hg7)
              go_roundw
              case rel => exact ⟨j + 1, by omega, by go_num, fin _ _ hown5, hi6b, hRU7, hb7⟩
              case measure => simp [intOf]; omega
            · obtain rfl : j = U.length := by omega
              rw [List.take_length, ← HS5.out] at hi5
              clear hRU hur HU HO5 HO6 hrd1
              go_wp2
              go_roundw
              case rel => exact ⟨k + 1, m + 2 * U.length, q + 1, by omega, by omega, by go_num, by omega, by omega, hi5, hi6, hBi⟩
              case measure => simp [intOf]; omega
      · have hv' : ¬ (0 ≤ r ∧ r ≤ 1114111 ∧ ¬ (55296 ≤ r ∧ r ≤ 57343)) := fun h => hv ((valid_iff r).2 h)
        have hs5' := hs5.out
        have hs6' := hs6.out
        rw [if_neg hv, List.append_nil] at hs5' hs6'
        rw [← hs5'] at ho5
        rw [← hs6'] at ho6
        clear hs5 hs6 hs5' hs6' hv
        go_wp2
        all_goals first
          | (exfalso; omega)
          | skip
        all_goals go_roundw
        all_goals first
          | (case rel => exact ⟨k + 1, m, q, by omega, by omega, by go_num, by omega, by omega, ho5, ho6, hB⟩)
          | skip
        all_goals first
          | (simp [intOf]; omega)
          | skip
    · obtain ⟨oa5, c5, rfl⟩ := own_slice ho5
      obtain ⟨oa6, c6, rfl⟩ := own_slice ho6
      have hT : toldt (enc16 true (X.take k)) = (X.take k).filter valid := toldt_16 _
      have hEl := enc16_len true (X.take k)
      have hVl : ((X.take k).filter valid).length ≤ (X.take k).length := List.length_filter_le _ _
      rw [List.length_take] at hEl hVl
      generalize (X.take k).filter valid = V at *
      generalize enc16 true (X.take k) = E at *
      have hme : m = E.length := by have := ho5.1; simp [u8s] at this; omega
      subst hme
      have hqe : q = V.length := by have := ho6.1; simp at this; omega
      subst hqe
      have hR2 : RdB wr oa5 E := fun j hj => by
        obtain ⟨ad, h1, h2⟩ := (own_read ho5).2 j (.int .u8 (E[j]).toNat) (by simp [u8s, hj])
        exact ⟨ad, h1, h2⟩
      have F := text13_t oa5 E.length c5 E wr rfl hR2 (by omega)
      rw [hT] at F
      have hVm : V.length ≤ maxLen := by unfold maxLen; omega
      clear hT hEl hVl hR2
      by_cases hkl : k < X.length
      · have hk3 : ¬ (k : Int) < 1000 := by omega
        go_wp2_with (first
          | (go_at_call 13; (with_reducible refine F.mono ?_); rintro e w1 ⟨v1, rfl, ho1, hb1⟩; obtain ⟨oa14, c14, rfl⟩ := own_slice ho1; have hr1 := RdR.own ho1; have hr6 := (RdR.own ho6).below hb1)
          | (go_at_call 15; (with_reducible refine (runes15 oa14 oa6 V.length c14 c6 V _ rfl hVm hr1 hr6).mono ?_); rintro e w2 ⟨rfl, hb2⟩)
          | (go_at_call 16; (with_reducible refine (awake16 _).mono ?_); rintro e w3 ⟨rfl, hb3⟩))
        go_ret
        exact ⟨rfl, (hB.trans (hb1.mono hB.size)).trans ((hb2.trans (hb3.mono hb2.size)).mono (Nat.le_trans hB.size hb1.size))⟩
      · have hk3 : ¬ (k : Int) < X.length := by omega
        go_wp2_with (first
          | (go_at_call 13; (with_reducible refine F.mono ?_); rintro e w1 ⟨v1, rfl, ho1, hb1⟩; obtain ⟨oa14, c14, rfl⟩ := own_slice ho1; have hr1 := RdR.own ho1; have hr6 := (RdR.own ho6).below hb1)
          | (go_at_call 15; (with_reducible refine (runes15 oa14 oa6 V.length c14 c6 V _ rfl hVm hr1 hr6).mono ?_); rintro e w2 ⟨rfl, hb2⟩)
          | (go_at_call 16; (with_reducible refine (awake16 _).mono ?_); rintro e w3 ⟨rfl, hb3⟩))
        go_ret
        exact ⟨rfl, (hB.trans (hb1.mono hB.size)).trans ((hb2.trans (hb3.mono hb2.size)).mono (Nat.le_trans hB.size hb1.size))⟩

set_option maxRecDepth 100000 in
set_option maxHeartbeats 4000000 in
theorem sixteen7f (oa : Option Addr) (n cap : Nat) (X : List Int) (w : World) (hn : n = X.length) (hm : n ≤ maxLen) (hR : RdR w oa X) (hw : ∀ x ∈ X, -2147483648 ≤ x ∧ x ≤ 2147483647) :
    Calls Try.prog 7 #[.slice oa n cap, .bool false] w fun e w' => e = .returned (.bool true) ∧ Below w.heap.size w w' := by
  subst hn
  unfold maxLen at hm
  go_enter Try.func7, Try.ntmps7
  go_wp2
  go_loopw [5, 6, 7, 8, 9, 10, 11, 12] (fun v5 v6 v7 _ _ _ _ _ wr => ∃ (k m q : Nat), k ≤ X.length ∧ k ≤ 1000 ∧ v7 = .int .i64 k ∧ m ≤ 4 * k ∧ q ≤ k ∧ wr.ownsRow w.heap.size 5 1 v5 m (u8s (enc16 false (X.take k))) ∧ wr.ownsRow w.heap.size 21 1 v6 q (((X.take k).filter valid).map (Value.int .i32)) ∧ Below w.heap.size w wr)
    (fun _ _ v7 _ _ _ _ _ _ => X.length - (intOf v7).toNat)
  case atStart => exact ⟨0, 0, 0, Nat.zero_le _, by omega, rfl, by omega, by omega, own_nil _ _ _ _, own_nil _ _ _ _, Below.refl _ _⟩
  case round =>
    obtain ⟨k, m, q, hk, hk2, rfl, hm4, hq, ho5, ho6, hB⟩ := hrel
    by_cases hlt : k < X.length ∧ k < 1000
    · obtain ⟨hlt, hlt2⟩ := hlt
      obtain ⟨ad, rfl, hc⟩ := (hR.below hB) k hlt
      have hx := hw X[k] (List.getElem_mem hlt)
      have hs5 := Go.Lib.hid (show enc16 false (X.take (k + 1)) = enc16 false (X.take k) ++ (if valid X[k] then (units X[k]).flatMap (ub false) else []) by rw [List.take_succ_eq_append_getElem hlt, enc16_snoc])
      have hs6 := Go.Lib.hid (show (X.take (k + 1)).filter valid = (X.take k).filter valid ++ (if valid X[k] then [X[k]] else []) by rw [List.take_succ_eq_append_getElem hlt, filter_snoc])
      generalize X[k] = r at *
      obtain ⟨hx1, hx2⟩ := hx
      have hwb := hB.size
      obtain ⟨oa5, c5, rfl⟩ := own_slice ho5
      obtain ⟨oa6, c6, rfl⟩ := own_slice ho6
      by_cases hv : valid r = true
      · obtain ⟨hv1, hv2, hv3⟩ := (valid_iff r).1 hv
        have hs5' := hs5.out
        have hs6' := hs6.out
        rw [if_pos hv] at hs5' hs6'
        have HS5 := Go.Lib.hid hs5'
        have HS6 := Go.Lib.hid hs6'
        have hur := units_range r hv
        have hul := units_length r
        clear hs5 hs6 hs5' hs6' hv
        obtain ⟨E, hE⟩ : ∃ E, E = enc16 false (X.take k) := ⟨_, rfl⟩
        rw [← hE] at ho5 HS5
        clear hE
        have HO5 := ho5.alloc (.cells #[.int .i32 r] 21)
        have HO6 := ho6.alloc (.cells #[.int .i32 r] 21)
        have HB1 := hB.alloc hwb (.cells #[.int .i32 r] 21)
        have hbs1 : w.heap.size ≤ (wr.alloc (.cells #[.int .i32 r] 21)).heap.size := by simp; omega
        have h11 : ∀ u ∈ [Value.int .i32 r], u.oneCell' = true := fun u hu => by simp at hu; rw [hu]; rfl
        have hrd1 : ∀ j u, [Value.int .i32 r][j]? = some u → (wr.alloc (.cells #[.int .i32 r] 21)).cell? ((⟨wr.heap.size, 0, none⟩ : Addr).add j) = some u := fun j u hu => by
          match j, hu with
          | 0, hu => rw [← hu]; exact blk_cells (at_new wr (.cells #[.int .i32 r] 21) _ rfl) 0
        have hl1 : (q + 1) * 4 ≤ 140737488355328 := by omega
        clear ho5 ho6
        by_cases hbig : 65536 ≤ r
        · obtain ⟨U, hU⟩ : ∃ U, U = units r := ⟨_, rfl⟩
          rw [← hU] at HS5 hur hul
          have hU2 : U = [55296 + (r - 65536) / 1024, 56320 + (r - 65536) % 1024] := by rw [hU, units, if_pos hbig]
          have HU := Go.Lib.hid hU2
          have hUl : U.length = 2 := by rw [hU2]; rfl
          clear hU hU2 hul
          go_wp2_with (at_builtin; refine step_append_grown (w0 := w) rfl w.heap.size _ _ 28 21 (.int .i32 0) 1 4 rfl Try.underlying28 Try.info21 rfl (by decide) (by decide) _ _ _ _ _ _ _ rfl rfl rfl hrd1 h11 HO6 HB1 hbs1 hl1 ?_; intro v61 w4 hown6 hb4 hg4; have ho5b := own_other HO5 HO6 (by decide) hg4; have hwb4 := hb4.size; clear hg4)
          go_loopw [5, 10, 11, 12] (fun v5 v10 _ _ w6 => ∃ j : Nat, j ≤ U.length ∧ v10 = .int .i64 j ∧ w6.ownsRow w.heap.size 5 1 v5 (m + 2 * j) (u8s (E ++ (U.take j).flatMap (ub false))) ∧ w6.ownsRow w.heap.size 21 1 v61 (q + 1) (((X.take (k + 1)).filter valid).map (Value.int .i32)) ∧ UAt w6 (w4.heap.size + 1) U ∧ Below w.heap.size w w6)
            (fun _ v10 _ _ _ => U.length - (intOf v10).toNat)
          case atStart =>
            refine ⟨0, Nat.zero_le _, rfl, ?_, ?_, ?_, (hb4.alloc hwb4 _).alloc (by simp; omega) _⟩
            · rw [List.take_zero, List.flatMap_nil, List.append_nil]
              exact ((ho5b.alloc _).alloc _)
            · rw [HS6.out, List.map_append]
              exact ((hown6.alloc _).alloc _)
            · rw [HU.out]
              exact at_new _ _ _ (by simp)
          case round =>
            obtain ⟨j, hj, rfl, hi5, hi6, hRU, hBi⟩ := hrel
            obtain ⟨ob5, d5, rfl⟩ := own_slice hi5
            by_cases hju : j < U.length
            · have hcu := hRU.cell j hju
              obtain ⟨hu0, hu1⟩ := hur U[j] (List.getElem_mem hju)
              have het := Go.Lib.hid (enc_take false U j hju)
              generalize U[j] = u at *
              have hbi := hBi.size
              have HI5 := hi5.alloc (.cells #[.int .u8 (u % 256), .int .u8 (u / 256)] 5)
              have HI6 := hi6.alloc (.cells #[.int .u8 (u % 256), .int .u8 (u / 256)] 5)
              have HRU : UAt (wr.alloc (.cells #[.int .u8 (u % 256), .int .u8 (u / 256)] 5)) (w4.heap.size + 1) U := at_old hRU _
              have HBi2 := hBi.alloc hbi (.cells #[.int .u8 (u % 256), .int .u8 (u / 256)] 5)
              have hbs2 : w.heap.size ≤ (wr.alloc (.cells #[.int .u8 (u % 256), .int .u8 (u / 256)] 5)).heap.size := by simp; omega
              have h12 : ∀ x ∈ ([.int .u8 (u % 256), .int .u8 (u / 256)] : List Value), x.oneCell' = true := fun x hx => by simp at hx; rcases hx with rfl | rfl <;> rfl
              have hrd2 : ∀ i x, ([.int .u8 (u % 256), .int .u8 (u / 256)] : List Value)[i]? = some x → (wr.alloc (.cells #[.int .u8 (u % 256), .int .u8 (u / 256)] 5)).cell? ((⟨wr.heap.size, 0, none⟩ : Addr).add i) = some x := fun i x hx => by
                match i, hx with
                | 0, hx => rw [← hx]; exact blk_cells (at_new wr (.cells #[.int .u8 (u % 256), .int .u8 (u / 256)] 5) _ rfl) 0
                | 1, hx => rw [← hx]; exact blk_cells (at_new wr (.cells #[.int .u8 (u % 256), .int .u8 (u / 256)] 5) _ rfl) 1
              have hl2 : (m + 2 * j + 2) * 1 ≤ 140737488355328 := by omega
              have fin : ∀ (v1 : Value) (w7 : World), w7.ownsRow w.heap.size 5 1 v1 (m + 2 * j + 2) (u8s (E ++ (U.take j).flatMap (ub false)) ++ [.int .u8 (u % 256), .int .u8 (u / 256)]) → w7.ownsRow w.heap.size 5 1 v1 (m + 2 * (j + 1)) (u8s (E ++ (U.take (j + 1)).flatMap (ub false))) := by
                intro v1 w7 h
                rw [het.out, ← List.append_assoc, u8s_append, u8s_ub _ u hu0 hu1]
                simpa [Nat.mul_add, Nat.add_assoc] using h
              clear hi5 hi6 hRU het
              go_wp2_with (at_builtin; refine step_append_grown (w0 := w) rfl w.heap.size _ _ 22 5 (.int .u8 0) 1 1 rfl Try.underlying22 Try.info5 rfl (by decide) (by decide) _ _ _ _ _ _ _ rfl rfl rfl hrd2 h12 HI5 HBi2 hbs2 hl2 ?_; intro v52 w7 hown5 hb7 hg7; have hi6b := own_other HI6 HI5 (by decide) hg7; have hRU7 := UAt.other HRU HI5 (by decide) hg7; clear hg7)
              go_roundw
              case rel => exact ⟨j + 1, by omega, by go_num, fin _ _ hown5, hi6b, hRU7, hb7⟩
              case measure => simp [intOf]; omega
            · obtain rfl : j = U.length := by omega
              rw [List.take_length, ← HS5.out] at hi5
              clear hRU hur HU HO5 HO6 hrd1
              go_wp2
              go_roundw
              case rel => exact ⟨k + 1, m + 2 * U.length, q + 1, by omega, by omega, by go_num, by omega, by omega, hi5, hi6, hBi⟩
              case measure => simp [intOf]; omega
        by_cases hlo : 57343 < r
        · obtain ⟨U, hU⟩ : ∃ U, U = units r := ⟨_, rfl⟩
          rw [← hU] at HS5 hur hul
          have hU2 : U = [r] := by rw [hU, units, if_neg hbig]
          have HU := Go.Lib.hid hU2
          have hUl : U.length = 1 := by rw [hU2]; rfl
          clear hU hU2 hul
          go_wp2_with (at_builtin; refine step_append_grown (w0 := w) rfl w.heap.size _ _ 28 21 (.int .i32 0) 1 4 rfl Try.underlying28 Try.info21 rfl (by decide) (by decide) _ _ _ _ _ _ _ rfl rfl rfl hrd1 h11 HO6 HB1 hbs1 hl1 ?_; intro v61 w4 hown6 hb4 hg4; have ho5b := own_other HO5 HO6 (by decide) hg4; have hwb4 := hb4.size; clear hg4)
          go_loopw [5, 10, 11, 12] (fun v5 v10 _ _ w6 => ∃ j : Nat, j ≤ U.length ∧ v10 = .int .i64 j ∧ w6.ownsRow w.heap.size 5 1 v5 (m + 2 * j) (u8s (E ++ (U.take j).flatMap (ub false))) ∧ w6.ownsRow w.heap.size 21 1 v61 (q + 1) (((X.take (k + 1)).filter valid).map (Value.int .i32)) ∧ UAt w6 (w4.heap.size) U ∧ Below w.heap.size w w6)
            (fun _ v10 _ _ _ => U.length - (intOf v10).toNat)
          case atStart =>
            refine ⟨0, Nat.zero_le _, rfl, ?_, ?_, ?_, hb4.alloc hwb4 _⟩
            · rw [List.take_zero, List.flatMap_nil, List.append_nil]
              exact (ho5b.alloc _)
            · rw [HS6.out, List.map_append]
              exact (hown6.alloc _)
            · rw [HU.out]
              exact at_new _ _ _ (by simp)
          case round =>
            obtain ⟨j, hj, rfl, hi5, hi6, hRU, hBi⟩ := hrel
            obtain ⟨ob5, d5, rfl⟩ := own_slice hi5
            by_cases hju : j < U.length
            · have hcu := hRU.cell j hju
              obtain ⟨hu0, hu1⟩ := hur U[j] (List.getElem_mem hju)
              have het := Go.Lib.hid (enc_take false U j hju)
              generalize U[j] = u at *
              have hbi := hBi.size
              have HI5 := hi5.alloc (.cells #[.int .u8 (u % 256), .int .u8 (u / 256)] 5)
              have HI6 := hi6.alloc (.cells #[.int .u8 (u % 256), .int .u8 (u / 256)] 5)
              have HRU : UAt (wr.alloc (.cells #[.int .u8 (u % 256), .int .u8 (u / 256)] 5)) (w4.heap.size) U := at_old hRU _
              have HBi2 := hBi.alloc hbi (.cells #[.int .u8 (u % 256), .int .u8 (u / 256)] 5)
              have hbs2 : w.heap.size ≤ (wr.alloc (.cells #[.int .u8 (u % 256), .int .u8 (u / 256)] 5)).heap.size := by simp; omega
              have h12 : ∀ x ∈ ([.int .u8 (u % 256), .int .u8 (u / 256)] : List Value), x.oneCell' = true := fun x hx => by simp at hx; rcases hx with rfl | rfl <;> rfl
              have hrd2 : ∀ i x, ([.int .u8 (u % 256), .int .u8 (u / 256)] : List Value)[i]? = some x → (wr.alloc (.cells #[.int .u8 (u % 256), .int .u8 (u / 256)] 5)).cell? ((⟨wr.heap.size, 0, none⟩ : Addr).add i) = some x := fun i x hx => by
                match i, hx with
                | 0, hx => rw [← hx]; exact blk_cells (at_new wr (.cells #[.int .u8 (u % 256), .int .u8 (u / 256)] 5) _ rfl) 0
                | 1, hx => rw [← hx]; exact blk_cells (at_new wr (.cells #[.int .u8 (u % 256), .int .u8 (u / 256)] 5) _ rfl) 1
              have hl2 : (m + 2 * j + 2) * 1 ≤ 140737488355328 := by omega
              have fin : ∀ (v1 : Value) (w7 : World), w7.ownsRow w.heap.size 5 1 v1 (m + 2 * j + 2) (u8s (E ++ (U.take j).flatMap (ub false)) ++ [.int .u8 (u % 256), .int .u8 (u / 256)]) → w7.ownsRow w.heap.size 5 1 v1 (m + 2 * (j + 1)) (u8s (E ++ (U.take (j + 1)).flatMap (ub false))) := by
                intro v1 w7 h
                rw [het.out, ← List.append_assoc, u8s_append, u8s_ub _ u hu0 hu1]
                simpa [Nat.mul_add, Nat.add_assoc] using h
              clear hi5 hi6 hRU het
              go_wp2_with (at_builtin; refine step_append_grown (w0 := w) rfl w.heap.size _ _ 22 5 (.int .u8 0) 1 1 rfl Try.underlying22 Try.info5 rfl (by decide) (by decide) _ _ _ _ _ _ _ rfl rfl rfl hrd2 h12 HI5 HBi2 hbs2 hl2 ?_; intro v52 w7 hown5 hb7 hg7; have hi6b := own_other HI6 HI5 (by decide) hg7; have hRU7 := UAt.other HRU HI5 (by decide) hg7; clear hg7)
              go_roundw
              case rel => exact ⟨j + 1, by omega, by go_num, fin _ _ hown5, hi6b, hRU7, hb7⟩
              case measure => simp [intOf]; omega
            · obtain rfl : j = U.length := by omega
              rw [List.take_length, ← HS5.out] at hi5
              clear hRU hur HU HO5 HO6 hrd1
              go_wp2
              go_roundw
              case rel => exact ⟨k + 1, m + 2 * U.length, q + 1, by omega, by omega, by go_num, by omega, by omega, hi5, hi6, hBi⟩
              case measure => simp [intOf]; omega
        · have hlo2 : r < 55296 := by omega
          obtain ⟨U, hU⟩ : ∃ U, U = units r := ⟨_, rfl⟩
          rw [← hU] at HS5 hur hul
          have hU2 : U = [r] := by rw [hU, units, if_neg hbig]
          have HU := Go.Lib.hid hU2
          have hUl : U.length = 1 := by rw [hU2]; rfl
          clear hU hU2 hul
          go_wp2_with (at_builtin; refine step_append_grown (w0 := w) rfl w.heap.size _ _ 28 21 (.int .i32 0) 1 4 rfl Try.underlying28 Try.info21 rfl (by decide) (by decide) _ _ _ _ _ _ _ rfl rfl rfl hrd1 h11 HO6 HB1 hbs1 hl1 ?_; intro v61 w4 hown6 hb4 hg4; have ho5b := own_other HO5 HO6 (by decide) hg4; have hwb4 := hb4.size; clear hg4)
          go_loopw [5, 10, 11, 12] (fun v5 v10 _ _ w6 => ∃ j : Nat, j ≤ U.length ∧ v10 = .int .i64 j ∧ w6.ownsRow w.heap.size 5 1 v5 (m + 2 * j) (u8s (E ++ (U.take j).flatMap (ub false))) ∧ w6.ownsRow w.heap.size 21 1 v61 (q + 1) (((X.take (k + 1)).filter valid).map (Value.int .i32)) ∧ UAt w6 (w4.heap.size) U ∧ Below w.heap.size w w6)
            (fun _ v10 _ _ _ => U.length - (intOf v10).toNat)
          case atStart =>
            refine ⟨0, Nat.zero_le _, rfl, ?_, ?_, ?_, hb4.alloc hwb4 _⟩
            · rw [List.take_zero, List.flatMap_nil, List.append_nil]
              exact (ho5b.alloc _)
            · rw [HS6.out, List.map_append]
              exact (hown6.alloc _)
            · rw [HU.out]
              exact at_new _ _ _ (by simp)
          case round =>
            obtain ⟨j, hj, rfl, hi5, hi6, hRU, hBi⟩ := hrel
            obtain ⟨ob5, d5, rfl⟩ := own_slice hi5
            by_cases hju : j < U.length
            · have hcu := hRU.cell j hju
              obtain ⟨hu0, hu1⟩ := hur U[j] (List.getElem_mem hju)
              have het := Go.Lib.hid (enc_take false U j hju)
              generalize U[j] = u at *
              have hbi := hBi.size
              have HI5 := hi5.alloc (.cells #[.int .u8 (u % 256), .int .u8 (u / 256)] 5)
              have HI6 := hi6.alloc (.cells #[.int .u8 (u % 256), .int .u8 (u / 256)] 5)
              have HRU : UAt (wr.alloc (.cells #[.int .u8 (u % 256), .int .u8 (u / 256)] 5)) (w4.heap.size) U := at_old hRU _
              have HBi2 := hBi.alloc hbi (.cells #[.int .u8 (u % 256), .int .u8 (u / 256)] 5)
              have hbs2 : w.heap.size ≤ (wr.alloc (.cells #[.int .u8 (u % 256), .int .u8 (u / 256)] 5)).heap.size := by simp; omega
              have h12 : ∀ x ∈ ([.int .u8 (u % 256), .int .u8 (u / 256)] : List Value), x.oneCell' = true := fun x hx => by simp at hx; rcases hx with rfl | rfl <;> rfl
              have hrd2 : ∀ i x, ([.int .u8 (u % 256), .int .u8 (u / 256)] : List Value)[i]? = some x → (wr.alloc (.cells #[.int .u8 (u % 256), .int .u8 (u / 256)] 5)).cell? ((⟨wr.heap.size, 0, none⟩ : Addr).add i) = some x := fun i x hx => by
                match i, hx with
                | 0, hx => rw [← hx]; exact blk_cells (at_new wr (.cells #[.int .u8 (u % 256), .int .u8 (u / 256)] 5) _ rfl) 0
                | 1, hx => rw [← hx]; exact blk_cells (at_new wr (.cells #[.int .u8 (u % 256), .int .u8 (u / 256)] 5) _ rfl) 1
              have hl2 : (m + 2 * j + 2) * 1 ≤ 140737488355328 := by omega
              have fin : ∀ (v1 : Value) (w7 : World), w7.ownsRow w.heap.size 5 1 v1 (m + 2 * j + 2) (u8s (E ++ (U.take j).flatMap (ub false)) ++ [.int .u8 (u % 256), .int .u8 (u / 256)]) → w7.ownsRow w.heap.size 5 1 v1 (m + 2 * (j + 1)) (u8s (E ++ (U.take (j + 1)).flatMap (ub false))) := by
                intro v1 w7 h
                rw [het.out, ← List.append_assoc, u8s_append, u8s_ub _ u hu0 hu1]
                simpa [Nat.mul_add, Nat.add_assoc] using h
              clear hi5 hi6 hRU het
              go_wp2_with (at_builtin; refine step_append_grown (w0 := w) rfl w.heap.size _ _ 22 5 (.int .u8 0) 1 1 rfl Try.underlying22 Try.info5 rfl (by decide) (by decide) _ _ _ _ _ _ _ rfl rfl rfl hrd2 h12 HI5 HBi2 hbs2 hl2 ?_; intro v52 w7 hown5 hb7 hg7; have hi6b := own_other HI6 HI5 (by decide) hg7; have hRU7 := UAt.other HRU HI5 (by decide) hg7; clear hg7)
              go_roundw
              case rel => exact ⟨j + 1, by omega, by go_num, fin _ _ hown5, hi6b, hRU7, hb7⟩
              case measure => simp [intOf]; omega
            · obtain rfl : j = U.length := by omega
              rw [List.take_length, ← HS5.out] at hi5
              clear hRU hur HU HO5 HO6 hrd1
              go_wp2
              go_roundw
              case rel => exact ⟨k + 1, m + 2 * U.length, q + 1, by omega, by omega, by go_num, by omega, by omega, hi5, hi6, hBi⟩
              case measure => simp [intOf]; omega
      · have hv' : ¬ (0 ≤ r ∧ r ≤ 1114111 ∧ ¬ (55296 ≤ r ∧ r ≤ 57343)) := fun h => hv ((valid_iff r).2 h)
        have hs5' := hs5.out
        have hs6' := hs6.out
        rw [if_neg hv, List.append_nil] at hs5' hs6'
        rw [← hs5'] at ho5
        rw [← hs6'] at ho6
        clear hs5 hs6 hs5' hs6' hv
        go_wp2
        all_goals first
          | (exfalso; omega)
          | skip
        all_goals go_roundw
        all_goals first
          | (case rel => exact ⟨k + 1, m, q, by omega, by omega, by go_num, by omega, by omega, ho5, ho6, hB⟩)
          | skip
        all_goals first
          | (simp [intOf]; omega)
          | skip
    · obtain ⟨oa5, c5, rfl⟩ := own_slice ho5
      obtain ⟨oa6, c6, rfl⟩ := own_slice ho6
      have hT : toldf (enc16 false (X.take k)) = (X.take k).filter valid := toldf_16 _
      have hEl := enc16_len false (X.take k)
      have hVl : ((X.take k).filter valid).length ≤ (X.take k).length := List.length_filter_le _ _
      rw [List.length_take] at hEl hVl
      generalize (X.take k).filter valid = V at *
      generalize enc16 false (X.take k) = E at *
      have hme : m = E.length := by have := ho5.1; simp [u8s] at this; omega
      subst hme
      have hqe : q = V.length := by have := ho6.1; simp at this; omega
      subst hqe
      have hR2 : RdB wr oa5 E := fun j hj => by
        obtain ⟨ad, h1, h2⟩ := (own_read ho5).2 j (.int .u8 (E[j]).toNat) (by simp [u8s, hj])
        exact ⟨ad, h1, h2⟩
      have F := text13_f oa5 E.length c5 E wr rfl hR2 (by omega)
      rw [hT] at F
      have hVm : V.length ≤ maxLen := by unfold maxLen; omega
      clear hT hEl hVl hR2
      by_cases hkl : k < X.length
      · have hk3 : ¬ (k : Int) < 1000 := by omega
        go_wp2_with (first
          | (go_at_call 13; (with_reducible refine F.mono ?_); rintro e w1 ⟨v1, rfl, ho1, hb1⟩; obtain ⟨oa14, c14, rfl⟩ := own_slice ho1; have hr1 := RdR.own ho1; have hr6 := (RdR.own ho6).below hb1)
          | (go_at_call 15; (with_reducible refine (runes15 oa14 oa6 V.length c14 c6 V _ rfl hVm hr1 hr6).mono ?_); rintro e w2 ⟨rfl, hb2⟩)
          | (go_at_call 16; (with_reducible refine (awake16 _).mono ?_); rintro e w3 ⟨rfl, hb3⟩))
        go_ret
        exact ⟨rfl, (hB.trans (hb1.mono hB.size)).trans ((hb2.trans (hb3.mono hb2.size)).mono (Nat.le_trans hB.size hb1.size))⟩
      · have hk3 : ¬ (k : Int) < X.length := by omega
        go_wp2_with (first
          | (go_at_call 13; (with_reducible refine F.mono ?_); rintro e w1 ⟨v1, rfl, ho1, hb1⟩; obtain ⟨oa14, c14, rfl⟩ := own_slice ho1; have hr1 := RdR.own ho1; have hr6 := (RdR.own ho6).below hb1)
          | (go_at_call 15; (with_reducible refine (runes15 oa14 oa6 V.length c14 c6 V _ rfl hVm hr1 hr6).mono ?_); rintro e w2 ⟨rfl, hb2⟩)
          | (go_at_call 16; (with_reducible refine (awake16 _).mono ?_); rintro e w3 ⟨rfl, hb3⟩))
        go_ret
        exact ⟨rfl, (hB.trans (hb1.mono hB.size)).trans ((hb2.trans (hb3.mono hb2.size)).mono (Nat.le_trans hB.size hb1.size))⟩

theorem sixteen7 (oa : Option Addr) (n cap : Nat) (X : List Int) (big : Bool) (w : World) (hn : n = X.length) (hm : n ≤ maxLen) (hR : RdR w oa X) (hw : ∀ x ∈ X, -2147483648 ≤ x ∧ x ≤ 2147483647) :
    Calls Try.prog 7 #[.slice oa n cap, .bool big] w fun e w' => e = .returned (.bool true) ∧ Below w.heap.size w w' := by
  cases big
  · exact sixteen7f oa n cap X w hn hm hR hw
  · exact sixteen7t oa n cap X w hn hm hR hw
end Go.Proofs.Ytmfifaigphnbmaa
