/- The reference's decoder takes what is sure, of UTF-16. Printed by gen17.py. -/
import Derived.Test.YtmfifaigphnbmaaF4
import Derived.Deep.RegionWith
namespace Go.Proofs.Ytmfifaigphnbmaa
open Go.RowKit
theorem bdw (w : World) : Below w.heap.size w w.drew := ⟨rfl, rfl, rfl, Nat.le_refl _, fun _ _ => rfl⟩
theorem RelT.below {T : List Int → List Int} {d : Nat} {enc : Int} {over : Bool} {L : List UInt8} {B : Nat} {w : World} {v : Value} {wr w1 : World} {p : Nat} {X : List Int} {oa : Option Addr} {m cap : Nat} (h : RelT T d enc over L B w v wr p X oa m cap) (hb : Below wr.heap.size wr w1) : RelT T d enc over L B w v w1 p X oa m cap :=
  ⟨h.lp, h.lx, h.tell, bblk hb h.dec, h.hm, h.hcap, h.rd.but (But.of (hb.mono h.size)), own_below h.own hb, h.but.trans (But.of (hb.mono h.size)), Nat.le_trans h.size hb.size⟩
set_option maxRecDepth 100000 in
set_option maxHeartbeats 2000000 in
theorem take27_1 (d : Nat) (over fin : Bool) (oa0 : Option Addr) (m0 cap0 : Nat) (L : List UInt8) (w : World) (hd : DecR w d 1 (.slice oa0 m0 cap0) over) (hm0 : m0 = L.length) (hc0 : m0 ≤ cap0) (hl : L.length ≤ 34359738368) (hR : RdN w d w.heap.size oa0 L) :
    Calls Try.prog 27 #[.pointer (some ⟨d, 0, none⟩), .bool fin] w fun e w' => Taken (tells16 false U16.zero) d 1 over L fin w.heap.size w e w' := by
  have hdw : d < w.heap.size := blk_lt hd
  go_enter Try.func27, Try.ntmps27
  go_wp2
  go_loopg [5, 6, 7] L.length (fun g v5 _ _ wr => ∃ p X oa m cap, L.length - p ≤ g ∧ RelT (tells16 false U16.zero) d 1 over L w.heap.size w v5 wr p X oa m cap)
  case atStart => exact ⟨0, [], oa0, m0, cap0, Nat.sub_le _ _, Nat.zero_le _, Nat.zero_le _, rfl, hd, hm0, hc0, hR, own_nil _ _ _ _, But.refl _ _ _, Nat.le_refl _⟩
  case round =>
    obtain ⟨p, X, oa, m, cap, hg, h⟩ := hrel
    have c1 := blk_cells h.dec 1
    have c0 := blk_cells h.dec 0
    have f1 := blk_free h.dec
    have c1 : wr.cell? ⟨d, 1, none⟩ = some (.slice oa m cap) := c1
    have c0 : wr.cell? ⟨d, 0, none⟩ = some (.int .i64 1) := c0
    have hml : m ≤ L.length := by rw [h.hm, List.length_drop]; omega
    by_cases hm : 0 < m
    · have hne : L.drop p ≠ [] := by intro e; have := h.hm; rw [e] at this; simp at this; omega
      have U := utf16_33 false 1 rfl fin oa m cap (L.drop p) wr.drew hne h.hm h.hcap (by unfold maxLen; omega) h.rd.1
      obtain ⟨oa5, c5, hv5⟩ := own_slice h.own
      subst hv5
      have HR := Go.Lib.hid h
      clear h
      go_wp2_with fail
      go_region_with (go_at_call 33; refine U.mono ?_; rintro e W ⟨⟨r, k, rfl, hT⟩, hj⟩)
      all_goals
        have hW := HR.out.below (w1 := W) (by obtain ⟨j, rfl⟩ := hj; exact bdr (bdw wr) j)
        clear hj c1 f1 c0
        have H := Go.Lib.hid hW
        have c1 : W.cell? ⟨d, 1, none⟩ = some (.slice oa m cap) := blk_cells hW.dec 1
        have f1 := blk_free hW.dec
        clear hW HR
        rcases hT with ⟨rfl, hf⟩ | ⟨hk0, hk1, hT⟩
        · subst hf
          go_wp2
          go_ret
          exact ⟨_, p, X, oa, m, cap, rfl, H.out, fun h => by cases h⟩
        · have hkm : k ≤ m := by rw [H.out.hm]; exact hk1
          obtain ⟨ad, rfl⟩ : ∃ ad, oa = some ad := by
            obtain ⟨ad, h, _⟩ := H.out.rd.1 0 (by rw [← H.out.hm]; exact hm)
            exact ⟨ad, h⟩
          have HO := H.out.own
          have hlx := H.out.lx
          have hlp := H.out.lp
          have hX := Go.Lib.hid hT
          have hws := H.out.size
          have hgk : 0 < gk := by have := H.out.hm; rw [List.length_drop] at this; omega
          clear hT
          have hhl : (X.length + 1) * 4 ≤ 140737488355328 := by omega
          have h1c : ∀ u ∈ (#[Value.int .i32 r]).toList, u.oneCell' = true := fun u hu => by simp at hu; subst hu; rfl
          by_cases hcm : k = cap
          · subst hcm
            go_wp2_with (at_builtin; go_must (refine step_append (w0 := W) rfl w.heap.size (.tmp 58) (.tmp 60) 28 21 (.int .i32 0) 1 4 rfl Try.underlying28 Try.info21 rfl (by decide) (by decide) (.slice oa5 X.length c5) X.length W.heap.size (X.map (Value.int .i32)) #[.int .i32 r] rfl rfl rfl rfl h1c HO (Below.refl _ _) hws hhl ?_; intro v2 w2 hown2 hb2; have cc1 := (hb2.cell (p := ⟨d, 1, none⟩) hdw).trans c1; have ff1 : w2.frozen? ⟨d, 1, none⟩ = false := (hb2.frozen (p := ⟨d, 1, none⟩) hdw).trans (f1 1)))
            go_roundg (gk - 1)
            case measure => omega
            case rel => exact ⟨p + k, X ++ [r], _, _, _, by omega, H.out.next hdw hkm hk0 hX.out hown2 hb2 (by rw [if_pos rfl]) (Nat.sub_self k).symm⟩
          · go_wp2_with (at_builtin; go_must (refine step_append (w0 := W) rfl w.heap.size (.tmp 58) (.tmp 60) 28 21 (.int .i32 0) 1 4 rfl Try.underlying28 Try.info21 rfl (by decide) (by decide) (.slice oa5 X.length c5) X.length W.heap.size (X.map (Value.int .i32)) #[.int .i32 r] rfl rfl rfl rfl h1c HO (Below.refl _ _) hws hhl ?_; intro v2 w2 hown2 hb2; have cc1 := (hb2.cell (p := ⟨d, 1, none⟩) hdw).trans c1; have ff1 : w2.frozen? ⟨d, 1, none⟩ = false := (hb2.frozen (p := ⟨d, 1, none⟩) hdw).trans (f1 1)))
            go_roundg (gk - 1)
            case measure => omega
            case rel => exact ⟨p + k, X ++ [r], _, _, _, by omega, H.out.next hdw hkm hk0 hX.out hown2 hb2 (by rw [if_neg (fun e => hcm e.symm)]; rfl) rfl⟩
    · have hm0 : m = 0 := by omega
      subst hm0
      have H := Go.Lib.hid h
      clear h
      go_wp2
      go_ret
      refine ⟨_, p, X, oa, 0, cap, rfl, H.out, fun _ => ?_⟩
      have := H.out.hm
      have := H.out.lp
      rw [List.length_drop] at *
      omega
set_option maxRecDepth 100000 in
set_option maxHeartbeats 2000000 in
theorem take27_2 (d : Nat) (over fin : Bool) (oa0 : Option Addr) (m0 cap0 : Nat) (L : List UInt8) (w : World) (hd : DecR w d 2 (.slice oa0 m0 cap0) over) (hm0 : m0 = L.length) (hc0 : m0 ≤ cap0) (hl : L.length ≤ 34359738368) (hR : RdN w d w.heap.size oa0 L) :
    Calls Try.prog 27 #[.pointer (some ⟨d, 0, none⟩), .bool fin] w fun e w' => Taken (tells16 true U16.zero) d 2 over L fin w.heap.size w e w' := by
  have hdw : d < w.heap.size := blk_lt hd
  go_enter Try.func27, Try.ntmps27
  go_wp2
  go_loopg [5, 6, 7] L.length (fun g v5 _ _ wr => ∃ p X oa m cap, L.length - p ≤ g ∧ RelT (tells16 true U16.zero) d 2 over L w.heap.size w v5 wr p X oa m cap)
  case atStart => exact ⟨0, [], oa0, m0, cap0, Nat.sub_le _ _, Nat.zero_le _, Nat.zero_le _, rfl, hd, hm0, hc0, hR, own_nil _ _ _ _, But.refl _ _ _, Nat.le_refl _⟩
  case round =>
    obtain ⟨p, X, oa, m, cap, hg, h⟩ := hrel
    have c1 := blk_cells h.dec 1
    have c0 := blk_cells h.dec 0
    have f1 := blk_free h.dec
    have c1 : wr.cell? ⟨d, 1, none⟩ = some (.slice oa m cap) := c1
    have c0 : wr.cell? ⟨d, 0, none⟩ = some (.int .i64 2) := c0
    have hml : m ≤ L.length := by rw [h.hm, List.length_drop]; omega
    by_cases hm : 0 < m
    · have hne : L.drop p ≠ [] := by intro e; have := h.hm; rw [e] at this; simp at this; omega
      have U := utf16_33 true 2 rfl fin oa m cap (L.drop p) wr.drew hne h.hm h.hcap (by unfold maxLen; omega) h.rd.1
      obtain ⟨oa5, c5, hv5⟩ := own_slice h.own
      subst hv5
      have HR := Go.Lib.hid h
      clear h
      go_wp2_with fail
      go_region_with (go_at_call 33; refine U.mono ?_; rintro e W ⟨⟨r, k, rfl, hT⟩, hj⟩)
      all_goals
        have hW := HR.out.below (w1 := W) (by obtain ⟨j, rfl⟩ := hj; exact bdr (bdw wr) j)
        clear hj c1 f1 c0
        have H := Go.Lib.hid hW
        have c1 : W.cell? ⟨d, 1, none⟩ = some (.slice oa m cap) := blk_cells hW.dec 1
        have f1 := blk_free hW.dec
        clear hW HR
        rcases hT with ⟨rfl, hf⟩ | ⟨hk0, hk1, hT⟩
        · subst hf
          go_wp2
          go_ret
          exact ⟨_, p, X, oa, m, cap, rfl, H.out, fun h => by cases h⟩
        · have hkm : k ≤ m := by rw [H.out.hm]; exact hk1
          obtain ⟨ad, rfl⟩ : ∃ ad, oa = some ad := by
            obtain ⟨ad, h, _⟩ := H.out.rd.1 0 (by rw [← H.out.hm]; exact hm)
            exact ⟨ad, h⟩
          have HO := H.out.own
          have hlx := H.out.lx
          have hlp := H.out.lp
          have hX := Go.Lib.hid hT
          have hws := H.out.size
          have hgk : 0 < gk := by have := H.out.hm; rw [List.length_drop] at this; omega
          clear hT
          have hhl : (X.length + 1) * 4 ≤ 140737488355328 := by omega
          have h1c : ∀ u ∈ (#[Value.int .i32 r]).toList, u.oneCell' = true := fun u hu => by simp at hu; subst hu; rfl
          by_cases hcm : k = cap
          · subst hcm
            go_wp2_with (at_builtin; go_must (refine step_append (w0 := W) rfl w.heap.size (.tmp 58) (.tmp 60) 28 21 (.int .i32 0) 1 4 rfl Try.underlying28 Try.info21 rfl (by decide) (by decide) (.slice oa5 X.length c5) X.length W.heap.size (X.map (Value.int .i32)) #[.int .i32 r] rfl rfl rfl rfl h1c HO (Below.refl _ _) hws hhl ?_; intro v2 w2 hown2 hb2; have cc1 := (hb2.cell (p := ⟨d, 1, none⟩) hdw).trans c1; have ff1 : w2.frozen? ⟨d, 1, none⟩ = false := (hb2.frozen (p := ⟨d, 1, none⟩) hdw).trans (f1 1)))
            go_roundg (gk - 1)
            case measure => omega
            case rel => exact ⟨p + k, X ++ [r], _, _, _, by omega, H.out.next hdw hkm hk0 hX.out hown2 hb2 (by rw [if_pos rfl]) (Nat.sub_self k).symm⟩
          · go_wp2_with (at_builtin; go_must (refine step_append (w0 := W) rfl w.heap.size (.tmp 58) (.tmp 60) 28 21 (.int .i32 0) 1 4 rfl Try.underlying28 Try.info21 rfl (by decide) (by decide) (.slice oa5 X.length c5) X.length W.heap.size (X.map (Value.int .i32)) #[.int .i32 r] rfl rfl rfl rfl h1c HO (Below.refl _ _) hws hhl ?_; intro v2 w2 hown2 hb2; have cc1 := (hb2.cell (p := ⟨d, 1, none⟩) hdw).trans c1; have ff1 : w2.frozen? ⟨d, 1, none⟩ = false := (hb2.frozen (p := ⟨d, 1, none⟩) hdw).trans (f1 1)))
            go_roundg (gk - 1)
            case measure => omega
            case rel => exact ⟨p + k, X ++ [r], _, _, _, by omega, H.out.next hdw hkm hk0 hX.out hown2 hb2 (by rw [if_neg (fun e => hcm e.symm)]; rfl) rfl⟩
    · have hm0 : m = 0 := by omega
      subst hm0
      have H := Go.Lib.hid h
      clear h
      go_wp2
      go_ret
      refine ⟨_, p, X, oa, 0, cap, rfl, H.out, fun _ => ?_⟩
      have := H.out.hm
      have := H.out.lp
      rw [List.length_drop] at *
      omega
end Go.Proofs.Ytmfifaigphnbmaa
