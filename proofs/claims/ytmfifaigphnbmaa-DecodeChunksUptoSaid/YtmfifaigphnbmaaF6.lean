/- The reference's decoder takes what is sure, of single bytes. Printed by gen17.py. -/
import Derived.Test.YtmfifaigphnbmaaF5
import Derived.Deep.RegionWith
namespace Go.Proofs.Ytmfifaigphnbmaa
open Go.RowKit
set_option maxRecDepth 100000 in
set_option maxHeartbeats 2000000 in
theorem take27_3 (d : Nat) (over fin : Bool) (oa0 : Option Addr) (m0 cap0 : Nat) (L : List UInt8) (w : World) (hd : DecR w d 3 (.slice oa0 m0 cap0) over) (hm0 : m0 = L.length) (hc0 : m0 ≤ cap0) (hl : L.length ≤ 34359738368) (hR : RdN w d w.heap.size oa0 L) :
    Calls Try.prog 27 #[.pointer (some ⟨d, 0, none⟩), .bool fin] w fun e w' => Taken (List.map (one upW)) d 3 over L fin w.heap.size w e w' := by
  have hdw : d < w.heap.size := blk_lt hd
  go_enter Try.func27, Try.ntmps27
  go_wp2
  go_loopg [5, 6, 7] L.length (fun g v5 _ _ wr => ∃ p X oa m cap, L.length - p ≤ g ∧ RelT (List.map (one upW)) d 3 over L w.heap.size w v5 wr p X oa m cap)
  case atStart => exact ⟨0, [], oa0, m0, cap0, Nat.sub_le _ _, Nat.zero_le _, Nat.zero_le _, rfl, hd, hm0, hc0, hR, own_nil _ _ _ _, But.refl _ _ _, Nat.le_refl _⟩
  case round =>
    obtain ⟨p, X, oa, m, cap, hg, h⟩ := hrel
    have c1 := blk_cells h.dec 1
    have c0 := blk_cells h.dec 0
    have f1 := blk_free h.dec
    have c1 : wr.cell? ⟨d, 1, none⟩ = some (.slice oa m cap) := c1
    have c0 : wr.cell? ⟨d, 0, none⟩ = some (.int .i64 3) := c0
    have hml : m ≤ L.length := by rw [h.hm, List.length_drop]; omega
    by_cases hm : 0 < m
    · have hne : L.drop p ≠ [] := by intro e; have := h.hm; rw [e] at this; simp at this; omega
      obtain ⟨b, rr, hbr⟩ := List.exists_cons_of_ne_nil hne
      obtain ⟨ad, rfl, hcb⟩ := h.rd.1 0 (by rw [← h.hm]; exact hm)
      have hcb' : wr.cell? ad = some (.int .u8 b.toNat) := by rw [Addr.add_zero'] at hcb; rw [hcb]; simp [hbr]
      clear hcb
      have hb := b.toNat_lt
      have U := fun (W : World) => single34_3 b.toNat W (by omega) (by omega)
      have hT : (List.map (one upW)) (nums (L.drop p)) = one upW b.toNat :: (List.map (one upW)) (nums ((L.drop p).drop 1)) := by rw [hbr]; rfl
      have HT := Go.Lib.hid hT
      clear hbr hT hne
      obtain ⟨oa5, c5, hv5⟩ := own_slice h.own
      subst hv5
      have HR := Go.Lib.hid h
      clear h
      go_wp2_with fail
      go_region_with (go_at_call 34; refine (U _).mono ?_; rintro e W ⟨rfl, hbw⟩)
      go_goals
      all_goals
        have hW := HR.out.below (w1 := W) ((bdw wr).trans hbw)
        clear hbw c1 f1 c0
        have H := Go.Lib.hid hW
        have c1 : W.cell? ⟨d, 1, none⟩ = some (.slice (some ad) m cap) := blk_cells hW.dec 1
        have f1 := blk_free hW.dec
        clear hW HR
        have hT := HT.out
        have hk0 : 0 < 1 := by omega
        have hkm : 1 ≤ m := hm
        have HO := H.out.own
        have hlx := H.out.lx
        have hlp := H.out.lp
        have hX := Go.Lib.hid hT
        have hws := H.out.size
        have hgk : 0 < gk := by have := H.out.hm; rw [List.length_drop] at this; omega
        clear hT
        have hhl : (X.length + 1) * 4 ≤ 140737488355328 := by omega
        have h1c : ∀ u ∈ (#[Value.int .i32 (one upW b.toNat)]).toList, u.oneCell' = true := fun u hu => by simp at hu; subst hu; rfl
        by_cases hcm : cap = 1
        · subst hcm
          go_wp2_with (at_builtin; go_must (refine step_append (w0 := W) rfl w.heap.size (.tmp 58) (.tmp 60) 28 21 (.int .i32 0) 1 4 rfl Try.underlying28 Try.info21 rfl (by decide) (by decide) (.slice oa5 X.length c5) X.length W.heap.size (X.map (Value.int .i32)) #[.int .i32 (one upW b.toNat)] rfl rfl rfl rfl h1c HO (Below.refl _ _) hws hhl ?_; intro v2 w2 hown2 hb2; have cc1 := (hb2.cell (p := ⟨d, 1, none⟩) hdw).trans c1; have ff1 : w2.frozen? ⟨d, 1, none⟩ = false := (hb2.frozen (p := ⟨d, 1, none⟩) hdw).trans (f1 1)))
          go_roundg (gk - 1)
          case measure => omega
          case rel => exact ⟨p + 1, X ++ [one upW b.toNat], _, _, _, by omega, H.out.next hdw hkm hk0 hX.out hown2 hb2 (by rw [if_pos rfl]) rfl⟩
        · go_wp2_with (at_builtin; go_must (refine step_append (w0 := W) rfl w.heap.size (.tmp 58) (.tmp 60) 28 21 (.int .i32 0) 1 4 rfl Try.underlying28 Try.info21 rfl (by decide) (by decide) (.slice oa5 X.length c5) X.length W.heap.size (X.map (Value.int .i32)) #[.int .i32 (one upW b.toNat)] rfl rfl rfl rfl h1c HO (Below.refl _ _) hws hhl ?_; intro v2 w2 hown2 hb2; have cc1 := (hb2.cell (p := ⟨d, 1, none⟩) hdw).trans c1; have ff1 : w2.frozen? ⟨d, 1, none⟩ = false := (hb2.frozen (p := ⟨d, 1, none⟩) hdw).trans (f1 1)))
          go_roundg (gk - 1)
          case measure => omega
          case rel => exact ⟨p + 1, X ++ [one upW b.toNat], _, _, _, by omega, H.out.next hdw hkm hk0 hX.out hown2 hb2 (by rw [if_neg (fun e => hcm e)]; rfl) rfl⟩
    · have hm0 : m = 0 := by omega
      subst hm0
      have H := Go.Lib.hid h
      clear h
      go_wp2
      go_ret
      refine ⟨_, p, X, oa, 0, cap, rfl, H.out, fun _ => ?_⟩
      have := H.out.hm
      have := H.out.lp
      rw [List.length_drop] at *
      omega
set_option maxRecDepth 100000 in
set_option maxHeartbeats 2000000 in
theorem take27_4 (d : Nat) (over fin : Bool) (oa0 : Option Addr) (m0 cap0 : Nat) (L : List UInt8) (w : World) (hd : DecR w d 4 (.slice oa0 m0 cap0) over) (hm0 : m0 = L.length) (hc0 : m0 ≤ cap0) (hl : L.length ≤ 34359738368) (hR : RdN w d w.heap.size oa0 L) :
    Calls Try.prog 27 #[.pointer (some ⟨d, 0, none⟩), .bool fin] w fun e w' => Taken (List.map (one upL)) d 4 over L fin w.heap.size w e w' := by
  have hdw : d < w.heap.size := blk_lt hd
  go_enter Try.func27, Try.ntmps27
  go_wp2
  go_loopg [5, 6, 7] L.length (fun g v5 _ _ wr => ∃ p X oa m cap, L.length - p ≤ g ∧ RelT (List.map (one upL)) d 4 over L w.heap.size w v5 wr p X oa m cap)
  case atStart => exact ⟨0, [], oa0, m0, cap0, Nat.sub_le _ _, Nat.zero_le _, Nat.zero_le _, rfl, hd, hm0, hc0, hR, own_nil _ _ _ _, But.refl _ _ _, Nat.le_refl _⟩
  case round =>
    obtain ⟨p, X, oa, m, cap, hg, h⟩ := hrel
    have c1 := blk_cells h.dec 1
    have c0 := blk_cells h.dec 0
    have f1 := blk_free h.dec
    have c1 : wr.cell? ⟨d, 1, none⟩ = some (.slice oa m cap) := c1
    have c0 : wr.cell? ⟨d, 0, none⟩ = some (.int .i64 4) := c0
    have hml : m ≤ L.length := by rw [h.hm, List.length_drop]; omega
    by_cases hm : 0 < m
    · have hne : L.drop p ≠ [] := by intro e; have := h.hm; rw [e] at this; simp at this; omega
      obtain ⟨b, rr, hbr⟩ := List.exists_cons_of_ne_nil hne
      obtain ⟨ad, rfl, hcb⟩ := h.rd.1 0 (by rw [← h.hm]; exact hm)
      have hcb' : wr.cell? ad = some (.int .u8 b.toNat) := by rw [Addr.add_zero'] at hcb; rw [hcb]; simp [hbr]
      clear hcb
      have hb := b.toNat_lt
      have U := fun (W : World) => single34_4 b.toNat W (by omega) (by omega)
      have hT : (List.map (one upL)) (nums (L.drop p)) = one upL b.toNat :: (List.map (one upL)) (nums ((L.drop p).drop 1)) := by rw [hbr]; rfl
      have HT := Go.Lib.hid hT
      clear hbr hT hne
      obtain ⟨oa5, c5, hv5⟩ := own_slice h.own
      subst hv5
      have HR := Go.Lib.hid h
      clear h
      go_wp2_with fail
      go_region_with (go_at_call 34; refine (U _).mono ?_; rintro e W ⟨rfl, hbw⟩)
      go_goals
      all_goals
        have hW := HR.out.below (w1 := W) ((bdw wr).trans hbw)
        clear hbw c1 f1 c0
        have H := Go.Lib.hid hW
        have c1 : W.cell? ⟨d, 1, none⟩ = some (.slice (some ad) m cap) := blk_cells hW.dec 1
        have f1 := blk_free hW.dec
        clear hW HR
        have hT := HT.out
        have hk0 : 0 < 1 := by omega
        have hkm : 1 ≤ m := hm
        have HO := H.out.own
        have hlx := H.out.lx
        have hlp := H.out.lp
        have hX := Go.Lib.hid hT
        have hws := H.out.size
        have hgk : 0 < gk := by have := H.out.hm; rw [List.length_drop] at this; omega
        clear hT
        have hhl : (X.length + 1) * 4 ≤ 140737488355328 := by omega
        have h1c : ∀ u ∈ (#[Value.int .i32 (one upL b.toNat)]).toList, u.oneCell' = true := fun u hu => by simp at hu; subst hu; rfl
        by_cases hcm : cap = 1
        · subst hcm
          go_wp2_with (at_builtin; go_must (refine step_append (w0 := W) rfl w.heap.size (.tmp 58) (.tmp 60) 28 21 (.int .i32 0) 1 4 rfl Try.underlying28 Try.info21 rfl (by decide) (by decide) (.slice oa5 X.length c5) X.length W.heap.size (X.map (Value.int .i32)) #[.int .i32 (one upL b.toNat)] rfl rfl rfl rfl h1c HO (Below.refl _ _) hws hhl ?_; intro v2 w2 hown2 hb2; have cc1 := (hb2.cell (p := ⟨d, 1, none⟩) hdw).trans c1; have ff1 : w2.frozen? ⟨d, 1, none⟩ = false := (hb2.frozen (p := ⟨d, 1, none⟩) hdw).trans (f1 1)))
          go_roundg (gk - 1)
          case measure => omega
          case rel => exact ⟨p + 1, X ++ [one upL b.toNat], _, _, _, by omega, H.out.next hdw hkm hk0 hX.out hown2 hb2 (by rw [if_pos rfl]) rfl⟩
        · go_wp2_with (at_builtin; go_must (refine step_append (w0 := W) rfl w.heap.size (.tmp 58) (.tmp 60) 28 21 (.int .i32 0) 1 4 rfl Try.underlying28 Try.info21 rfl (by decide) (by decide) (.slice oa5 X.length c5) X.length W.heap.size (X.map (Value.int .i32)) #[.int .i32 (one upL b.toNat)] rfl rfl rfl rfl h1c HO (Below.refl _ _) hws hhl ?_; intro v2 w2 hown2 hb2; have cc1 := (hb2.cell (p := ⟨d, 1, none⟩) hdw).trans c1; have ff1 : w2.frozen? ⟨d, 1, none⟩ = false := (hb2.frozen (p := ⟨d, 1, none⟩) hdw).trans (f1 1)))
          go_roundg (gk - 1)
          case measure => omega
          case rel => exact ⟨p + 1, X ++ [one upL b.toNat], _, _, _, by omega, H.out.next hdw hkm hk0 hX.out hown2 hb2 (by rw [if_neg (fun e => hcm e)]; rfl) rfl⟩
    · have hm0 : m = 0 := by omega
      subst hm0
      have H := Go.Lib.hid h
      clear h
      go_wp2
      go_ret
      refine ⟨_, p, X, oa, 0, cap, rfl, H.out, fun _ => ?_⟩
      have := H.out.hm
      have := H.out.lp
      rw [List.length_drop] at *
      omega
set_option maxRecDepth 100000 in
set_option maxHeartbeats 2000000 in
theorem take27_5 (d : Nat) (over fin : Bool) (oa0 : Option Addr) (m0 cap0 : Nat) (L : List UInt8) (w : World) (hd : DecR w d 5 (.slice oa0 m0 cap0) over) (hm0 : m0 = L.length) (hc0 : m0 ≤ cap0) (hl : L.length ≤ 34359738368) (hR : RdN w d w.heap.size oa0 L) :
    Calls Try.prog 27 #[.pointer (some ⟨d, 0, none⟩), .bool fin] w fun e w' => Taken (List.map (one upC)) d 5 over L fin w.heap.size w e w' := by
  have hdw : d < w.heap.size := blk_lt hd
  go_enter Try.func27, Try.ntmps27
  go_wp2
  go_loopg [5, 6, 7] L.length (fun g v5 _ _ wr => ∃ p X oa m cap, L.length - p ≤ g ∧ RelT (List.map (one upC)) d 5 over L w.heap.size w v5 wr p X oa m cap)
  case atStart => exact ⟨0, [], oa0, m0, cap0, Nat.sub_le _ _, Nat.zero_le _, Nat.zero_le _, rfl, hd, hm0, hc0, hR, own_nil _ _ _ _, But.refl _ _ _, Nat.le_refl _⟩
  case round =>
    obtain ⟨p, X, oa, m, cap, hg, h⟩ := hrel
    have c1 := blk_cells h.dec 1
    have c0 := blk_cells h.dec 0
    have f1 := blk_free h.dec
    have c1 : wr.cell? ⟨d, 1, none⟩ = some (.slice oa m cap) := c1
    have c0 : wr.cell? ⟨d, 0, none⟩ = some (.int .i64 5) := c0
    have hml : m ≤ L.length := by rw [h.hm, List.length_drop]; omega
    by_cases hm : 0 < m
    · have hne : L.drop p ≠ [] := by intro e; have := h.hm; rw [e] at this; simp at this; omega
      obtain ⟨b, rr, hbr⟩ := List.exists_cons_of_ne_nil hne
      obtain ⟨ad, rfl, hcb⟩ := h.rd.1 0 (by rw [← h.hm]; exact hm)
      have hcb' : wr.cell? ad = some (.int .u8 b.toNat) := by rw [Addr.add_zero'] at hcb; rw [hcb]; simp [hbr]
      clear hcb
      have hb := b.toNat_lt
      have U := fun (W : World) => single34_5 b.toNat W (by omega) (by omega)
      have hT : (List.map (one upC)) (nums (L.drop p)) = one upC b.toNat :: (List.map (one upC)) (nums ((L.drop p).drop 1)) := by rw [hbr]; rfl
      have HT := Go.Lib.hid hT
      clear hbr hT hne
      obtain ⟨oa5, c5, hv5⟩ := own_slice h.own
      subst hv5
      have HR := Go.Lib.hid h
      clear h
      go_wp2_with fail
      go_region_with (go_at_call 34; refine (U _).mono ?_; rintro e W ⟨rfl, hbw⟩)
      go_goals
      all_goals
        have hW := HR.out.below (w1 := W) ((bdw wr).trans hbw)
        clear hbw c1 f1 c0
        have H := Go.Lib.hid hW
        have c1 : W.cell? ⟨d, 1, none⟩ = some (.slice (some ad) m cap) := blk_cells hW.dec 1
        have f1 := blk_free hW.dec
        clear hW HR
        have hT := HT.out
        have hk0 : 0 < 1 := by omega
        have hkm : 1 ≤ m := hm
        have HO := H.out.own
        have hlx := H.out.lx
        have hlp := H.out.lp
        have hX := Go.Lib.hid hT
        have hws := H.out.size
        have hgk : 0 < gk := by have := H.out.hm; rw [List.length_drop] at this; omega
        clear hT
        have hhl : (X.length + 1) * 4 ≤ 140737488355328 := by omega
        have h1c : ∀ u ∈ (#[Value.int .i32 (one upC b.toNat)]).toList, u.oneCell' = true := fun u hu => by simp at hu; subst hu; rfl
        by_cases hcm : cap = 1
        · subst hcm
          go_wp2_with (at_builtin; go_must (refine step_append (w0 := W) rfl w.heap.size (.tmp 58) (.tmp 60) 28 21 (.int .i32 0) 1 4 rfl Try.underlying28 Try.info21 rfl (by decide) (by decide) (.slice oa5 X.length c5) X.length W.heap.size (X.map (Value.int .i32)) #[.int .i32 (one upC b.toNat)] rfl rfl rfl rfl h1c HO (Below.refl _ _) hws hhl ?_; intro v2 w2 hown2 hb2; have cc1 := (hb2.cell (p := ⟨d, 1, none⟩) hdw).trans c1; have ff1 : w2.frozen? ⟨d, 1, none⟩ = false := (hb2.frozen (p := ⟨d, 1, none⟩) hdw).trans (f1 1)))
          go_roundg (gk - 1)
          case measure => omega
          case rel => exact ⟨p + 1, X ++ [one upC b.toNat], _, _, _, by omega, H.out.next hdw hkm hk0 hX.out hown2 hb2 (by rw [if_pos rfl]) rfl⟩
        · go_wp2_with (at_builtin; go_must (refine step_append (w0 := W) rfl w.heap.size (.tmp 58) (.tmp 60) 28 21 (.int .i32 0) 1 4 rfl Try.underlying28 Try.info21 rfl (by decide) (by decide) (.slice oa5 X.length c5) X.length W.heap.size (X.map (Value.int .i32)) #[.int .i32 (one upC b.toNat)] rfl rfl rfl rfl h1c HO (Below.refl _ _) hws hhl ?_; intro v2 w2 hown2 hb2; have cc1 := (hb2.cell (p := ⟨d, 1, none⟩) hdw).trans c1; have ff1 : w2.frozen? ⟨d, 1, none⟩ = false := (hb2.frozen (p := ⟨d, 1, none⟩) hdw).trans (f1 1)))
          go_roundg (gk - 1)
          case measure => omega
          case rel => exact ⟨p + 1, X ++ [one upC b.toNat], _, _, _, by omega, H.out.next hdw hkm hk0 hX.out hown2 hb2 (by rw [if_neg (fun e => hcm e)]; rfl) rfl⟩
    · have hm0 : m = 0 := by omega
      subst hm0
      have H := Go.Lib.hid h
      clear h
      go_wp2
      go_ret
      refine ⟨_, p, X, oa, 0, cap, rfl, H.out, fun _ => ?_⟩
      have := H.out.hm
      have := H.out.lp
      rw [List.length_drop] at *
      omega
set_option maxRecDepth 100000 in
set_option maxHeartbeats 2000000 in
theorem take27_6 (d : Nat) (over fin : Bool) (oa0 : Option Addr) (m0 cap0 : Nat) (L : List UInt8) (w : World) (hd : DecR w d 6 (.slice oa0 m0 cap0) over) (hm0 : m0 = L.length) (hc0 : m0 ≤ cap0) (hl : L.length ≤ 34359738368) (hR : RdN w d w.heap.size oa0 L) :
    Calls Try.prog 27 #[.pointer (some ⟨d, 0, none⟩), .bool fin] w fun e w' => Taken (List.map (one upU)) d 6 over L fin w.heap.size w e w' := by
  have hdw : d < w.heap.size := blk_lt hd
  go_enter Try.func27, Try.ntmps27
  go_wp2
  go_loopg [5, 6, 7] L.length (fun g v5 _ _ wr => ∃ p X oa m cap, L.length - p ≤ g ∧ RelT (List.map (one upU)) d 6 over L w.heap.size w v5 wr p X oa m cap)
  case atStart => exact ⟨0, [], oa0, m0, cap0, Nat.sub_le _ _, Nat.zero_le _, Nat.zero_le _, rfl, hd, hm0, hc0, hR, own_nil _ _ _ _, But.refl _ _ _, Nat.le_refl _⟩
  case round =>
    obtain ⟨p, X, oa, m, cap, hg, h⟩ := hrel
    have c1 := blk_cells h.dec 1
    have c0 := blk_cells h.dec 0
    have f1 := blk_free h.dec
    have c1 : wr.cell? ⟨d, 1, none⟩ = some (.slice oa m cap) := c1
    have c0 : wr.cell? ⟨d, 0, none⟩ = some (.int .i64 6) := c0
    have hml : m ≤ L.length := by rw [h.hm, List.length_drop]; omega
    by_cases hm : 0 < m
    · have hne : L.drop p ≠ [] := by intro e; have := h.hm; rw [e] at this; simp at this; omega
      obtain ⟨b, rr, hbr⟩ := List.exists_cons_of_ne_nil hne
      obtain ⟨ad, rfl, hcb⟩ := h.rd.1 0 (by rw [← h.hm]; exact hm)
      have hcb' : wr.cell? ad = some (.int .u8 b.toNat) := by rw [Addr.add_zero'] at hcb; rw [hcb]; simp [hbr]
      clear hcb
      have hb := b.toNat_lt
      have U := fun (W : World) => single34_6 b.toNat W (by omega) (by omega)
      have hT : (List.map (one upU)) (nums (L.drop p)) = one upU b.toNat :: (List.map (one upU)) (nums ((L.drop p).drop 1)) := by rw [hbr]; rfl
      have HT := Go.Lib.hid hT
      clear hbr hT hne
      obtain ⟨oa5, c5, hv5⟩ := own_slice h.own
      subst hv5
      have HR := Go.Lib.hid h
      clear h
      go_wp2_with fail
      go_region_with (go_at_call 34; refine (U _).mono ?_; rintro e W ⟨rfl, hbw⟩)
      go_goals
      all_goals
        have hW := HR.out.below (w1 := W) ((bdw wr).trans hbw)
        clear hbw c1 f1 c0
        have H := Go.Lib.hid hW
        have c1 : W.cell? ⟨d, 1, none⟩ = some (.slice (some ad) m cap) := blk_cells hW.dec 1
        have f1 := blk_free hW.dec
        clear hW HR
        have hT := HT.out
        have hk0 : 0 < 1 := by omega
        have hkm : 1 ≤ m := hm
        have HO := H.out.own
        have hlx := H.out.lx
        have hlp := H.out.lp
        have hX := Go.Lib.hid hT
        have hws := H.out.size
        have hgk : 0 < gk := by have := H.out.hm; rw [List.length_drop] at this; omega
        clear hT
        have hhl : (X.length + 1) * 4 ≤ 140737488355328 := by omega
        have h1c : ∀ u ∈ (#[Value.int .i32 (one upU b.toNat)]).toList, u.oneCell' = true := fun u hu => by simp at hu; subst hu; rfl
        by_cases hcm : cap = 1
        · subst hcm
          go_wp2_with (at_builtin; go_must (refine step_append (w0 := W) rfl w.heap.size (.tmp 58) (.tmp 60) 28 21 (.int .i32 0) 1 4 rfl Try.underlying28 Try.info21 rfl (by decide) (by decide) (.slice oa5 X.length c5) X.length W.heap.size (X.map (Value.int .i32)) #[.int .i32 (one upU b.toNat)] rfl rfl rfl rfl h1c HO (Below.refl _ _) hws hhl ?_; intro v2 w2 hown2 hb2; have cc1 := (hb2.cell (p := ⟨d, 1, none⟩) hdw).trans c1; have ff1 : w2.frozen? ⟨d, 1, none⟩ = false := (hb2.frozen (p := ⟨d, 1, none⟩) hdw).trans (f1 1)))
          go_roundg (gk - 1)
          case measure => omega
          case rel => exact ⟨p + 1, X ++ [one upU b.toNat], _, _, _, by omega, H.out.next hdw hkm hk0 hX.out hown2 hb2 (by rw [if_pos rfl]) rfl⟩
        · go_wp2_with (at_builtin; go_must (refine step_append (w0 := W) rfl w.heap.size (.tmp 58) (.tmp 60) 28 21 (.int .i32 0) 1 4 rfl Try.underlying28 Try.info21 rfl (by decide) (by decide) (.slice oa5 X.length c5) X.length W.heap.size (X.map (Value.int .i32)) #[.int .i32 (one upU b.toNat)] rfl rfl rfl rfl h1c HO (Below.refl _ _) hws hhl ?_; intro v2 w2 hown2 hb2; have cc1 := (hb2.cell (p := ⟨d, 1, none⟩) hdw).trans c1; have ff1 : w2.frozen? ⟨d, 1, none⟩ = false := (hb2.frozen (p := ⟨d, 1, none⟩) hdw).trans (f1 1)))
          go_roundg (gk - 1)
          case measure => omega
          case rel => exact ⟨p + 1, X ++ [one upU b.toNat], _, _, _, by omega, H.out.next hdw hkm hk0 hX.out hown2 hb2 (by rw [if_neg (fun e => hcm e)]; rfl) rfl⟩
    · have hm0 : m = 0 := by omega
      subst hm0
      have H := Go.Lib.hid h
      clear h
      go_wp2
      go_ret
      refine ⟨_, p, X, oa, 0, cap, rfl, H.out, fun _ => ?_⟩
      have := H.out.hm
      have := H.out.lp
      rw [List.length_drop] at *
      omega
end Go.Proofs.Ytmfifaigphnbmaa
