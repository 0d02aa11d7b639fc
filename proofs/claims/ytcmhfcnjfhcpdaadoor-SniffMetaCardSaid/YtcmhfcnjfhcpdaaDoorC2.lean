/- Bytes without a tag say nothing; byte order marks. -/
import Derived.Test.YtcmhfcnjfhcpdaaDoorC1
namespace Go.Proofs.YtcmhfcnjfhcpdaaDoor
open Go.RowKit
/-- > for <. -/
def shutB (c : UInt8) : UInt8 := if c = 60 then 62 else c
theorem shut_ne (c : UInt8) : shutB c ≠ 60 := by
  unfold shutB
  by_cases h : c = 60
  · rw [if_pos h]; decide
  · rw [if_neg h]; exact h
theorem low_ne {c : UInt8} (h : c ≠ 60) : lowB c ≠ 60 := by
  have key : ∀ d : Fin 256, UInt8.ofNat d.val ≠ 60 → lowB (UInt8.ofNat d.val) ≠ 60 := by decide +kernel
  have := key ⟨c.toNat, c.toNat_lt⟩
  simp only [UInt8.ofNat_toNat] at this
  exact this h
theorem prefix_head {X Y : List UInt8} {c : UInt8} (h : Lib.hasPrefix X (c :: Y) = true) : c ∈ X := by
  obtain ⟨t, rfl⟩ := List.isPrefixOf_iff_prefix.1 h
  simp
theorem pre_none (L : List UInt8) (hL : ∀ c ∈ L, c ≠ 60) : ∀ (f i : Nat), preL L f i = none
  | 0, _ => rfl
  | f + 1, i => by
    have hp : ∀ Y : List UInt8, ¬ Lib.hasPrefix (L.drop i) (60 :: Y) = true := fun Y h => hL 60 (List.mem_of_mem_drop (prefix_head h)) rfl
    rw [preL]
    by_cases h0 : L.length ≤ i
    · rw [if_pos h0]
    · rw [if_neg h0, if_neg (show ¬ Lib.hasPrefix (L.drop i) cmW = true from hp [33, 45, 45]), if_neg (show ¬ (Lib.hasPrefix (L.drop i) mtW = true ∧ slAt (L.drop i) = true) from fun h => hp [109, 101, 116, 97] h.1), if_neg (fun h => h.elim (fun h => hp _ h.1) (fun h => hp _ h.1)), if_neg (fun h => h.elim (hp _) (fun h => h.elim (hp _) (hp _))), pre_none L hL f (i + 1)]
theorem pre_shut (L : List UInt8) : preT (L.map shutB) = none := by
  refine pre_none _ (fun c hc => ?_) _ _
  obtain ⟨d, hd, rfl⟩ := List.mem_map.1 hc
  have hd2 := List.mem_of_mem_take hd
  obtain ⟨e, _, rfl⟩ := List.mem_map.1 hd2
  exact low_ne (shut_ne e)
theorem u8s_set (l : List UInt8) (k : Nat) (c : UInt8) : (u8s l).set k (.int .u8 c.toNat) = u8s (l.set k c) := by
  unfold u8s
  rw [List.map_set]
theorem u8_one (l : List UInt8) : ∀ u ∈ u8s l, u.oneCell' = true := fun u hu => by
  obtain ⟨b, _, rfl⟩ := List.mem_map.1 hu
  rfl
theorem RdB.news {w : World} {oa : Option Addr} {l : List UInt8} (h : RdB w oa l) : ∀ j u, (u8s l)[j]? = some u → ∃ ad, oa = some ad ∧ w.cell? (ad.add j) = some u := fun j u hu => by
  have hj : j < l.length := by
    have := (List.getElem?_eq_some_iff.1 hu).1
    simpa [u8s] using this
  obtain ⟨ad, h1, h2⟩ := h j hj
  refine ⟨ad, h1, ?_⟩
  rw [h2, ← hu]
  simp [u8s, hj]
set_option maxHeartbeats 1000000 in
set_option maxRecDepth 100000 in
theorem plain4 (oa : Option Addr) (c : Nat) (L : List UInt8) (w : World) (hR : RdB w oa L) (hm : L.length ≤ 140737488351232) (hT : Tabs w) :
    Calls Tryd.prog 4 #[.slice oa L.length c] w fun e w' => e = .returned (.bool true) ∧ Below w.heap.size w w' := by
  have HP := Go.Lib.hid (pre_shut L)
  go_enter Tryd.func4, Tryd.ntmps4
  go_wp2_with (at_builtin; refine step_append_slice rfl w.heap.size (.tmp 7) (.tmp 8) 26 5 _ 1 1 rfl Tryd.underlying26 Tryd.info5 rfl (by decide) (by decide) _ 0 L.length c oa [] (u8s L) rfl rfl (by simp [u8s]) (RdB.news (hR.below (bal (Below.refl _ _) _))) (u8_one L) (own_empty w w.heap.size 5 1 w.heap.size rfl (Nat.le_refl _)) (bal (Below.refl _ _) _) (by simp) (by omega) ?_; intro v1 w1 hown1 hB1; simp only [Nat.zero_add, List.nil_append] at hown1; obtain ⟨oa1, cap1, rfl⟩ := own_slice hown1)
  go_loopw [4] (fun v4 wr => ∃ k : Nat, k ≤ L.length ∧ v4 = .int .i64 k ∧ Below w.heap.size w wr ∧ wr.ownsRow w.heap.size 5 1 (.slice oa1 L.length cap1) L.length (u8s (mapTo shutB L k))) (fun v4 _ => L.length - (intOf v4).toNat)
  case atStart => exact ⟨0, Nat.zero_le _, rfl, hB1, hown1⟩
  case round =>
    clear hB1 hown1
    obtain ⟨k, hk, rfl, hB, hown⟩ := hrel
    by_cases hlt : k < L.length
    · obtain ⟨g, rfl, hg⟩ := own_form hown (by omega)
      have hlen : k < (mapTo shutB L k).length := by rw [mapTo_length]; exact hlt
      have hc := hown.cellAt k (by omega)
      have hf := hown.frozenAt k
      rw [show (u8s (mapTo shutB L k))[k]? = some (.int .u8 (L[k]).toNat) by rw [u8s, List.getElem?_map, List.getElem?_eq_getElem hlen, mapTo_get _ _ _ hlt]; rfl] at hc
      have HS := Go.Lib.hid (mapTo_set shutB L k hlt)
      have HE := Go.Lib.hid (fun h => mapTo_same shutB L k hlt h)
      have HO := Go.Lib.hid ((hown.stored k (.int .u8 (62 : UInt8).toNat)).1)
      rw [u8s_set] at HO
      have hq := beq_toNat L[k] 60
      rw [show ((60 : UInt8).toNat : Int) = 60 from rfl] at hq
      generalize L[k] = x at *
      cases hx : (x == 60) with
      | true =>
        rw [hx] at hq
        have HS2 := Go.Lib.hid (show (mapTo shutB L k).set k 62 = mapTo shutB L (k + 1) by rw [← HS.out, shutB, if_pos (by simpa using hx)])
        clear hx
        go_wp2
        go_roundw
        case rel => exact ⟨k + 1, by omega, by go_num, hB.setCell (p := ⟨g, k, none⟩) hg _, by rw [← HS2.out]; exact HO.out⟩
        case measure => simp [intOf]; omega
      | false =>
        rw [hx] at hq
        have HS2 := Go.Lib.hid (HE.out (by rw [shutB, if_neg (by simpa using hx)]))
        clear hx
        go_wp2
        go_roundw
        case rel => exact ⟨k + 1, by omega, by go_num, hB, by rw [← HS2.out]; exact hown⟩
        case measure => simp [intOf]; omega
    · obtain rfl : k = L.length := by omega
      rw [mapTo_full _ _ _ (Nat.le_refl _)] at hown
      have hML : (L.map shutB).length = L.length := by simp
      obtain ⟨oa2, cap2, hv, hcap, hr, hnn⟩ := own_bytes (L := L.map shutB) (by rw [hML]; exact hown)
      rw [hML] at hv
      injection hv with e1 e2 e3
      subst e1 e3
      have P := prescanN oa1 cap1 (L.map shutB) wr hcap hnn hr (by omega) (hT.below hB)
      rw [HP.out, hML] at P
      clear hML hr hown hcap hnn
      go_wp2_with fail
      refine P.mono ?_
      rintro e w2 ⟨rfl, hb2⟩
      have hB2 := btr hB hb2
      dsimp only [preE]
      go_wp2_with (go_at_call 10; refine (awake10 _ (hT.below hB2)).mono ?_; rintro e w3 ⟨rfl, hb3⟩)
      go_ret
      exact ⟨rfl, btr hB2 hb3⟩
end Go.Proofs.YtcmhfcnjfhcpdaaDoor
