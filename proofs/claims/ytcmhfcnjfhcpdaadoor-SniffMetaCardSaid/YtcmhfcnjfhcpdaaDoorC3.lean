/- What stands behind the first 1024 bytes changes nothing. -/
import Derived.Test.YtcmhfcnjfhcpdaaDoorC2
namespace Go.Proofs.YtcmhfcnjfhcpdaaDoor
open Go.RowKit
theorem prefix_app (F M P : List UInt8) (h : P.length ≤ F.length) : Lib.hasPrefix (F ++ M) P = Lib.hasPrefix F P := by
  rw [Bool.eq_iff_iff]
  unfold Lib.hasPrefix
  rw [List.isPrefixOf_iff_prefix, List.isPrefixOf_iff_prefix]
  constructor
  · intro h1; exact List.prefix_of_prefix_length_le h1 (List.prefix_append F M) h
  · intro h1; exact h1.trans (List.prefix_append F M)
theorem mark_app (F M : List UInt8) (h : 3 ≤ F.length) : markF (F ++ M) = markF F := by
  unfold markF
  rw [prefix_app F M [239, 187, 191] h, prefix_app F M [254, 255] (by simp; omega), prefix_app F M [255, 254] (by simp; omega)]
theorem pre_app (F M : List UInt8) (h : F.length = 1024) : preT (F ++ M) = preT F := by
  unfold preT
  rw [List.take_append_of_le_length (by omega)]
theorem choose_app (F M hint : List UInt8) (h : F.length = 1024) : chooseF (F ++ M) hint = chooseF F hint := by
  unfold chooseF
  rw [mark_app F M (by omega), pre_app F M h]
def padL (L : List UInt8) (j : Nat) : List UInt8 := L ++ List.replicate j 32
theorem pad_len (L : List UInt8) (j : Nat) : (padL L j).length = L.length + j := by simp [padL]
theorem pad_step (L : List UInt8) (j : Nat) : u8s (padL L j) ++ (#[Value.int .u8 32] : Array Value).toList = u8s (padL L (j + 1)) := by
  unfold padL u8s
  rw [List.replicate_succ', ← List.append_assoc, List.map_append (l₂ := [32])]
  rfl
theorem own_some {w : World} {base : Nat} {v : Value} {L : List UInt8} (h : w.ownsRow base 5 1 v L.length (u8s L)) (hn : 0 < L.length) : ∃ ad cap, v = .slice (some ad) L.length cap ∧ L.length ≤ cap ∧ RdB w (some ad) L := by
  obtain ⟨oa, cap, rfl, h1, h2, h3⟩ := own_bytes h
  cases oa with
  | none => have := (h3 rfl).1; rw [this] at hn; simp at hn
  | some ad => exact ⟨ad, cap, rfl, h1, h2⟩
set_option maxHeartbeats 4000000 in
set_option maxRecDepth 100000 in
theorem bound7a (oa ob : Option Addr) (c cb : Nat) (L M : List UInt8) (hint : ByteArray) (w : World) (hR : RdB w oa L) (hm : L.length ≤ 1024) (hRb : RdB w ob M) (hb : M.length ≤ 1048576) (hh : hint.size ≤ 1048576) (hT : Tabs w) :
    Calls Tryd.prog 7 #[.slice oa L.length c, .slice ob M.length cb, .string hint] w fun e w' => e = .returned (.bool true) ∧ Below w.heap.size w w' := by
  have hl1 : decide ((L.length : Int) > 1024) = false := decide_eq_false (by omega)
  go_enter Tryd.func7, Tryd.ntmps7
  go_wp2_with (at_builtin; refine step_append_slice rfl w.heap.size (.tmp 27) (.tmp 28) 26 5 _ 1 1 rfl Tryd.underlying26 Tryd.info5 rfl (by decide) (by decide) _ 0 L.length c oa [] (u8s L) rfl rfl (by simp [u8s]) (RdB.news (hR.below (bal (Below.refl _ _) _))) (u8_one L) (own_empty w w.heap.size 5 1 w.heap.size rfl (Nat.le_refl _)) (bal (Below.refl _ _) _) (by simp) (by omega) ?_; intro v1 w1 hown1 hB1; simp only [Nat.zero_add, List.nil_append] at hown1)
  go_loopw [7] (fun v7 wr => ∃ j : Nat, L.length + j ≤ 1024 ∧ Below w.heap.size w wr ∧ wr.ownsRow w.heap.size 5 1 v7 (L.length + j) (u8s (padL L j))) (fun v7 _ => 1024 - (match v7 with | .slice _ n _ => n | _ => 0))
  case atStart => exact ⟨0, by omega, hB1, by rw [show padL L 0 = L by simp [padL]]; exact hown1⟩
  case round =>
    clear hB1 hown1
    obtain ⟨j, hj, hB, hown⟩ := hrel
    obtain ⟨ov, cv, hv⟩ := own_slice hown
    subst hv
    by_cases hlt : L.length + j < 1024
    · have hlb : decide (((L.length + j : Nat) : Int) < 1024) = true := decide_eq_true (by omega)
      have HJ : L.length + j < 1024 := hlt
      clear hlt
      go_wp2_with (at_builtin; refine step_append (w0 := w) rfl w.heap.size (.tmp 33) (.tmp 34) 26 5 (.int .u8 0) 1 1 rfl Tryd.underlying26 Tryd.info5 rfl (by decide) (by decide) _ (L.length + j) wr.heap.size (u8s (padL L j)) #[.int .u8 32] rfl rfl rfl rfl (by decide) hown hB hB.size (by omega) ?_; intro v2 w2 hown2 hB2; rw [pad_step] at hown2)
      obtain ⟨ov2, cv2, hv2⟩ := own_slice hown2
      subst hv2
      go_roundw
      case rel => exact ⟨j + 1, by omega, hB2, hown2⟩
      case measure => dsimp only; omega
    · have hlb : decide (((L.length + j : Nat) : Int) < 1024) = false := decide_eq_false (by omega)
      have hF : (padL L j).length = 1024 := by rw [pad_len]; omega
      obtain ⟨F, hFd⟩ : ∃ F, F = padL L j := ⟨_, rfl⟩
      rw [← hFd] at hF hown
      have hn : L.length + j = F.length := by rw [hF]; omega
      rw [hn] at hown hlb ⊢
      clear hFd hn hlt hj hl1
      obtain ⟨ad, cap7, hv, hcap, hrF⟩ := own_some (L := F) hown (by omega)
      injection hv with e1 _ e3
      subst e1 e3
      clear hown
      have hbs := hB.size
      have hF1 : 1024 ≤ F.length := by omega
      have hF2 : F.length ≤ 1024 := by omega
      have HF := Go.Lib.hid hF
      have hx2 : (F.length + M.length) * 1 ≤ 140737488355328 := by omega
      have hx1 : (0 + F.length) * 1 ≤ 140737488355328 := by omega
      clear hF
      go_wp2_with (first
        | (at_builtin; refine step_append_slice (w0 := wr) rfl wr.heap.size (.tmp 36) (.tmp 37) 26 5 _ 1 1 rfl Tryd.underlying26 Tryd.info5 rfl (by decide) (by decide) _ 0 F.length cv (some ad) [] (u8s F) rfl rfl (by simp [u8s]) (RdB.news (hrF.below (bal (Below.refl _ _) _))) (u8_one F) (own_empty wr wr.heap.size 5 1 wr.heap.size rfl (Nat.le_refl _)) (bal (Below.refl _ _) _) (by simp) hx1 ?_; intro v1 w1 hown1 hB1; simp only [Nat.zero_add, List.nil_append] at hown1; obtain ⟨ov1, cv1, rfl⟩ := own_slice hown1)
        | (at_builtin; refine step_append_slice (w0 := wr) rfl wr.heap.size (.tmp 38) (.tmp 39) 26 5 _ 1 1 rfl Tryd.underlying26 Tryd.info5 rfl (by decide) (by decide) _ F.length M.length cb ob (u8s F) (u8s M) rfl rfl (by simp [u8s]) (RdB.news (hRb.below (btr hB hB1))) (u8_one M) hown1 hB1 hB1.size hx2 ?_; intro v2 w2 hown2 hB2))
      have hFM : (F ++ M).length = F.length + M.length := List.length_append
      obtain ⟨ad2, cv2, hv2, hcap2, hrM⟩ := own_some (L := F ++ M) (by rw [hFM]; rw [show u8s (F ++ M) = u8s F ++ u8s M by simp [u8s]]; exact hown2) (by omega)
      subst hv2
      have hc1 := choose_app F M hint.data.toList HF.out
      have hp1 := pre_app F M HF.out
      have hBw := btr hB hB2
      have hrF2 := hrF.below hB2
      have C1 := fun (W : World) (h : Below w2.heap.size w2 W) => choose14 ad cv F false hint W hF1 hcap (hrF2.below h) (by omega) hh (hT.below (btr hBw h))
      have C2 := fun (W : World) (en : Bool) (h : Below w2.heap.size w2 W) => choose14 ad2 cv2 (F ++ M) en hint W (by omega) hcap2 (hrM.below h) (by omega) hh (hT.below (btr hBw h))
      have P1 := fun (W : World) (h : Below w2.heap.size w2 W) => prescan11 ad cv F W hcap (hrF2.below h) (by omega) (hT.below (btr hBw h))
      have P2 := fun (W : World) (h : Below w2.heap.size w2 W) => prescan11 ad2 cv2 (F ++ M) W hcap2 (hrM.below h) (by omega) (hT.below (btr hBw h))
      rw [hc1] at C2
      rw [hp1] at P2
      rw [hFM] at C2 P2 ⊢
      have C1 := Go.Lib.hid C1
      have C2 := Go.Lib.hid C2
      have P1 := Go.Lib.hid P1
      have P2 := Go.Lib.hid P2
      clear hc1 hp1 hown1 hown2 hrF hrF2 hrM hFM hB1 hcap2
      generalize chooseF F hint.data.toList = r at *
      generalize preT F = p at *
      go_wp2_with fail
      refine (C1.out w2 (Below.refl _ _)).mono ?_
      rintro e w3 ⟨rfl, h3⟩
      go_wp2_with fail
      refine (C2.out w3 false h3).mono ?_
      rintro e w4 ⟨rfl, h4'⟩
      have h4 := btr h3 h4'
      clear h4'
      go_wp2_with fail
      refine (C2.out w4 true h4).mono ?_
      rintro e w5 ⟨rfl, h5'⟩
      have h5 := btr h4 h5'
      clear h5'
      go_wp2_with fail
      refine (P1.out w5 h5).mono ?_
      rintro e w6 ⟨rfl, h6'⟩
      have h6 := btr h5 h6'
      clear h6'
      cases p
      all_goals
        dsimp only [preE]
        go_wp2_with fail
        refine (P2.out w6 h6).mono ?_
        rintro e w7 ⟨rfl, h7'⟩
        have h7 := btr h6 h7'
        clear h7'
        dsimp only [preE]
        go_wp2_with (go_at_call 10; refine (awake10 _ (hT.below (btr hBw h7))).mono ?_; rintro e w8 ⟨rfl, h8⟩)
        go_ret
        exact ⟨rfl, btr (btr hBw h7) h8⟩
set_option maxHeartbeats 4000000 in
set_option maxRecDepth 100000 in
theorem bound7b (oa ob : Option Addr) (c cb : Nat) (L M : List UInt8) (hint : ByteArray) (w : World) (hR : RdB w oa L) (hc : L.length ≤ c) (hm : 1024 < L.length) (hRb : RdB w ob M) (hb : M.length ≤ 1048576) (hh : hint.size ≤ 1048576) (hT : Tabs w) :
    Calls Tryd.prog 7 #[.slice oa L.length c, .slice ob M.length cb, .string hint] w fun e w' => e = .returned (.bool true) ∧ Below w.heap.size w w' := by
  have hl1 : decide ((L.length : Int) > 1024) = true := decide_eq_true (by omega)
  have hc1 : (1024 : Int) ≤ c := by omega
  have hF : (L.take 1024).length = 1024 := by rw [List.length_take]; omega
  have hRt := hR.take 1024
  generalize L.take 1024 = F at *
  have HF := Go.Lib.hid hF
  have hsz : (u8s F).length = 1024 * 1 := by simp [u8s, hF]
  have HSZ := Go.Lib.hid hsz
  clear hF hR hsz
  go_enter Tryd.func7, Tryd.ntmps7
  go_wp2_with (at_builtin; refine step_append_slice rfl w.heap.size (.tmp 27) (.tmp 28) 26 5 _ 1 1 rfl Tryd.underlying26 Tryd.info5 rfl (by decide) (by decide) _ 0 1024 c oa [] (u8s F) rfl rfl HSZ.out (RdB.news (hRt.below (bal (Below.refl _ _) _))) (u8_one F) (own_empty w w.heap.size 5 1 w.heap.size rfl (Nat.le_refl _)) (bal (Below.refl _ _) _) (by simp) (by omega) ?_; intro v1 w1 hown1 hB1; simp only [Nat.zero_add, List.nil_append] at hown1; obtain ⟨oy, cy, rfl⟩ := own_slice hown1)
  go_loopw [7] (fun v7 wr => ∃ cv ov, v7 = .slice ov 1024 cv ∧ Below w.heap.size w wr ∧ wr.ownsRow w.heap.size 5 1 (.slice ov 1024 cv) 1024 (u8s F)) (fun _ _ => 0)
  case atStart => exact ⟨cy, oy, rfl, hB1, hown1⟩
  case round =>
    clear hB1 hown1 hRt hc1 hl1
    obtain ⟨cv, ov, rfl, hB, hown⟩ := hrel
    have hF := HF.out
    have hlb : decide ((F.length : Int) < 1024) = false := decide_eq_false (by omega)
    rw [← hF] at hown ⊢
    obtain ⟨ad, cap7, hv, hcap, hrF⟩ := own_some (L := F) hown (by omega)
    injection hv with e1 _ e3
    subst e1 e3
    clear hown
    have hbs := hB.size
    have hF1 : 1024 ≤ F.length := by omega
    have hF2 : F.length ≤ 1024 := by omega
    have HF := Go.Lib.hid hF
    have hx2 : (F.length + M.length) * 1 ≤ 140737488355328 := by omega
    have hx1 : (0 + F.length) * 1 ≤ 140737488355328 := by omega
    clear hF
    go_wp2_with (first
      | (at_builtin; refine step_append_slice (w0 := wr) rfl wr.heap.size (.tmp 36) (.tmp 37) 26 5 _ 1 1 rfl Tryd.underlying26 Tryd.info5 rfl (by decide) (by decide) _ 0 F.length cv (some ad) [] (u8s F) rfl rfl (by simp [u8s]) (RdB.news (hrF.below (bal (Below.refl _ _) _))) (u8_one F) (own_empty wr wr.heap.size 5 1 wr.heap.size rfl (Nat.le_refl _)) (bal (Below.refl _ _) _) (by simp) hx1 ?_; intro v1 w1 hown1 hB1; simp only [Nat.zero_add, List.nil_append] at hown1; obtain ⟨ov1, cv1, rfl⟩ := own_slice hown1)
      | (at_builtin; refine step_append_slice (w0 := wr) rfl wr.heap.size (.tmp 38) (.tmp 39) 26 5 _ 1 1 rfl Tryd.underlying26 Tryd.info5 rfl (by decide) (by decide) _ F.length M.length cb ob (u8s F) (u8s M) rfl rfl (by simp [u8s]) (RdB.news (hRb.below (btr hB hB1))) (u8_one M) hown1 hB1 hB1.size hx2 ?_; intro v2 w2 hown2 hB2))
    have hFM : (F ++ M).length = F.length + M.length := List.length_append
    obtain ⟨ad2, cv2, hv2, hcap2, hrM⟩ := own_some (L := F ++ M) (by rw [hFM]; rw [show u8s (F ++ M) = u8s F ++ u8s M by simp [u8s]]; exact hown2) (by omega)
    subst hv2
    have hc1 := choose_app F M hint.data.toList HF.out
    have hp1 := pre_app F M HF.out
    have hBw := btr hB hB2
    have hrF2 := hrF.below hB2
    have C1 := fun (W : World) (h : Below w2.heap.size w2 W) => choose14 ad cv F false hint W hF1 hcap (hrF2.below h) (by omega) hh (hT.below (btr hBw h))
    have C2 := fun (W : World) (en : Bool) (h : Below w2.heap.size w2 W) => choose14 ad2 cv2 (F ++ M) en hint W (by omega) hcap2 (hrM.below h) (by omega) hh (hT.below (btr hBw h))
    have P1 := fun (W : World) (h : Below w2.heap.size w2 W) => prescan11 ad cv F W hcap (hrF2.below h) (by omega) (hT.below (btr hBw h))
    have P2 := fun (W : World) (h : Below w2.heap.size w2 W) => prescan11 ad2 cv2 (F ++ M) W hcap2 (hrM.below h) (by omega) (hT.below (btr hBw h))
    rw [hc1] at C2
    rw [hp1] at P2
    rw [hFM] at C2 P2 ⊢
    have C1 := Go.Lib.hid C1
    have C2 := Go.Lib.hid C2
    have P1 := Go.Lib.hid P1
    have P2 := Go.Lib.hid P2
    clear hc1 hp1 hown1 hown2 hrF hrF2 hrM hFM hB1 hcap2
    generalize chooseF F hint.data.toList = r at *
    generalize preT F = p at *
    go_wp2_with fail
    refine (C1.out w2 (Below.refl _ _)).mono ?_
    rintro e w3 ⟨rfl, h3⟩
    go_wp2_with fail
    refine (C2.out w3 false h3).mono ?_
    rintro e w4 ⟨rfl, h4'⟩
    have h4 := btr h3 h4'
    clear h4'
    go_wp2_with fail
    refine (C2.out w4 true h4).mono ?_
    rintro e w5 ⟨rfl, h5'⟩
    have h5 := btr h4 h5'
    clear h5'
    go_wp2_with fail
    refine (P1.out w5 h5).mono ?_
    rintro e w6 ⟨rfl, h6'⟩
    have h6 := btr h5 h6'
    clear h6'
    cases p
    all_goals
      dsimp only [preE]
      go_wp2_with fail
      refine (P2.out w6 h6).mono ?_
      rintro e w7 ⟨rfl, h7'⟩
      have h7 := btr h6 h7'
      clear h7'
      dsimp only [preE]
      go_wp2_with (go_at_call 10; refine (awake10 _ (hT.below (btr hBw h7))).mono ?_; rintro e w8 ⟨rfl, h8⟩)
      go_ret
      exact ⟨rfl, btr (btr hBw h7) h8⟩
theorem bound7 (oa ob : Option Addr) (c cb : Nat) (L M : List UInt8) (hint : ByteArray) (w : World) (hR : RdB w oa L) (hc : L.length ≤ c) (hRb : RdB w ob M) (hb : M.length ≤ 1048576) (hh : hint.size ≤ 1048576) (hT : Tabs w) :
    Calls Tryd.prog 7 #[.slice oa L.length c, .slice ob M.length cb, .string hint] w fun e w' => e = .returned (.bool true) ∧ Below w.heap.size w w' := by
  by_cases hm : L.length ≤ 1024
  · exact bound7a oa ob c cb L M hint w hR hm hRb hb hh hT
  · exact bound7b oa ob c cb L M hint w hR hc (by omega) hRb hb hh hT
end Go.Proofs.YtcmhfcnjfhcpdaaDoor
