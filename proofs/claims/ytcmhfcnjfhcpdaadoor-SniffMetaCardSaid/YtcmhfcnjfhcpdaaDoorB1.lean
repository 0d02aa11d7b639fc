/- What a meta's attributes say: the walk. -/
import Derived.Test.YtcmhfcnjfhcpdaaDoorA9
namespace Go.Proofs.YtcmhfcnjfhcpdaaDoor
open Go.RowKit
def kBool (s : Cs) (D : DataW Unit) : Prop := ∀ nm : List UInt8, D.atKey (.string nm) (.lit (.bool false)) = .lit (.bool (decide (nm ∈ s.seen)))
theorem csEnd_meta (enc : Int) (pr nd : Bool) (seen : List (List UInt8)) (h1 : ¬ (nd = true ∧ pr = false)) (h2 : ¬ enc < 0) : csEnd ⟨enc, pr, nd, true, seen⟩ = metaF enc := by
  rw [csEnd, if_neg]
  intro h
  rcases h with h | h | h
  · cases h
  · exact h1 h
  · exact h2 h
theorem law9 : Go.Maps.Keyed Tryd.prog 9 := Go.Maps.string_keyed Tryd.underlying9
theorem zero4 (w : World) : (zeroValue 4).run Tryd.prog w = .ok (.bool false) w := by kernel_rfl
theorem beqW (a b : List UInt8) : ((mkS a).toList == b) = decide (a = b) := by
  rw [tl_mkS, Bool.eq_iff_iff]
  simp
theorem csStep_seen (s : Cs) (n v : List UInt8) (h : ¬ n ∈ s.seen) : (csStep s n v).seen = n :: s.seen := by
  unfold csStep
  rw [if_neg h]
  repeat' split
  all_goals rfl
theorem kBool_step {s : Cs} {D : DataW Unit} (h : kBool s D) (hm : Go.Maps.IsMap D) {n : List UInt8} (hn : ¬ n ∈ s.seen) (v : List UInt8) : kBool (csStep s n v) (D.put (.string n) (.lit (.bool true))) := by
  intro m
  rw [csStep_seen s n v hn]
  by_cases e : m = n
  · subst e
    rw [Go.Maps.atKey_put_same hm (by trivial)]
    simp
  · rw [Go.Maps.atKey_put_other (by intro h'; injection h' with h'; exact e h'), h m]
    simp [e]
theorem contT_len {v c : List UInt8} (h : contT v = some c) : c.length ≤ v.length := by
  unfold contT at h
  cases hx : contF (low v) with
  | none => rw [hx] at h; cases h
  | some p =>
    rw [hx] at h
    injection h with h
    subst h
    rw [List.length_take, List.length_drop]
    omega
theorem csL_none {L : List UInt8} {k j : Nat} (f : Nat) (s : Cs) (h : (none, j) = attrF L k) : csL L (f + 1) k s = (s, j) := by rw [csL, ← h]
theorem csL_some {L : List UInt8} {k j : Nat} {n v : List UInt8} (f : Nat) (s : Cs) (h : (some (n, v), j) = attrF L k) : csL L (f + 1) k s = csL L f j (csStep s n v) := by rw [csL, ← h]
set_option maxHeartbeats 4000000 in
set_option maxRecDepth 100000 in
theorem charset30 (sb g : Nat) (L : List UInt8) (i : Nat) (w0 w : World) (h : Sc w sb g L i) (hi : i ≤ L.length) (hT : Tabs w0) (hb : Below w0.heap.size w0 w) (hsb : w0.heap.size ≤ sb) :
    Calls Tryd.prog 30 #[.pointer (some ⟨sb, 0, none⟩)] w fun e w' => e = .returned (.int .i64 (csEnd (csL L (L.length + 1) i cs0).1)) ∧ Sc w' sb g L (csL L (L.length + 1) i cs0).2 ∧ St sb w w' := by
  have hs := h.small
  have km : (Instr.makeMap 61 none).run Tryd.prog w = .ok (.map (some w.heap.size)) (w.alloc (.map #[] 0)) := run_makeMap ..
  go_enter Tryd.func30, Tryd.ntmps30
  go_wp2_with fail
  have hst0 : St sb w (w.alloc (.map #[] 0)) := St.of_below (bal (Below.refl w.heap.size w) _)
  have hsc0 := h.below (bal (Below.refl w.heap.size w) (.map #[] 0))
  have hown0 := World.ownsMap_made (H := Unit) w Tryd.prog 9 (plainElem Tryd.prog 4)
  have hlt := h.lt
  have hltg := h.ltg
  have hmn : w.heap.size ≠ sb := by omega
  have hmg : w.heap.size ≠ g := by omega
  generalize hmb : w.heap.size = mb at *
  generalize w.alloc (.map #[] 0) = W1 at *
  clear km
  go_loopw [4, 5, 6, 7] (fun v4 v5 v6 v7 wr => ∃ (k f nb : Nat) (s : Cs) (D : DataW Unit), k ≤ L.length ∧ L.length < k + f ∧ Go.RowKit.Hid (csL L f k s = csL L (L.length + 1) i cs0) ∧ v4 = .int .i64 s.enc ∧ v5 = .bool s.pragma ∧ v6 = .bool s.need ∧ v7 = .bool s.there ∧ Sc wr sb g L k ∧ St sb w wr ∧ wr.ownsMap Tryd.prog 9 (plainElem Tryd.prog 4) mb nb D ∧ nb ≤ k ∧ Go.RowKit.Hid (kBool s D)) (fun _ _ _ _ wr => L.length + 1 - scPos wr sb)
  case atStart => exact ⟨i, L.length + 1, 0, cs0, _, hi, by omega, rfl, rfl, rfl, rfl, rfl, hsc0, hst0, hown0, by omega, fun nm => rfl⟩
  case round =>
    clear hsc0 hst0 hown0
    obtain ⟨k, f, nb, s, D, hk, hf, hfx, rfl, rfl, rfl, rfl, hsc, hst, hown, hn, hkb⟩ := hrel
    obtain ⟨f, rfl⟩ : ∃ f', f = f' + 1 := ⟨f - 1, by omega⟩
    go_wp2_with fail
    refine (attribute33 sb g L k wr hsc hk).mono ?_
    rintro e w1 ⟨rfl, hsc1, hst1⟩
    obtain ⟨a1, a2, a3⟩ := attr_le L k hk
    have hle := attr_len L k
    have hst2 : St sb w w1 := hst.trans hst1
    have hown1 := hown.kept hst1.grown (by simpa using hmn)
    obtain ⟨r, hr⟩ : ∃ r, r = attrF L k := ⟨_, rfl⟩
    rw [← hr] at hsc1 a1 a2 a3 hle ⊢
    have hpos := hsc.pos
    have hpos1 := hsc1.pos
    clear hst hown hst1 hsc
    obtain ⟨o, j⟩ := r
    cases o with
    | none =>
      have HE := Go.Lib.hid (show csL L (L.length + 1) i cs0 = (s, j) from hfx.out.symm.trans (csL_none f s hr))
      clear hr hfx hkb hown1 hle hpos hpos1 a3
      dsimp only at hsc1 a1 a2
      have HS := Go.Lib.hid hsc1
      have HT := Go.Lib.hid hst2
      clear hsc1 hst2
      obtain ⟨enc, pr, nd, th, seen⟩ := s
      dsimp only [attrE]
      rcases th with _ | _
      · have HC := Go.Lib.hid (show csEnd ⟨enc, pr, nd, false, seen⟩ = -1 by rw [csEnd, if_pos (Or.inl rfl)])
        go_wp2
        go_ret
        exact ⟨by rw [HE.out]; rw [HC.out]; rfl, by rw [HE.out]; exact HS.out, HT.out⟩
      · by_cases hnp : nd = true ∧ pr = false
        · obtain ⟨rfl, rfl⟩ := hnp
          have HC := Go.Lib.hid (show csEnd ⟨enc, false, true, true, seen⟩ = -1 by rw [csEnd, if_pos (Or.inr (Or.inl ⟨rfl, rfl⟩))])
          go_wp2
          go_ret
          exact ⟨by rw [HE.out]; rw [HC.out]; rfl, by rw [HE.out]; exact HS.out, HT.out⟩
        · by_cases hen : enc < 0
          · have HC := Go.Lib.hid (show csEnd ⟨enc, pr, nd, true, seen⟩ = -1 by rw [csEnd, if_pos (Or.inr (Or.inr hen))])
            have hbe : decide (enc < 0) = true := decide_eq_true hen
            clear hen
            rcases nd with _ | _ <;> rcases pr with _ | _
            iterate 2
              · clear hnp
                go_wp2
                go_ret
                exact ⟨by rw [HE.out]; rw [HC.out]; rfl, by rw [HE.out]; exact HS.out, HT.out⟩
            · exact absurd ⟨rfl, rfl⟩ hnp
            · clear hnp
              go_wp2
              go_ret
              exact ⟨by rw [HE.out]; rw [HC.out]; rfl, by rw [HE.out]; exact HS.out, HT.out⟩
          · have HC := Go.Lib.hid (show csEnd ⟨enc, pr, nd, true, seen⟩ = metaF enc from csEnd_meta enc pr nd seen hnp hen)
            have hbe : decide (enc < 0) = false := decide_eq_false hen
            clear hen
            rcases nd with _ | _ <;> rcases pr with _ | _
            iterate 2
              · clear hnp
                go_wp2_with fail
                refine (meta45 enc w1).mono ?_
                rintro e w2 ⟨rfl, rfl⟩
                go_wp2
                go_ret
                exact ⟨by rw [HE.out]; rw [HC.out]; rfl, by rw [HE.out]; exact HS.out, HT.out⟩
            · exact absurd ⟨rfl, rfl⟩ hnp
            · clear hnp
              go_wp2_with fail
              refine (meta45 enc w1).mono ?_
              rintro e w2 ⟨rfl, rfl⟩
              go_wp2
              go_ret
              exact ⟨by rw [HE.out]; rw [HC.out]; rfl, by rw [HE.out]; exact HS.out, HT.out⟩
    | some x =>
      obtain ⟨nm, v⟩ := x
      obtain ⟨ln, lv⟩ := hle nm v rfl
      have hkj : k < j := a3 (nm, v) rfl
      dsimp only at hsc1 a1 a2 hkj hpos1
      have HX := Go.Lib.hid ((csL_some f s hr).symm.trans hfx.out)
      clear hr hfx hle a3 a1
      have hkey : keyOf Tryd.prog 9 (.string (mkS nm)) = some (.string nm) := Go.WideMaps.keyOf_string_mk Tryd.underlying9 (by rw [show (mkS nm).size = nm.length from mkS_size nm]; unfold maxLen; omega)
      have hat := hkb.out nm
      dsimp only [attrE]
      by_cases hin : nm ∈ s.seen
      · rw [decide_eq_true hin] at hat
        have HN := Go.Lib.hid (show csStep s nm v = s by rw [csStep, if_pos hin])
        clear hin
        go_wp2_with (at_lookup; refine wpList_lookup_own_bool _ rfl _ _ 61 rfl 9 4 law9 Tryd.underlying61 Tryd.underlying4 (zero4 _) mb nb D rfl hown1 _ _ rfl hkey true hat ?_)
        refine ⟨?_, by rw [hsc1.pos, hpos]; omega⟩
        repeat apply Exists.intro
        refine ⟨⟨j, f, nb, csStep s nm v, D, a2, by omega, HX, ?_, ?_, ?_, ?_, hsc1, hst2, hown1, by omega, by rw [HN.out]; exact hkb⟩, rfl⟩
        all_goals rw [HN.out]
      · rw [decide_eq_false hin] at hat
        have HKB := Go.Lib.hid (kBool_step hkb.out hown1.isMap hin v)
        have HIN := Go.Lib.hid hin
        clear hin hkb
        obtain ⟨enc, pr, nd, th, seen⟩ := s
        have c1 : ((mkS nm).toList == [104, 116, 116, 112, 45, 101, 113, 117, 105, 118]) = decide (nm = heW) := beqW nm heW
        have c2 : ((mkS nm).toList == [99, 111, 110, 116, 101, 110, 116]) = decide (nm = ctW) := beqW nm ctW
        have c3 : ((mkS nm).toList == [99, 104, 97, 114, 115, 101, 116]) = decide (nm = csW) := beqW nm csW
        have cv : ((mkS v).toList == [99, 111, 110, 116, 101, 110, 116, 45, 116, 121, 112, 101]) = decide (v = tyW) := beqW v tyW
        by_cases n1 : nm = heW
        · have HSt := Go.Lib.hid (show csStep ⟨enc, pr, nd, th, seen⟩ nm v = ⟨enc, decide (v = tyW), nd, th, nm :: seen⟩ by rw [csStep, if_neg HIN.out, if_pos n1])
          rw [decide_eq_true n1] at c1
          clear n1 c2 c3
          go_wp2_with (first | (at_lookup; refine wpList_lookup_own_bool _ rfl _ _ 61 rfl 9 4 law9 Tryd.underlying61 Tryd.underlying4 (zero4 _) mb nb D rfl hown1 _ _ rfl hkey false hat ?_) | (at_mapUpdate; refine wpList_mapUpdate_own _ rfl _ _ _ 61 rfl 9 4 law9 Tryd.underlying61 _ mb nb D rfl hown1 (by unfold maxLen; omega) _ _ _ rfl rfl hkey (.lit (.bool true)) [] (plainElem_bool Tryd.underlying4 true) ?_; intro w2 hown2 hgrow2; have hsc2 := hsc1.grown hgrow2 hmn hmg; have hst3 := hst2.grownBy hgrow2 (by omega); clear hgrow2 hown1 hsc1 hst2))
          have hst2 := hst3
          have HCV := Go.Lib.hid cv
          go_roundw
          case rel => exact ⟨j, f, nb + 1, csStep ⟨enc, pr, nd, th, seen⟩ nm v, _, a2, by omega, HX, by rw [HSt.out], by rw [HSt.out], by rw [HSt.out], by rw [HSt.out], hsc2, hst2, hown2, by omega, HKB⟩
          case measure => rw [hsc2.pos, hpos]; omega
        · have N1 := Go.Lib.hid n1
          rw [decide_eq_false n1] at c1
          clear n1 cv
          by_cases n2 : nm = ctW
          · have N2 := Go.Lib.hid n2
            rw [decide_eq_true n2] at c2
            clear n2 c3
            go_wp2_with (first | (at_lookup; refine wpList_lookup_own_bool _ rfl _ _ 61 rfl 9 4 law9 Tryd.underlying61 Tryd.underlying4 (zero4 _) mb nb D rfl hown1 _ _ rfl hkey false hat ?_) | (at_mapUpdate; refine wpList_mapUpdate_own _ rfl _ _ _ 61 rfl 9 4 law9 Tryd.underlying61 _ mb nb D rfl hown1 (by unfold maxLen; omega) _ _ _ rfl rfl hkey (.lit (.bool true)) [] (plainElem_bool Tryd.underlying4 true) ?_; intro w2 hown2 hgrow2; have hsc2 := hsc1.grown hgrow2 hmn hmg; have hst3 := hst2.grownBy hgrow2 (by omega); clear hgrow2 hown1 hsc1 hst2))
            have hbt := hst3.below hb hsb hb.size
            refine (content8 (mkS v) w2 (by rw [mkS_size]; omega) (hT.below hbt)).mono ?_
            rintro e w3 ⟨rfl, hb3⟩
            rw [mkS_data]
            have hsc4 := hsc2.below hb3
            have hst4 := hst3.trans (St.of_below hb3)
            have hown4 := hown2.kept (St.of_below (sb := sb) hb3).grown (by simpa using hmn)
            have hbt4 := hst4.below hb hsb hb.size
            clear hsc2 hst3 hown2 hb3 hbt
            have hlen := @contT_len v
            have hcs : csStep ⟨enc, pr, nd, th, seen⟩ nm v = match contT v with
              | none => ⟨enc, pr, nd, th, nm :: seen⟩
              | some c => if th = true then ⟨enc, pr, nd, th, nm :: seen⟩ else if (csOf c).2 = 0 then ⟨(csOf c).1, pr, true, true, nm :: seen⟩ else ⟨enc, pr, nd, th, nm :: seen⟩ := by
              rw [csStep, if_neg HIN.out, if_neg N1.out, if_pos N2.out]
              cases contT v <;> rfl
            generalize contT v = oc at hcs hlen ⊢
            cases oc with
            | none =>
              have HSt := Go.Lib.hid hcs
              clear hcs hlen
              dsimp only [contE]
              go_wp2
              go_roundw
              case rel => exact ⟨j, f, nb + 1, csStep ⟨enc, pr, nd, th, seen⟩ nm v, _, a2, by omega, HX, by rw [HSt.out], by rw [HSt.out], by rw [HSt.out], by rw [HSt.out], hsc4, hst4, hown4, by omega, HKB⟩
              case measure => rw [hsc4.pos, hpos]; omega
            | some c =>
              have hlc := hlen (c := c) rfl
              clear hlen
              dsimp only at hcs
              dsimp only [contE]
              rcases th with _ | _
              · rw [if_neg (by simp)] at hcs
                have HS1 := Go.Lib.hid hcs
                clear hcs
                go_wp2_with fail
                refine (of8 (mkS c) w3 (by rw [mkS_size]; omega) (hT.below hbt4)).mono ?_
                rintro e w5 ⟨rfl, hb5⟩
                rw [mkS_data, show ofL (low (trimBl c)) = csOf c from rfl]
                have hsc6 := hsc4.below hb5
                have hst6 := hst4.trans (St.of_below hb5)
                have hown6 := hown4.kept (St.of_below (sb := sb) hb5).grown (by simpa using hmn)
                clear hsc4 hst4 hown4 hb5 hbt4
                have hs1 := HS1.out
                generalize csOf c = p at hs1 ⊢
                by_cases hz : p.2 = 0
                · rw [if_pos hz] at hs1
                  have HSt := Go.Lib.hid hs1
                  rw [hz]
                  clear hz hs1
                  go_wp2
                  go_roundw
                  case rel => exact ⟨j, f, nb + 1, csStep ⟨enc, pr, nd, false, seen⟩ nm v, _, a2, by omega, HX, by rw [HSt.out], by rw [HSt.out], by rw [HSt.out], by rw [HSt.out], hsc6, hst6, hown6, by omega, HKB⟩
                  case measure => rw [hsc6.pos, hpos]; omega
                · rw [if_neg hz] at hs1
                  have HSt := Go.Lib.hid hs1
                  have hq : (p.2 == 0) = false := by simpa using hz
                  clear hs1
                  go_wp2
                  go_roundw
                  case rel => exact ⟨j, f, nb + 1, csStep ⟨enc, pr, nd, false, seen⟩ nm v, _, a2, by omega, HX, by rw [HSt.out], by rw [HSt.out], by rw [HSt.out], by rw [HSt.out], hsc6, hst6, hown6, by omega, HKB⟩
                  case measure => rw [hsc6.pos, hpos]; omega
              · rw [if_pos rfl] at hcs
                have HSt := Go.Lib.hid hcs
                clear hcs
                go_wp2
                go_roundw
                case rel => exact ⟨j, f, nb + 1, csStep ⟨enc, pr, nd, true, seen⟩ nm v, _, a2, by omega, HX, by rw [HSt.out], by rw [HSt.out], by rw [HSt.out], by rw [HSt.out], hsc4, hst4, hown4, by omega, HKB⟩
                case measure => rw [hsc4.pos, hpos]; omega
          · have N2 := Go.Lib.hid n2
            rw [decide_eq_false n2] at c2
            clear n2
            by_cases n3 : nm = csW
            · have HSt := Go.Lib.hid (show csStep ⟨enc, pr, nd, th, seen⟩ nm v = ⟨if (csOf v).2 = 0 then (csOf v).1 else -1, pr, false, true, nm :: seen⟩ by rw [csStep, if_neg HIN.out, if_neg N1.out, if_neg N2.out, if_pos n3])
              rw [decide_eq_true n3] at c3
              clear n3
              go_wp2_with (first | (at_lookup; refine wpList_lookup_own_bool _ rfl _ _ 61 rfl 9 4 law9 Tryd.underlying61 Tryd.underlying4 (zero4 _) mb nb D rfl hown1 _ _ rfl hkey false hat ?_) | (at_mapUpdate; refine wpList_mapUpdate_own _ rfl _ _ _ 61 rfl 9 4 law9 Tryd.underlying61 _ mb nb D rfl hown1 (by unfold maxLen; omega) _ _ _ rfl rfl hkey (.lit (.bool true)) [] (plainElem_bool Tryd.underlying4 true) ?_; intro w2 hown2 hgrow2; have hsc2 := hsc1.grown hgrow2 hmn hmg; have hst3 := hst2.grownBy hgrow2 (by omega); clear hgrow2 hown1 hsc1 hst2))
              have hbt := hst3.below hb hsb hb.size
              refine (of8 (mkS v) w2 (by rw [mkS_size]; omega) (hT.below hbt)).mono ?_
              rintro e w3 ⟨rfl, hb3⟩
              rw [mkS_data, show ofL (low (trimBl v)) = csOf v from rfl]
              obtain ⟨p, hp⟩ : ∃ p, p = csOf v := ⟨_, rfl⟩
              rw [← hp] at HSt ⊢
              have hsc4 := hsc2.below hb3
              have hst4 := hst3.trans (St.of_below hb3)
              have hown4 := hown2.kept (St.of_below (sb := sb) hb3).grown (by simpa using hmn)
              clear hp hsc2 hst3 hown2 hb3 hbt
              by_cases hz : p.2 = 0
              · rw [if_pos hz] at HSt
                have hq : (p.2 == 0) = true := by rw [hz]; rfl
                rw [hz]
                clear hz hq
                go_wp2
                go_roundw
                case rel => exact ⟨j, f, nb + 1, csStep ⟨enc, pr, nd, th, seen⟩ nm v, _, a2, by omega, HX, by rw [HSt.out], by rw [HSt.out], by rw [HSt.out], by rw [HSt.out], hsc4, hst4, hown4, by omega, HKB⟩
                case measure => rw [hsc4.pos, hpos]; omega
              · rw [if_neg hz] at HSt
                have hq : (p.2 == 0) = false := by simpa using hz
                go_wp2
                go_roundw
                case rel => exact ⟨j, f, nb + 1, csStep ⟨enc, pr, nd, th, seen⟩ nm v, _, a2, by omega, HX, by rw [HSt.out], by rw [HSt.out], by rw [HSt.out], by rw [HSt.out], hsc4, hst4, hown4, by omega, HKB⟩
                case measure => rw [hsc4.pos, hpos]; omega
            · have N3 := Go.Lib.hid n3
              have HSt := Go.Lib.hid (show csStep ⟨enc, pr, nd, th, seen⟩ nm v = ⟨enc, pr, nd, th, nm :: seen⟩ by rw [csStep, if_neg HIN.out, if_neg N1.out, if_neg N2.out, if_neg N3.out])
              rw [decide_eq_false n3] at c3
              clear n3
              go_wp2_with (first | (at_lookup; refine wpList_lookup_own_bool _ rfl _ _ 61 rfl 9 4 law9 Tryd.underlying61 Tryd.underlying4 (zero4 _) mb nb D rfl hown1 _ _ rfl hkey false hat ?_) | (at_mapUpdate; refine wpList_mapUpdate_own _ rfl _ _ _ 61 rfl 9 4 law9 Tryd.underlying61 _ mb nb D rfl hown1 (by unfold maxLen; omega) _ _ _ rfl rfl hkey (.lit (.bool true)) [] (plainElem_bool Tryd.underlying4 true) ?_; intro w2 hown2 hgrow2; have hsc2 := hsc1.grown hgrow2 hmn hmg; have hst3 := hst2.grownBy hgrow2 (by omega); clear hgrow2 hown1 hsc1 hst2))
              have hst2 := hst3
              go_roundw
              case rel => exact ⟨j, f, nb + 1, csStep ⟨enc, pr, nd, th, seen⟩ nm v, _, a2, by omega, HX, by rw [HSt.out], by rw [HSt.out], by rw [HSt.out], by rw [HSt.out], hsc2, hst2, hown2, by omega, HKB⟩
              case measure => rw [hsc2.pos, hpos]; omega
end Go.Proofs.YtcmhfcnjfhcpdaaDoor
