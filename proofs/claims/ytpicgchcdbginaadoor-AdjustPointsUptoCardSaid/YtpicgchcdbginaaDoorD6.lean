/- The walks of the reference's Small and of the two functions that look a name up. -/
import Derived.Test.YtpicgchcdbginaaDoorD5
namespace Go.Proofs.YtpicgchcdbginaaDoor
open Go.RowKit

set_option maxHeartbeats 400000 in
theorem small14 (s : ByteArray) (w : World) (hs : s.size ≤ 140737488351232) :
    Calls Tryd.prog 14 #[.string s] w fun e w' => e = .returned (.string (mkS (low s.data.toList))) ∧ Below w.heap.size w w' := by
  have hcv := fun w => Go.Lib.run_convert_string_bytes (P := Tryd.prog) w 9 36 5 s Tryd.underlying9 Tryd.underlying36 Tryd.underlying5
  go_enter Tryd.func14, Tryd.ntmps14
  go_wp2
  go_loopw [4] (fun v4 wr => ∃ k : Nat, k ≤ s.size ∧ v4 = .int .i64 k ∧ Below w.heap.size w wr ∧ ∃ z fr, BRow wr w.heap.size 5 (mapTo lowB s.data.toList k) z fr) (fun v4 _ => s.size - (intOf v4).toNat)
  case atStart => exact ⟨0, Nat.zero_le _, rfl, conv_below w 5 s, _, _, BRow.conv w 5 s⟩
  case round =>
    obtain ⟨k, hk, rfl, hB, z, fr, hrow⟩ := hrel
    have hlen := dlen s
    by_cases hlt : k < s.size
    · have hk' : k < s.data.toList.length := by omega
      have hcell := hrow.cell (k := k) (by rw [mapTo_length]; exact hk')
      have hfz := hrow.frozen (k := k) (by rw [mapTo_length]; exact hk')
      rw [mapTo_get _ _ _ hk'] at hcell
      clear hlen
      go_wp2
      all_goals
        go_roundw
        case rel =>
          refine ⟨k + 1, by omega, by go_num, by first | exact hB | exact hB.setCell (Nat.le_refl _) _, z, fr, ?_⟩
          first
          | exact hrow.turn hk' (lowB_yes (by assumption) (by assumption))
          | exact hrow.leave hk' (lowB_no (by simp only [Array.getElem_toList]; omega))
        case measure => simp [intOf]; omega
    · obtain rfl : k = s.size := by omega
      have hback := hrow.back (P := Tryd.prog) 36 5 (grownCap w s.size 0 5) s.size (by rw [mapTo_length, hlen]) Tryd.underlying36 Tryd.underlying5 9 Tryd.underlying9
      rw [mapTo_full _ _ _ (by omega)] at hback
      clear hrow
      go_wp2
      go_ret
      exact ⟨rfl, hB⟩

/-- The first name of a table that is the given one in small letters; else that. -/
def pickL (L : List ByteArray) (nm : ByteArray) : ByteArray := (L.find? fun s => low s.data.toList == nm.data.toList).getD nm
theorem find_take {α} (p : α → Bool) (L : List α) (k : Nat) (hk : k < L.length) (h : (L.take k).find? p = none) :
    (p L[k] = true → L.find? p = some L[k]) ∧ (p L[k] = false → (L.take (k + 1)).find? p = none) := by
  constructor
  · intro hp
    have e : L.find? p = (L.take k ++ L.drop k).find? p := by rw [List.take_append_drop]
    rw [e, List.find?_append, h, List.drop_eq_getElem_cons hk, List.find?_cons_of_pos hp]
    rfl
  · intro hp
    rw [List.take_succ_eq_append_getElem hk, List.find?_append, h, List.find?_cons_of_neg (by simp [hp])]
    rfl
theorem mkS_eq {l : List UInt8} {nm : ByteArray} (h : (l == nm.data.toList) = true) : mkS l = nm := by
  rw [eq_of_beq h, mkS_self]
/-- A table lies at a block. -/
def TabAt (w : World) (b : Nat) (L : List ByteArray) : Prop := ∀ k (h : k < L.length), w.cell? ⟨b, k, none⟩ = some (.string L[k])
theorem TabAt.below {w w1 : World} {b : Nat} {L : List ByteArray} (h : TabAt w b L) (hb : Below w.heap.size w w1) : TabAt w1 b L := fun k hk => bcl hb (h k hk)
theorem small13t {s : ByteArray} (h : s.size ≤ 100 ∧ ∀ c ∈ s.data.toList, c.toNat < 128) (w : World) :
    Calls Tryd.prog 13 #[.string s] w fun e w' => e = .returned (.string (mkS (low s.data.toList))) ∧ Below w.heap.size w w' := by
  have := small13 s w (by omega)
  rwa [smG_ascii s h.2] at this
theorem small14t {s : ByteArray} (h : s.size ≤ 100 ∧ ∀ c ∈ s.data.toList, c.toNat < 128) (w : World) :
    Calls Tryd.prog 14 #[.string s] w fun e w' => e = .returned (.string (mkS (low s.data.toList))) ∧ Below w.heap.size w w' := small14 s w (by omega)

set_option maxHeartbeats 400000 in
theorem named20 (b n cap : Nat) (L : List ByteArray) (hn : n = L.length) (nm : ByteArray) (w : World) (hT : TabAt w b L) (hok : tabOK L = true) (hL : L.length ≤ 100) :
    Calls Tryd.prog 20 #[.slice (some ⟨b, 0, none⟩) n cap, .string nm] w fun e w' => e = .returned (.string (pickL L nm)) ∧ Below w.heap.size w w' := by
  subst hn
  go_enter Tryd.func20, Tryd.ntmps20
  go_wp2
  go_loopw [6, 9] (fun v6 v9 wr => ∃ k : Nat, k ≤ L.length ∧ v9 = .int .i64 k ∧ Below w.heap.size w wr ∧ Hid ((L.take k).find? (fun s => low s.data.toList == nm.data.toList) = none)) (fun _ v9 _ => L.length - (intOf v9).toNat)
  case atStart => exact ⟨0, Nat.zero_le _, rfl, Below.refl _ _, Go.Lib.hid rfl⟩
  case round =>
    obtain ⟨k, hk, rfl, hB, hF⟩ := hrel
    by_cases hlt : k < L.length
    · have hcell := bcl hB (hT k hlt)
      have hst := tabOK_at hok k hlt
      have C := Go.Lib.hid (small13t hst)
      obtain ⟨hs, -⟩ := hst
      have hft := Go.Lib.hid (find_take _ L k hlt hF.out)
      generalize L[k] = x at *
      clear hT hok
      by_cases hsz : x.size = nm.size
      · cases hlow : low x.data.toList == nm.data.toList
        · have HN := Go.Lib.hid (hft.out.2 hlow)
          have hts : ((mkS (low x.data.toList)).toList == nm.toList) = false := by rw [tl_mkS, tl]; exact hlow
          generalize mkS (low x.data.toList) = t at *
          clear hlow
          have HSZ := Go.Lib.hid hsz
          have hszi : (x.size : Int) = (nm.size : Int) := by omega
          clear hsz
          go_wp2_with (go_at_call 13; (with_reducible refine (C.out _).mono ?_); rintro e w1 ⟨rfl, hb1⟩)
          go_roundw
          case rel => exact ⟨k + 1, by omega, by go_num, btr hB hb1, HN⟩
          case measure => simp [intOf]; omega
        · have HY : pickL L nm = x := by rw [pickL, hft.out.1 hlow]; rfl
          have hts : mkS (low x.data.toList) = nm := mkS_eq hlow
          rw [hts] at C
          clear hlow hts
          have hszi : (x.size : Int) = (nm.size : Int) := by omega
          have HR := Go.Lib.hid HY
          clear HY hsz
          go_wp2_with (go_at_call 13; (with_reducible refine (C.out _).mono ?_); rintro e w1 ⟨rfl, hb1⟩)
          go_ret
          exact ⟨ret_str HR.out.symm, btr hB hb1⟩
      · have HN := Go.Lib.hid (hft.out.2 (by
          rw [beq_eq_false_iff_ne]
          intro h
          apply hsz
          have := congrArg List.length h
          rwa [low_length, dlen, dlen] at this))
        have hszi : ¬ ((x.size : Int) = (nm.size : Int)) := by omega
        clear hsz
        go_wp2
        go_roundw
        case rel => exact ⟨k + 1, by omega, by go_num, hB, HN⟩
        case measure => simp [intOf]; omega
    · obtain rfl : k = L.length := by omega
      have HP : Hid (pickL L nm = nm) := Go.Lib.hid (by rw [pickL, ← List.take_length (l := L), hF.out]; rfl)
      go_wp2
      go_ret
      exact ⟨ret_str HP.out.symm, hB⟩

end Go.Proofs.YtpicgchcdbginaaDoor
