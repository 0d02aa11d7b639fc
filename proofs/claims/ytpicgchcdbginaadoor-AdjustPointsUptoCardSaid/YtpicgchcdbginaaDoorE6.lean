/- The walks of the two HTMLPoints and of the law of integration points. -/
import Derived.Test.YtpicgchcdbginaaDoorE5
namespace Go.Proofs.YtpicgchcdbginaaDoor
open Go.RowKit
abbrev fdtW : ByteArray := ⟨#[102, 111, 114, 101, 105, 103, 110, 79, 98, 106, 101, 99, 116, 32, 100, 101, 115, 99, 32, 116, 105, 116, 108, 101]⟩
def fdtL : List ByteArray := [⟨#[102, 111, 114, 101, 105, 103, 110, 79, 98, 106, 101, 99, 116]⟩, ⟨#[100, 101, 115, 99]⟩, ⟨#[116, 105, 116, 108, 101]⟩]
abbrev thW : ByteArray := ⟨#[116, 101, 120, 116, 47, 104, 116, 109, 108, 32, 97, 112, 112, 108, 105, 99, 97, 116, 105, 111, 110, 47, 120, 104, 116, 109, 108, 43, 120, 109, 108]⟩
def thL : List ByteArray := [⟨#[116, 101, 120, 116, 47, 104, 116, 109, 108]⟩, ⟨#[97, 112, 112, 108, 105, 99, 97, 116, 105, 111, 110, 47, 120, 104, 116, 109, 108, 43, 120, 109, 108]⟩]
theorem fdt_ok : wordsOK fdtW fdtL = true := by decide +kernel
theorem th_ok : wordsOK thW thL = true := by decide +kernel
theorem th_ascii : (thL.all fun t => t.toList.all fun c => decide (c.toNat < 128)) = true := by decide +kernel
/-- What the first attribute 'encoding' without a namespace tells. -/
def encP (L : List A4) : Bool := match L.find? (fun x => x.sp == 0 && x.nm.toList == [101, 110, 99, 111, 100, 105, 110, 103]) with
  | some x => oneB thL (mkS (low x.va.data.toList))
  | none => false
def hpP (sp : Int) (nm : ByteArray) (L : List A4) : Bool := if sp == 2 then oneB fdtL nm else if sp == 1 && nm.toList == [97, 110, 110, 111, 116, 97, 116, 105, 111, 110, 45, 120, 109, 108] then encP L else false
set_option maxHeartbeats 1000000 in
theorem html7 (sp : Int) (nm : ByteArray) (oa : Option Addr) (cap : Nat) (L : List A4) (w : World) (hL : RdA w oa L) (hm : L.length * 56 ≤ 140737488351232) (hS : ∀ x ∈ L, x.va.size ≤ 35184372088832) (hM : HasM w) :
    Calls Tryd.prog 7 #[.int .i64 sp, .string nm, .slice oa L.length cap] w fun e w' => e = .returned (.bool (hpP sp nm L)) ∧ Below w.heap.size w w' := by
  cases h2 : sp == 2
  · cases h1 : sp == 1
    · have hP : Hid (hpP sp nm L = false) := Go.Lib.hid (by simp only [hpP, h2, h1]; rfl)
      go_enter Tryd.func7, Tryd.ntmps7
      go_wp2
      go_ret
      exact ⟨ret_bool hP.out.symm, Below.refl _ _⟩
    · obtain rfl : sp = 1 := by simpa using h1
      clear h2 h1
      cases hf : nm.toList == [97, 110, 110, 111, 116, 97, 116, 105, 111, 110, 45, 120, 109, 108]
      · have hP : Hid (hpP 1 nm L = false) := Go.Lib.hid (by simp only [hpP, hf]; rfl)
        go_enter Tryd.func7, Tryd.ntmps7
        go_wp2
        go_ret
        exact ⟨ret_bool hP.out.symm, Below.refl _ _⟩
      · have hP : Hid (hpP 1 nm L = encP L) := Go.Lib.hid (by simp only [hpP, hf]; rfl)
        go_enter Tryd.func7, Tryd.ntmps7
        go_wp2
        go_loopw [6, 8, 23] (fun _ _ vk wr => ∃ k : Nat, k ≤ L.length ∧ vk = .int .i64 k ∧ Below w.heap.size w wr ∧ Hid ((L.take k).find? (fun x => x.sp == 0 && x.nm.toList == [101, 110, 99, 111, 100, 105, 110, 103]) = none)) (fun _ _ vk _ => L.length - (intOf vk).toNat)
        case atStart => exact ⟨0, Nat.zero_le _, rfl, Below.refl _ _, Go.Lib.hid rfl⟩
        case round =>
          obtain ⟨k, hk, rfl, hB, hF⟩ := hrel
          by_cases hlt : k < L.length
          · obtain ⟨b, off, rfl, hc⟩ := hL (by intro h; subst h; simp at hlt)
            obtain ⟨c0, c1, c2, c3⟩ := hc k hlt
            have d0 := bcl hB c0
            have d1 := bcl hB c1
            have d2 := bcl hB c2
            have d3 := bcl hB c3
            have hft := Go.Lib.hid (find_take _ L k hlt hF.out)
            have hsz := hS _ (List.getElem_mem hlt)
            clear hc c0 c1 c2 c3 hL
            generalize L[k] = x at *
            have hMr := hM.below hB
            cases hx : x.sp == 0
            · have HN := Go.Lib.hid (hft.out.2 (by rw [hx]; rfl))
              clear hft
              go_wp2
              go_roundw
              case rel => exact ⟨k + 1, by omega, by go_num, bal hB _, HN⟩
              case measure => simp [intOf]; omega
            · cases hn : x.nm.toList == [101, 110, 99, 111, 100, 105, 110, 103]
              · have HN := Go.Lib.hid (hft.out.2 (by rw [hx, hn]; rfl))
                clear hft
                go_wp2
                go_roundw
                case rel => exact ⟨k + 1, by omega, by go_num, bal hB _, HN⟩
                case measure => simp [intOf]; omega
              · have HY := Go.Lib.hid (hft.out.1 (by rw [hx, hn]; rfl))
                clear hft
                have CS := fun w => small13 x.va w hsz
                have CT := fun w h => one12 (mkS (smG x.va)) (W := thW) th_ok (by decide) w h
                have HV : Hid (oneB thL (mkS (smG x.va)) = encP L) := Go.Lib.hid (by rw [small_same thL th_ascii]; simp only [encP, HY.out])
                generalize mkS (smG x.va) = sv at *
                clear HY
                go_wp2_with (first
                  | (go_at_call 13; (with_reducible refine (CS _).mono ?_); rintro e w1 ⟨rfl, hb1⟩; have hM1 := (hMr.below (bal (Below.refl _ _) _)).below hb1)
                  | (go_at_call 12; (with_reducible refine (CT _ hM1).mono ?_); rintro e w2 ⟨rfl, hb2⟩))
                go_ret
                exact ⟨ret_bool (HV.out.trans hP.out.symm), btr (btr (bal hB _) hb1) hb2⟩
          · obtain rfl : k = L.length := by omega
            have HP : Hid (encP L = false) := Go.Lib.hid (by have := hF.out; rw [List.take_length] at this; simp only [encP, this])
            go_wp2
            go_ret
            exact ⟨ret_bool (HP.out.symm.trans hP.out.symm), hB⟩
  · obtain rfl : sp = 2 := by simpa using h2
    have hP : Hid (hpP 2 nm L = oneB fdtL nm) := Go.Lib.hid rfl
    clear h2
    go_enter Tryd.func7, Tryd.ntmps7
    go_wp2_with (go_at_call 12; (with_reducible refine (one12 nm (W := fdtW) fdt_ok (by decide) _ hM).mono ?_); rintro e w1 ⟨rfl, hb1⟩)
    go_ret
    exact ⟨ret_bool hP.out.symm, hb1⟩
set_option maxHeartbeats 1000000 in
theorem refhtml8 (sp : Int) (nm : ByteArray) (oa : Option Addr) (cap : Nat) (L : List A4) (w : World) (hL : RdA w oa L) (hm : L.length * 56 ≤ 140737488351232) (hS : ∀ x ∈ L, x.va.size ≤ 35184372088832) :
    Calls Tryd.prog 8 #[.int .i64 sp, .string nm, .slice oa L.length cap] w fun e w' => e = .returned (.bool (hpP sp nm L)) ∧ Below w.heap.size w w' := by
  cases h2 : sp == 2
  · cases h1 : sp == 1
    · have hP : Hid (hpP sp nm L = false) := Go.Lib.hid (by simp only [hpP, h2, h1]; rfl)
      have h1' : (sp != 1) = true := by rw [bne, h1]; rfl
      go_enter Tryd.func8, Tryd.ntmps8
      go_wp2
      go_ret
      exact ⟨ret_bool hP.out.symm, Below.refl _ _⟩
    · obtain rfl : sp = 1 := by simpa using h1
      clear h2 h1
      cases hf : nm.toList == [97, 110, 110, 111, 116, 97, 116, 105, 111, 110, 45, 120, 109, 108]
      · have hP : Hid (hpP 1 nm L = false) := Go.Lib.hid (by simp only [hpP, hf]; rfl)
        go_enter Tryd.func8, Tryd.ntmps8
        go_wp2
        go_ret
        exact ⟨ret_bool hP.out.symm, Below.refl _ _⟩
      · have hP : Hid (hpP 1 nm L = encP L) := Go.Lib.hid (by simp only [hpP, hf]; rfl)
        go_enter Tryd.func8, Tryd.ntmps8
        go_wp2
        go_loopw [6, 7, 8] (fun _ vk _ wr => ∃ k : Nat, k ≤ L.length ∧ vk = .int .i64 k ∧ Below w.heap.size w wr ∧ Hid ((L.take k).find? (fun x => x.sp == 0 && x.nm.toList == [101, 110, 99, 111, 100, 105, 110, 103]) = none)) (fun _ vk _ _ => L.length - (intOf vk).toNat)
        case atStart => exact ⟨0, Nat.zero_le _, rfl, Below.refl _ _, Go.Lib.hid rfl⟩
        case round =>
          obtain ⟨k, hk, rfl, hB, hF⟩ := hrel
          by_cases hlt : k < L.length
          · obtain ⟨b, off, rfl, hc⟩ := hL (by intro h; subst h; simp at hlt)
            obtain ⟨c0, c1, c2, c3⟩ := hc k hlt
            have d0 := bcl hB c0
            have d1 := bcl hB c1
            have d2 := bcl hB c2
            have d3 := bcl hB c3
            have hft := Go.Lib.hid (find_take _ L k hlt hF.out)
            have hsz := hS _ (List.getElem_mem hlt)
            clear hc c0 c1 c2 c3 hL
            generalize L[k] = x at *
            cases hx : x.sp == 0
            · have HN := Go.Lib.hid (hft.out.2 (by rw [hx]; rfl))
              clear hft
              go_wp2
              go_roundw
              case rel => exact ⟨k + 1, by omega, by go_num, hB, HN⟩
              case measure => simp [intOf]; omega
            · cases hn : x.nm.toList == [101, 110, 99, 111, 100, 105, 110, 103]
              · have HN := Go.Lib.hid (hft.out.2 (by rw [hx, hn]; rfl))
                clear hft
                go_wp2
                go_roundw
                case rel => exact ⟨k + 1, by omega, by go_num, hB, HN⟩
                case measure => simp [intOf]; omega
              · have HY := Go.Lib.hid (hft.out.1 (by rw [hx, hn]; rfl))
                clear hft
                have CS := fun w => small14 x.va w (by omega)
                have HV : Hid (encP L = ((mkS (low x.va.data.toList)).toList == [116, 101, 120, 116, 47, 104, 116, 109, 108] || (mkS (low x.va.data.toList)).toList == [97, 112, 112, 108, 105, 99, 97, 116, 105, 111, 110, 47, 120, 104, 116, 109, 108, 43, 120, 109, 108])) := Go.Lib.hid (by simp only [encP, HY.out, thL, oneB_cons, oneB_nil, Bool.or_false])
                generalize mkS (low x.va.data.toList) = sv at *
                clear HY
                go_wp2_with (go_at_call 14; (with_reducible refine (CS _).mono ?_); rintro e w1 ⟨rfl, hb1⟩; have hB1 := btr hB hb1)
                all_goals
                  go_ret
                  refine ⟨ret_bool (Eq.trans ?_ (HV.out.symm.trans hP.out.symm)), hB1⟩
                  first | rfl | (simp_all; done)
          · obtain rfl : k = L.length := by omega
            have HP : Hid (encP L = false) := Go.Lib.hid (by have := hF.out; rw [List.take_length] at this; simp only [encP, this])
            go_wp2
            go_ret
            exact ⟨ret_bool (HP.out.symm.trans hP.out.symm), hB⟩
  · obtain rfl : sp = 2 := by simpa using h2
    have hP : Hid (hpP 2 nm L = oneB fdtL nm) := Go.Lib.hid rfl
    have hO : Hid (oneB fdtL nm = (nm.toList == [102, 111, 114, 101, 105, 103, 110, 79, 98, 106, 101, 99, 116] || (nm.toList == [100, 101, 115, 99] || nm.toList == [116, 105, 116, 108, 101]))) := Go.Lib.hid (by simp only [fdtL, oneB_cons, oneB_nil, Bool.or_false])
    clear h2
    go_enter Tryd.func8, Tryd.ntmps8
    go_wp2
    all_goals
      go_ret
      refine ⟨ret_bool (Eq.trans ?_ (hO.out.symm.trans hP.out.symm)), Below.refl _ _⟩
      first | rfl | exact Bool.or_assoc _ _ _ | (simp_all; done)
end Go.Proofs.YtpicgchcdbginaaDoor
