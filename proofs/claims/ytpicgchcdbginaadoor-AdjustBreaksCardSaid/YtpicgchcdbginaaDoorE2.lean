/- The walks of the two Breaks. -/
import Derived.Test.YtpicgchcdbginaaDoorE1
namespace Go.Proofs.YtpicgchcdbginaaDoor
open Go.RowKit

abbrev brW : ByteArray := ⟨(([98, 32, 98, 105, 103, 32, 98, 108, 111, 99, 107, 113, 117, 111, 116, 101, 32, 98, 111, 100, 121, 32, 98, 114, 32, 99, 101, 110, 116, 101, 114, 32, 99, 111, 100, 101, 32, 100, 100, 32, 100, 105, 118, 32, 100].append [108, 32, 100, 116, 32, 101, 109, 32, 101, 109, 98, 101, 100, 32, 104, 49, 32, 104, 50, 32, 104, 51, 32, 104, 52, 32, 104, 53, 32, 104, 54, 32, 104, 101, 97, 100, 32, 104, 114, 32, 105, 32, 105, 109, 103, 32]).append ([108, 105, 32, 108, 105, 115, 116, 105, 110, 103, 32, 109, 101, 110, 117, 32, 109, 101, 116, 97, 32, 110, 111, 98, 114, 32, 111, 108, 32, 112, 32, 112, 114, 101, 32, 114, 117, 98, 121, 32, 115, 32, 115, 109, 97, 108].append [108, 32, 115, 112, 97, 110, 32, 115, 116, 114, 111, 110, 103, 32, 115, 116, 114, 105, 107, 101, 32, 115, 117, 98, 32, 115, 117, 112, 32, 116, 97, 98, 108, 101, 32, 116, 116, 32, 117, 32, 117, 108, 32, 118, 97, 114])).toArray⟩
def brL : List ByteArray := [⟨#[98]⟩, ⟨#[98, 105, 103]⟩, ⟨#[98, 108, 111, 99, 107, 113, 117, 111, 116, 101]⟩, ⟨#[98, 111, 100, 121]⟩, ⟨#[98, 114]⟩, ⟨#[99, 101, 110, 116, 101, 114]⟩, ⟨#[99, 111, 100, 101]⟩, ⟨#[100, 100]⟩, ⟨#[100, 105, 118]⟩, ⟨#[100, 108]⟩, ⟨#[100, 116]⟩, ⟨#[101, 109]⟩, ⟨#[101, 109, 98, 101, 100]⟩, ⟨#[104, 49]⟩, ⟨#[104, 50]⟩, ⟨#[104, 51]⟩, ⟨#[104, 52]⟩, ⟨#[104, 53]⟩, ⟨#[104, 54]⟩, ⟨#[104, 101, 97, 100]⟩, ⟨#[104, 114]⟩, ⟨#[105]⟩, ⟨#[105, 109, 103]⟩, ⟨#[108, 105]⟩, ⟨#[108, 105, 115, 116, 105, 110, 103]⟩, ⟨#[109, 101, 110, 117]⟩, ⟨#[109, 101, 116, 97]⟩, ⟨#[110, 111, 98, 114]⟩, ⟨#[111, 108]⟩, ⟨#[112]⟩, ⟨#[112, 114, 101]⟩, ⟨#[114, 117, 98, 121]⟩, ⟨#[115]⟩, ⟨#[115, 109, 97, 108, 108]⟩, ⟨#[115, 112, 97, 110]⟩, ⟨#[115, 116, 114, 111, 110, 103]⟩, ⟨#[115, 116, 114, 105, 107, 101]⟩, ⟨#[115, 117, 98]⟩, ⟨#[115, 117, 112]⟩, ⟨#[116, 97, 98, 108, 101]⟩, ⟨#[116, 116]⟩, ⟨#[117]⟩, ⟨#[117, 108]⟩, ⟨#[118, 97, 114]⟩]
abbrev cfW : ByteArray := ⟨#[99, 111, 108, 111, 114, 32, 102, 97, 99, 101, 32, 115, 105, 122, 101]⟩
def cfL : List ByteArray := [⟨#[99, 111, 108, 111, 114]⟩, ⟨#[102, 97, 99, 101]⟩, ⟨#[115, 105, 122, 101]⟩]
theorem br_ok : wordsOK brW brL = true := by decide +kernel
theorem cf_ok : wordsOK cfW cfL = true := by decide +kernel

def brkP (kind : Int) (nm : ByteArray) (L : List A4) : Bool :=
  if kind == 2 then nm.toList == [98, 114] || nm.toList == [112] else if kind == 1 then (if nm.toList == [102, 111, 110, 116] then L.any (fun x => oneB cfL x.nm) else oneB brL nm) else false
set_option maxHeartbeats 1000000 in
theorem breaks10 (kind has ch : Int) (nm data sys : ByteArray) (q sf : Bool) (oa : Option Addr) (cap : Nat) (L : List A4) (w : World) (hL : RdA w oa L) (hm : L.length * 56 ≤ 140737488351232) (hM : HasM w) :
    Calls Tryd.prog 10 #[.agg #[.int .i64 kind, .string nm, .string data, .string sys, .int .i64 has, .bool q, .int .i32 ch, .bool sf, .slice oa L.length cap]] w fun e w' => e = .returned (.bool (brkP kind nm L)) ∧ Below w.heap.size w w' := by
  have CB := fun w h => one12 nm (W := brW) br_ok (by decide) w h
  cases h2 : kind == 2
  · cases h1 : kind == 1
    · have hP : Hid (brkP kind nm L = false) := Go.Lib.hid (by simp only [brkP, h2, h1]; rfl)
      go_enter Tryd.func10, Tryd.ntmps10
      go_wp2
      go_ret
      exact ⟨ret_bool hP.out.symm, bal (Below.refl _ _) _⟩
    · obtain rfl : kind = 1 := by simpa using h1
      clear h2 h1
      cases hf : nm.toList == [102, 111, 110, 116]
      · have hP : Hid (brkP 1 nm L = oneB brL nm) := Go.Lib.hid (by simp only [brkP, hf]; rfl)
        go_enter Tryd.func10, Tryd.ntmps10
        go_wp2_with (go_at_call 12; (refine (CB _ (hM.below (bal (Below.refl _ _) _))).mono ?_); rintro e w1 ⟨rfl, hb1⟩)
        go_ret
        exact ⟨ret_bool hP.out.symm, btr (bal (Below.refl _ _) _) hb1⟩
      · have hP : Hid (brkP 1 nm L = L.any (fun x => oneB cfL x.nm)) := Go.Lib.hid (by simp only [brkP, hf]; rfl)
        go_enter Tryd.func10, Tryd.ntmps10
        go_wp2
        go_loopw [2, 4, 28] (fun _ _ v9 wr => ∃ k : Nat, k ≤ L.length ∧ v9 = .int .i64 k ∧ Below w.heap.size w wr ∧ Hid ((L.take k).any (fun x => oneB cfL x.nm) = false)) (fun _ _ v9 _ => L.length - (intOf v9).toNat)
        case atStart => exact ⟨0, Nat.zero_le _, rfl, bal (Below.refl _ _) _, Go.Lib.hid rfl⟩
        case round =>
          obtain ⟨k, hk, rfl, hB, hF⟩ := hrel
          by_cases hlt : k < L.length
          · obtain ⟨b, off, rfl, hc⟩ := hL (by intro h; subst h; simp at hlt)
            obtain ⟨c0, c1, c2, c3⟩ := hc k hlt
            have d0 := bcl hB c0
            have d1 := bcl hB c1
            have d2 := bcl hB c2
            have d3 := bcl hB c3
            have HN : Hid (oneB cfL L[k].nm = false → (L.take (k + 1)).any (fun x => oneB cfL x.nm) = false) := Go.Lib.hid (fun h => by
              rw [List.take_succ_eq_append_getElem hlt, List.any_append, hF.out]
              simp [h])
            have HY : Hid (oneB cfL L[k].nm = true → L.any (fun x => oneB cfL x.nm) = true) := Go.Lib.hid (fun h => List.any_eq_true.2 ⟨_, List.getElem_mem hlt, h⟩)
            clear hc c0 c1 c2 c3 hL
            generalize L[k] = x at *
            have hMr := hM.below hB
            have CF := fun w h => one12 x.nm (W := cfW) cf_ok (by decide) w h
            cases ho : oneB cfL x.nm
            · have HN' := Go.Lib.hid (HN.out ho)
              rw [ho] at CF
              clear ho HN HY
              go_wp2_with (go_at_call 12; (with_reducible refine (CF _ (hMr.below (bal (Below.refl _ _) _))).mono ?_); rintro e w1 ⟨rfl, hb1⟩)
              go_roundw
              case rel => exact ⟨k + 1, by omega, by go_num, btr (bal hB _) hb1, HN'⟩
              case measure => simp [intOf]; omega
            · have HY' := Go.Lib.hid (HY.out ho)
              rw [ho] at CF
              clear ho HN HY
              go_wp2_with (go_at_call 12; (with_reducible refine (CF _ (hMr.below (bal (Below.refl _ _) _))).mono ?_); rintro e w1 ⟨rfl, hb1⟩)
              go_ret
              exact ⟨ret_bool (HY'.out.symm.trans hP.out.symm), btr (bal hB _) hb1⟩
          · obtain rfl : k = L.length := by omega
            have HP : Hid (L.any (fun x => oneB cfL x.nm) = false) := Go.Lib.hid (by have := hF.out; rwa [List.take_length] at this)
            go_wp2
            go_ret
            exact ⟨ret_bool (HP.out.symm.trans hP.out.symm), hB⟩
  · have hP : Hid (brkP kind nm L = (nm.toList == [98, 114] || nm.toList == [112])) := Go.Lib.hid (by simp only [brkP, h2]; rfl)
    go_enter Tryd.func10, Tryd.ntmps10
    go_wp2
    all_goals
      go_ret
      refine ⟨ret_bool (Eq.trans ?_ hP.out.symm), bal (Below.refl _ _) _⟩
      simp_all
end Go.Proofs.YtpicgchcdbginaaDoor
