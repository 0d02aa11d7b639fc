/- The walks of one and of the two TextPoints. -/
import Derived.Test.YtpicgchcdbginaaDoorD7
import Derived.Test.YtpicgchcdbginaaDoorD8
import Derived.HandedShaped
namespace Go.Proofs.YtpicgchcdbginaaDoor
open Go.RowKit

/-- A text is one of the words. -/
def oneB (L : List ByteArray) (s : ByteArray) : Bool := L.any fun t => t.toList == s.toList
def HasM (w : World) : Prop := ∃ m, w.cell? ⟨0, 0, none⟩ = some (.int .i64 m)
theorem HasM.below {w w1 : World} (h : HasM w) (hb : Below w.heap.size w w1) : HasM w1 := by
  obtain ⟨m, hm⟩ := h
  exact ⟨m, bcl hb hm⟩
/-- The words of a text. -/
def wordsOK (W : ByteArray) (L : List ByteArray) : Bool := decide (W.size < 1000) && decide (Lib.splitK [32] 0 (W.data.toList.count 32) W.data.toList = L.map (·.data.toList)) && decide (W.data.toList.count 32 + 1 = L.length)
theorem words_split {W : ByteArray} {L : List ByteArray} (h : wordsOK W L = true) : W.size < 1000 ∧ Lib.splitB ⟨#[32]⟩ 0 (Lib.countB W ⟨#[32]⟩) W = L ∧ Lib.countB W ⟨#[32]⟩ + 1 = L.length := by
  simp only [wordsOK, Bool.and_eq_true, decide_eq_true_eq] at h
  have hc : Lib.countB W ⟨#[32]⟩ = W.data.toList.count 32 := Lib.count_one 32 W.data.toList
  refine ⟨h.1.1, ?_, by rw [hc]; exact h.2⟩
  have hd := Lib.splitB_data ⟨#[32]⟩ 0 (Lib.countB W ⟨#[32]⟩) W
  rw [hc] at hd ⊢
  exact (List.map_inj_right (fun a b h => Go.WideShapes.bytes_inj h)).1 (hd.trans h.1.2)
theorem split16 {W : ByteArray} {L : List ByteArray} (hk : wordsOK W L = true) (w : World) (hm : HasM w) :
    Calls Tryd.prog 16 #[.string W, .string ⟨#[32]⟩] w fun e w' => e = .returned (.slice (some ⟨w.heap.size, 0, none⟩) L.length L.length) ∧ TabAt w' w.heap.size L ∧ Below w.heap.size w w' := by
  have hk := words_split hk
  obtain ⟨m, hm⟩ := hm
  refine (Tryd.strings_Split W ⟨#[32]⟩ m w (by omega) hm (by decide)).mono fun e w' ⟨he, hw⟩ => ?_
  rw [hk.2.2] at he
  rw [hk.2.1] at hw
  subst hw
  refine ⟨he, ?_, bal (Below.refl _ _) _⟩
  exact tab_alloc (fun k h => by simp [h]) 9 _ rfl

set_option maxHeartbeats 400000 in
theorem one12 (s : ByteArray) {W : ByteArray} {L : List ByteArray} (hk : wordsOK W L = true) (hl : L.length ≤ 1000) (w : World) (hm : HasM w) :
    Calls Tryd.prog 12 #[.string s, .string W] w fun e w' => e = .returned (.bool (oneB L s)) ∧ Below w.heap.size w w' := by
  have C := fun w h => split16 hk w h
  clear hk
  go_enter Tryd.func12, Tryd.ntmps12
  go_wp2_with (go_at_call 16; (with_reducible refine (C _ hm).mono ?_); rintro e w1 ⟨rfl, hT, hb1⟩)
  go_loopw [6, 10] (fun v6 v9 wr => ∃ k : Nat, k ≤ L.length ∧ v9 = .int .i64 k ∧ Below w1.heap.size w1 wr ∧ Hid (oneB (L.take k) s = false)) (fun _ v9 _ => L.length - (intOf v9).toNat)
  case atStart => exact ⟨0, Nat.zero_le _, rfl, Below.refl _ _, Go.Lib.hid rfl⟩
  case round =>
    obtain ⟨k, hk, rfl, hB, hF⟩ := hrel
    by_cases hlt : k < L.length
    · have hcell := bcl hB (hT k hlt)
      have hst : Hid (((L[k].toList == s.toList) = false → oneB (L.take (k + 1)) s = false) ∧ ((L[k].toList == s.toList) = true → oneB L s = true)) := Go.Lib.hid (by
        constructor
        · intro h
          have := hF.out
          simp only [oneB] at this ⊢
          rw [List.take_succ_eq_append_getElem hlt, List.any_append, this]
          simp [h]
        · intro h
          exact List.any_eq_true.2 ⟨_, List.getElem_mem hlt, h⟩)
      generalize L[k] = x at *
      clear hT
      cases hts : x.toList == s.toList
      · have HN := Go.Lib.hid (hst.out.1 hts)
        go_wp2
        go_roundw
        case rel => exact ⟨k + 1, by omega, by go_num, hB, HN⟩
        case measure => simp [intOf]; omega
      · have HY := Go.Lib.hid (hst.out.2 hts)
        clear hst
        have hts' := Go.Lib.hid hts
        go_wp2
        go_ret
        exact ⟨ret_bool HY.out.symm, btr hb1 hB⟩
    · obtain rfl : k = L.length := by omega
      have HP : Hid (oneB L s = false) := Go.Lib.hid (by have := hF.out; rwa [List.take_length] at this)
      go_wp2
      go_ret
      exact ⟨ret_bool HP.out.symm, btr hb1 hB⟩
abbrev tpW : ByteArray := ⟨#[109, 105, 32, 109, 111, 32, 109, 110, 32, 109, 115, 32, 109, 116, 101, 120, 116]⟩
def tpL : List ByteArray := [⟨#[109, 105]⟩, ⟨#[109, 111]⟩, ⟨#[109, 110]⟩, ⟨#[109, 115]⟩, ⟨#[109, 116, 101, 120, 116]⟩]
theorem tp_ok : wordsOK tpW tpL = true := by decide +kernel
theorem eq_comm_b (a b : List UInt8) : (a == b) = (b == a) := by
  rw [Bool.eq_iff_iff, beq_iff_eq, beq_iff_eq]
  exact eq_comm
theorem text5 (sp : Int) (s : ByteArray) (w : World) (hm : HasM w) : Calls Tryd.prog 5 #[.int .i64 sp, .string s] w fun e w' => e = .returned (.bool (sp == 1 && oneB tpL s)) ∧ Below w.heap.size w w' := by
  cases hsp : sp == 1
  · go_enter Tryd.func5, Tryd.ntmps5
    go_wp2
    go_ret
    exact ⟨rfl, Below.refl _ _⟩
  · go_enter Tryd.func5, Tryd.ntmps5
    go_wp2_with (go_at_call 12; (with_reducible refine (one12 s (W := tpW) tp_ok (by decide) _ hm).mono ?_); rintro e w1 ⟨rfl, hb1⟩)
    go_ret
    exact ⟨rfl, hb1⟩
theorem oneB_cons (l : List UInt8) (L : List ByteArray) (s : ByteArray) : oneB ((⟨l.toArray⟩ : ByteArray) :: L) s = (s.toList == l || oneB L s) := by
  simp only [oneB, List.any_cons]
  rw [show (⟨l.toArray⟩ : ByteArray).toList = l from by rw [tl], eq_comm_b]
theorem oneB_nil (s : ByteArray) : oneB [] s = false := rfl
set_option maxHeartbeats 1000000 in
theorem reftext6 (sp : Int) (s : ByteArray) (w : World) : Calls Tryd.prog 6 #[.int .i64 sp, .string s] w fun e w' => e = .returned (.bool (sp == 1 && oneB tpL s)) ∧ Below w.heap.size w w' := by
  simp only [tpL, oneB_cons, oneB_nil]
  go_enter Tryd.func6, Tryd.ntmps6
  go_wp2
  all_goals
    go_ret
    refine ⟨ret_bool ?_, Below.refl _ _⟩
    simp_all
end Go.Proofs.YtpicgchcdbginaaDoor
