/- The scan's own methods: is it done, what is left, how bytes are skipped. -/
import Derived.Test.YtcmhfcnjfhcpdaaDoorA1
import Derived.Deep.QuietTactic
import Derived.BigQuiet
import Derived.Laws.BytesArg
namespace Go.Proofs.YtcmhfcnjfhcpdaaDoor
open Go.RowKit
/-- The world, some orders having been drawn. -/
def Drn (w w' : World) : Prop := ∃ n, w' = w.drewN n
theorem done27 (sb g : Nat) (L : List UInt8) (i : Nat) (w : World) (h : Sc w sb g L i) : Calls Tryd.prog 27 #[.pointer (some ⟨sb, 0, none⟩)] w fun e w' => e = .returned (.bool (decide (L.length ≤ i))) ∧ Drn w w' := by
  have h0 := h.c0
  have h1 := h.c1
  have hs := h.small
  go_enter Tryd.func27, Tryd.ntmps27
  go_wp2
  go_quiet (fail)
  go_wp2
  go_ret
  exact ⟨rfl, _, rfl⟩
def LeftPost (L : List UInt8) (i : Nat) (w : World) (e : Ending) (w' : World) : Prop := ∃ oa, e = .returned (.slice oa (L.length - i) (L.length - i)) ∧ (∃ ad, oa = some ad) ∧ RdB w' oa (L.drop i) ∧ Drn w w'
theorem Sc.rd {w : World} {sb g : Nat} {L : List UInt8} {i : Nat} (h : Sc w sb g L i) : RdB w (some ⟨g, 0, none⟩) L := fun j hj => by
  refine ⟨_, rfl, ?_⟩
  have := h.byte j hj
  rwa [show (⟨g, 0, none⟩ : Addr).add j = ⟨g, j, none⟩ by unfold Addr.add; split <;> simp_all]
theorem left17 (sb g : Nat) (L : List UInt8) (i : Nat) (w : World) (hsc : Sc w sb g L i) (hi : i ≤ L.length) : Calls Tryd.prog 17 #[.pointer (some ⟨sb, 0, none⟩)] w (LeftPost L i w) := by
  have h0 := hsc.c0
  have h1 := hsc.c1
  have hs := hsc.small
  have hi0 : (0 : Int) ≤ i := by omega
  have hi1 : (i : Int) ≤ L.length := by omega
  go_enter Tryd.func17, Tryd.ntmps17
  go_wp2
  go_quiet (fail)
  go_wp2
  · go_ret
    exact ⟨some ⟨g, 0, none⟩, by rw [show L.length - i = 0 by omega]; rfl, ⟨_, rfl⟩, fun j hj => absurd hj (by rw [List.length_drop]; omega), _, rfl⟩
  · go_ret
    refine ⟨some ⟨g, i, none⟩, rfl, ⟨_, rfl⟩, ?_, _, rfl⟩
    intro j hj
    obtain ⟨ad, had, hc⟩ := (hsc.drewN nq).rd.cut i j hj
    refine ⟨ad, ?_, hc⟩
    rw [← had]
    show some _ = some _
    congr 1
    unfold Addr.add
    split <;> simp_all
theorem strOf_nums (l : List UInt8) : strOfNums (nums l) = mkS l := by
  unfold strOfNums nums mkS
  congr 2
  rw [List.map_map]
  conv => rhs; rw [← List.map_id l]
  apply List.map_congr_left
  intro b _
  simp
theorem Sc.conv {w : World} {sb g : Nat} {L : List UInt8} {i : Nat} (h : Sc w sb g L i) (a n c : Nat) (hn : a + n ≤ L.length) : (convert 26 9 (.slice (some ⟨g, a, none⟩) n c)).run Tryd.prog w = .ok (.string (mkS ((L.drop a).take n))) w := by
  rw [← strOf_nums]
  refine run_convert_bytes_arg w 26 5 Tryd.underlying26 Tryd.underlying5 g a n c _ (by simp [nums]; omega) (fun j hj => ?_) 9 Tryd.underlying9
  rw [h.byte (a + j) (by omega)]
  simp only [nums, List.getD_eq_getElem?_getD, List.getElem?_map, List.getElem?_take, List.getElem?_drop]
  rw [if_pos hj, List.getElem?_eq_getElem (by omega)]
  rfl
theorem conv_none (w : World) (a : Addr) (c : Nat) (ha : a.spot = none) : (convert 26 9 (.slice (some a) 0 c)).run Tryd.prog w = .ok (.string ⟨#[]⟩) w := by
  obtain ⟨b, o, s⟩ := a
  obtain rfl : s = none := ha
  exact run_convert_bytes_arg w 26 5 Tryd.underlying26 Tryd.underlying5 b o 0 c [] rfl (fun j hj => absurd hj (by omega)) 9 Tryd.underlying9
/-- The place of a scan. -/
def scPos (w : World) (sb : Nat) : Nat := match w.cell? ⟨sb, 1, none⟩ with | some (.int _ n) => n.toNat | _ => 0
theorem Sc.pos {w : World} {sb g : Nat} {L : List UInt8} {i : Nat} (h : Sc w sb g L i) : scPos w sb = i := by
  unfold scPos
  rw [h.c1]
  simp
theorem tw_all (l : List UInt8) (p : UInt8 → Bool) (h : ∀ c ∈ l, p c = true) : l.takeWhile p = l := by
  induction l with
  | nil => rfl
  | cons a t ih => rw [List.takeWhile_cons, h a (by simp), if_pos rfl, ih (fun c hc => h c (by simp [hc]))]
theorem tw_step (L : List UInt8) (p : UInt8 → Bool) (i k : Nat) (hik : i ≤ k) (hk : k < L.length) (h : ∀ j (hj : j < L.length), i ≤ j → j < k → p L[j] = true) (hp : p (L[k]) = false) : (L.drop i).takeWhile p = (L.drop i).take (k - i) := by
  have e : L.drop i = (L.drop i).take (k - i) ++ L.drop k := by
    conv => lhs; rw [← List.take_append_drop (k - i) (L.drop i)]
    rw [List.drop_drop, show i + (k - i) = k by omega]
  rw [e, List.takeWhile_append_of_pos, List.drop_eq_getElem_cons hk, List.takeWhile_cons]
  · rw [hp]
    simp only [Bool.false_eq_true, if_false, List.append_nil]
    rw [← List.drop_eq_getElem_cons hk, ← e]
  · intro c hc
    obtain ⟨j, hj, rfl⟩ := List.getElem_of_mem hc
    rw [List.getElem_take, List.getElem_drop]
    rw [List.length_take, List.length_drop] at hj
    exact h _ _ (by omega) (by omega)
theorem tw_end (L : List UInt8) (p : UInt8 → Bool) (i : Nat) (h : ∀ j (hj : j < L.length), i ≤ j → p L[j] = true) : (L.drop i).takeWhile p = L.drop i := by
  refine tw_all _ _ fun c hc => ?_
  obtain ⟨j, hj, rfl⟩ := List.getElem_of_mem hc
  rw [List.getElem_drop]
  exact h _ _ (by omega)
def SkipPost (sb g : Nat) (L : List UInt8) (i : Nat) (p : UInt8 → Bool) (Inv : World → Prop) (w : World) (e : Ending) (w' : World) : Prop :=
  e = .returned (.string (mkS ((L.drop i).takeWhile p))) ∧ Sc w' sb g L (i + ((L.drop i).takeWhile p).length) ∧ St sb w w' ∧ Inv w'
set_option maxRecDepth 100000 in
theorem skip41 (q : Nat) (lb : Array Value) (eg : ∀ args w, (callFunc q args).run Tryd.prog w = .ok (.enter q args) w) (p : UInt8 → Bool) (sb g : Nat) (L : List UInt8) (i : Nat) (w : World) (h : Sc w sb g L i) (hi : i ≤ L.length)
    (Inv : World → Prop) (hI0 : Inv w) (hId : ∀ W n, Inv W → Inv (W.drewN n)) (hIs : ∀ W v, Inv W → Inv (W.setCell ⟨sb, 1, none⟩ v))
    (hp : ∀ (c : UInt8) W, Inv W → Calls Tryd.prog q (#[.int .u8 c.toNat] ++ lb) W fun e w' => e = .returned (.bool (p c)) ∧ ∃ n, w' = W.drewN n) :
    Calls Tryd.prog 41 #[.pointer (some ⟨sb, 0, none⟩), .func (.func q) #[] lb] w (SkipPost sb g L i p Inv w) := by
  have h1 := h.c1
  have hs := h.small
  have HI := Go.Lib.hid (⟨hId, hIs⟩ : (∀ W n, Inv W → Inv (W.drewN n)) ∧ (∀ W v, Inv W → Inv (W.setCell ⟨sb, 1, none⟩ v)))
  have HP := Go.Lib.hid hp
  clear hId hIs hp
  go_enter Tryd.func41, Tryd.ntmps41
  go_wp2
  clear h1
  go_loopw [] (fun wr => ∃ k : Nat, i ≤ k ∧ k ≤ L.length ∧ Go.RowKit.Hid (∀ j (hj : j < L.length), i ≤ j → j < k → p L[j] = true) ∧ Sc wr sb g L k ∧ St sb w wr ∧ Inv wr) (fun wr => L.length - scPos wr sb)
  case atStart => exact ⟨i, Nat.le_refl _, hi, (fun j hj h1 h2 => by omega), h, St.refl _ _, hI0⟩
  case round =>
    obtain ⟨k, hik, hk, hall, hsc, hst, hinv⟩ := hrel
    have h0 := hsc.c0
    have h1 := hsc.c1
    have hfr := hsc.fr 1
    have hk0 : (0 : Int) ≤ k := by omega
    have hi0 : (0 : Int) ≤ i := by omega
    have hik1 : (i : Int) ≤ k := by omega
    have hk2 : (k : Int) ≤ L.length := by omega
    have hcv : ∀ m, (convert 26 9 (.slice (some ⟨g, i, none⟩) (k - i) (L.length - i))).run Tryd.prog (wr.drewN m) = .ok (.string (mkS ((L.drop i).take (k - i)))) (wr.drewN m) := fun m => (hsc.drewN m).conv _ _ _ (by omega)
    have hcv0 : ∀ m, (convert 26 9 (.slice (some ⟨g, 0, none⟩) 0 0)).run Tryd.prog (wr.drewN m) = .ok (.string ⟨#[]⟩) (wr.drewN m) := fun m => conv_none _ _ _ rfl
    by_cases hlt : k < L.length
    · have hb := hsc.byte k hlt
      have hg : decide (L.length ≤ k) = false := by simpa using hlt
      have hk1 : (k : Int) < L.length := by omega
      cases hpc : p L[k] with
      | true =>
        have HC := Go.Lib.hid hpc
        have hP := fun W hW => HP.out L[k] W hW
        rw [hpc] at hP
        have HPc := Go.Lib.hid hP
        clear hpc hP
        go_wp2
        go_quiet (first | (go_at_call 27; exact Calls.quiet_of (done27 sb g L k _ (hsc.drewN _))) | (go_at_fn q; exact Calls.quiet_of (HPc.out _ (HI.out.1 _ _ hinv))))
        go_wp2
        have hsc2 := (hsc.drewN nq).set (k + 1) (.int .i64 (↑k + 1)) (by go_num)
        refine ⟨⟨k + 1, by omega, by omega, fun j hj h1 h2 => ?_, hsc2, (hst.drewN nq).set _, HI.out.2 _ _ (HI.out.1 _ _ hinv)⟩, ?_⟩
        · rcases Nat.lt_or_ge j k with h3 | h3
          · exact hall.out j hj h1 h3
          · obtain rfl : j = k := by omega
            exact HC.out
        · rw [hsc2.pos, hsc.pos]
          omega
      | false =>
        have htw := tw_step L p i k hik hlt (fun j hj h1 h2 => hall.out j hj h1 h2) hpc
        have hP := fun W hW => HP.out L[k] W hW
        rw [hpc] at hP
        have HPc := Go.Lib.hid hP
        have HT := Go.Lib.hid htw
        clear hpc hP htw
        go_wp2
        go_quiet (first | (go_at_call 27; exact Calls.quiet_of (done27 sb g L k _ (hsc.drewN _))) | (go_at_fn q; exact Calls.quiet_of (HPc.out _ (HI.out.1 _ _ hinv))))
        go_wp2
        go_quiet (fail)
        go_wp2
        go_ret
        refine ⟨ret_str (by rw [HT.out]), ?_, ((hst.drewN _).drewN _), HI.out.1 _ _ (HI.out.1 _ _ hinv)⟩
        rw [HT.out, List.length_take, List.length_drop, show i + min (k - i) (L.length - i) = k by omega]
        exact (hsc.drewN _).drewN _
    · obtain rfl : k = L.length := by omega
      have hg : decide (L.length ≤ L.length) = true := by simp
      have htw := tw_end L p i (fun j hj h1 => hall.out j hj h1 hj)
      have HT := Go.Lib.hid htw
      clear htw
      rcases Nat.lt_or_ge i L.length with hlt | hge
      · have hne : ¬ L.length = i := by omega
        go_wp2
        go_quiet (first | (go_at_call 27; exact Calls.quiet_of (done27 sb g L L.length _ (hsc.drewN _))))
        go_wp2
        go_quiet (fail)
        go_wp2
        go_ret
        refine ⟨ret_str (by rw [HT.out, List.take_of_length_le (by rw [List.length_drop]; exact Nat.le_refl _)]), ?_, ((hst.drewN _).drewN _), HI.out.1 _ _ (HI.out.1 _ _ hinv)⟩
        rw [HT.out, List.length_drop, show i + (L.length - i) = L.length by omega]
        exact (hsc.drewN _).drewN _
      · obtain rfl : i = L.length := by omega
        clear hcv
        go_wp2
        go_quiet (first | (go_at_call 27; exact Calls.quiet_of (done27 sb g L L.length _ (hsc.drewN _))))
        go_wp2
        go_quiet (fail)
        go_wp2
        go_ret
        refine ⟨ret_str (by rw [HT.out, List.drop_of_length_le (Nat.le_refl _)]; rfl), ?_, ((hst.drewN _).drewN _), HI.out.1 _ _ (HI.out.1 _ _ hinv)⟩
        rw [HT.out, List.length_drop, show L.length + (L.length - L.length) = L.length by omega]
        exact (hsc.drewN _).drewN _
end Go.Proofs.YtcmhfcnjfhcpdaaDoor
