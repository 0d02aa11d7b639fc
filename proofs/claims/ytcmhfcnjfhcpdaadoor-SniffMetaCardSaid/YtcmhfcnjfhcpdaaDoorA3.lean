/- The scan's own methods: blanks skipped, bytes up to some, behind the next such byte. -/
import Derived.Test.YtcmhfcnjfhcpdaaDoorA2
namespace Go.Proofs.YtcmhfcnjfhcpdaaDoor
open Go.RowKit
theorem skip_named (q : Nat) (eg : ∀ args w, (callFunc q args).run Tryd.prog w = .ok (.enter q args) w) (p : UInt8 → Bool) (hp : ∀ (c : UInt8) W, Calls Tryd.prog q #[.int .u8 c.toNat] W fun e w' => e = .returned (.bool (p c)) ∧ W = w') (sb g : Nat) (L : List UInt8) (i : Nat) (w : World) (h : Sc w sb g L i) (hi : i ≤ L.length) :
    Calls Tryd.prog 41 #[.pointer (some ⟨sb, 0, none⟩), .func (.func q) #[] #[]] w fun e w' => e = .returned (.string (mkS ((L.drop i).takeWhile p))) ∧ Sc w' sb g L (i + ((L.drop i).takeWhile p).length) ∧ St sb w w' := by
  refine (skip41 q #[] eg p sb g L i w h hi (fun _ => True) trivial (fun _ _ _ => trivial) (fun _ _ _ => trivial) (fun c W _ => ?_)).mono fun e w' ⟨h1, h2, h3, _⟩ => ⟨h1, h2, h3⟩
  refine (hp c W).mono fun e w' ⟨h1, h2⟩ => ⟨h1, 0, ?_⟩
  rw [← h2]
  rfl
/-- How far some bytes reach. -/
def run (p : UInt8 → Bool) (L : List UInt8) (i : Nat) : Nat := i + ((L.drop i).takeWhile p).length
theorem tw_le (p : UInt8 → Bool) (l : List UInt8) : (l.takeWhile p).length ≤ l.length := (List.takeWhile_prefix p).length_le
theorem run_le (p : UInt8 → Bool) (L : List UInt8) (i : Nat) (hi : i ≤ L.length) : i ≤ run p L i ∧ run p L i ≤ L.length := by
  have := tw_le p (L.drop i)
  rw [List.length_drop] at this
  unfold run
  omega
theorem enter22 (args : Array Value) (w : World) : (callFunc 22 args).run Tryd.prog w = .ok (.enter 22 args) w := by kernel_rfl
theorem enter29 (args : Array Value) (w : World) : (callFunc 29 args).run Tryd.prog w = .ok (.enter 29 args) w := by kernel_rfl
theorem enter42 (args : Array Value) (w : World) : (callFunc 42 args).run Tryd.prog w = .ok (.enter 42 args) w := by kernel_rfl
theorem enter32 (args : Array Value) (w : World) : (callFunc 32 args).run Tryd.prog w = .ok (.enter 32 args) w := by kernel_rfl
theorem enter46 (args : Array Value) (w : World) : (callFunc 46 args).run Tryd.prog w = .ok (.enter 46 args) w := by kernel_rfl
theorem enter21 (args : Array Value) (w : World) : (callFunc 21 args).run Tryd.prog w = .ok (.enter 21 args) w := by kernel_rfl
theorem skipBlank18 (sb g : Nat) (L : List UInt8) (i : Nat) (w : World) (h : Sc w sb g L i) (hi : i ≤ L.length) :
    Calls Tryd.prog 18 #[.pointer (some ⟨sb, 0, none⟩)] w fun e w' => e = .returned (.bool (decide (L.length ≤ run isBl L i))) ∧ Sc w' sb g L (run isBl L i) ∧ St sb w w' := by
  have S := skip_named 22 enter22 isBl blank22 sb g L i w h hi
  go_enter Tryd.func18, Tryd.ntmps18
  go_wp2_with fail
  refine S.mono ?_
  rintro e w1 ⟨rfl, hsc, hst⟩
  go_wp2_with fail
  refine (done27 sb g L _ w1 hsc).mono ?_
  rintro e w2 ⟨rfl, n, rfl⟩
  go_wp2
  go_ret
  exact ⟨rfl, hsc.drewN _, hst.drewN _⟩
/-- A closure that asks another function, and says the contrary. -/
theorem not42 (q : Nat) (eg : ∀ args w, (callFunc q args).run Tryd.prog w = .ok (.enter q args) w) (p : UInt8 → Bool) (hp : ∀ (c : UInt8) W, Calls Tryd.prog q #[.int .u8 c.toNat] W fun e w' => e = .returned (.bool (p c)) ∧ W = w') (cb : Nat) (c : UInt8) (w : World) (hc : w.cell? ⟨cb, 0, none⟩ = some (.func (.func q) #[] #[])) :
    Calls Tryd.prog 42 #[.int .u8 c.toNat, .pointer (some ⟨cb, 0, none⟩)] w fun e w' => e = .returned (.bool (!p c)) ∧ w = w' := by
  have P := hp c
  generalize p c = b at *
  go_enter Tryd.func42, Tryd.ntmps42
  go_wp2_with (go_at_fn q; refine (P _).mono ?_; rintro e w1 ⟨rfl, rfl⟩)
  go_ret
  exact ⟨rfl, rfl⟩
theorem until20 (q : Nat) (eg : ∀ args w, (callFunc q args).run Tryd.prog w = .ok (.enter q args) w) (p : UInt8 → Bool) (hp : ∀ (c : UInt8) W, Calls Tryd.prog q #[.int .u8 c.toNat] W fun e w' => e = .returned (.bool (p c)) ∧ W = w') (sb g : Nat) (L : List UInt8) (i : Nat) (w : World) (h : Sc w sb g L i) (hi : i ≤ L.length) :
    Calls Tryd.prog 20 #[.pointer (some ⟨sb, 0, none⟩), .func (.func q) #[] #[]] w fun e w' => e = .returned (.string (mkS ((L.drop i).takeWhile fun c => !p c))) ∧ Sc w' sb g L (run (fun c => !p c) L i) ∧ St sb w w' := by
  have hlt := h.lt
  have h2 := h.below ((Below.refl w.heap.size w).alloc (Nat.le_refl _) (.cells #[.func (.func q) #[] #[]] 46))
  have hX := at_new w (.cells #[.func (.func q) #[] #[]] 46) _ rfl
  have hst0 : St sb w (w.alloc (.cells #[.func (.func q) #[] #[]] 46)) := St.of_below ((Below.refl w.heap.size w).alloc (Nat.le_refl _) _)
  have hsize : (w.alloc (.cells #[.func (.func q) #[] #[]] 46)).heap.size = w.heap.size + 1 := by simp
  go_enter Tryd.func20, Tryd.ntmps20
  go_wp2_with fail
  generalize w.alloc (.cells #[.func (.func q) #[] #[]] 46) = W0 at *
  have S := skip41 42 #[.pointer (some ⟨w.heap.size, 0, none⟩)] enter42 (fun c => !p c) sb g L i W0 h2 hi (fun W => W.cell? ⟨w.heap.size, 0, none⟩ = some (.func (.func q) #[] #[])) (blk_cells hX 0) (fun W n hW => hW)
    (fun W v hW => (World.cell?_of_block (a := ⟨w.heap.size, 0, none⟩) (w := W) (Below.heap_setCell W ⟨sb, 1, none⟩ v w.heap.size (by show w.heap.size ≠ sb; omega))).trans hW)
    (fun c W hW => (not42 q eg p hp w.heap.size c W hW).mono fun e w' ⟨h1, h2⟩ => ⟨h1, 0, by rw [← h2]; rfl⟩)
  refine S.mono ?_
  rintro e w1 ⟨rfl, hsc, hst, -⟩
  go_wp2
  go_ret
  exact ⟨rfl, hsc, hst0.trans hst⟩
theorem idx_tw (l : List UInt8) (c : UInt8) : Lib.indexByte l c = if (l.takeWhile (· != c)).length < l.length then ((l.takeWhile (· != c)).length : Int) else -1 := by
  induction l with
  | nil => rfl
  | cons a t ih =>
    by_cases h : a = c
    · subst h
      simp [Lib.indexByte]
    · have h2 : (a == c) = false := by rw [beq_eq_false_iff_ne]; exact h
      have h3 : (a != c) = true := by rw [bne_iff_ne]; exact h
      have e : Lib.indexByte (a :: t) c = if (Lib.indexByte t c == -1) = true then -1 else Lib.indexByte t c + 1 := by simp [Lib.indexByte, h2]
      rw [e, ih, List.takeWhile_cons, h3, if_pos rfl, List.length_cons, List.length_cons]
      by_cases h4 : (t.takeWhile (· != c)).length < t.length
      · rw [if_pos h4, if_neg (by rw [beq_iff_eq]; omega), if_pos (by omega)]
        omega
      · rw [if_neg h4, if_pos (by rfl), if_neg (by omega)]
theorem bytesOf_nums (l : List UInt8) : Lib.bytesOf (nums l) = l := by
  unfold Lib.bytesOf nums
  rw [List.map_map]
  conv => rhs; rw [← List.map_id l]
  apply List.map_congr_left
  intro b _
  simp
theorem RdB.cells {w : World} {ad : Addr} {l : List UInt8} (h : RdB w (some ad) l) : ∀ i, i < l.length → w.cell? (ad.add i) = some (.int .u8 ((nums l).getD i 0)) := fun i hi => by
  obtain ⟨ad2, h1, h2⟩ := h i hi
  obtain rfl := Option.some.inj h1
  rw [h2]
  simp [nums, List.getD_eq_getElem?_getD, hi]
/-- Where a scan stands behind the next such byte: at the end, if there is none. -/
def pastI (L : List UInt8) (i : Nat) (c : UInt8) : Nat := if run (· != c) L i < L.length then run (· != c) L i + 1 else L.length
theorem past19 (sb g : Nat) (L : List UInt8) (i : Nat) (c : UInt8) (w : World) (h : Sc w sb g L i) (hi : i ≤ L.length) :
    Calls Tryd.prog 19 #[.pointer (some ⟨sb, 0, none⟩), .int .u8 c.toNat] w fun e w' => e = .returned (.bool (decide (run (· != c) L i < L.length))) ∧ Sc w' sb g L (pastI L i c) ∧ St sb w w' := by
  have hs := h.small
  have hrl := run_le (· != c) L i hi
  have hrun : run (· != c) L i = i + ((L.drop i).takeWhile (· != c)).length := rfl
  have hdl : (L.drop i).length = L.length - i := List.length_drop
  go_enter Tryd.func19, Tryd.ntmps19
  go_wp2_with fail
  refine (left17 sb g L i w h hi).mono ?_
  rintro e w1 ⟨oa, rfl, ⟨ad, rfl⟩, hrd, n, rfl⟩
  have I := Tryd.bytes_IndexByte_at ad (L.length - i) (L.length - i) (nums (L.drop i)) c.toNat (w.drewN n) (by rw [nums_length, hdl]) (fun j hj => hrd.cells j (by omega))
  rw [bytesOf_nums, show ((((c.toNat : Nat) : Int).toNat.toUInt8)) = c by simp, idx_tw, hdl] at I
  have h1 := h.drewN n
  have hst := (St.refl sb w).drewN n
  have c0 := h1.c0
  have c1 := h1.c1
  have hfr := h1.fr 1
  generalize w.drewN n = W1 at *
  by_cases hf : run (· != c) L i < L.length
  · have hpi : pastI L i c = run (· != c) L i + 1 := by rw [pastI, if_pos hf]
    rw [if_pos (by omega)] at I
    have HPI := Go.Lib.hid hpi
    obtain ⟨t, ht⟩ : ∃ t, t = ((L.drop i).takeWhile (· != c)).length := ⟨_, rfl⟩
    rw [← ht] at I hrun
    have HR := Go.Lib.hid hrun
    have ht1 : i + t < L.length := by omega
    have HD := Go.Lib.hid (decide_eq_true hf)
    clear ht hrun hpi hf hrl hdl
    go_wp2_with fail
    refine I.mono ?_
    rintro e w2 ⟨rfl, rfl⟩
    go_wp2
    go_ret
    refine ⟨ret_bool HD.out.symm, ?_, hst.set _⟩
    rw [HPI.out, HR.out]
    exact h1.set (i + t + 1) _ (by first | rfl | congr 1)
  · have hpi : pastI L i c = L.length := by rw [pastI, if_neg hf]
    rw [if_neg (by omega)] at I
    have HPI := Go.Lib.hid hpi
    have HD := Go.Lib.hid (decide_eq_false hf)
    clear hrun hpi hf hrl hdl
    go_wp2_with fail
    refine I.mono ?_
    rintro e w2 ⟨rfl, rfl⟩
    go_wp2
    go_ret
    refine ⟨ret_bool HD.out.symm, ?_, hst.set _⟩
    rw [HPI.out]
    exact h1.set L.length _ rfl
end Go.Proofs.YtcmhfcnjfhcpdaaDoor
