/- A decoder that goes on, whatever its encoding: made, fed, ended, all at once; one word for seven encodings. Printed by genK.py. -/
import Derived.Test.YtmfifaigphnbmaaF9
namespace Go.Proofs.Ytmfifaigphnbmaa
open Go.RowKit
/-- What is known of an encoding's decoder: O what was told of bytes so far, T what is told of all; Inv: blocks u and d hold it behind the bytes P. -/
structure Goes (k : Int) (O T : List UInt8 → List Int) (Inv : Nat → Nat → World → List UInt8 → Prop) : Prop where
  new : ∀ w : World, Calls Try.prog 17 #[.int .i64 k] w fun e w' => ∃ u d, e = .returned (.tuple #[.pointer (some ⟨d, 0, none⟩), .int .i64 0]) ∧ w.heap.size ≤ u ∧ u < w'.heap.size ∧ w.heap.size ≤ d ∧ d < w'.heap.size ∧ Inv u d w' [] ∧ Below w.heap.size w w'
  feed : ∀ (u d : Nat) (P : List UInt8) (oa : Option Addr) (n cap : Nat) (L : List UInt8) (w0 w : World), Inv u d w P → w0.heap.size ≤ u → n = L.length → RdB w0 oa L → Below w0.heap.size w0 w → L.length ≤ 1048576 →
    Calls Try.prog 11 #[.pointer (some ⟨d, 0, none⟩), .slice oa n cap] w fun e w' => ∃ v X, e = .returned (.tuple #[v, .int .i64 0]) ∧ O (P ++ L) = O P ++ X ∧ w'.ownsRow w.heap.size 21 1 v X.length (X.map (Value.int .i32)) ∧ Inv u d w' (P ++ L) ∧ But u w.heap.size w w'
  fin : ∀ (u d : Nat) (P : List UInt8) (w : World), Inv u d w P → Calls Try.prog 12 #[.pointer (some ⟨d, 0, none⟩)] w fun e w' => ∃ v X, e = .returned (.tuple #[v, .int .i64 0]) ∧ O P ++ X = T P ∧ w'.ownsRow w.heap.size 21 1 v X.length (X.map (Value.int .i32)) ∧
    But u w.heap.size (w.setCell ⟨d, 1, none⟩ (.bool true)) w'
  text : ∀ (oa : Option Addr) (n cap : Nat) (L : List UInt8) (w : World), n = L.length → RdB w oa L → L.length ≤ 1048576 →
    Calls Try.prog 13 #[.int .i64 k, .slice oa n cap] w fun e w' => ∃ v, e = .returned (.tuple #[v, .int .i64 0]) ∧ w'.ownsRow w.heap.size 21 1 v (T L).length ((T L).map (Value.int .i32)) ∧ Below w.heap.size w w'
  nil : O [] = []
  olen : ∀ L, (O L).length ≤ 2 * L.length
  tlen : ∀ L, (T L).length ≤ 2 * L.length + 1
  keep : ∀ (u d : Nat) (P : List UInt8) (w w1 : World) (B : Nat), Inv u d w P → u < B → d < B → Below B w w1 → Inv u d w1 P
def Inv8 (u d : Nat) (w : World) (P : List UInt8) : Prop := DecAt w d (.iface 61 (.pointer (some ⟨u, 0, none⟩))) false ∧ d ≠ u ∧ U8At w u (run U8.step U8.zero (nums P)).1
def O8 (P : List UInt8) : List Int := (run U8.step U8.zero (nums P)).2
theorem goes_0 : Goes 0 O8 told8 Inv8 where
  new w := (new17_0 w).mono fun e w' ⟨he, hU, hd, hb⟩ => ⟨w.heap.size, w.heap.size + 1, he, Nat.le_refl _, Nat.lt_of_succ_lt (blk_lt hd), Nat.le_succ _, blk_lt hd, ⟨hd, by omega, hU⟩, hb⟩
  feed u d P oa n cap L w0 w h hu hn hR hb hl := by
    obtain ⟨h1, h2, h3⟩ := h
    have hok := run_okB U8.step U8.ok (fun s c _ h => U8.step_ok s c h) U8.zero P U8.ok_zero
    have hrun : run U8.step U8.zero (nums (P ++ L)) = ((run U8.step (run U8.step U8.zero (nums P)).1 (nums L)).1, (run U8.step U8.zero (nums P)).2 ++ (run U8.step (run U8.step U8.zero (nums P)).1 (nums L)).2) := by rw [nums_app, run_append]
    refine (feed11_8 u d _ oa n cap L w0 w hn hR hb hu h1 h2 hok h3 (by omega)).mono ?_
    rintro e w' ⟨v, he, ho, hU, hB⟩
    exact ⟨v, _, he, by unfold O8; rw [hrun], ho, ⟨(hB.block d (blk_lt h1) h2).trans h1, h2, by rw [hrun]; exact hU⟩, hB⟩
  fin u d P w h := by
    obtain ⟨h1, h2, h3⟩ := h
    have hok := run_okB U8.step U8.ok (fun s c _ h => U8.step_ok s c h) U8.zero P U8.ok_zero
    refine (end12_8 u d _ w h1 h2 hok h3).mono ?_
    rintro e w' ⟨v, he, ho, hB⟩
    exact ⟨v, _, he, rfl, ho, hB⟩
  text oa n cap L w hn hR hl := text13_8 oa n cap L w hn hR (by omega)
  nil := rfl
  olen L := by have := run_len U8.step U8.step_len U8.zero (nums L); rw [nums_length] at this; exact this
  tlen := told8_len
  keep u d P w w1 B h hu hd hb := ⟨(hb.block d hd).trans h.1, h.2.1, (hb.block u hu).trans h.2.2⟩
def Invf (u d : Nat) (w : World) (P : List UInt8) : Prop := DecAt w d (.iface 64 (.pointer (some ⟨u, 0, none⟩))) false ∧ d ≠ u ∧ U16At w u false (run (U16.step false) U16.zero (nums P)).1
def Of (P : List UInt8) : List Int := (run (U16.step false) U16.zero (nums P)).2
theorem goes_1 : Goes 1 Of toldf Invf where
  new w := (new17_1 w).mono fun e w' ⟨he, hU, hd, hb⟩ => ⟨w.heap.size, w.heap.size + 1, he, Nat.le_refl _, Nat.lt_of_succ_lt (blk_lt hd), Nat.le_succ _, blk_lt hd, ⟨hd, by omega, hU⟩, hb⟩
  feed u d P oa n cap L w0 w h hu hn hR hb hl := by
    obtain ⟨h1, h2, h3⟩ := h
    have hok := run_okB (U16.step false) U16.ok (fun s c hc h => U16.step_ok false s c hc h) U16.zero P U16.ok_zero
    have hrun : run (U16.step false) U16.zero (nums (P ++ L)) = ((run (U16.step false) (run (U16.step false) U16.zero (nums P)).1 (nums L)).1, (run (U16.step false) U16.zero (nums P)).2 ++ (run (U16.step false) (run (U16.step false) U16.zero (nums P)).1 (nums L)).2) := by rw [nums_app, run_append]
    refine (feed11_f u d _ oa n cap L w0 w hn hR hb hu h1 h2 hok h3 (by omega)).mono ?_
    rintro e w' ⟨v, he, ho, hU, hB⟩
    exact ⟨v, _, he, by unfold Of; rw [hrun], ho, ⟨(hB.block d (blk_lt h1) h2).trans h1, h2, by rw [hrun]; exact hU⟩, hB⟩
  fin u d P w h := by
    obtain ⟨h1, h2, h3⟩ := h
    have hok := run_okB (U16.step false) U16.ok (fun s c hc h => U16.step_ok false s c hc h) U16.zero P U16.ok_zero
    refine (end12_f u d _ w h1 h2 hok h3).mono ?_
    rintro e w' ⟨v, he, ho, hB⟩
    exact ⟨v, _, he, rfl, ho, hB⟩
  text oa n cap L w hn hR hl := text13_f oa n cap L w hn hR (by omega)
  nil := rfl
  olen L := by have := run_len (U16.step false) (U16.step_len false) U16.zero (nums L); rw [nums_length] at this; exact this
  tlen := toldf_len
  keep u d P w w1 B h hu hd hb := ⟨(hb.block d hd).trans h.1, h.2.1, (hb.block u hu).trans h.2.2⟩
def Invt (u d : Nat) (w : World) (P : List UInt8) : Prop := DecAt w d (.iface 64 (.pointer (some ⟨u, 0, none⟩))) false ∧ d ≠ u ∧ U16At w u true (run (U16.step true) U16.zero (nums P)).1
def Ot (P : List UInt8) : List Int := (run (U16.step true) U16.zero (nums P)).2
theorem goes_2 : Goes 2 Ot toldt Invt where
  new w := (new17_2 w).mono fun e w' ⟨he, hU, hd, hb⟩ => ⟨w.heap.size, w.heap.size + 1, he, Nat.le_refl _, Nat.lt_of_succ_lt (blk_lt hd), Nat.le_succ _, blk_lt hd, ⟨hd, by omega, hU⟩, hb⟩
  feed u d P oa n cap L w0 w h hu hn hR hb hl := by
    obtain ⟨h1, h2, h3⟩ := h
    have hok := run_okB (U16.step true) U16.ok (fun s c hc h => U16.step_ok true s c hc h) U16.zero P U16.ok_zero
    have hrun : run (U16.step true) U16.zero (nums (P ++ L)) = ((run (U16.step true) (run (U16.step true) U16.zero (nums P)).1 (nums L)).1, (run (U16.step true) U16.zero (nums P)).2 ++ (run (U16.step true) (run (U16.step true) U16.zero (nums P)).1 (nums L)).2) := by rw [nums_app, run_append]
    refine (feed11_t u d _ oa n cap L w0 w hn hR hb hu h1 h2 hok h3 (by omega)).mono ?_
    rintro e w' ⟨v, he, ho, hU, hB⟩
    exact ⟨v, _, he, by unfold Ot; rw [hrun], ho, ⟨(hB.block d (blk_lt h1) h2).trans h1, h2, by rw [hrun]; exact hU⟩, hB⟩
  fin u d P w h := by
    obtain ⟨h1, h2, h3⟩ := h
    have hok := run_okB (U16.step true) U16.ok (fun s c hc h => U16.step_ok true s c hc h) U16.zero P U16.ok_zero
    refine (end12_t u d _ w h1 h2 hok h3).mono ?_
    rintro e w' ⟨v, he, ho, hB⟩
    exact ⟨v, _, he, rfl, ho, hB⟩
  text oa n cap L w hn hR hl := text13_t oa n cap L w hn hR (by omega)
  nil := rfl
  olen L := by have := run_len (U16.step true) (U16.step_len true) U16.zero (nums L); rw [nums_length] at this; exact this
  tlen := toldt_len
  keep u d P w w1 B h hu hd hb := ⟨(hb.block d hd).trans h.1, h.2.1, (hb.block u hu).trans h.2.2⟩
def Inv28 (_u d : Nat) (w : World) (_ : List UInt8) : Prop := DecAt w d (.iface 69 (.agg #[.func (.func 28) #[] #[]])) false
theorem goes_3 : Goes 3 (fun P => (nums P).map (one upW)) (fun P => (nums P).map (one upW)) Inv28 where
  new w := (new17_3 w).mono fun e w' ⟨he, hd, hb⟩ => ⟨w.heap.size, w.heap.size, he, Nat.le_refl _, blk_lt hd, Nat.le_refl _, blk_lt hd, hd, hb⟩
  feed u d P oa n cap L w0 w h hu hn hR hb hl := by
    refine (feed11_28 d oa n cap L w hn (hR.below hb) h (by omega)).mono ?_
    rintro e w' ⟨v, he, ho, hB⟩
    exact ⟨v, _, he, by rw [nums_app, List.map_append], ho, bblk hB h, But.of hB⟩
  fin u d P w h := by
    refine (end12_28 d w h).mono ?_
    rintro e w' ⟨he, hB⟩
    exact ⟨_, [], he, by simp, own_nil _ _ _ _, But.of hB⟩
  text oa n cap L w hn hR hl := text13_3 oa n cap L w hn hR (by omega)
  nil := rfl
  olen L := by simp only [List.length_map, nums_length]; omega
  tlen := one_len upW
  keep u d P w w1 B h hu hd hb := (hb.block d hd).trans h
def Inv29 (_u d : Nat) (w : World) (_ : List UInt8) : Prop := DecAt w d (.iface 69 (.agg #[.func (.func 29) #[] #[]])) false
theorem goes_4 : Goes 4 (fun P => (nums P).map (one upL)) (fun P => (nums P).map (one upL)) Inv29 where
  new w := (new17_4 w).mono fun e w' ⟨he, hd, hb⟩ => ⟨w.heap.size, w.heap.size, he, Nat.le_refl _, blk_lt hd, Nat.le_refl _, blk_lt hd, hd, hb⟩
  feed u d P oa n cap L w0 w h hu hn hR hb hl := by
    refine (feed11_29 d oa n cap L w hn (hR.below hb) h (by omega)).mono ?_
    rintro e w' ⟨v, he, ho, hB⟩
    exact ⟨v, _, he, by rw [nums_app, List.map_append], ho, bblk hB h, But.of hB⟩
  fin u d P w h := by
    refine (end12_29 d w h).mono ?_
    rintro e w' ⟨he, hB⟩
    exact ⟨_, [], he, by simp, own_nil _ _ _ _, But.of hB⟩
  text oa n cap L w hn hR hl := text13_4 oa n cap L w hn hR (by omega)
  nil := rfl
  olen L := by simp only [List.length_map, nums_length]; omega
  tlen := one_len upL
  keep u d P w w1 B h hu hd hb := (hb.block d hd).trans h
def Inv30 (_u d : Nat) (w : World) (_ : List UInt8) : Prop := DecAt w d (.iface 69 (.agg #[.func (.func 30) #[] #[]])) false
theorem goes_5 : Goes 5 (fun P => (nums P).map (one upC)) (fun P => (nums P).map (one upC)) Inv30 where
  new w := (new17_5 w).mono fun e w' ⟨he, hd, hb⟩ => ⟨w.heap.size, w.heap.size, he, Nat.le_refl _, blk_lt hd, Nat.le_refl _, blk_lt hd, hd, hb⟩
  feed u d P oa n cap L w0 w h hu hn hR hb hl := by
    refine (feed11_30 d oa n cap L w hn (hR.below hb) h (by omega)).mono ?_
    rintro e w' ⟨v, he, ho, hB⟩
    exact ⟨v, _, he, by rw [nums_app, List.map_append], ho, bblk hB h, But.of hB⟩
  fin u d P w h := by
    refine (end12_30 d w h).mono ?_
    rintro e w' ⟨he, hB⟩
    exact ⟨_, [], he, by simp, own_nil _ _ _ _, But.of hB⟩
  text oa n cap L w hn hR hl := text13_5 oa n cap L w hn hR (by omega)
  nil := rfl
  olen L := by simp only [List.length_map, nums_length]; omega
  tlen := one_len upC
  keep u d P w w1 B h hu hd hb := (hb.block d hd).trans h
def Inv31 (_u d : Nat) (w : World) (_ : List UInt8) : Prop := DecAt w d (.iface 69 (.agg #[.func (.func 31) #[] #[]])) false
theorem goes_6 : Goes 6 (fun P => (nums P).map (one upU)) (fun P => (nums P).map (one upU)) Inv31 where
  new w := (new17_6 w).mono fun e w' ⟨he, hd, hb⟩ => ⟨w.heap.size, w.heap.size, he, Nat.le_refl _, blk_lt hd, Nat.le_refl _, blk_lt hd, hd, hb⟩
  feed u d P oa n cap L w0 w h hu hn hR hb hl := by
    refine (feed11_31 d oa n cap L w hn (hR.below hb) h (by omega)).mono ?_
    rintro e w' ⟨v, he, ho, hB⟩
    exact ⟨v, _, he, by rw [nums_app, List.map_append], ho, bblk hB h, But.of hB⟩
  fin u d P w h := by
    refine (end12_31 d w h).mono ?_
    rintro e w' ⟨he, hB⟩
    exact ⟨_, [], he, by simp, own_nil _ _ _ _, But.of hB⟩
  text oa n cap L w hn hR hl := text13_6 oa n cap L w hn hR (by omega)
  nil := rfl
  olen L := by simp only [List.length_map, nums_length]; omega
  tlen := one_len upU
  keep u d P w w1 B h hu hd hb := (hb.block d hd).trans h
end Go.Proofs.Ytmfifaigphnbmaa
