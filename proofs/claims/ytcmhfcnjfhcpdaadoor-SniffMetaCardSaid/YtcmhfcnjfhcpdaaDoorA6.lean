/- Does a text come next? Is it a letter? What a page means. -/
import Derived.Test.YtcmhfcnjfhcpdaaDoorA5
namespace Go.Proofs.YtcmhfcnjfhcpdaaDoor
open Go.RowKit
theorem RdB.bytesIn {w : World} {ad : Addr} {l : List UInt8} (h : RdB w (some ad) l) : Lib.BytesIn w (some ad) l.length (nums l) := Lib.BytesIn.of_cells h.cells
theorem bytesWorld_rd (w : World) (s : ByteArray) : RdB (Go.Lib.bytesWorld w 5 s) (some ⟨w.heap.size, 0, none⟩) s.data.toList := fun j hj => by
  refine ⟨_, rfl, ?_⟩
  rw [show (⟨w.heap.size, 0, none⟩ : Addr).add j = ⟨w.heap.size, j, none⟩ by unfold Addr.add; split <;> simp_all]
  rw [Go.Lib.bytesWorld_cell w 5 s j (by rw [← dlen]; exact hj)]
  rw [List.getD_eq_getElem?_getD, List.getElem?_eq_getElem hj]
  rfl
set_option maxRecDepth 100000 in
theorem begins28 (sb g : Nat) (L : List UInt8) (i : Nat) (t : ByteArray) (w : World) (h : Sc w sb g L i) (hi : i ≤ L.length) :
    Calls Tryd.prog 28 #[.pointer (some ⟨sb, 0, none⟩), .string t] w fun e w' => e = .returned (.bool (Lib.hasPrefix (L.drop i) t.data.toList)) ∧ Below w.heap.size w w' := by
  have hs := h.small
  have hdl : (L.drop i).length = L.length - i := List.length_drop
  go_enter Tryd.func28, Tryd.ntmps28
  go_wp2_with fail
  refine (left17 sb g L i w h hi).mono ?_
  rintro e w1 ⟨oa, rfl, ⟨ad, rfl⟩, hrd, n, rfl⟩
  have kb := Go.Lib.run_convert_string_bytes (P := Tryd.prog) (w.drewN n) 9 26 5 t Tryd.underlying9 Tryd.underlying26 Tryd.underlying5
  have hb1 : Below w.heap.size w (w.drewN n) := ⟨rfl, rfl, rfl, Nat.le_refl _, fun _ _ => rfl⟩
  have hb2 := btr hb1 (conv_below (w.drewN n) 5 t)
  have hr1 := (hrd.below (conv_below (w.drewN n) 5 t)).bytesIn
  have hr2 := (bytesWorld_rd (w.drewN n) t).bytesIn
  rw [hdl] at hr1
  rw [dlen] at hr2
  have HP := Tryd.bytes_HasPrefix_all (some ad) (some ⟨(w.drewN n).heap.size, 0, none⟩) (L.length - i) (L.length - i) t.size (Go.grownCap (w.drewN n) t.size 0 5) (nums (L.drop i)) (nums t.data.toList) (Go.Lib.bytesWorld (w.drewN n) 5 t) (by rw [nums_length, hdl]) (by rw [nums_length, dlen]) (Nat.le_refl _) hr1 hr2
  rw [bytesOf_nums, bytesOf_nums] at HP
  generalize Go.Lib.bytesWorld (w.drewN n) 5 t = W2 at *
  clear hr1 hr2 hrd hdl
  go_wp2_with fail
  refine HP.mono ?_
  rintro e w2 ⟨rfl, rfl⟩
  go_wp2
  go_ret
  exact ⟨rfl, hb2⟩
def letF : List UInt8 → Bool
  | [] => false
  | c :: _ => decide (97 ≤ c.toNat) && decide (c.toNat ≤ 122)
theorem letter31 (oa : Option Addr) (c : Nat) (L : List UInt8) (w : World) (hL : L.length ≤ 1048576) (hR : RdB w oa L) : Calls Tryd.prog 31 #[.slice oa L.length c] w fun e w' => e = .returned (.bool (letF L)) ∧ w = w' := by
  cases L with
  | nil =>
    go_enter Tryd.func31, Tryd.ntmps31
    go_wp2
    go_ret
    exact ⟨rfl, rfl⟩
  | cons x r =>
    obtain ⟨ad, rfl, hc⟩ := hR 0 (by simp)
    have hb := x.toNat_lt
    rw [show ad.add 0 = ad from rfl] at hc
    have hlen : (0 : Int) < ((x :: r).length : Nat) := by simp only [List.length_cons]; omega
    have hcc : w.cell? ad = some (.int .u8 x.toNat) := hc
    have HL := Go.Lib.hid (show letF (x :: r) = (decide (97 ≤ x.toNat) && decide (x.toNat ≤ 122)) from rfl)
    have hlen2 : 0 < (x :: r).length := by simp
    generalize (x :: r).length = m at *
    go_enter Tryd.func31, Tryd.ntmps31
    go_wp2
    · go_ret
      exact ⟨ret_bool (by rw [HL.out, decide_eq_true (by omega : 97 ≤ x.toNat), Bool.true_and]; exact decide_eq_decide.2 (by omega)), rfl⟩
    · go_ret
      exact ⟨ret_bool (by rw [HL.out, decide_eq_false (by omega : ¬ 97 ≤ x.toNat)]; rfl), rfl⟩
/-- What a page means by an encoding. -/
def metaF (k : Int) : Int := if k = 1 ∨ k = 2 then 0 else if k = 6 then 3 else k
theorem meta45 (k : Int) (w : World) : Calls Tryd.prog 45 #[.int .i64 k] w fun e w' => e = .returned (.int .i64 (metaF k)) ∧ w = w' := by
  unfold metaF
  rcases (show k = 1 ∨ k = 2 ∨ k = 6 ∨ ¬ (k = 1 ∨ k = 2 ∨ k = 6) by omega) with rfl | rfl | rfl | h
  iterate 3
    · go_enter Tryd.func45, Tryd.ntmps45
      go_wp2
      go_ret
      exact ⟨rfl, rfl⟩
  · rw [if_neg (by omega), if_neg (by omega)]
    have h1 : (k == 1) = false := by rw [beq_eq_false_iff_ne]; omega
    have h2 : (k == 2) = false := by rw [beq_eq_false_iff_ne]; omega
    have h6 : (k == 6) = false := by rw [beq_eq_false_iff_ne]; omega
    clear h
    go_enter Tryd.func45, Tryd.ntmps45
    go_wp2
    go_ret
    exact ⟨rfl, rfl⟩
end Go.Proofs.YtcmhfcnjfhcpdaaDoor
