/- Small letters; a byte that is a letter; does a text come next? -/
import Derived.Test.YtcmhfcnjfhcpdaaDoorA3
namespace Go.Proofs.YtcmhfcnjfhcpdaaDoor
open Go.RowKit
theorem lowB_at (c : UInt8) : (lowB c).toNat = if 65 ≤ c.toNat ∧ c.toNat ≤ 90 then c.toNat + 32 else c.toNat := by
  have key : ∀ d : Fin 256, (lowB (UInt8.ofNat d.val)).toNat = if 65 ≤ d.val ∧ d.val ≤ 90 then d.val + 32 else d.val := by decide +kernel
  have h := key ⟨c.toNat, c.toNat_lt⟩
  simpa using h
/-- What has been made small, and what is still 0. -/
def half (L : List UInt8) (k : Nat) : Array Value := (u8s (low (L.take k)) ++ List.replicate (L.length - k) (Value.int .u8 0)).toArray
theorem half_zero (L : List UInt8) : half L 0 = madeCells #[.int .u8 0] L.length := by
  unfold half madeCells
  apply Array.ext'
  apply List.ext_getElem?
  intro i
  by_cases h : i < L.length
  · simp [u8s, low, h, Nat.mod_one]
  · simp [u8s, low, h]
theorem half_all (L : List UInt8) : half L L.length = (u8s (low L)).toArray := by
  unfold half
  simp
theorem half_set (L : List UInt8) (k : Nat) (hk : k < L.length) : (half L k).setIfInBounds k (.int .u8 (lowB L[k]).toNat) = half L (k + 1) := by
  unfold half
  have e : low (L.take (k + 1)) = low (L.take k) ++ [lowB L[k]] := by
    rw [List.take_succ_eq_append_getElem hk]
    unfold low
    rw [List.map_append]
    rfl
  have hl : (u8s (low (L.take k))).length = k := by simp [u8s, low]; omega
  rw [e, show L.length - k = (L.length - (k + 1)) + 1 by omega, List.replicate_succ]
  simp only [List.setIfInBounds_toArray]
  congr 1
  rw [List.set_append_right _ _ (by omega), hl]
  simp [u8s]
theorem half_get (L : List UInt8) (k : Nat) (hk : k < L.length) : (half L k)[k]? = some (.int .u8 0) := by
  unfold half
  have hl : (u8s (low (L.take k))).length = k := by simp [u8s, low]; omega
  rw [List.getElem?_toArray, List.getElem?_append_right (by omega), hl]
  rw [Nat.sub_self, List.getElem?_replicate, if_pos (by omega)]
theorem Tryd.info5 : (Tryd.prog.info? 5).map (fun i => (i.zero, i.size, i.bytes)) = some (some (.int .u8 0), 1, 1) := by kernel_rfl
set_option maxRecDepth 100000 in
theorem small15 (oa : Option Addr) (c : Nat) (L : List UInt8) (w : World) (hL : L.length ≤ 1048576) (hR : RdB w oa L) :
    Calls Tryd.prog 15 #[.slice oa L.length c] w fun e w' => e = .returned (.slice (some ⟨w.heap.size, 0, none⟩) L.length L.length) ∧ w'.heap[w.heap.size]? = some (.cells (u8s (low L)).toArray 5 (0, 0)) ∧ Below w.heap.size w w' := by
  obtain ⟨i0, hi, hz0, hz1, hz2⟩ := info_parts Tryd.info5
  have hmk : (Instr.makeSlice 26 (.int .i64 L.length) (.int .i64 L.length)).run Tryd.prog w = .ok (.slice (some ⟨w.heap.size, 0, none⟩) L.length L.length) (w.alloc (.cells (half L 0) 5)) := by
    have h := run_make (P := Tryd.prog) w 26 5 i0 (.int .u8 0) Tryd.underlying26 hi hz0 .i64 .i64 L.length L.length (by omega) (by omega) (by rw [hz2]; omega) (by omega)
    rw [h, hz1, half_zero]
    simp [Value.cells]
  have hX := at_new w (.cells (half L 0) 5) _ rfl
  have hb0 : Below w.heap.size w (w.alloc (.cells (half L 0) 5)) := (Below.refl _ w).alloc (Nat.le_refl _) _
  go_enter Tryd.func15, Tryd.ntmps15
  go_wp2
  generalize w.alloc (.cells (half L 0) 5) = W0 at *
  clear hmk
  go_loopw [4, 5, 11] (fun _ _ v11 wr => ∃ k : Nat, v11 = .int .i64 k ∧ k ≤ L.length ∧ wr.heap[w.heap.size]? = some (.cells (half L k) 5 (0, 0)) ∧ Below w.heap.size w wr) (fun _ _ v11 _ => L.length - (intOf v11).toNat)
  case atStart => exact ⟨0, rfl, by omega, hX, hb0⟩
  case round =>
    obtain ⟨k, rfl, hk, hx, hbw⟩ := hrel
    by_cases hlt : k < L.length
    · obtain ⟨ad, hoa, hc⟩ := (hR.below hbw) k hlt
      have hlow := lowB_at L[k]
      have hset := half_set L k hlt
      have hcell : wr.cell? ⟨w.heap.size, k, none⟩ = some (.int .u8 0) := by rw [blk_cells hx, half_get L k hlt]
      have hfr := blk_free hx k
      have hb8 := (L[k]).toNat_lt
      subst hoa
      have HL := Go.Lib.hid hlow
      have HS := Go.Lib.hid hset
      clear hlow hset
      generalize hcc : L[k] = ch at *
      clear hcc
      go_wp2
      all_goals
        refine ⟨⟨k + 1, by go_num, by omega, ?_, hbw.setCell (p := ⟨w.heap.size, k, none⟩) (Nat.le_refl _) _⟩, by simp [intOf]; omega⟩
        rw [← HS.out, HL.out]
        first
          | (rw [if_pos (by omega)]; refine (set_blk hx _).trans ?_; rw [show ((ch.toNat : Int) + 32) = ((ch.toNat + 32 : Nat) : Int) from by omega])
          | (rw [if_neg (by omega)]; exact set_blk hx _)
    · obtain rfl : k = L.length := by omega
      rw [half_all] at hx
      go_wp2
      go_ret
      exact ⟨rfl, hx, hbw⟩
end Go.Proofs.YtcmhfcnjfhcpdaaDoor
