/- A decoder is made, asked whether it goes, fed and ended. Printed by gen8.py. -/
import Derived.Test.YtmfifaigphnbmaaD5
import Derived.Test.YtmfifaigphnbmaaD6
import Derived.Test.YtmfifaigphnbmaaD7
namespace Go.Proofs.Ytmfifaigphnbmaa
open Go.RowKit
theorem run_okB {S : Type} (f : S → Int → S × List Int) (ok : S → Prop) (h : ∀ s c, 0 ≤ c ∧ c < 256 → ok s → ok (f s c).1) (s : S) (L : List UInt8) (h0 : ok s) : ok (run f s (nums L)).1 := by
  induction L generalizing s with
  | nil => exact h0
  | cons b r ih =>
    have := b.toNat_lt
    exact ih _ (h _ _ (by dsimp only; omega) h0)
theorem nums_take (L : List UInt8) (k : Nat) (h : k < L.length) : nums (L.take (k + 1)) = nums (L.take k) ++ [(L[k].toNat : Int)] := by
  unfold nums
  rw [List.take_succ_eq_append_getElem h, List.map_append]
  rfl
/-- The bytes L lie at the slice's place. -/
def RdB (w : World) (oa : Option Addr) (L : List UInt8) : Prop := ∀ j (h : j < L.length), ∃ ad, oa = some ad ∧ w.cell? (ad.add j) = some (.int .u8 (L[j]).toNat)
theorem RdB.below {w w1 : World} {oa : Option Addr} {L : List UInt8} (h : RdB w oa L) (hb : Below w.heap.size w w1) : RdB w1 oa L := fun j hj => by
  obtain ⟨ad, h1, h2⟩ := h j hj
  exact ⟨ad, h1, bcl hb h2⟩
/-- Block d is a decoder: its coder, and has it ended. -/
def DecAt (w : World) (d : Nat) (c : Value) (over : Bool) : Prop := w.heap[d]? = some (.cells #[c, .bool over] 27 (0, 0))
theorem check20 (d : Nat) (t : TypeId) (v : Value) (w : World) (h : DecAt w d (.iface t v) false) : Calls Try.prog 20 #[.pointer (some ⟨d, 0, none⟩)] w fun e w' => e = .returned (.int .i64 0) ∧ w' = w := by
  have h0 : w.cell? ⟨d, 0, none⟩ = some (.iface t v) := blk_cells h 0
  have h1 : w.cell? ⟨d, 1, none⟩ = some (.bool false) := blk_cells h 1
  go_enter Try.func20, Try.ntmps20
  go_wp2
  go_ret
  exact ⟨rfl, rfl⟩
theorem check20o (d : Nat) (t : TypeId) (v : Value) (w : World) (h : DecAt w d (.iface t v) true) : Calls Try.prog 20 #[.pointer (some ⟨d, 0, none⟩)] w fun e w' => e = .returned (.int .i64 5) ∧ w' = w := by
  have h0 : w.cell? ⟨d, 0, none⟩ = some (.iface t v) := blk_cells h 0
  have h1 : w.cell? ⟨d, 1, none⟩ = some (.bool true) := blk_cells h 1
  go_enter Try.func20, Try.ntmps20
  go_wp2
  go_ret
  exact ⟨rfl, rfl⟩
theorem coders26_0 (w : World) : Calls Try.prog 26 #[.int .i64 0] w fun e w' => e = .returned (.iface 61 (.pointer (some ⟨w.heap.size, 0, none⟩))) ∧ U8At w' w.heap.size U8.zero ∧ Below w.heap.size w w' ∧ w'.heap.size = w.heap.size + 1 := by
  go_enter Try.func26, Try.ntmps26
  go_wp2
  go_ret
  exact ⟨rfl, at_new _ _ _ rfl, bal (Below.refl _ _) _, by simp⟩
theorem coders26_1 (w : World) : Calls Try.prog 26 #[.int .i64 1] w fun e w' => e = .returned (.iface 64 (.pointer (some ⟨w.heap.size, 0, none⟩))) ∧ U16At w' w.heap.size false U16.zero ∧ Below w.heap.size w w' ∧ w'.heap.size = w.heap.size + 1 := by
  go_enter Try.func26, Try.ntmps26
  go_wp2
  go_ret
  exact ⟨rfl, at_new _ _ _ rfl, bal (Below.refl _ _) _, by simp⟩
theorem coders26_2 (w : World) : Calls Try.prog 26 #[.int .i64 2] w fun e w' => e = .returned (.iface 64 (.pointer (some ⟨w.heap.size, 0, none⟩))) ∧ U16At w' w.heap.size true U16.zero ∧ Below w.heap.size w w' ∧ w'.heap.size = w.heap.size + 1 := by
  go_enter Try.func26, Try.ntmps26
  go_wp2
  go_ret
  exact ⟨rfl, at_new _ _ _ rfl, bal (Below.refl _ _) _, by simp⟩
theorem coders26_3 (w : World) : Calls Try.prog 26 #[.int .i64 3] w fun e w' => e = .returned (.iface 69 (.agg #[.func (.func 28) #[] #[]])) ∧ w' = w := by
  go_enter Try.func26, Try.ntmps26
  go_wp2
  go_ret
  exact ⟨rfl, rfl⟩
theorem coders26_4 (w : World) : Calls Try.prog 26 #[.int .i64 4] w fun e w' => e = .returned (.iface 69 (.agg #[.func (.func 29) #[] #[]])) ∧ w' = w := by
  go_enter Try.func26, Try.ntmps26
  go_wp2
  go_ret
  exact ⟨rfl, rfl⟩
theorem coders26_5 (w : World) : Calls Try.prog 26 #[.int .i64 5] w fun e w' => e = .returned (.iface 69 (.agg #[.func (.func 30) #[] #[]])) ∧ w' = w := by
  go_enter Try.func26, Try.ntmps26
  go_wp2
  go_ret
  exact ⟨rfl, rfl⟩
theorem coders26_6 (w : World) : Calls Try.prog 26 #[.int .i64 6] w fun e w' => e = .returned (.iface 69 (.agg #[.func (.func 31) #[] #[]])) ∧ w' = w := by
  go_enter Try.func26, Try.ntmps26
  go_wp2
  go_ret
  exact ⟨rfl, rfl⟩
theorem new17_0 (w : World) : Calls Try.prog 17 #[.int .i64 0] w fun e w' => e = .returned (.tuple #[.pointer (some ⟨w.heap.size + 1, 0, none⟩), .int .i64 0]) ∧ U8At w' w.heap.size U8.zero ∧ DecAt w' (w.heap.size + 1) (.iface 61 (.pointer (some ⟨w.heap.size, 0, none⟩))) false ∧ Below w.heap.size w w' := by
  go_enter Try.func17, Try.ntmps17
  go_wp2_with (go_at_call 26; (with_reducible refine (coders26_0 _).mono ?_); rintro e w1 ⟨rfl, hU, hb, hz⟩)
  go_ret2
  exact ⟨rfl, at_old hU _, at_new _ _ _ hz.symm, bal hb _⟩
theorem new17_1 (w : World) : Calls Try.prog 17 #[.int .i64 1] w fun e w' => e = .returned (.tuple #[.pointer (some ⟨w.heap.size + 1, 0, none⟩), .int .i64 0]) ∧ U16At w' w.heap.size false U16.zero ∧ DecAt w' (w.heap.size + 1) (.iface 64 (.pointer (some ⟨w.heap.size, 0, none⟩))) false ∧ Below w.heap.size w w' := by
  go_enter Try.func17, Try.ntmps17
  go_wp2_with (go_at_call 26; (with_reducible refine (coders26_1 _).mono ?_); rintro e w1 ⟨rfl, hU, hb, hz⟩)
  go_ret2
  exact ⟨rfl, at_old hU _, at_new _ _ _ hz.symm, bal hb _⟩
theorem new17_2 (w : World) : Calls Try.prog 17 #[.int .i64 2] w fun e w' => e = .returned (.tuple #[.pointer (some ⟨w.heap.size + 1, 0, none⟩), .int .i64 0]) ∧ U16At w' w.heap.size true U16.zero ∧ DecAt w' (w.heap.size + 1) (.iface 64 (.pointer (some ⟨w.heap.size, 0, none⟩))) false ∧ Below w.heap.size w w' := by
  go_enter Try.func17, Try.ntmps17
  go_wp2_with (go_at_call 26; (with_reducible refine (coders26_2 _).mono ?_); rintro e w1 ⟨rfl, hU, hb, hz⟩)
  go_ret2
  exact ⟨rfl, at_old hU _, at_new _ _ _ hz.symm, bal hb _⟩
theorem new17_3 (w : World) : Calls Try.prog 17 #[.int .i64 3] w fun e w' => e = .returned (.tuple #[.pointer (some ⟨w.heap.size, 0, none⟩), .int .i64 0]) ∧ DecAt w' w.heap.size (.iface 69 (.agg #[.func (.func 28) #[] #[]])) false ∧ Below w.heap.size w w' := by
  go_enter Try.func17, Try.ntmps17
  go_wp2_with (go_at_call 26; (with_reducible refine (coders26_3 _).mono ?_); rintro e w1 ⟨rfl, rfl⟩)
  go_ret2
  exact ⟨rfl, at_new _ _ _ rfl, bal (Below.refl _ _) _⟩
theorem new17_4 (w : World) : Calls Try.prog 17 #[.int .i64 4] w fun e w' => e = .returned (.tuple #[.pointer (some ⟨w.heap.size, 0, none⟩), .int .i64 0]) ∧ DecAt w' w.heap.size (.iface 69 (.agg #[.func (.func 29) #[] #[]])) false ∧ Below w.heap.size w w' := by
  go_enter Try.func17, Try.ntmps17
  go_wp2_with (go_at_call 26; (with_reducible refine (coders26_4 _).mono ?_); rintro e w1 ⟨rfl, rfl⟩)
  go_ret2
  exact ⟨rfl, at_new _ _ _ rfl, bal (Below.refl _ _) _⟩
theorem new17_5 (w : World) : Calls Try.prog 17 #[.int .i64 5] w fun e w' => e = .returned (.tuple #[.pointer (some ⟨w.heap.size, 0, none⟩), .int .i64 0]) ∧ DecAt w' w.heap.size (.iface 69 (.agg #[.func (.func 30) #[] #[]])) false ∧ Below w.heap.size w w' := by
  go_enter Try.func17, Try.ntmps17
  go_wp2_with (go_at_call 26; (with_reducible refine (coders26_5 _).mono ?_); rintro e w1 ⟨rfl, rfl⟩)
  go_ret2
  exact ⟨rfl, at_new _ _ _ rfl, bal (Below.refl _ _) _⟩
theorem new17_6 (w : World) : Calls Try.prog 17 #[.int .i64 6] w fun e w' => e = .returned (.tuple #[.pointer (some ⟨w.heap.size, 0, none⟩), .int .i64 0]) ∧ DecAt w' w.heap.size (.iface 69 (.agg #[.func (.func 31) #[] #[]])) false ∧ Below w.heap.size w w' := by
  go_enter Try.func17, Try.ntmps17
  go_wp2_with (go_at_call 26; (with_reducible refine (coders26_6 _).mono ?_); rintro e w1 ⟨rfl, rfl⟩)
  go_ret2
  exact ⟨rfl, at_new _ _ _ rfl, bal (Below.refl _ _) _⟩
set_option maxHeartbeats 1000000 in
theorem feed11_8 (u d : Nat) (s : U8) (oa : Option Addr) (n cap : Nat) (L : List UInt8) (w0 w : World) (hn : n = L.length) (hR : RdB w0 oa L) (hb0 : Below w0.heap.size w0 w) (hw0 : w0.heap.size ≤ u) (hd : DecAt w d (.iface 61 (.pointer (some ⟨u, 0, none⟩))) false) (hdu : d ≠ u)
    (hs : U8.ok s) (hU0 : U8At w u s) (hl : (2 * L.length + 2) * 4 ≤ 140737488355328) :
    Calls Try.prog 11 #[.pointer (some ⟨d, 0, none⟩), .slice oa n cap] w fun e w' => ∃ v, e = .returned (.tuple #[v, .int .i64 0]) ∧ w'.ownsRow w.heap.size 21 1 v (run U8.step s (nums L)).2.length ((run U8.step s (nums L)).2.map (Value.int .i32)) ∧
      U8At w' u (run U8.step s (nums L)).1 ∧ But u w.heap.size w w' := by
  subst hn
  have hug : u < w.heap.size := blk_lt hU0
  have hdl : d < w.heap.size := blk_lt hd
  have hm : ∀ w : World, (method 200 61 (.pointer (some ⟨u, 0, none⟩)) "hornbeam/decode.feed").run Try.prog w = .ok (58, .pointer (some ⟨u, 0, none⟩)) w := fun _ => by kernel_rfl
  go_enter Try.func11, Try.ntmps11
  go_wp2_with (go_at_call 20; (with_reducible refine (check20 d _ _ _ hd).mono ?_); rintro e w1 ⟨rfl, rfl⟩)
  go_loopw [9, 17] (fun _ v17 wr => ∃ k : Nat, k ≤ L.length ∧ v17 = .int .i64 k ∧ U8At wr u (run U8.step s (nums (L.take k))).1 ∧ OutAt wr w1.heap.size (run U8.step s (nums (L.take k))).2 ∧ But u w1.heap.size w1 wr) (fun _ v17 _ => L.length - (intOf v17).toNat)
  case atStart => exact ⟨0, Nat.zero_le _, rfl, at_old hU0 _, OutAt.new _ _ rfl, But.of (bal (Below.refl _ _) _)⟩
  case round =>
    obtain ⟨k, hk, rfl, hU, hO, hB⟩ := hrel
    have hd0 : wr.cell? ⟨d, 0, none⟩ = some (.iface 61 (.pointer (some ⟨u, 0, none⟩))) := blk_cells ((hB.block d hdl hdu).trans hd) 0
    by_cases hlt : k < L.length
    · obtain ⟨ad, rfl, hc⟩ := (hR.below (hb0.trans ((hB.mono hb0.size).to hw0))) k hlt
      have hok := run_okB U8.step U8.ok (fun s c _ h => U8.step_ok s c h) s (L.take k) hs
      have hlen := run_len U8.step (U8.step_len) s (nums (L.take k))
      have htk := Go.Lib.hid (nums_take L k hlt)
      rw [nums_length, List.length_take] at hlen
      have hb := L[k].toNat_lt
      generalize L[k].toNat = c at *
      obtain ⟨p, hp⟩ : ∃ p, p = run U8.step s (nums (L.take k)) := ⟨_, rfl⟩
      rw [← hp] at hok hlen hU hO
      have HP := Go.Lib.hid hp
      clear hp
      have F := feed58 u _ _ c _ _ (by omega) (by omega) hok hU hug hO (by omega)
      clear hlen
      go_wp2_with (go_at_call 58; (with_reducible refine F.mono ?_); rintro e w2 ⟨rfl, hU2, hO2, hB2⟩)
      go_roundw
      case rel => exact ⟨k + 1, by omega, by go_num, by rw [htk.out, run_snoc, ← HP.out]; exact hU2, by rw [htk.out, run_snoc, ← HP.out]; exact hO2, hB.trans hB2⟩
      case measure => simp [intOf]; omega
    · obtain rfl : k = L.length := by omega
      rw [List.take_length] at hU hO
      obtain ⟨v, hv, ho⟩ := hO.out
      have hv0 : wr.cell? ⟨w1.heap.size, 0, none⟩ = some v := blk_cells hv 0
      go_wp2
      go_ret2
      exact ⟨v, rfl, ho, hU, hB⟩

set_option maxHeartbeats 1000000 in
theorem feed11_t (u d : Nat) (s : U16) (oa : Option Addr) (n cap : Nat) (L : List UInt8) (w0 w : World) (hn : n = L.length) (hR : RdB w0 oa L) (hb0 : Below w0.heap.size w0 w) (hw0 : w0.heap.size ≤ u) (hd : DecAt w d (.iface 64 (.pointer (some ⟨u, 0, none⟩))) false) (hdu : d ≠ u)
    (hs : U16.ok s) (hU0 : U16At w u true s) (hl : (2 * L.length + 2) * 4 ≤ 140737488355328) :
    Calls Try.prog 11 #[.pointer (some ⟨d, 0, none⟩), .slice oa n cap] w fun e w' => ∃ v, e = .returned (.tuple #[v, .int .i64 0]) ∧ w'.ownsRow w.heap.size 21 1 v (run (U16.step true) s (nums L)).2.length ((run (U16.step true) s (nums L)).2.map (Value.int .i32)) ∧
      U16At w' u true (run (U16.step true) s (nums L)).1 ∧ But u w.heap.size w w' := by
  subst hn
  have hug : u < w.heap.size := blk_lt hU0
  have hdl : d < w.heap.size := blk_lt hd
  have hm : ∀ w : World, (method 200 64 (.pointer (some ⟨u, 0, none⟩)) "hornbeam/decode.feed").run Try.prog w = .ok (60, .pointer (some ⟨u, 0, none⟩)) w := fun _ => by kernel_rfl
  go_enter Try.func11, Try.ntmps11
  go_wp2_with (go_at_call 20; (with_reducible refine (check20 d _ _ _ hd).mono ?_); rintro e w1 ⟨rfl, rfl⟩)
  go_loopw [9, 17] (fun _ v17 wr => ∃ k : Nat, k ≤ L.length ∧ v17 = .int .i64 k ∧ U16At wr u true (run (U16.step true) s (nums (L.take k))).1 ∧ OutAt wr w1.heap.size (run (U16.step true) s (nums (L.take k))).2 ∧ But u w1.heap.size w1 wr) (fun _ v17 _ => L.length - (intOf v17).toNat)
  case atStart => exact ⟨0, Nat.zero_le _, rfl, at_old hU0 _, OutAt.new _ _ rfl, But.of (bal (Below.refl _ _) _)⟩
  case round =>
    obtain ⟨k, hk, rfl, hU, hO, hB⟩ := hrel
    have hd0 : wr.cell? ⟨d, 0, none⟩ = some (.iface 64 (.pointer (some ⟨u, 0, none⟩))) := blk_cells ((hB.block d hdl hdu).trans hd) 0
    by_cases hlt : k < L.length
    · obtain ⟨ad, rfl, hc⟩ := (hR.below (hb0.trans ((hB.mono hb0.size).to hw0))) k hlt
      have hok := run_okB (U16.step true) U16.ok (fun s c hc h => U16.step_ok true s c hc h) s (L.take k) hs
      have hlen := run_len (U16.step true) (U16.step_len true) s (nums (L.take k))
      have htk := Go.Lib.hid (nums_take L k hlt)
      rw [nums_length, List.length_take] at hlen
      have hb := L[k].toNat_lt
      generalize L[k].toNat = c at *
      obtain ⟨p, hp⟩ : ∃ p, p = run (U16.step true) s (nums (L.take k)) := ⟨_, rfl⟩
      rw [← hp] at hok hlen hU hO
      have HP := Go.Lib.hid hp
      clear hp
      have F := feed60 u _ _ _ c _ _ (by omega) (by omega) hok hU hug hO (by omega)
      clear hlen
      go_wp2_with (go_at_call 60; (with_reducible refine F.mono ?_); rintro e w2 ⟨rfl, hU2, hO2, hB2⟩)
      go_roundw
      case rel => exact ⟨k + 1, by omega, by go_num, by rw [htk.out, run_snoc, ← HP.out]; exact hU2, by rw [htk.out, run_snoc, ← HP.out]; exact hO2, hB.trans hB2⟩
      case measure => simp [intOf]; omega
    · obtain rfl : k = L.length := by omega
      rw [List.take_length] at hU hO
      obtain ⟨v, hv, ho⟩ := hO.out
      have hv0 : wr.cell? ⟨w1.heap.size, 0, none⟩ = some v := blk_cells hv 0
      go_wp2
      go_ret2
      exact ⟨v, rfl, ho, hU, hB⟩

set_option maxHeartbeats 1000000 in
theorem feed11_f (u d : Nat) (s : U16) (oa : Option Addr) (n cap : Nat) (L : List UInt8) (w0 w : World) (hn : n = L.length) (hR : RdB w0 oa L) (hb0 : Below w0.heap.size w0 w) (hw0 : w0.heap.size ≤ u) (hd : DecAt w d (.iface 64 (.pointer (some ⟨u, 0, none⟩))) false) (hdu : d ≠ u)
    (hs : U16.ok s) (hU0 : U16At w u false s) (hl : (2 * L.length + 2) * 4 ≤ 140737488355328) :
    Calls Try.prog 11 #[.pointer (some ⟨d, 0, none⟩), .slice oa n cap] w fun e w' => ∃ v, e = .returned (.tuple #[v, .int .i64 0]) ∧ w'.ownsRow w.heap.size 21 1 v (run (U16.step false) s (nums L)).2.length ((run (U16.step false) s (nums L)).2.map (Value.int .i32)) ∧
      U16At w' u false (run (U16.step false) s (nums L)).1 ∧ But u w.heap.size w w' := by
  subst hn
  have hug : u < w.heap.size := blk_lt hU0
  have hdl : d < w.heap.size := blk_lt hd
  have hm : ∀ w : World, (method 200 64 (.pointer (some ⟨u, 0, none⟩)) "hornbeam/decode.feed").run Try.prog w = .ok (60, .pointer (some ⟨u, 0, none⟩)) w := fun _ => by kernel_rfl
  go_enter Try.func11, Try.ntmps11
  go_wp2_with (go_at_call 20; (with_reducible refine (check20 d _ _ _ hd).mono ?_); rintro e w1 ⟨rfl, rfl⟩)
  go_loopw [9, 17] (fun _ v17 wr => ∃ k : Nat, k ≤ L.length ∧ v17 = .int .i64 k ∧ U16At wr u false (run (U16.step false) s (nums (L.take k))).1 ∧ OutAt wr w1.heap.size (run (U16.step false) s (nums (L.take k))).2 ∧ But u w1.heap.size w1 wr) (fun _ v17 _ => L.length - (intOf v17).toNat)
  case atStart => exact ⟨0, Nat.zero_le _, rfl, at_old hU0 _, OutAt.new _ _ rfl, But.of (bal (Below.refl _ _) _)⟩
  case round =>
    obtain ⟨k, hk, rfl, hU, hO, hB⟩ := hrel
    have hd0 : wr.cell? ⟨d, 0, none⟩ = some (.iface 64 (.pointer (some ⟨u, 0, none⟩))) := blk_cells ((hB.block d hdl hdu).trans hd) 0
    by_cases hlt : k < L.length
    · obtain ⟨ad, rfl, hc⟩ := (hR.below (hb0.trans ((hB.mono hb0.size).to hw0))) k hlt
      have hok := run_okB (U16.step false) U16.ok (fun s c hc h => U16.step_ok false s c hc h) s (L.take k) hs
      have hlen := run_len (U16.step false) (U16.step_len false) s (nums (L.take k))
      have htk := Go.Lib.hid (nums_take L k hlt)
      rw [nums_length, List.length_take] at hlen
      have hb := L[k].toNat_lt
      generalize L[k].toNat = c at *
      obtain ⟨p, hp⟩ : ∃ p, p = run (U16.step false) s (nums (L.take k)) := ⟨_, rfl⟩
      rw [← hp] at hok hlen hU hO
      have HP := Go.Lib.hid hp
      clear hp
      have F := feed60 u _ _ _ c _ _ (by omega) (by omega) hok hU hug hO (by omega)
      clear hlen
      go_wp2_with (go_at_call 60; (with_reducible refine F.mono ?_); rintro e w2 ⟨rfl, hU2, hO2, hB2⟩)
      go_roundw
      case rel => exact ⟨k + 1, by omega, by go_num, by rw [htk.out, run_snoc, ← HP.out]; exact hU2, by rw [htk.out, run_snoc, ← HP.out]; exact hO2, hB.trans hB2⟩
      case measure => simp [intOf]; omega
    · obtain rfl : k = L.length := by omega
      rw [List.take_length] at hU hO
      obtain ⟨v, hv, ho⟩ := hO.out
      have hv0 : wr.cell? ⟨w1.heap.size, 0, none⟩ = some v := blk_cells hv 0
      go_wp2
      go_ret2
      exact ⟨v, rfl, ho, hU, hB⟩

set_option maxHeartbeats 1000000 in
theorem feed11_28 (d : Nat) (oa : Option Addr) (n cap : Nat) (L : List UInt8) (w : World) (hn : n = L.length) (hR : RdB w oa L) (hd : DecAt w d (.iface 69 (.agg #[.func (.func 28) #[] #[]])) false) (hl : (2 * L.length + 2) * 4 ≤ 140737488355328) :
    Calls Try.prog 11 #[.pointer (some ⟨d, 0, none⟩), .slice oa n cap] w fun e w' => ∃ v, e = .returned (.tuple #[v, .int .i64 0]) ∧ w'.ownsRow w.heap.size 21 1 v ((nums L).map (one upW)).length (((nums L).map (one upW)).map (Value.int .i32)) ∧
      Below w.heap.size w w' := by
  subst hn
  have hdl : d < w.heap.size := blk_lt hd
  have hm : ∀ w : World, (method 200 69 (.agg #[.func (.func 28) #[] #[]]) "hornbeam/decode.feed").run Try.prog w = .ok (62, (.agg #[.func (.func 28) #[] #[]])) w := fun _ => by kernel_rfl
  go_enter Try.func11, Try.ntmps11
  go_wp2_with (go_at_call 20; (with_reducible refine (check20 d _ _ _ hd).mono ?_); rintro e w1 ⟨rfl, rfl⟩)
  go_loopw [9, 17] (fun _ v17 wr => ∃ k : Nat, k ≤ L.length ∧ v17 = .int .i64 k ∧ OutAt wr w1.heap.size ((nums (L.take k)).map (one upW)) ∧ Below w1.heap.size w1 wr) (fun _ v17 _ => L.length - (intOf v17).toNat)
  case atStart => exact ⟨0, Nat.zero_le _, rfl, OutAt.new _ _ rfl, bal (Below.refl _ _) _⟩
  case round =>
    obtain ⟨k, hk, rfl, hO, hB⟩ := hrel
    have hd0 : wr.cell? ⟨d, 0, none⟩ = some (.iface 69 (.agg #[.func (.func 28) #[] #[]])) := blk_cells (bblk hB hd) 0
    by_cases hlt : k < L.length
    · obtain ⟨ad, rfl, hc⟩ := (hR.below hB) k hlt
      have htk := Go.Lib.hid (nums_take L k hlt)
      have hlen : ((nums (L.take k)).map (one upW)).length ≤ L.length := by rw [List.length_map, nums_length, List.length_take]; omega
      have hb := L[k].toNat_lt
      generalize L[k].toNat = c at *
      obtain ⟨p, hp⟩ : ∃ p, p = (nums (L.take k)).map (one upW) := ⟨_, rfl⟩
      rw [← hp] at hlen hO
      have HP := Go.Lib.hid hp
      clear hp
      have F := feed62_28 _ c _ _ (by omega) (by omega) hO (by omega)
      clear hlen
      go_wp2_with (go_at_call 62; (with_reducible refine F.mono ?_); rintro e w2 ⟨rfl, hO2, hB2⟩)
      go_roundw
      case rel => exact ⟨k + 1, by omega, by go_num, by rw [htk.out, List.map_append, ← HP.out]; exact hO2, hB.trans hB2⟩
      case measure => simp [intOf]; omega
    · obtain rfl : k = L.length := by omega
      rw [List.take_length] at hO
      obtain ⟨v, hv, ho⟩ := hO.out
      have hv0 : wr.cell? ⟨w1.heap.size, 0, none⟩ = some v := blk_cells hv 0
      go_wp2
      go_ret2
      exact ⟨v, rfl, ho, hB⟩

set_option maxHeartbeats 1000000 in
theorem feed11_29 (d : Nat) (oa : Option Addr) (n cap : Nat) (L : List UInt8) (w : World) (hn : n = L.length) (hR : RdB w oa L) (hd : DecAt w d (.iface 69 (.agg #[.func (.func 29) #[] #[]])) false) (hl : (2 * L.length + 2) * 4 ≤ 140737488355328) :
    Calls Try.prog 11 #[.pointer (some ⟨d, 0, none⟩), .slice oa n cap] w fun e w' => ∃ v, e = .returned (.tuple #[v, .int .i64 0]) ∧ w'.ownsRow w.heap.size 21 1 v ((nums L).map (one upL)).length (((nums L).map (one upL)).map (Value.int .i32)) ∧
      Below w.heap.size w w' := by
  subst hn
  have hdl : d < w.heap.size := blk_lt hd
  have hm : ∀ w : World, (method 200 69 (.agg #[.func (.func 29) #[] #[]]) "hornbeam/decode.feed").run Try.prog w = .ok (62, (.agg #[.func (.func 29) #[] #[]])) w := fun _ => by kernel_rfl
  go_enter Try.func11, Try.ntmps11
  go_wp2_with (go_at_call 20; (with_reducible refine (check20 d _ _ _ hd).mono ?_); rintro e w1 ⟨rfl, rfl⟩)
  go_loopw [9, 17] (fun _ v17 wr => ∃ k : Nat, k ≤ L.length ∧ v17 = .int .i64 k ∧ OutAt wr w1.heap.size ((nums (L.take k)).map (one upL)) ∧ Below w1.heap.size w1 wr) (fun _ v17 _ => L.length - (intOf v17).toNat)
  case atStart => exact ⟨0, Nat.zero_le _, rfl, OutAt.new _ _ rfl, bal (Below.refl _ _) _⟩
  case round =>
    obtain ⟨k, hk, rfl, hO, hB⟩ := hrel
    have hd0 : wr.cell? ⟨d, 0, none⟩ = some (.iface 69 (.agg #[.func (.func 29) #[] #[]])) := blk_cells (bblk hB hd) 0
    by_cases hlt : k < L.length
    · obtain ⟨ad, rfl, hc⟩ := (hR.below hB) k hlt
      have htk := Go.Lib.hid (nums_take L k hlt)
      have hlen : ((nums (L.take k)).map (one upL)).length ≤ L.length := by rw [List.length_map, nums_length, List.length_take]; omega
      have hb := L[k].toNat_lt
      generalize L[k].toNat = c at *
      obtain ⟨p, hp⟩ : ∃ p, p = (nums (L.take k)).map (one upL) := ⟨_, rfl⟩
      rw [← hp] at hlen hO
      have HP := Go.Lib.hid hp
      clear hp
      have F := feed62_29 _ c _ _ (by omega) (by omega) hO (by omega)
      clear hlen
      go_wp2_with (go_at_call 62; (with_reducible refine F.mono ?_); rintro e w2 ⟨rfl, hO2, hB2⟩)
      go_roundw
      case rel => exact ⟨k + 1, by omega, by go_num, by rw [htk.out, List.map_append, ← HP.out]; exact hO2, hB.trans hB2⟩
      case measure => simp [intOf]; omega
    · obtain rfl : k = L.length := by omega
      rw [List.take_length] at hO
      obtain ⟨v, hv, ho⟩ := hO.out
      have hv0 : wr.cell? ⟨w1.heap.size, 0, none⟩ = some v := blk_cells hv 0
      go_wp2
      go_ret2
      exact ⟨v, rfl, ho, hB⟩

set_option maxHeartbeats 1000000 in
theorem feed11_30 (d : Nat) (oa : Option Addr) (n cap : Nat) (L : List UInt8) (w : World) (hn : n = L.length) (hR : RdB w oa L) (hd : DecAt w d (.iface 69 (.agg #[.func (.func 30) #[] #[]])) false) (hl : (2 * L.length + 2) * 4 ≤ 140737488355328) :
    Calls Try.prog 11 #[.pointer (some ⟨d, 0, none⟩), .slice oa n cap] w fun e w' => ∃ v, e = .returned (.tuple #[v, .int .i64 0]) ∧ w'.ownsRow w.heap.size 21 1 v ((nums L).map (one upC)).length (((nums L).map (one upC)).map (Value.int .i32)) ∧
      Below w.heap.size w w' := by
  subst hn
  have hdl : d < w.heap.size := blk_lt hd
  have hm : ∀ w : World, (method 200 69 (.agg #[.func (.func 30) #[] #[]]) "hornbeam/decode.feed").run Try.prog w = .ok (62, (.agg #[.func (.func 30) #[] #[]])) w := fun _ => by kernel_rfl
  go_enter Try.func11, Try.ntmps11
  go_wp2_with (go_at_call 20; (with_reducible refine (check20 d _ _ _ hd).mono ?_); rintro e w1 ⟨rfl, rfl⟩)
  go_loopw [9, 17] (fun _ v17 wr => ∃ k : Nat, k ≤ L.length ∧ v17 = .int .i64 k ∧ OutAt wr w1.heap.size ((nums (L.take k)).map (one upC)) ∧ Below w1.heap.size w1 wr) (fun _ v17 _ => L.length - (intOf v17).toNat)
  case atStart => exact ⟨0, Nat.zero_le _, rfl, OutAt.new _ _ rfl, bal (Below.refl _ _) _⟩
  case round =>
    obtain ⟨k, hk, rfl, hO, hB⟩ := hrel
    have hd0 : wr.cell? ⟨d, 0, none⟩ = some (.iface 69 (.agg #[.func (.func 30) #[] #[]])) := blk_cells (bblk hB hd) 0
    by_cases hlt : k < L.length
    · obtain ⟨ad, rfl, hc⟩ := (hR.below hB) k hlt
      have htk := Go.Lib.hid (nums_take L k hlt)
      have hlen : ((nums (L.take k)).map (one upC)).length ≤ L.length := by rw [List.length_map, nums_length, List.length_take]; omega
      have hb := L[k].toNat_lt
      generalize L[k].toNat = c at *
      obtain ⟨p, hp⟩ : ∃ p, p = (nums (L.take k)).map (one upC) := ⟨_, rfl⟩
      rw [← hp] at hlen hO
      have HP := Go.Lib.hid hp
      clear hp
      have F := feed62_30 _ c _ _ (by omega) (by omega) hO (by omega)
      clear hlen
      go_wp2_with (go_at_call 62; (with_reducible refine F.mono ?_); rintro e w2 ⟨rfl, hO2, hB2⟩)
      go_roundw
      case rel => exact ⟨k + 1, by omega, by go_num, by rw [htk.out, List.map_append, ← HP.out]; exact hO2, hB.trans hB2⟩
      case measure => simp [intOf]; omega
    · obtain rfl : k = L.length := by omega
      rw [List.take_length] at hO
      obtain ⟨v, hv, ho⟩ := hO.out
      have hv0 : wr.cell? ⟨w1.heap.size, 0, none⟩ = some v := blk_cells hv 0
      go_wp2
      go_ret2
      exact ⟨v, rfl, ho, hB⟩

set_option maxHeartbeats 1000000 in
theorem feed11_31 (d : Nat) (oa : Option Addr) (n cap : Nat) (L : List UInt8) (w : World) (hn : n = L.length) (hR : RdB w oa L) (hd : DecAt w d (.iface 69 (.agg #[.func (.func 31) #[] #[]])) false) (hl : (2 * L.length + 2) * 4 ≤ 140737488355328) :
    Calls Try.prog 11 #[.pointer (some ⟨d, 0, none⟩), .slice oa n cap] w fun e w' => ∃ v, e = .returned (.tuple #[v, .int .i64 0]) ∧ w'.ownsRow w.heap.size 21 1 v ((nums L).map (one upU)).length (((nums L).map (one upU)).map (Value.int .i32)) ∧
      Below w.heap.size w w' := by
  subst hn
  have hdl : d < w.heap.size := blk_lt hd
  have hm : ∀ w : World, (method 200 69 (.agg #[.func (.func 31) #[] #[]]) "hornbeam/decode.feed").run Try.prog w = .ok (62, (.agg #[.func (.func 31) #[] #[]])) w := fun _ => by kernel_rfl
  go_enter Try.func11, Try.ntmps11
  go_wp2_with (go_at_call 20; (with_reducible refine (check20 d _ _ _ hd).mono ?_); rintro e w1 ⟨rfl, rfl⟩)
  go_loopw [9, 17] (fun _ v17 wr => ∃ k : Nat, k ≤ L.length ∧ v17 = .int .i64 k ∧ OutAt wr w1.heap.size ((nums (L.take k)).map (one upU)) ∧ Below w1.heap.size w1 wr) (fun _ v17 _ => L.length - (intOf v17).toNat)
  case atStart => exact ⟨0, Nat.zero_le _, rfl, OutAt.new _ _ rfl, bal (Below.refl _ _) _⟩
  case round =>
    obtain ⟨k, hk, rfl, hO, hB⟩ := hrel
    have hd0 : wr.cell? ⟨d, 0, none⟩ = some (.iface 69 (.agg #[.func (.func 31) #[] #[]])) := blk_cells (bblk hB hd) 0
    by_cases hlt : k < L.length
    · obtain ⟨ad, rfl, hc⟩ := (hR.below hB) k hlt
      have htk := Go.Lib.hid (nums_take L k hlt)
      have hlen : ((nums (L.take k)).map (one upU)).length ≤ L.length := by rw [List.length_map, nums_length, List.length_take]; omega
      have hb := L[k].toNat_lt
      generalize L[k].toNat = c at *
      obtain ⟨p, hp⟩ : ∃ p, p = (nums (L.take k)).map (one upU) := ⟨_, rfl⟩
      rw [← hp] at hlen hO
      have HP := Go.Lib.hid hp
      clear hp
      have F := feed62_31 _ c _ _ (by omega) (by omega) hO (by omega)
      clear hlen
      go_wp2_with (go_at_call 62; (with_reducible refine F.mono ?_); rintro e w2 ⟨rfl, hO2, hB2⟩)
      go_roundw
      case rel => exact ⟨k + 1, by omega, by go_num, by rw [htk.out, List.map_append, ← HP.out]; exact hO2, hB.trans hB2⟩
      case measure => simp [intOf]; omega
    · obtain rfl : k = L.length := by omega
      rw [List.take_length] at hO
      obtain ⟨v, hv, ho⟩ := hO.out
      have hv0 : wr.cell? ⟨w1.heap.size, 0, none⟩ = some v := blk_cells hv 0
      go_wp2
      go_ret2
      exact ⟨v, rfl, ho, hB⟩

end Go.Proofs.Ytmfifaigphnbmaa
