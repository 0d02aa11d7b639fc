/- The walks of the closures of quirk.Mode, and of starts. -/
import Derived.Test.YtkkhaaapokkhlaaW1
import Derived.Test.YtkkhaaapokkhlaaKitB
namespace Go.Proofs.Ytkkhaaapokkhlaa
open Go.RowKit

/-- Does one of a list's texts begin another text, its letters small? -/
def bgP (h2 : Bool) (id : List UInt8) (L : List ByteArray) : Bool := h2 && L.any fun s => (low s.data.toList).isPrefixOf id
theorem bgP_step {h2 : Bool} {id : List UInt8} {L : List ByteArray} {k : Nat} (hk : k < L.length) (h : bgP h2 id (L.take k) = false) (hn : h2 = true → (low L[k].data.toList).isPrefixOf id = false) : bgP h2 id (L.take (k + 1)) = false := by
  cases h2
  · rfl
  · simp only [bgP, Bool.true_and, List.take_succ_eq_append_getElem hk, List.any_append, List.any_cons, List.any_nil, Bool.or_false, hn rfl] at h ⊢
    exact h
theorem bgP_yes {h2 : Bool} {id : List UInt8} {L : List ByteArray} {k : Nat} (hk : k < L.length) (h : h2 = true) (hn : (low L[k].data.toList).isPrefixOf id = true) : bgP h2 id L = true := by
  subst h
  simp only [bgP, Bool.true_and, List.any_eq_true]
  exact ⟨_, List.getElem_mem hk, hn⟩
/-- The bit of a doctype's 'Has'. -/
def hasB (has : Int) (b : Int) : Bool := bits BinOp.and IntKind.i64 has b != 0

set_option maxHeartbeats 400000 in
theorem begins12 (b n cap bt bid : Nat) (has : Int) (id : ByteArray) (L : List ByteArray) (w : World) (hn : n = L.length) (hm : n ≤ maxLen) (hs : ∀ s ∈ L, s.size ≤ maxLen)
    (hL : ∀ i (h : i < L.length), w.cell? ⟨b, i, none⟩ = some (.string L[i])) (hT : w.cell? ⟨bt, 4, none⟩ = some (.int .i64 has)) (hI : w.cell? ⟨bid, 0, none⟩ = some (.string id)) :
    Calls Try.prog 12 #[.slice (some ⟨b, 0, none⟩) n cap, .pointer (some ⟨bt, 0, none⟩), .pointer (some ⟨bid, 0, none⟩)] w fun e w' => e = .returned (.bool (bgP (hasB has 2) id.data.toList L)) ∧ Below w.heap.size w w' := by
  subst hn
  unfold maxLen at hm
  go_enter Try.func12, Try.ntmps12
  go_wp2
  go_loopw [6, 9] (fun v6 v9 wr => ∃ k : Nat, k ≤ L.length ∧ v9 = .int .i64 k ∧ Below w.heap.size w wr ∧ bgP (hasB has 2) id.data.toList (L.take k) = false) (fun _ v9 _ => L.length - (intOf v9).toNat)
  case atStart => exact ⟨0, Nat.zero_le _, rfl, Below.refl _ _, by simp [bgP]⟩
  case round =>
    obtain ⟨k, hk, rfl, hB, hno⟩ := hrel
    have HN := Go.Lib.hid hno
    clear hno
    by_cases hlt : k < L.length
    · have hc := bcl hB (hL k hlt)
      have hs' := hs _ (List.getElem_mem hlt)
      go_wp2_with (go_at_call 11; refine (small11 _ _ hs').mono ?_; rintro e w1 ⟨rfl, hb1⟩; have hT1 := bcl hb1 (bcl hB hT); have hI1 := bcl hb1 (bcl hB hI))
      all_goals
        have hB1 := btr hB hb1
        try simp only [mkS_size, tl_mkS, low_length] at *
        first
        | (have hz : bits BinOp.and IntKind.i64 has 2 = 0 := by assumption
           go_roundw
           case rel => exact ⟨k + 1, by omega, by go_num, hB1, bgP_step hlt HN.out (fun h => by simp [hasB, hz] at h)⟩
           case measure => simp [intOf]; omega)
        | (have hz : ¬ L[k].data.toList.length ≤ id.size := by assumption
           go_roundw
           case rel => exact ⟨k + 1, by omega, by go_num, hB1, bgP_step hlt HN.out (fun _ => not_prefix (by rw [low_length, dlen id]; exact hz))⟩
           case measure => simp [intOf]; omega)
        | (have hz : ¬ bits BinOp.and IntKind.i64 has 2 = 0 := by assumption
           have hle : L[k].data.toList.length ≤ id.size := by assumption
           try rw [cut_beq _ _ _ (low_length _).symm hle] at *
           first
           | (have hp : (bits BinOp.and IntKind.i64 has 2 != 0) = true ∧ (low L[k].data.toList).isPrefixOf id.data.toList = true := by assumption
              go_ret
              exact ⟨ret_bool (bgP_yes hlt (by simp [hasB, hz]) hp.2).symm, hB1⟩)
           | (have hp : (bits BinOp.and IntKind.i64 has 2 != 0) = false ∨ (low L[k].data.toList).isPrefixOf id.data.toList = false := by assumption
              go_roundw
              case rel => exact ⟨k + 1, by omega, by go_num, hB1, bgP_step hlt HN.out (fun _ => hp.resolve_left (by simp [hz]))⟩
              case measure => simp [intOf]; omega))
    · obtain rfl : k = L.length := by omega
      go_wp2
      go_ret
      refine ⟨ret_bool ?_, hB⟩
      have := HN.out
      rw [List.take_length] at this
      exact this.symm
end Go.Proofs.Ytkkhaaapokkhlaa
