/- The walk of the law's last word: three bytes of UTF-8 are one code point; opening bytes among the arguments. -/
import Derived.Test.YtmfifaigphnbmaaD10
import Derived.Test.YtmfifaigphnbmaaKitR
import Derived.Deep.QuietTactic
namespace Go.Proofs.Ytmfifaigphnbmaa
open Go.RowKit Go.ChangeShapes
theorem own_one {w : World} {base : Nat} {v : Value} {X : Int} (h : w.ownsRow base 21 1 v [X].length ([X].map (Value.int .i32))) : ∃ g c, v = .slice (some ⟨g, 0, none⟩) 1 c ∧ w.cell? ⟨g, 0, none⟩ = some (.int .i32 X) := by
  obtain ⟨g, c, rfl⟩ := ownsRow_succ h
  obtain ⟨_, hr⟩ := own_read h
  obtain ⟨a0, h0, c0⟩ := hr 0 (.int .i32 X) rfl
  cases h0
  exact ⟨g, c, rfl, c0⟩
theorem told8_euro : told8 [226, 130, 172] = [8364] := by decide +kernel
set_option maxRecDepth 100000 in
theorem awake16 (w : World) : Calls Try.prog 16 #[] w fun e w' => e = .returned (.bool true) ∧ Below w.heap.size w w' := by
  have F := fun (W : World) (oa : Option Addr) (hR : RdB W oa [226, 130, 172]) => text13_8 oa 3 3 [226, 130, 172] W rfl hR (by simp)
  rw [told8_euro] at F
  have hR : RdB (w.alloc (.cells #[.int .u8 226, .int .u8 130, .int .u8 172] 5)) (some ⟨w.heap.size, 0, none⟩) [226, 130, 172] := fun j hj => by
    refine ⟨_, rfl, ?_⟩
    match j, hj with
    | 0, _ => exact blk_cells (at_new w (.cells #[.int .u8 226, .int .u8 130, .int .u8 172] 5) _ rfl) 0
    | 1, _ => exact blk_cells (at_new w (.cells #[.int .u8 226, .int .u8 130, .int .u8 172] 5) _ rfl) 1
    | 2, _ => exact blk_cells (at_new w (.cells #[.int .u8 226, .int .u8 130, .int .u8 172] 5) _ rfl) 2
  go_enter Try.func16, Try.ntmps16
  go_wp2_with (go_at_call 13; (with_reducible refine (F _ _ hR).mono ?_); rintro e w1 ⟨v1, rfl, ho1, hb1⟩; obtain ⟨g, c, rfl, c0⟩ := own_one ho1)
  go_ret
  exact ⟨rfl, btr (bal (Below.refl _ _) _) hb1⟩
theorem u8_of {n : Int} (h : (Lit.int .u8 n).wf = true) : ∃ b : UInt8, n = (b.toNat : Int) := by
  have h2 : 0 ≤ n ∧ n < 256 := by
    have e1 : IntKind.u8.min = 0 := rfl
    have e2 : IntKind.u8.max = 255 := rfl
    simp [Lit.wf, e1, e2] at h
    omega
  refine ⟨UInt8.ofNat n.toNat, ?_⟩
  rw [UInt8.toNat_ofNat']
  omega
/-- A slice of bytes among the arguments: what it holds. -/
theorem open_bytes {H : Type} {enc : TypeId × Value → H} {P : Program} {w : World} {spare : Nat → Bool} {held : Bool} {t e : TypeId} {fuel : Nat} {v : Value} {x : DataW H × List MemPlace} (ht : P.underlying t = some (.slice e)) (he : P.underlying e = some (.int .u8)) (hc : P.cellsOf e = 1)
    (h : DataW.trod enc P w 0 spare held fuel t [v] = some x) : ∃ oa n cap L, v = .slice oa n cap ∧ n = L.length ∧ n ≤ maxLen ∧ RdB w oa L ∧ (x.1 = .nil ∧ L = [] ∨ ∃ r, x.1 = .slice (lits .u8 (nums L)) r) := by
  rcases open_ints ht he hc h with ⟨hv, rfl⟩ | ⟨a, len, cap, zs, hv, _, hlc, hcm, hzl, rfl, hcell, hwf⟩
  · simp only [List.cons.injEq, and_true] at hv
    exact ⟨none, 0, 0, [], hv, rfl, Nat.zero_le _, (fun j hj => absurd hj (by simp)), .inl ⟨rfl, rfl⟩⟩
  · simp only [List.cons.injEq, and_true] at hv
    have hz : len ≤ zs.length := by rw [hzl]; split <;> omega
    obtain ⟨L, hL⟩ : ∃ L : List UInt8, zs.take len = nums L := by
      have hall : ∀ n ∈ zs.take len, (Lit.int .u8 n).wf = true := fun n hn => hwf n (List.mem_of_mem_take hn)
      generalize zs.take len = zt at hall
      clear hv hlc hcm hzl hcell hwf hz
      induction zt with
      | nil => exact ⟨[], rfl⟩
      | cons n r ih =>
        obtain ⟨b, hb⟩ := u8_of (hall n List.mem_cons_self)
        obtain ⟨L, hL⟩ := ih fun m hm => hall m (List.mem_cons_of_mem _ hm)
        exact ⟨b :: L, by rw [hL, hb]; rfl⟩
    have hlen : len = L.length := by
      have := congrArg List.length hL
      rw [List.length_take, nums_length] at this
      omega
    refine ⟨some a, len, cap, L, hv, hlen, Nat.le_trans hlc hcm, fun j hj => ⟨a, rfl, ?_⟩, .inr ⟨_, by rw [hL]⟩⟩
    rw [hcell j (by omega)]
    have h1 : (zs.take len)[j]? = (nums L)[j]? := by rw [hL]
    rw [List.getElem?_take, if_pos (by omega)] at h1
    have h2 : (nums L)[j]? = some ((L[j]).toNat : Int) := by simp [nums, hj]
    rw [h2] at h1
    rw [List.getD_eq_getElem?_getD, h1]
    rfl
theorem open_bytesv {H : Type} {enc : TypeId × Value → H} {P : Program} {w : World} {spare : Nat → Bool} {held : Bool} {r : Reach} {b0 : Nat} {t e : TypeId} {v : Value} {d : DataW H} {p : List MemPlace} (ht : P.underlying t = some (.slice e)) (he : P.underlying e = some (.int .u8)) (hc : P.cellsOf e = 1)
    (hv : Value.okWide P w r b0 t v) (h : DataW.Trod enc P w 0 spare held t v d p) : ∃ oa n cap L, v = .slice oa n cap ∧ n = L.length ∧ n ≤ maxLen ∧ RdB w oa L ∧ (d = .nil ∧ L = [] ∨ ∃ r, d = .slice (lits .u8 (nums L)) r) := by
  obtain ⟨a, len, cap, rfl⟩ := Go.WideShapes.okWide_slice ht hv
  obtain ⟨fuel, hf⟩ := h
  exact open_bytes ht he hc (x := (d, p)) hf
end Go.Proofs.Ytmfifaigphnbmaa
