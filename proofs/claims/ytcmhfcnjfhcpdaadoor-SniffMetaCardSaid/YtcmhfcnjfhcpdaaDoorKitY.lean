/- Bytes in a slice, read: among the arguments, cut, taken. -/
import Derived.Test.YtcmhfcnjfhcpdaaDoorKitR
import Derived.Test.YtcmhfcnjfhcpdaaDoorKitA
import Derived.Test.YtcmhfcnjfhcpdaaDoorKitD
import Derived.ChangeSlices
namespace Go.Proofs.YtcmhfcnjfhcpdaaDoor
open Go.RowKit Go.ChangeShapes
/-- Bytes as numbers. -/
def nums (l : List UInt8) : List Int := l.map fun b => (b.toNat : Int)
theorem nums_length (l : List UInt8) : (nums l).length = l.length := by simp [nums]
/-- The bytes L lie at the slice's place. -/
def RdB (w : World) (oa : Option Addr) (L : List UInt8) : Prop := ∀ j (h : j < L.length), ∃ ad, oa = some ad ∧ w.cell? (ad.add j) = some (.int .u8 (L[j]).toNat)
theorem RdB.below {w w1 : World} {oa : Option Addr} {L : List UInt8} (h : RdB w oa L) (hb : Below w.heap.size w w1) : RdB w1 oa L := fun j hj => by
  obtain ⟨ad, h1, h2⟩ := h j hj
  exact ⟨ad, h1, bcl hb h2⟩
theorem RdB.cut {w : World} {oa : Option Addr} {L : List UInt8} (h : RdB w oa L) (k : Nat) : RdB w (oa.map (·.add k)) (L.drop k) := fun j hj => by
  rw [List.length_drop] at hj
  obtain ⟨ad, rfl, hc⟩ := h (k + j) (by omega)
  refine ⟨_, rfl, ?_⟩
  rw [show (ad.add k).add j = ad.add (k + j) by unfold Addr.add; by_cases hk : k = 0 <;> by_cases hj : j = 0 <;> simp [hk, hj, Nat.add_assoc], hc]
  simp
theorem RdB.cut_at {w : World} {ad : Addr} {L : List UInt8} (h : RdB w (some ad) L) (k : Nat) (hk : 0 < k) : RdB w (some ⟨ad.block, ad.off + k, none⟩) (L.drop k) := by
  have := h.cut k
  rwa [Option.map_some, show ad.add k = ⟨ad.block, ad.off + k, none⟩ by unfold Addr.add; rw [if_neg (by omega)]] at this
theorem RdB.take {w : World} {oa : Option Addr} {L : List UInt8} (h : RdB w oa L) (k : Nat) : RdB w oa (L.take k) := fun j hj => by
  rw [List.length_take] at hj
  obtain ⟨ad, h1, h2⟩ := h j (by omega)
  exact ⟨ad, h1, by rw [h2, List.getElem_take]⟩
theorem RdB.cut_cap {w : World} {oa : Option Addr} {L : List UInt8} (h : RdB w oa L) (k cap : Nat) (hc : L.length ≤ cap) : RdB w (if cap = k then oa else oa.map (·.add k)) (L.drop k) := by
  by_cases e : cap = k
  · rw [if_pos e]
    exact fun j hj => by rw [List.length_drop] at hj; omega
  · rw [if_neg e]
    exact h.cut k
theorem own_read {w : World} {base e n m c : Nat} {oa : Option Addr} {xs : List Value} (h : w.ownsRow base e 1 (.slice oa m c) n xs) : m = n ∧ ∀ j u, xs[j]? = some u → ∃ ad, oa = some ad ∧ w.cell? (ad.add j) = some u := by
  obtain ⟨h1, h2⟩ := h
  rcases h2 with ⟨hv, h0⟩ | ⟨g, cap, cur, hv, _, hh, _, _, _, ht⟩
  · injection hv with e1 e2 e3
    subst h0 e2
    refine ⟨rfl, fun j u hu => ?_⟩
    have : xs = [] := List.eq_nil_of_length_eq_zero (by simpa using h1)
    rw [this] at hu
    cases hu
  · injection hv with e1 e2 e3
    subst e1 e2
    refine ⟨rfl, fun j u hu => ⟨_, rfl, ?_⟩⟩
    have hj : j < xs.length := by
      rcases Nat.lt_or_ge j xs.length with h' | h'
      · exact h'
      · rw [List.getElem?_eq_none h'] at hu; cases hu
    have ha : (Addr.add ⟨g, 0, none⟩ j) = ⟨g, j, none⟩ := by
      unfold Addr.add
      split
      · next h0 => subst h0; rfl
      · simp
    rw [ha, blk_cells hh, ← hu, ← ht, List.getElem?_take, if_pos (by omega)]
    simp
theorem u8_of {n : Int} (h : (Lit.int .u8 n).wf = true) : ∃ b : UInt8, n = (b.toNat : Int) := by
  have h2 : 0 ≤ n ∧ n < 256 := by
    have e1 : IntKind.u8.min = 0 := rfl
    have e2 : IntKind.u8.max = 255 := rfl
    simp [Lit.wf, e1, e2] at h
    omega
  refine ⟨UInt8.ofNat n.toNat, ?_⟩
  rw [UInt8.toNat_ofNat']
  omega
theorem open_bytes {H : Type} {enc : TypeId × Value → H} {P : Program} {w : World} {spare : Nat → Bool} {held : Bool} {t e : TypeId} {fuel : Nat} {v : Value} {x : DataW H × List MemPlace} (ht : P.underlying t = some (.slice e)) (he : P.underlying e = some (.int .u8)) (hc : P.cellsOf e = 1)
    (h : DataW.trod enc P w 0 spare held fuel t [v] = some x) : ∃ oa n cap L, v = .slice oa n cap ∧ n = L.length ∧ n ≤ maxLen ∧ RdB w oa L ∧ (x.1 = .nil ∧ L = [] ∨ ∃ r, x.1 = .slice (lits .u8 (nums L)) r) := by
  rcases open_ints ht he hc h with ⟨hv, rfl⟩ | ⟨a, len, cap, zs, hv, _, hlc, hcm, hzl, rfl, hcell, hwf⟩
  · simp only [List.cons.injEq, and_true] at hv
    exact ⟨none, 0, 0, [], hv, rfl, Nat.zero_le _, (fun j hj => absurd hj (by simp)), .inl ⟨rfl, rfl⟩⟩
  · simp only [List.cons.injEq, and_true] at hv
    have hz : len ≤ zs.length := by rw [hzl]; split <;> omega
    obtain ⟨L, hL⟩ : ∃ L : List UInt8, zs.take len = nums L := by
      have hall : ∀ n ∈ zs.take len, (Lit.int .u8 n).wf = true := fun n hn => hwf n (List.mem_of_mem_take hn)
      generalize zs.take len = zt at hall
      clear hv hlc hcm hzl hcell hwf hz
      induction zt with
      | nil => exact ⟨[], rfl⟩
      | cons n r ih =>
        obtain ⟨b, hb⟩ := u8_of (hall n List.mem_cons_self)
        obtain ⟨L, hL⟩ := ih fun m hm => hall m (List.mem_cons_of_mem _ hm)
        exact ⟨b :: L, by rw [hL, hb]; rfl⟩
    have hlen : len = L.length := by
      have := congrArg List.length hL
      rw [List.length_take, nums_length] at this
      omega
    refine ⟨some a, len, cap, L, hv, hlen, Nat.le_trans hlc hcm, fun j hj => ⟨a, rfl, ?_⟩, .inr ⟨_, by rw [hL]⟩⟩
    rw [hcell j (by omega)]
    have h1 : (zs.take len)[j]? = (nums L)[j]? := by rw [hL]
    rw [List.getElem?_take, if_pos (by omega)] at h1
    have h2 : (nums L)[j]? = some ((L[j]).toNat : Int) := by simp [nums, hj]
    rw [h2] at h1
    rw [List.getD_eq_getElem?_getD, h1]
    rfl
theorem open_bytesv {H : Type} {enc : TypeId × Value → H} {P : Program} {w : World} {spare : Nat → Bool} {held : Bool} {r : Reach} {b0 : Nat} {t e : TypeId} {v : Value} {d : DataW H} {p : List MemPlace} (ht : P.underlying t = some (.slice e)) (he : P.underlying e = some (.int .u8)) (hc : P.cellsOf e = 1)
    (hv : Value.okWide P w r b0 t v) (h : DataW.Trod enc P w 0 spare held t v d p) : ∃ oa n cap L, v = .slice oa n cap ∧ n = L.length ∧ n ≤ maxLen ∧ RdB w oa L ∧ (d = .nil ∧ L = [] ∨ ∃ r, d = .slice (lits .u8 (nums L)) r) := by
  obtain ⟨a, len, cap, rfl⟩ := Go.WideShapes.okWide_slice ht hv
  obtain ⟨fuel, hf⟩ := h
  exact open_bytes ht he hc (x := (d, p)) hf
theorem open_bytesc {H : Type} {enc : TypeId × Value → H} {P : Program} {w : World} {spare : Nat → Bool} {held : Bool} {r : Reach} {b0 : Nat} {t e : TypeId} {v : Value} {d : DataW H} {p : List MemPlace} (ht : P.underlying t = some (.slice e)) (he : P.underlying e = some (.int .u8)) (hc : P.cellsOf e = 1)
    (hv : Value.okWide P w r b0 t v) (h : DataW.Trod enc P w 0 spare held t v d p) : ∃ oa n cap L, v = .slice oa n cap ∧ n = L.length ∧ n ≤ maxLen ∧ n ≤ cap ∧ RdB w oa L ∧ (d = .nil ∧ L = [] ∨ ∃ r, d = .slice (lits .u8 (nums L)) r) := by
  obtain ⟨oa, n, cap, L, rfl, h1, h2, h3, h4⟩ := open_bytesv ht he hc hv h
  refine ⟨oa, n, cap, L, rfl, h1, h2, ?_, h3, h4⟩
  obtain ⟨fuel, hf⟩ := h
  rcases open_ints (x := (d, p)) ht he hc hf with ⟨hv2, _⟩ | ⟨a, len, cap2, zs, hv2, _, hlc, _⟩
  · have : Value.slice oa n cap = .slice none 0 0 := by simpa [Value.cells] using hv2
    injection this with e1 e2 e3
    omega
  · have : Value.slice oa n cap = .slice (some a) len cap2 := by simpa [Value.cells] using hv2
    injection this with e1 e2 e3
    omega
end Go.Proofs.YtcmhfcnjfhcpdaaDoor
