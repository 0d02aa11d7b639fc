/- The law that bytes cut in any way are the same code points: every encoding; bytes among the arguments, their capacity. -/
import Derived.Test.YtmfifaigphnbmaaK1
import Derived.Test.YtmfifaigphnbmaaKitR
namespace Go.Proofs.Ytmfifaigphnbmaa
open Go.RowKit Go.ChangeShapes
theorem chunks5 (k : UInt8) (oa : Option Addr) (n cap : Nat) (L : List UInt8) (ob : Option Addr) (m cb : Nat) (M : List UInt8) (w : World) (hn : n = L.length) (hc : n ≤ cap) (hL : L.length ≤ 1048576) (hR : RdB w oa L)
    (hm : m = M.length) (hM : M.length ≤ 1048576) (hS : RdB w ob M) :
    Calls Try.prog 5 #[.int .u8 k.toNat, .slice oa n cap, .slice ob m cb] w fun e w' => e = .returned (.bool true) ∧ Below w.heap.size w w' := by
  have hk := k.toNat_lt
  rcases (show (k.toNat : Int) % 7 = 0 ∨ (k.toNat : Int) % 7 = 1 ∨ (k.toNat : Int) % 7 = 2 ∨ (k.toNat : Int) % 7 = 3 ∨ (k.toNat : Int) % 7 = 4 ∨ (k.toNat : Int) % 7 = 5 ∨ (k.toNat : Int) % 7 = 6 by omega) with e | e | e | e | e | e | e
  · exact chunks5_any k.toNat hk (by rw [e]; exact goes_0) oa n cap L ob m cb M w hn hc hL hR hm hM hS
  · exact chunks5_any k.toNat hk (by rw [e]; exact goes_1) oa n cap L ob m cb M w hn hc hL hR hm hM hS
  · exact chunks5_any k.toNat hk (by rw [e]; exact goes_2) oa n cap L ob m cb M w hn hc hL hR hm hM hS
  · exact chunks5_any k.toNat hk (by rw [e]; exact goes_3) oa n cap L ob m cb M w hn hc hL hR hm hM hS
  · exact chunks5_any k.toNat hk (by rw [e]; exact goes_4) oa n cap L ob m cb M w hn hc hL hR hm hM hS
  · exact chunks5_any k.toNat hk (by rw [e]; exact goes_5) oa n cap L ob m cb M w hn hc hL hR hm hM hS
  · exact chunks5_any k.toNat hk (by rw [e]; exact goes_6) oa n cap L ob m cb M w hn hc hL hR hm hM hS
/-- A slice of bytes among the arguments: what it holds, and its capacity. -/
theorem open_bytesc {H : Type} {enc : TypeId × Value → H} {P : Program} {w : World} {spare : Nat → Bool} {held : Bool} {r : Reach} {b0 : Nat} {t e : TypeId} {v : Value} {d : DataW H} {p : List MemPlace} (ht : P.underlying t = some (.slice e)) (he : P.underlying e = some (.int .u8)) (hc : P.cellsOf e = 1)
    (hv : Value.okWide P w r b0 t v) (h : DataW.Trod enc P w 0 spare held t v d p) : ∃ oa n cap L, v = .slice oa n cap ∧ n = L.length ∧ n ≤ maxLen ∧ n ≤ cap ∧ RdB w oa L ∧ (d = .nil ∧ L = [] ∨ ∃ r, d = .slice (lits .u8 (nums L)) r) := by
  obtain ⟨oa, n, cap, L, rfl, h1, h2, h3, h4⟩ := open_bytesv ht he hc hv h
  refine ⟨oa, n, cap, L, rfl, h1, h2, ?_, h3, h4⟩
  obtain ⟨fuel, hf⟩ := h
  rcases open_ints (x := (d, p)) ht he hc hf with ⟨hv2, _⟩ | ⟨a, len, cap2, zs, hv2, _, hlc, _⟩
  · have : Value.slice oa n cap = .slice none 0 0 := by simpa [Value.cells] using hv2
    injection this with e1 e2 e3
    omega
  · have : Value.slice oa n cap = .slice (some a) len cap2 := by simpa [Value.cells] using hv2
    injection this with e1 e2 e3
    omega
end Go.Proofs.Ytmfifaigphnbmaa
