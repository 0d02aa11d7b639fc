/- What 'for _, r := range s { if r is a large letter { r += 32 }; b.WriteRune(r) }' gives, as a plain function; of ASCII texts it is the text with small letters. -/
import Derived.Test.YtcmhfcnjfhcpdaaDoorKitB
import Derived.Lib.RuneBytes
import Derived.Laws.RangeAny
namespace Go.Proofs.YtcmhfcnjfhcpdaaDoor
open Go.RowKit

def lowR (r : Int) : Int := if 65 ≤ r ∧ r ≤ 90 then r + 32 else r
/-- From place pos on, by at most so many runes. -/
def smFrom (s : ByteArray) : Nat → Nat → List UInt8
  | 0, _ => []
  | fuel + 1, pos => if pos < s.size then Lib.encodeRune (lowR (Utf8.decode s pos).1) ++ smFrom s fuel (pos + (Utf8.decode s pos).2) else []
def smG (s : ByteArray) : List UInt8 := smFrom s s.size 0
theorem width_pos (s : ByteArray) (pos : Nat) (h : pos < s.size) : 1 ≤ (Utf8.decode s pos).2 := by
  by_cases ha : (s[pos]'h).toNat < 128
  · rw [decode_ascii s pos h ha]
    exact Nat.le_refl _
  · exact (decode_high s pos h (by omega)).2
theorem smFrom_end (s : ByteArray) (fuel pos : Nat) (h : ¬ pos < s.size) : smFrom s fuel pos = [] := by
  cases fuel with
  | zero => rfl
  | succ f => simp [smFrom, h]
theorem smFrom_step (s : ByteArray) (f pos : Nat) (h : pos < s.size) : smFrom s (f + 1) pos = Lib.encodeRune (lowR (Utf8.decode s pos).1) ++ smFrom s f (pos + (Utf8.decode s pos).2) := by
  simp [smFrom, h]
theorem enc_ascii (c : UInt8) (h : c.toNat < 128) : Lib.encodeRune (lowR (c.toNat : Int)) = [lowB c] := by
  have hr : lowR (c.toNat : Int) = ((lowB c).toNat : Int) ∧ (lowB c).toNat < 128 := by
    have := lowB_cases (fun c => decide (c.toNat < 128 → lowR (c.toNat : Int) = ((lowB c).toNat : Int) ∧ (lowB c).toNat < 128)) (by decide +kernel) c
    exact (of_decide_eq_true this) h
  rw [hr.1, Lib.encodeRune, Lib.encodeRuneZ_one (by omega) (by omega)]
  simp
theorem smFrom_ascii (s : ByteArray) (ha : ∀ c ∈ s.data.toList, c.toNat < 128) : ∀ f pos, s.size ≤ pos + f → smFrom s f pos = low (s.data.toList.drop pos) := by
  intro f
  induction f with
  | zero =>
    intro pos h
    rw [List.drop_of_length_le (by rw [dlen]; omega)]
    rfl
  | succ f ih =>
    intro pos h
    by_cases hp : pos < s.size
    · have hp' : pos < s.data.toList.length := by rw [dlen]; exact hp
      have hc : (s[pos]'hp).toNat < 128 := ha _ (by
        have : s[pos]'hp = s.data.toList[pos]'hp' := by simp; rfl
        rw [this]; exact List.getElem_mem hp')
      rw [smFrom_step s f pos hp, decode_ascii s pos hp hc, enc_ascii _ hc, ih (pos + 1) (by omega), List.drop_eq_getElem_cons hp']
      simp only [low, List.map_cons, List.cons_append, List.nil_append]
      congr 1
    · rw [smFrom_end s _ pos hp, List.drop_of_length_le (by rw [dlen]; omega)]
      rfl
theorem smG_ascii (s : ByteArray) (ha : ∀ c ∈ s.data.toList, c.toNat < 128) : smG s = low s.data.toList := by
  rw [smG, smFrom_ascii s ha s.size 0 (by omega), List.drop_zero]
end Go.Proofs.YtcmhfcnjfhcpdaaDoor
