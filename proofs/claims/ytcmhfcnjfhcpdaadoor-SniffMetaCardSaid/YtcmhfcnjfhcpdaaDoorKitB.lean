/- Lemmas on strings as the walk spells them: comparisons, beginnings. -/
import Derived.Test.YtcmhfcnjfhcpdaaDoorKitA
import Derived.Lib.Strings
namespace Go.Proofs.YtcmhfcnjfhcpdaaDoor
open Go.RowKit

theorem tl (s : ByteArray) : s.toList = s.data.toList := ByteArray.toList_eq s
theorem tl_mkS (l : List UInt8) : (mkS l).toList = l := by rw [tl]; rfl
theorem extract_tl (s : ByteArray) (a b : Nat) : (s.extract a b).toList = (s.data.toList.drop a).take (b - a) := by
  rw [tl]
  simp [ByteArray.data_extract]
theorem take_beq (id p : List UInt8) (_h : p.length ≤ id.length) : (id.take p.length == p) = p.isPrefixOf id := by
  rw [Bool.eq_iff_iff, beq_iff_eq, List.isPrefixOf_iff_prefix, List.prefix_iff_eq_take]
  exact eq_comm
/-- The walk's 's[:n] == p'. -/
theorem cut_beq (s : ByteArray) (p : List UInt8) (n : Nat) (hn : n = p.length) (h : n ≤ s.size) : ((s.extract 0 n).toList == p) = p.isPrefixOf s.data.toList := by
  subst hn
  rw [extract_tl, List.drop_zero, Nat.sub_zero, take_beq _ _ (by rw [dlen]; exact h)]
theorem prefix_len {p l : List UInt8} (h : p.isPrefixOf l = true) : p.length ≤ l.length := (List.isPrefixOf_iff_prefix.1 h).length_le
theorem not_prefix {p l : List UInt8} (h : ¬ p.length ≤ l.length) : p.isPrefixOf l = false := by
  cases e : p.isPrefixOf l with
  | false => rfl
  | true => exact absurd (prefix_len e) h
end Go.Proofs.YtcmhfcnjfhcpdaaDoor
