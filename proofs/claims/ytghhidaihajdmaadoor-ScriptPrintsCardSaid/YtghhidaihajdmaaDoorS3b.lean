/- Acts as lines, plainly. -/
import Derived.Test.YtghhidaihajdmaaDoorS1
import Derived.Test.YtghhidaihajdmaaDoorS2
import Derived.Test.YtghhidaihajdmaaDoorS3
namespace Go.Proofs.YtghhidaihajdmaaDoor
open Go.RowKit
theorem Tryd.info9 : (Tryd.prog.info? 9).map (fun i => (i.zero, i.size, i.bytes)) = some (some (.string ByteArray.empty), 1, 16) := by kernel_rfl
/-- Is it a place? -/
def inP (n : Int) : Bool := decide (-1 ≤ n) && decide (n ≤ 99999)
def allP (l : List Int) : Bool := l.all inP
def strV (n : Int) : Value := .string (mkS (numL n))
def lineL (k : Nat) (a b c : Int) (t m : List UInt8) : List UInt8 :=
  [97, 99, 116, 32] ++ actNames.getD k [] ++ [32] ++ (numL a ++ [32] ++ numL b ++ [32] ++ numL c) ++ [32, 61] ++ hexL t ++ [32, 61] ++ hexL m
/-- The line of an act, and the number of its error. -/
def printL (k a b c : Int) (t m : List UInt8) : List UInt8 × Int :=
  if ¬ (0 ≤ k ∧ k < 12 ∧ allP [a, b, c] = true) then ([], 4)
  else if 65536 < t.length ∨ 65536 < m.length then ([], 2)
  else if 65536 < (lineL k.toNat a b c t m).length then ([], 2)
  else (lineL k.toNat a b c t m, 0)
theorem take3 (a b c : Int) (i : Nat) (h : i < 3) : ∃ n, [a, b, c].take (i + 1) = [a, b, c].take i ++ [n] ∧ (#[Value.int .i64 a, .int .i64 b, .int .i64 c] : Array Value)[i]? = some (.int .i64 n) ∧ (n = a ∨ n = b ∨ n = c) := by
  rcases (show i = 0 ∨ i = 1 ∨ i = 2 by omega) with rfl | rfl | rfl
  · exact ⟨a, rfl, rfl, .inl rfl⟩
  · exact ⟨b, rfl, rfl, .inr (.inl rfl)⟩
  · exact ⟨c, rfl, rfl, .inr (.inr rfl)⟩
theorem numL_len (n : Int) (h : inP n = true) : (numL n).length ≤ 6 := by
  simp [inP] at h
  unfold numL
  split
  · simp
  · rw [Lib.itoa, if_neg (by omega)]
    exact dec_len 5 n.toNat (by omega)
theorem oneStr (s : ByteArray) : ∀ u ∈ (#[Value.string s] : Array Value).toList, u.oneCell' = true := by
  intro u hu
  rcases (show u = _ by simpa using hu) with rfl
  rfl
theorem join3 (a b c : List UInt8) : Lib.join [a, b, c] [32] = a ++ [32] ++ b ++ [32] ++ c := by
  simp [Lib.join]
end Go.Proofs.YtghhidaihajdmaaDoor
