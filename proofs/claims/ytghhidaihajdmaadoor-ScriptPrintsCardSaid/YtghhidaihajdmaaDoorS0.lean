/- The lines of acts: names, numbers, small digits; the reference's numbers. -/
import Derived.Test.YtghhidaihajdmaaDoorKitD
import Derived.Test.YtghhidaihajdmaaDoorShelf
import Derived.BigCall
import Derived.Lib.AppendIntMem
namespace Go.Proofs.YtghhidaihajdmaaDoor
open Go.RowKit
theorem tabIs_below {P : Program} {n : String} {g : Nat} {k : IntKind} {zs : List Int} {w w' : World} (hg : P.globalNamed n = some g) (h : Lib.TabIs P w n k zs) (hb : Below w.heap.size w w') : Lib.TabIs P w' n k zs := by
  unfold Lib.TabIs World.var? at h ⊢
  rw [hg] at h ⊢
  simp only [Option.bind_some] at h ⊢
  have hlt : g < w.heap.size := by
    apply Classical.byContradiction
    intro hge
    rw [Array.getElem?_eq_none (by omega)] at h
    cases h
  rw [hb.block g hlt]
  exact h
/-- The library's variables read as its text lays them. -/
structure Tabs (w : World) : Prop where
  sp : Lib.TabIs Tryd.prog w "strings.asciiSpace" .u8 Lib.asciiSpaceTab
  pow : Lib.TabIs Tryd.prog w "internal/strconv.uint64pow10" .u64 Lib.pow10Tab
theorem gsp : ∃ g, Tryd.prog.globalNamed "strings.asciiSpace" = some g := Option.isSome_iff_exists.1 (by kernel_rfl)
theorem gpow : ∃ g, Tryd.prog.globalNamed "internal/strconv.uint64pow10" = some g := Option.isSome_iff_exists.1 (by kernel_rfl)
theorem Tabs.below {w w' : World} (h : Tabs w) (hb : Below w.heap.size w w') : Tabs w' := by
  obtain ⟨g1, h1⟩ := gsp
  obtain ⟨g2, h2⟩ := gpow
  exact ⟨tabIs_below h1 h.sp hb, tabIs_below h2 h.pow hb⟩
def strs (r : List (List UInt8)) : Array Value := (r.map fun x => Value.string (mkS x)).toArray
theorem strs_at (r : List (List UInt8)) (k : Nat) (hk : k < r.length) : (strs r)[k]? = some (.string (mkS r[k])) := by simp [strs, hk]
def actNames : List (List UInt8) := [[97, 112, 112, 101, 110, 100], [98, 101, 102, 111, 114, 101], [114, 101, 109, 111, 118, 101], [116, 101, 120, 116], [101, 108, 101, 109], [97, 116, 116, 114], [117, 110, 97, 116, 116, 114], [100, 97, 116, 97], [119, 114, 105, 116, 101], [111, 112, 101, 110], [99, 108, 111, 115, 101], [97, 98, 111, 114, 116]]
def actText : List UInt8 := [97, 112, 112, 101, 110, 100, 32, 98, 101, 102, 111, 114, 101, 32, 114, 101, 109, 111, 118, 101, 32, 116, 101, 120, 116, 32, 101, 108, 101, 109, 32, 97, 116, 116, 114, 32, 117, 110, 97, 116, 116, 114, 32, 100, 97, 116, 97, 32, 119, 114, 105, 116, 101, 32, 111, 112, 101, 110, 32, 99, 108, 111, 115, 101, 32, 97, 98, 111, 114, 116]
theorem fields_acts : Lib.fields actText = actNames := by decide +kernel
theorem names13 (w : World) (hT : Tabs w) : Calls Tryd.prog 13 #[] w fun e w' => e = .returned (.slice (some ⟨w.heap.size, 0, none⟩) 12 12) ∧ w' = w.alloc (.cells (strs actNames) 9) := by
  have F := Tryd.strings_Fields_laid (mkS actText) w (by decide) (by
    intro j b hb
    have hm : b ∈ actText := List.mem_of_getElem? hb
    have h := List.all_eq_true.1 (show actText.all (fun b => decide (b.toNat < 128)) = true by decide +kernel) b hm
    simpa using h) hT.sp
  rw [mkS_data, fields_acts] at F
  have hl : actNames.length = 12 := rfl
  rw [hl] at F
  go_enter Tryd.func13, Tryd.ntmps13
  go_wp2_with fail
  refine F.mono ?_
  rintro e w1 ⟨rfl, rfl⟩
  go_wp2
  go_ret
  exact ⟨rfl, rfl⟩
theorem names18 (w : World) : Calls Tryd.prog 18 #[] w fun e w' => e = .returned (.slice (some ⟨w.heap.size, 0, none⟩) 12 12) ∧ w' = w.alloc (.cells (strs actNames) 9) := by
  go_enter Tryd.func18, Tryd.ntmps18
  go_wp2
  go_ret
  exact ⟨rfl, rfl⟩
theorem act_at (w : World) (k : Nat) (hk : k < 12) : (w.alloc (.cells (strs actNames) 9)).cell? ⟨w.heap.size, k, none⟩ = some (.string (mkS (actNames.getD k []))) := by
  rw [blk_cells (show (w.alloc (.cells (strs actNames) 9)).heap[w.heap.size]? = some (.cells (strs actNames) 9) by show (w.heap.push _)[w.heap.size]? = some _; simp), strs_at actNames k hk]
  rw [List.getD_eq_getElem?_getD, List.getElem?_eq_getElem hk]
  rfl
theorem act_len (k : Nat) (hk : k < 12) : (actNames.getD k []).length ≤ 6 := by
  rcases (show k = 0 ∨ k = 1 ∨ k = 2 ∨ k = 3 ∨ k = 4 ∨ k = 5 ∨ k = 6 ∨ k = 7 ∨ k = 8 ∨ k = 9 ∨ k = 10 ∨ k = 11 by omega) with rfl | rfl | rfl | rfl | rfl | rfl | rfl | rfl | rfl | rfl | rfl | rfl <;> decide
/-- A place: a number, or the sign of none. -/
def numL (n : Int) : List UInt8 := if n = -1 then [45] else Lib.itoa n
/-- A small digit. -/
def digs : List UInt8 := [48, 49, 50, 51, 52, 53, 54, 55, 56, 57, 97, 98, 99, 100, 101, 102]
def hexB (b : UInt8) : List UInt8 := [digs.getD (b.toNat / 16) 0, digs.getD (b.toNat % 16) 0]
def hexL (l : List UInt8) : List UInt8 := l.flatMap hexB
theorem hexL_snoc (l : List UInt8) (b : UInt8) : hexL (l ++ [b]) = hexL l ++ hexB b := by simp [hexL]
theorem hexL_take (l : List UInt8) (i : Nat) (h : i < l.length) : hexL (l.take (i + 1)) = hexL (l.take i) ++ hexB l[i] := by
  rw [List.take_succ_eq_append_getElem h, hexL_snoc]
theorem hexL_len (l : List UInt8) : (hexL l).length = 2 * l.length := by
  induction l with
  | nil => rfl
  | cons b t ih => show (hexB b ++ hexL t).length = _; rw [List.length_append, ih, List.length_cons]; show 2 + _ = _; omega
theorem itoa14 (n : Int) (h0 : -9223372036854775808 ≤ n) (h1 : n ≤ 9223372036854775807) (w : World) (hT : Tabs w) : Calls Tryd.prog 14 #[.int .i64 n] w fun e w' => e = .returned (.string (mkS (Lib.itoa n))) ∧ Below w.heap.size w w' := by
  refine (Tryd.strconv_Itoa n h0 h1 w hT.pow).mono ?_
  rintro e w1 ⟨rfl, k, os, rfl⟩
  exact ⟨rfl, Go.Lib.below_grow _ w (Nat.le_refl _) k os⟩
end Go.Proofs.YtghhidaihajdmaaDoor
