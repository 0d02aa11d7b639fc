/- The table of encodings, and what the label's walk asks of the library's tables. -/
import Derived.Test.YtcmhfcnjfhcpdaaDoorL0
import Derived.Test.YtcmhfcnjfhcpdaaDoorKitD
import Derived.Test.YtcmhfcnjfhcpdaaDoorShelf
import Derived.Shelf.Strings.SlTrimAscii
import Derived.BigCall
namespace Go.Proofs.YtcmhfcnjfhcpdaaDoor
open Go.RowKit
theorem tabIs_below {P : Program} {n : String} {g : Nat} {k : IntKind} {zs : List Int} {w w' : World} (hg : P.globalNamed n = some g) (h : Lib.TabIs P w n k zs) (hb : Below w.heap.size w w') : Lib.TabIs P w' n k zs := by
  unfold Lib.TabIs World.var? at h ⊢
  rw [hg] at h ⊢
  simp only [Option.bind_some] at h ⊢
  have hlt : g < w.heap.size := by
    apply Classical.byContradiction
    intro hge
    rw [Array.getElem?_eq_none (by omega)] at h
    cases h
  rw [hb.block g hlt]
  exact h
/-- The library's variables read as its text lays them. -/
structure Tabs (w : World) : Prop where
  tab : Lib.TabIs Tryd.prog w "strings.asciiSpace" .u8 Lib.asciiSpaceTab
  white : Lib.WhiteTab 2 w
  m : ∃ m, w.cell? ⟨0, 0, none⟩ = some (.int .i64 m)
theorem Tabs.below {w w' : World} (h : Tabs w) (hb : Below w.heap.size w w') : Tabs w' :=
  ⟨tabIs_below (g := 1) (by kernel_rfl) h.tab hb, Go.Proofs.WhiteTab_below h.white hb, by obtain ⟨m, hm⟩ := h.m; exact ⟨m, bcl hb hm⟩⟩
theorem trim15 (s : ByteArray) (w : World) (hs : s.size ≤ 9223372036854775807) : Calls Tryd.prog 47 #[.string s, .string ⟨#[9, 10, 12, 13, 32]⟩] w fun e w' => e = .returned (.string (mkS (trimBl s.data.toList))) ∧ Below w.heap.size w w' := by
  refine (Any.strings_Trim_laid Tryd.lays160 (by kernel_rfl) s ⟨#[9, 10, 12, 13, 32]⟩ w hs (by decide) (ascii_of_all (by decide))).mono ?_
  rintro e w' ⟨he, hb⟩
  refine ⟨?_, hb⟩
  rw [he, ← trim_cut]
  rfl
def tabV : Array Value := ((names.zip joined).flatMap fun p => [Value.string (mkS p.1), Value.string (mkS p.2)]).toArray
def strZ : Value := .string ByteArray.empty
set_option maxRecDepth 100000 in
theorem table17 (w : World) : Calls Tryd.prog 49 #[] w fun e w' => e = .returned (.agg tabV) ∧ w' = w.alloc (.cells tabV 65) := by
  go_enter Tryd.func49, Tryd.ntmps49
  go_wp2_with (first
    | (with_reducible refine step_alloc (o := ⟨some 0, .alloc 65, _, _, _, _⟩) rfl 65 rfl (Array.replicate 14 strZ) ?h1 ?_)
    | (with_reducible refine step_build (o := ⟨some 8, .build 65 _, _, _, _, _⟩) rfl 65 _ rfl tabV ?h2 ?_)
    | (with_reducible refine step_store_new (o := ⟨none, .store 65 _ _, _, _, _, _⟩) rfl 65 _ _ rfl (Array.replicate 14 strZ) tabV ?h3 ?h4 ?h5 ?h6 ?h7 ?_))
  case h1 => as_aux_lemma => kernel_rfl
  case h2 => as_aux_lemma => kernel_rfl
  case h5 => as_aux_lemma => kernel_rfl
  case h6 => as_aux_lemma => kernel_rfl
  case h7 =>
    have hall : (tabV.toList.all fun v => v.oneCell') = true := by as_aux_lemma => kernel_rfl
    exact fun v hv => List.all_eq_true.1 hall v hv
  exact bodyPost_ret (results_cell_row rfl _ _ w.heap.size 65 tabV (0, 0) (.array 7 64) rfl (heap_alloc_new _ _) Tryd.underlying65 rfl (by as_aux_lemma => kernel_rfl)) rfl ⟨rfl, rfl⟩
end Go.Proofs.YtcmhfcnjfhcpdaaDoor
