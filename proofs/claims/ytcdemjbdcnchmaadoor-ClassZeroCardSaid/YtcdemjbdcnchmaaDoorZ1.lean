/- The walk of the law that no arena is in the class. -/
import Derived.Test.YtcdemjbdcnchmaaDoorProg
import Derived.Test.YtcdemjbdcnchmaaDoorKitC
import Derived.WalkKit
import Derived.BigCall
namespace Go.Proofs.YtcdemjbdcnchmaaDoor
open Go.RowKit
theorem results_cell_and {P : Program} {fn : Func} {p u : Tmp} {ty : TypeId} (h : fn.results = #[.cell p ty, .tmp u]) (tmps : Array Value) (w : World) (g : Nat) (t : TypeId) (cs : Array Value) (fr : Nat × Nat) (d : TypeDesc)
    (hp : tmps.getD p undef = .pointer (some ⟨g, 0, none⟩)) (hg : w.heap[g]? = some (.cells cs t fr))
    (hu : P.underlying ty = some d) (hd : (match d with | .struct _ | .array _ _ => true | _ => false) = true) (hi : (P.info? ty).map (·.size) = some cs.size) :
    (results fn tmps).run P w = .ok (.tuple #[.agg cs, tmps.getD u undef]) w := by
  rw [results_cell_tmp h, hp]
  simp only [asAddr, Sem.run_pure, Result.andThen_ok, run_loadVar_row w g t ty cs fr d hg hu hd hi]
theorem results_cell_bool {P : Program} {fn : Func} {p : Tmp} {ty : TypeId} (h : fn.results = #[.cell p ty]) (tmps : Array Value) (w : World) (a : Addr) (v : Value)
    (hp : tmps.getD p undef = .pointer (some a)) (hc : w.cell? a = some v) (hu : P.underlying ty = some .bool) : (results fn tmps).run P w = .ok v w := by
  have hp' : tmps[p]?.getD undef = .pointer (some a) := by simpa using hp
  have hi : (isAgg ty).run P w = .ok false w := by simp [isAgg, run_underlying hu]
  simp [results, h, hp', asAddr, loadVar, hi, hc]
abbrev nodeV : Array Value := #[.int .i64 0, .int .i64 0, .string ⟨#[]⟩, .slice none 0 0, .string ⟨#[]⟩, .string ⟨#[]⟩, .int .i64 0, .int .i64 0, .int .i64 0, .int .i64 0, .int .i64 0, .int .i64 0]
theorem none15 (w : World) : Calls Tryd.prog 15 #[.pointer none] w fun e w' => e = .returned (.bool true) ∧ w' = w := by
  go_enter Tryd.func15, Tryd.ntmps15
  go_wp2
  go_ret
  exact ⟨rfl, rfl⟩
theorem len6 (w : World) : Calls Tryd.prog 6 #[.pointer none] w fun e w' => e = .returned (.int .i64 0) ∧ w' = w := by
  go_enter Tryd.func6, Tryd.ntmps6
  go_wp2_with (go_at_call 15; (with_reducible refine (none15 _).mono ?_); rintro e w1 ⟨rfl, rfl⟩)
  go_ret
  exact ⟨rfl, rfl⟩
theorem text4 (w : World) : Calls Tryd.prog 4 #[.pointer none] w fun e w' => e = .returned (.tuple #[.string ⟨#[]⟩, .int .i64 7]) ∧ w' = w := by
  go_enter Tryd.func4, Tryd.ntmps4
  go_wp2_with (go_at_call 6; (with_reducible refine (len6 _).mono ?_); rintro e w1 ⟨rfl, rfl⟩)
  go_ret2
  exact ⟨rfl, rfl⟩
theorem node7 (i : Int) (w : World) : Calls Tryd.prog 7 #[.pointer none, .int .i64 i] w fun e w' => e = .returned (.tuple #[.agg nodeV, .int .i64 7]) ∧ Below w.heap.size w w' := by
  go_enter Tryd.func7, Tryd.ntmps7
  go_wp2_with (go_at_call 15; (with_reducible refine (none15 _).mono ?_); rintro e w1 ⟨rfl, rfl⟩)
  exact bodyPost_ret (results_cell_and rfl _ _ w.heap.size 31 nodeV (0, 0) _ rfl (at_new _ _ _ rfl) Tryd.underlying31 rfl (by kernel_rfl)) rfl ⟨rfl, bal (Below.refl _ _) _⟩
theorem in5 (w : World) : Calls Tryd.prog 5 #[.pointer none] w fun e w' => e = .returned (.bool false) ∧ Below w.heap.size w w' := by
  go_enter Tryd.func5, Tryd.ntmps5
  go_wp2_with (first
    | (go_at_call 7; (with_reducible refine (node7 _ _).mono ?_); rintro e w1 ⟨rfl, hb1⟩; have hq1 := bblk hb1 (at_old (at_new w _ w.heap.size rfl) _); have hz1 := bblk hb1 (at_new _ _ (w.heap.size + 1) (by simp)); have hc1 := blk_cells hq1; have hd1 := blk_cells hz1; have hl1 := blk_lt hz1; have hf1 := blk_free hz1; have hl0 := blk_lt hq1; have hB1 := btr (bal (bal (Below.refl w.heap.size w) _) _) hb1)
    | (go_at_call 6; (with_reducible refine (len6 _).mono ?_); rintro e w2 ⟨rfl, rfl⟩))
  have hc2 : ((w1.setCell ⟨w.heap.size + 1, 0, none⟩ (.bool false)).alloc (.cells nodeV 31)).cell? ⟨w.heap.size + 1, 0, none⟩ = some (.bool false) := cell_alloc (World.cell?_setCell_same _ _ _ (hd1 0)) _
  exact bodyPost_ret (results_cell_bool rfl _ _ _ _ rfl hc2 Tryd.underlying4) rfl ⟨rfl, bal (hB1.setCell (p := ⟨w.heap.size + 1, 0, none⟩) (by simp) _) _⟩
theorem zero3 (s : ByteArray) (w : World) : Calls Tryd.prog 3 #[.string s] w fun e w' => e = .returned (.bool true) ∧ Below w.heap.size w w' := by
  go_enter Tryd.func3, Tryd.ntmps3
  go_wp2_with (first
    | (go_at_call 4; (with_reducible refine (text4 _).mono ?_); rintro e w1 ⟨rfl, rfl⟩)
    | (go_at_call 5; (with_reducible refine (in5 _).mono ?_); rintro e w2 ⟨rfl, hb2⟩))
  go_ret
  exact ⟨rfl, hb2⟩
end Go.Proofs.YtcdemjbdcnchmaaDoor
