/- The law LabelNames returns true for every encoding; the card ties the listed variables to the program's text. -/
import Derived.Test.YtnphjniefklnaaaDoorL7
import Derived.Test.YtnphjniefklnaaaDoorCards
import Derived.Test.YtnphjniefklnaaaDoorTie
import Derived.Test.YtnphjniefklnaaaDoorKitW
import Derived.SevenTiedAt
namespace Go.Proofs.YtnphjniefklnaaaDoor
open Go.Joins Go.ChangeShapes Go.WideShapes Go.RowKit Go.Deep Go.ChangeAt
open Go.ChangeMaps (open_string shut_string)
set_option linter.unusedVariables false
set_option maxRecDepth 100000 in
theorem labelNames_lifted (os : Os) (started : os.Started) (H : Type) (enc : TypeId × Value → H) (F : Stop.Interp) :
    ReturnsInHanded {} Tryd.checked os 7 .any ((OpenSpec.ofChange Rows.labelNamesSpec).preRow enc Tryd.prog Tryd.f7 Rows.labelNamesRow.domain false Rows.labelNamesRow.laid) (((OpenSpec.ofChange Rows.labelNamesSpec).at F).post enc Tryd.prog Tryd.f7 false true false false) := by
  have hx0 : (DataW.whole enc Tryd.prog ((World.laidAll Tryd.prog os Rows.labelNamesRow.laid).forCall (fun _ _ => 0) ⟨#[], #[.int .i64 0], []⟩).memory Tryd.f7.params.toList Rows.labelNamesSpec.vars false #[.int .i64 0].toList 8).isSome = true := by kernel_rfl
  have hL0 : laidMetH Tryd.prog Rows.labelNamesRow.laid ((World.laidAll Tryd.prog os Rows.labelNamesRow.laid).forCall (fun _ _ => 0) ⟨#[], #[.int .i64 0], []⟩).memory := by
    rw [MakeChecks.laidMetH_plain _ _ _ (by kernel_rfl)]
    exact laidMet_laidAll _ (by kernel_rfl) (by kernel_rfl)
  refine returnsInHanded_of_row (C := Tryd.checked) (s := (OpenSpec.ofChange Rows.labelNamesSpec)) own started (by kernel_rfl) Tryd.func7
    (wit_row (enc := enc) (C := Tryd.checked) (World.laidAll Tryd.prog os Rows.labelNamesRow.laid) #[.int .i64 0] (World.laidAll_os _ _ _) (World.shaped_of_ZipB (by kernel_rfl) (by kernel_rfl)) (by kernel_rfl)
      (OpenSpec.preRow_of_cond 8 (get_some hx0) (by kernel_rfl) (fun k hk => by cases hk) (by kernel_rfl) hL0)) ?_
  intro W base args ds gs before hval0 hW hcnd hcond hsz0 hL hsh _
  have hsz : (DataW.weightsEach Tryd.prog (Tryd.f7.params.toList ++ Rows.labelNamesSpec.plain.varTypes Tryd.prog) (ds ++ gs)).all (· ≤ reachBytes) = true := hsz0
  have hval : ∀ (j : Nat) t v, Tryd.f7.params[j]? = some t → args[j]? = some v → Value.okWide Tryd.prog W .any base t v := hval0
  have key : Calls Tryd.prog 7 args W fun e W' => ∃ v, e = .returned v ∧ Rows.labelNamesSpec.post enc Tryd.prog Tryd.f7 false true false false W args v W' := by
    have hW' := hW
    obtain ⟨p, q, hA0, hV, rfl, hfz, hnd⟩ := hW
    have hA : DataW.TrodAll enc Tryd.prog W 0 (fun _ => true) true Tryd.f7.params.toList args.toList ds p := hA0
    rw [Tryd.params7] at hA hval hsz
    obtain ⟨v0, vs0, d0, ds0, p0, q0, hargs, rfl, rfl, h0, r0⟩ := trodAll_cons hA
    obtain ⟨rfl, rfl, rfl⟩ := trodAll_nil r0
    obtain rfl : args = #[v0] := by cases args; simp_all
    obtain ⟨rfl, rfl⟩ := trodVars_none hV
    have hT : Tabs W := tabs_of hL (by kernel_rfl) (List.Mem.tail _ (List.Mem.tail _ (List.Mem.head _))) (List.Mem.tail _ (List.Mem.head _)) (cell_of_shapedOpen_int (zero := #[.int .i64 0]) (t := 3) hsh (of_decide_eq_true (by kernel_rfl)) (by kernel_rfl) rfl (by kernel_rfl) (by kernel_rfl) Tryd.underlying3)
    have k0 := h0
    have lt0 := trod_lt k0
    have hv0 := hval 0 3 v0 rfl rfl
    obtain ⟨n0, rfl, rfl, rfl, wf0⟩ := open_int Tryd.underlying3 hv0 h0
    refine (labelNames7 n0 W hT).mono fun e W' ⟨he, bel⟩ => ?_
    subst he
    exact ⟨_, rfl, _, _, _, [], _, [], hW', trodAll_mk1 (shut_bool Tryd.underlying4 _), (trodAll_cons_mk (Below.trod laidOut (by kernel_rfl) (of_decide_eq_true (by kernel_rfl)) k0 bel lt0) trodAll_mk0), rfl, bel.frame _, fun h => by cases h⟩
  exact key
theorem labelNames_said : Rows.LabelNamesSaid :=
  OpenClaim.holds_of_cond 7 Tryd.f7 rfl rfl rfl rfl rfl rfl rfl ⟨rfl, rfl, rfl, rfl, rfl⟩ rfl rfl rfl rfl rfl (by kernel_rfl) Tryd.func7 (by kernel_rfl)
    (of_decide_eq_true (by kernel_rfl)) (by unfold Func.isWrapper; first | (rw [if_pos (by decide +kernel)]; kernel_rfl) | (rw [if_neg (by decide +kernel)]; exact ⟨rfl, rfl⟩))
    (fun os started H enc _ F => by rw [OpenClaim.pre_eq_preRow]; exact labelNames_lifted os started H enc F)
theorem labelNames_plain (f : FuncId) (fn : Func) (hf : Tryd.pinned.checked.prog.funcNamed "hornbeam/hornbeamlaw04.LabelNames" = some f) (hfn : Tryd.pinned.checked.prog.funcs[f]? = some fn) :
    false = Tryd.pinned.checked.prog.looks [] ∧ ∀ (j : Nat) t, fn.params[j]? = some t → Tryd.pinned.checked.prog.wantsStandIn t = false := by
  obtain rfl : f = 7 := Option.some.inj ((show Tryd.prog.funcNamed "hornbeam/hornbeamlaw04.LabelNames" = some 7 by kernel_rfl).symm.trans hf) |>.symm
  obtain rfl : fn = Tryd.f7 := (Option.some.inj (Tryd.func7.symm.trans hfn)).symm
  refine ⟨by kernel_rfl, fun j t ht => ?_⟩
  rw [Tryd.params7] at ht
  have hm : t ∈ [3] := by simpa using Array.mem_of_getElem? ht
  have hall : ([3].all fun u => !Tryd.prog.wantsStandIn u) = true := by kernel_rfl
  exact (show Tryd.prog.wantsStandIn t = false by simpa using List.all_eq_true.1 hall t hm)
theorem labelNames_card : Rows.LabelNamesCardSaid :=
  Claim7.holds_tied_plain_at .later [] _ _ _ _ labelNames_said (fun _ h => by cases h) (by kernel_rfl) (fun _ h => by cases h) labelNames_row_tie rfl ⟨rfl, rfl⟩ (by kernel_rfl) rfl labelNames_plain (by kernel_rfl)
#print axioms labelNames_card
end Go.Proofs.YtnphjniefklnaaaDoor
