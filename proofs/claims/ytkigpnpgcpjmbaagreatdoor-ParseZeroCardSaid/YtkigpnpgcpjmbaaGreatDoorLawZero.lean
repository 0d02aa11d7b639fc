/- The law ParseZero returns true for every slice of bytes; the card ties the listed tables to the program's text. -/
import Derived.Test.YtkigpnpgcpjmbaaGreatDoorZ1
import Derived.Test.YtkigpnpgcpjmbaaGreatDoorCards
import Derived.Test.YtkigpnpgcpjmbaaGreatDoorTie
import Derived.Test.YtkigpnpgcpjmbaaGreatDoorKitW
import Derived.SevenTiedAt
import Derived.LaidHandle
namespace Go.Proofs.YtkigpnpgcpjmbaaGreatDoor
open Go.Joins Go.ChangeShapes Go.WideShapes Go.RowKit Go.Deep Go.ChangeAt
open Go.ChangeMaps (open_string shut_string)
set_option linter.unusedVariables false
set_option maxRecDepth 100000 in
theorem parseZero_lifted (os : Os) (started : os.Started) (H : Type) (enc : TypeId × Value → H) (F : Stop.Interp) :
    ReturnsInHanded {} Tryz.checked os 3 .any ((OpenSpec.ofChange Rows.parseZeroSpec).preRow enc Tryz.prog Tryz.f3 Rows.parseZeroRow.domain false Rows.parseZeroRow.laid) (((OpenSpec.ofChange Rows.parseZeroSpec).at F).post enc Tryz.prog Tryz.f3 false true false false) := by
  have hx0 : (DataW.whole enc Tryz.prog ((((World.holding Tryz.prog os ⟨#[], #[], []⟩).setCell ⟨0, 0, none⟩ (.iface 123 (.agg #[typeHandle Tryz.prog 44]))).layVars Tryz.prog (Rows.parseZeroRow.laid.filter fun x => x.2.handleName?.isNone)).forCall (fun _ _ => 0) ⟨#[], #[.slice none 0 0], []⟩).memory Tryz.f3.params.toList Rows.parseZeroSpec.vars false #[.slice none 0 0].toList 8).isSome = true := by kernel_rfl
  have hL0 : laidMetH Tryz.prog Rows.parseZeroRow.laid ((((World.holding Tryz.prog os ⟨#[], #[], []⟩).setCell ⟨0, 0, none⟩ (.iface 123 (.agg #[typeHandle Tryz.prog 44]))).layVars Tryz.prog (Rows.parseZeroRow.laid.filter fun x => x.2.handleName?.isNone)).forCall (fun _ _ => 0) ⟨#[], #[.slice none 0 0], []⟩).memory := by
    exact laidMetH_of_parts (laidMet_layOn _ (by kernel_rfl) (by kernel_rfl)) (by kernel_rfl)
  refine returnsInHanded_of_row (C := Tryz.checked) (s := (OpenSpec.ofChange Rows.parseZeroSpec)) own started (by kernel_rfl) Tryz.func3
    (wit_row (enc := enc) (C := Tryz.checked) (((World.holding Tryz.prog os ⟨#[], #[], []⟩).setCell ⟨0, 0, none⟩ (.iface 123 (.agg #[typeHandle Tryz.prog 44]))).layVars Tryz.prog (Rows.parseZeroRow.laid.filter fun x => x.2.handleName?.isNone)) #[.slice none 0 0] ((World.layVars_os _ _ _).trans rfl) (World.shaped_of_ZipB (by kernel_rfl) (by kernel_rfl)) (by kernel_rfl)
      (OpenSpec.preRow_of_cond 8 (get_some hx0) (by kernel_rfl) (fun k hk => by cases hk) (by kernel_rfl) hL0)) ?_
  intro W base args ds gs before hval0 hW hcnd hcond hsz0 hL hsh _
  have hsz : (DataW.weightsEach Tryz.prog (Tryz.f3.params.toList ++ Rows.parseZeroSpec.plain.varTypes Tryz.prog) (ds ++ gs)).all (· ≤ reachBytes) = true := hsz0
  have hval : ∀ (j : Nat) t v, Tryz.f3.params[j]? = some t → args[j]? = some v → Value.okWide Tryz.prog W .any base t v := hval0
  have key : Calls Tryz.prog 3 args W fun e W' => ∃ v, e = .returned v ∧ Rows.parseZeroSpec.post enc Tryz.prog Tryz.f3 false true false false W args v W' := by
    have hW' := hW
    obtain ⟨p, q, hA0, hV, rfl, hfz, hnd⟩ := hW
    have hA : DataW.TrodAll enc Tryz.prog W 0 (fun _ => true) true Tryz.f3.params.toList args.toList ds p := hA0
    rw [Tryz.params3] at hA hval hsz
    obtain ⟨v0, vs0, d0, ds0, p0, q0, hargs, rfl, rfl, h0, r0⟩ := trodAll_cons hA
    obtain ⟨rfl, rfl, rfl⟩ := trodAll_nil r0
    obtain rfl : args = #[v0] := by cases args; simp_all
    obtain ⟨rfl, rfl⟩ := trodVars_none hV
    have k0 := h0
    have lt0 := trod_lt k0
    have hv0 := hval 0 22 v0 rfl rfl
    refine (zero3 v0 W).mono fun e W' ⟨he, bel⟩ => ?_
    subst he
    exact ⟨_, rfl, _, _, _, [], _, [], hW', trodAll_mk1 (shut_bool Tryz.underlying4 _), (trodAll_cons_mk (Below.trod laidOut (by kernel_rfl) (of_decide_eq_true (by kernel_rfl)) k0 bel lt0) trodAll_mk0), rfl, bel.frame _, fun h => by cases h⟩
  exact key
theorem parseZero_said : Rows.ParseZeroSaid :=
  OpenClaim.holds_of_cond 3 Tryz.f3 rfl rfl rfl rfl rfl rfl rfl ⟨rfl, rfl, rfl, rfl, rfl⟩ rfl rfl rfl rfl rfl (by kernel_rfl) Tryz.func3 (by kernel_rfl)
    (of_decide_eq_true (by kernel_rfl)) (by unfold Func.isWrapper; first | (rw [if_pos (by decide +kernel)]; kernel_rfl) | (rw [if_neg (by decide +kernel)]; exact ⟨rfl, rfl⟩))
    (fun os started H enc _ F => by rw [OpenClaim.pre_eq_preRow]; exact parseZero_lifted os started H enc F)
theorem parseZero_plain (f : FuncId) (fn : Func) (hf : Tryz.pinned.checked.prog.funcNamed "hornbeam/hornbeamlaw18.ParseZero" = some f) (hfn : Tryz.pinned.checked.prog.funcs[f]? = some fn) :
    true = Tryz.pinned.checked.prog.looks [] ∧ ∀ (j : Nat) t, fn.params[j]? = some t → Tryz.pinned.checked.prog.wantsStandIn t = false := by
  obtain rfl : f = 3 := Option.some.inj ((show Tryz.prog.funcNamed "hornbeam/hornbeamlaw18.ParseZero" = some 3 by kernel_rfl).symm.trans hf) |>.symm
  obtain rfl : fn = Tryz.f3 := (Option.some.inj (Tryz.func3.symm.trans hfn)).symm
  refine ⟨by kernel_rfl, fun j t ht => ?_⟩
  rw [Tryz.params3] at ht
  have hm : t ∈ [22] := by simpa using Array.mem_of_getElem? ht
  have hall : ([22].all fun u => !Tryz.prog.wantsStandIn u) = true := by kernel_rfl
  exact (show Tryz.prog.wantsStandIn t = false by simpa using List.all_eq_true.1 hall t hm)
theorem parseZero_card : Rows.ParseZeroCardSaid :=
  Claim7.holds_tied_plain_at .later [] _ _ _ _ parseZero_said (fun _ h => by cases h) (by kernel_rfl) (fun _ h => by cases h) parseZero_row_tie rfl ⟨rfl, rfl⟩ (by kernel_rfl) rfl parseZero_plain (by kernel_rfl)
#print axioms parseZero_card
end Go.Proofs.YtkigpnpgcpjmbaaGreatDoor
