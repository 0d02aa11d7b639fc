/- The law SniffContents returns true for every text (of bulk at most 1048576: the second form); the card ties the listed variables to the program's text. -/
import Derived.Test.YtcmhfcnjfhcpdaaDoorD3
import Derived.Test.YtcmhfcnjfhcpdaaDoorC9
import Derived.Test.YtcmhfcnjfhcpdaaDoorKitR
import Derived.Test.YtcmhfcnjfhcpdaaDoorCards
import Derived.Test.YtcmhfcnjfhcpdaaDoorTie
import Derived.Test.YtcmhfcnjfhcpdaaDoorKitW
import Derived.SevenTiedAt
namespace Go.Proofs.YtcmhfcnjfhcpdaaDoor
open Go.Joins Go.ChangeShapes Go.WideShapes Go.RowKit Go.Deep Go.ChangeAt
open Go.ChangeMaps (open_string shut_string)
set_option linter.unusedVariables false
set_option maxRecDepth 100000 in
theorem sniffContentsUpto_lifted (os : Os) (started : os.Started) (H : Type) (enc : TypeId × Value → H) (F : Stop.Interp) :
    ReturnsInHanded {} Tryd.checked os 3 .any ((Rows.OpenSpec.upto Rows.sniffContentsSpec).preRow enc Tryd.prog Tryd.f3 Rows.sniffContentsUptoRow.domain false Rows.sniffContentsUptoRow.laid) (((Rows.OpenSpec.upto Rows.sniffContentsSpec).at F).post enc Tryd.prog Tryd.f3 false true false false) := by
  have hx0 : (DataW.whole enc Tryd.prog ((World.laidAll Tryd.prog os Rows.sniffContentsUptoRow.laid).forCall (fun _ _ => 0) ⟨#[], #[.string ByteArray.empty], []⟩).memory Tryd.f3.params.toList Rows.sniffContentsSpec.vars false #[.string ByteArray.empty].toList 8).isSome = true := by kernel_rfl
  have hL0 : laidMetH Tryd.prog Rows.sniffContentsUptoRow.laid ((World.laidAll Tryd.prog os Rows.sniffContentsUptoRow.laid).forCall (fun _ _ => 0) ⟨#[], #[.string ByteArray.empty], []⟩).memory := by
    rw [MakeChecks.laidMetH_plain _ _ _ (by kernel_rfl)]
    exact laidMet_laidAll _ (by kernel_rfl) (by kernel_rfl)
  refine returnsInHanded_of_row (C := Tryd.checked) (s := (Rows.OpenSpec.upto Rows.sniffContentsSpec)) own started (by kernel_rfl) Tryd.func3
    (wit_row (enc := enc) (C := Tryd.checked) (World.laidAll Tryd.prog os Rows.sniffContentsUptoRow.laid) #[.string ByteArray.empty] (World.laidAll_os _ _ _) (World.shaped_of_ZipB (by kernel_rfl) (by kernel_rfl)) (by kernel_rfl)
      (OpenSpec.preRow_of_cond 8 (get_some hx0) (by kernel_rfl) (fun k hk => by cases hk; kernel_rfl) (by kernel_rfl) hL0)) ?_
  intro W base args ds gs before hval0 hW hcnd hcond hsz0 hL hsh _
  have hsz : (DataW.weightsEach Tryd.prog (Tryd.f3.params.toList ++ Rows.sniffContentsSpec.plain.varTypes Tryd.prog) (ds ++ gs)).all (· ≤ reachBytes) = true := hsz0
  have hval : ∀ (j : Nat) t v, Tryd.f3.params[j]? = some t → args[j]? = some v → Value.okWide Tryd.prog W .any base t v := hval0
  have hup := hcond _ rfl
  have key : Calls Tryd.prog 3 args W fun e W' => ∃ v, e = .returned v ∧ Rows.sniffContentsSpec.post enc Tryd.prog Tryd.f3 false true false false W args v W' := by
    have hW' := hW
    obtain ⟨p, q, hA0, hV, rfl, hfz, hnd⟩ := hW
    have hA : DataW.TrodAll enc Tryd.prog W 0 (fun _ => true) true Tryd.f3.params.toList args.toList ds p := hA0
    rw [Tryd.params3] at hA hval hsz
    obtain ⟨v0, vs0, d0, ds0, p0, q0, hargs, rfl, rfl, h0, r0⟩ := trodAll_cons hA
    obtain ⟨rfl, rfl, rfl⟩ := trodAll_nil r0
    obtain rfl : args = #[v0] := by cases args; simp_all
    obtain ⟨rfl, rfl⟩ := trodVars_none hV
    have hT : Tabs W := tabs_of hL (by kernel_rfl) (List.Mem.tail _ (List.Mem.tail _ (List.Mem.head _))) (List.Mem.tail _ (List.Mem.head _)) (cell_of_shapedOpen_int (zero := #[.int .i64 0]) (t := 3) hsh (of_decide_eq_true (by kernel_rfl)) (by kernel_rfl) rfl (by kernel_rfl) (by kernel_rfl) Tryd.underlying3)
    have k0 := h0
    have lt0 := trod_lt k0
    have hv0 := hval 0 9 v0 rfl rfl
    obtain ⟨s0, rfl, rfl, rfl, z0⟩ := open_string Tryd.underlying9 hv0 h0
    have hb0 := bulk_str hup (L := s0.data.toList) (by simp)
    rw [dlen] at hb0
    refine (contents3 s0 W (by omega) hT).mono fun e W' ⟨he, bel⟩ => ?_
    subst he
    exact ⟨_, rfl, _, _, _, [], _, [], hW', trodAll_mk1 (shut_bool Tryd.underlying4 _), (trodAll_cons_mk (Below.trod laidOut (by kernel_rfl) (of_decide_eq_true (by kernel_rfl)) k0 bel lt0) trodAll_mk0), rfl, bel.frame _, fun h => by cases h⟩
  exact key
theorem sniffContentsUpto_said : Rows.SniffContentsUptoSaid :=
  OpenClaim.holds_of_cond 3 Tryd.f3 rfl rfl rfl rfl rfl rfl rfl ⟨rfl, rfl, rfl, rfl, rfl⟩ rfl rfl rfl rfl rfl (by kernel_rfl) Tryd.func3 (by kernel_rfl)
    (of_decide_eq_true (by kernel_rfl)) (by unfold Func.isWrapper; first | (rw [if_pos (by decide +kernel)]; kernel_rfl) | (rw [if_neg (by decide +kernel)]; exact ⟨rfl, rfl⟩))
    (fun os started H enc _ F => by rw [OpenClaim.pre_eq_preRow]; exact sniffContentsUpto_lifted os started H enc F)
theorem sniffContentsUpto_plain (f : FuncId) (fn : Func) (hf : Tryd.pinned.checked.prog.funcNamed "hornbeam/hornbeamlaw06.SniffContents" = some f) (hfn : Tryd.pinned.checked.prog.funcs[f]? = some fn) :
    false = Tryd.pinned.checked.prog.looks [] ∧ ∀ (j : Nat) t, fn.params[j]? = some t → Tryd.pinned.checked.prog.wantsStandIn t = false := by
  obtain rfl : f = 3 := Option.some.inj ((show Tryd.prog.funcNamed "hornbeam/hornbeamlaw06.SniffContents" = some 3 by kernel_rfl).symm.trans hf) |>.symm
  obtain rfl : fn = Tryd.f3 := (Option.some.inj (Tryd.func3.symm.trans hfn)).symm
  refine ⟨by kernel_rfl, fun j t ht => ?_⟩
  rw [Tryd.params3] at ht
  have hm : t ∈ [9] := by simpa using Array.mem_of_getElem? ht
  have hall : ([9].all fun u => !Tryd.prog.wantsStandIn u) = true := by kernel_rfl
  exact (show Tryd.prog.wantsStandIn t = false by simpa using List.all_eq_true.1 hall t hm)
theorem sniffContentsUpto_card : Rows.SniffContentsUptoCardSaid :=
  Claim7.holds_tied_plain_at .later [] _ _ _ _ sniffContentsUpto_said (fun _ h => by cases h) (by kernel_rfl) (fun _ h => by cases h) sniffContentsUpto_row_tie rfl ⟨rfl, rfl⟩ (by kernel_rfl) rfl sniffContentsUpto_plain (by kernel_rfl)
#print axioms sniffContentsUpto_card
end Go.Proofs.YtcmhfcnjfhcpdaaDoor
