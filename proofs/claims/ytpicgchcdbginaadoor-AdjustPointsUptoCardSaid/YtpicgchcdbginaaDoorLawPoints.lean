/- The law AdjustPoints returns true for every space, name and list of attributes of bulk at most 1048576 (the second form); the card ties the two listed tables of utf8 to the program's text. -/
import Derived.Test.YtpicgchcdbginaaDoorE7
import Derived.Test.YtpicgchcdbginaaDoorKitBulk
import Derived.Test.YtpicgchcdbginaaDoorCards
import Derived.Test.YtpicgchcdbginaaDoorTie
import Derived.Test.YtpicgchcdbginaaDoorKitW
import Derived.SevenTiedAt
namespace Go.Proofs.YtpicgchcdbginaaDoor
open Go.Joins Go.ChangeShapes Go.WideShapes Go.RowKit Go.Deep Go.ChangeAt
open Go.ChangeMaps (open_string shut_string)
set_option linter.unusedVariables false
set_option maxRecDepth 100000 in
theorem adjustPointsUpto_lifted (os : Os) (started : os.Started) (H : Type) (enc : TypeId × Value → H) (F : Stop.Interp) :
    ReturnsInHanded {} Tryd.checked os 3 .any ((Rows.OpenSpec.upto Rows.adjustPointsSpec).preRow enc Tryd.prog Tryd.f3 Rows.adjustPointsUptoRow.domain false Rows.adjustPointsUptoRow.laid) (((Rows.OpenSpec.upto Rows.adjustPointsSpec).at F).post enc Tryd.prog Tryd.f3 false true false false) := by
  have hx0 : (DataW.whole enc Tryd.prog ((World.laidAll Tryd.prog os Rows.adjustPointsUptoRow.laid).forCall (fun _ _ => 0) ⟨#[], #[.int .i64 0, .string ByteArray.empty, .slice none 0 0], []⟩).memory Tryd.f3.params.toList Rows.adjustPointsSpec.vars false #[.int .i64 0, .string ByteArray.empty, .slice none 0 0].toList 8).isSome = true := by kernel_rfl
  have hL0 : laidMetH Tryd.prog Rows.adjustPointsUptoRow.laid ((World.laidAll Tryd.prog os Rows.adjustPointsUptoRow.laid).forCall (fun _ _ => 0) ⟨#[], #[.int .i64 0, .string ByteArray.empty, .slice none 0 0], []⟩).memory := by
    rw [MakeChecks.laidMetH_plain _ _ _ (by kernel_rfl)]
    exact laidMet_laidAll _ (by kernel_rfl) (by kernel_rfl)
  refine returnsInHanded_of_row (C := Tryd.checked) (s := (Rows.OpenSpec.upto Rows.adjustPointsSpec)) own started (by kernel_rfl) Tryd.func3
    (wit_row (enc := enc) (C := Tryd.checked) (World.laidAll Tryd.prog os Rows.adjustPointsUptoRow.laid) #[.int .i64 0, .string ByteArray.empty, .slice none 0 0] (World.laidAll_os _ _ _) (World.shaped_of_ZipB (by kernel_rfl) (by kernel_rfl)) (by kernel_rfl)
      (OpenSpec.preRow_of_cond 8 (get_some hx0) (by kernel_rfl) (fun k hk => by cases hk; kernel_rfl) (by kernel_rfl) hL0)) ?_
  intro W base args ds gs before hval0 hW hcnd hcond hsz0 hL hsh _
  have hsz : (DataW.weightsEach Tryd.prog (Tryd.f3.params.toList ++ Rows.adjustPointsSpec.plain.varTypes Tryd.prog) (ds ++ gs)).all (· ≤ reachBytes) = true := hsz0
  have hval : ∀ (j : Nat) t v, Tryd.f3.params[j]? = some t → args[j]? = some v → Value.okWide Tryd.prog W .any base t v := hval0
  have hup := hcond _ rfl
  have key : Calls Tryd.prog 3 args W fun e W' => ∃ v, e = .returned v ∧ Rows.adjustPointsSpec.post enc Tryd.prog Tryd.f3 false true false false W args v W' := by
    have hW' := hW
    obtain ⟨p, q, hA0, hV, rfl, hfz, hnd⟩ := hW
    have hA : DataW.TrodAll enc Tryd.prog W 0 (fun _ => true) true Tryd.f3.params.toList args.toList ds p := hA0
    rw [Tryd.params3] at hA hval hsz
    obtain ⟨v0, vs0, d0, ds0, p0, q0, hargs, rfl, rfl, h0, r0⟩ := trodAll_cons hA
    obtain ⟨v1, vs1, d1, ds1, p1, q1, rfl, rfl, rfl, h1, r1⟩ := trodAll_cons r0
    obtain ⟨v2, vs2, d2, ds2, p2, q2, rfl, rfl, rfl, h2, r2⟩ := trodAll_cons r1
    obtain ⟨rfl, rfl, rfl⟩ := trodAll_nil r2
    obtain rfl : args = #[v0, v1, v2] := by cases args; simp_all
    obtain ⟨rfl, rfl⟩ := trodVars_none hV
    have hM : HasM W := cell_of_shapedOpen_int (zero := #[.int .i64 0]) (t := 3) hsh (of_decide_eq_true (by kernel_rfl)) (by kernel_rfl) rfl (by kernel_rfl) (by kernel_rfl) Tryd.underlying3
    have k0 := h0
    have lt0 := trod_lt k0
    have hv0 := hval 0 3 v0 rfl rfl
    obtain ⟨n0, rfl, rfl, rfl, wf0⟩ := open_int Tryd.underlying3 hv0 h0
    have k1 := h1
    have lt1 := trod_lt k1
    have hv1 := hval 1 9 v1 rfl rfl
    obtain ⟨s1, rfl, rfl, rfl, z1⟩ := open_string Tryd.underlying9 hv1 h1
    have k2 := h2
    have lt2 := trod_lt k2
    have hv2 := hval 2 22 v2 rfl rfl
    obtain ⟨oa2, cap2, L2, rfl, hr2, hz2, hd2⟩ := open_attrs hv2 h2
    have hm2 := attrs_sized hsz (j := 2) rfl rfl hd2
    have hS : ∀ x ∈ L2, x.va.size ≤ 35184372088832 := by
      intro x hx
      rcases hd2 with rfl | ⟨elems, sp, rfl, _, hel⟩
      · cases hx
      · obtain ⟨parts, h1, h2⟩ := hel x hx
        have b0 := bulk_most hup
        have b1 := bulk_field (spare := sp) h1 h2
        simp only [List.append_nil, Rows.uptoBulkAll] at b0
        rw [dlen] at b1
        omega
    refine (points3 n0 s1 oa2 cap2 L2 W hr2 hm2 hS hM).mono fun e W' ⟨he, bel⟩ => ?_
    subst he
    exact ⟨_, rfl, _, _, _, [], _, [], hW', trodAll_mk1 (shut_bool Tryd.underlying4 _), (trodAll_cons_mk (Below.trod laidOut (by kernel_rfl) (of_decide_eq_true (by kernel_rfl)) k0 bel lt0) (trodAll_cons_mk (Below.trod laidOut (by kernel_rfl) (of_decide_eq_true (by kernel_rfl)) k1 bel lt1) (trodAll_cons_mk (Below.trod laidOut (by kernel_rfl) (of_decide_eq_true (by kernel_rfl)) k2 bel lt2) trodAll_mk0))), rfl, bel.frame _, fun h => by cases h⟩
  exact key
theorem adjustPointsUpto_said : Rows.AdjustPointsUptoSaid :=
  OpenClaim.holds_of_cond 3 Tryd.f3 rfl rfl rfl rfl rfl rfl rfl ⟨rfl, rfl, rfl, rfl, rfl⟩ rfl rfl rfl rfl rfl (by kernel_rfl) Tryd.func3 (by kernel_rfl)
    (of_decide_eq_true (by kernel_rfl)) (by unfold Func.isWrapper; first | (rw [if_pos (by decide +kernel)]; kernel_rfl) | (rw [if_neg (by decide +kernel)]; exact ⟨rfl, rfl⟩))
    (fun os started H enc _ F => by rw [OpenClaim.pre_eq_preRow]; exact adjustPointsUpto_lifted os started H enc F)
theorem adjustPointsUpto_plain (f : FuncId) (fn : Func) (hf : Tryd.pinned.checked.prog.funcNamed "hornbeam/hornbeamlaw11.AdjustPoints" = some f) (hfn : Tryd.pinned.checked.prog.funcs[f]? = some fn) :
    false = Tryd.pinned.checked.prog.looks [] ∧ ∀ (j : Nat) t, fn.params[j]? = some t → Tryd.pinned.checked.prog.wantsStandIn t = false := by
  obtain rfl : f = 3 := Option.some.inj ((show Tryd.prog.funcNamed "hornbeam/hornbeamlaw11.AdjustPoints" = some 3 by kernel_rfl).symm.trans hf) |>.symm
  obtain rfl : fn = Tryd.f3 := (Option.some.inj (Tryd.func3.symm.trans hfn)).symm
  refine ⟨by kernel_rfl, fun j t ht => ?_⟩
  rw [Tryd.params3] at ht
  have hm : t ∈ [3, 9, 22] := by simpa using Array.mem_of_getElem? ht
  have hall : ([3, 9, 22].all fun u => !Tryd.prog.wantsStandIn u) = true := by kernel_rfl
  exact (show Tryd.prog.wantsStandIn t = false by simpa using List.all_eq_true.1 hall t hm)
theorem adjustPointsUpto_card : Rows.AdjustPointsUptoCardSaid :=
  Claim7.holds_tied_plain_at .later [] _ _ _ _ adjustPointsUpto_said (fun _ h => by cases h) (by kernel_rfl) (fun _ h => by cases h) adjustPointsUpto_row_tie rfl ⟨rfl, rfl⟩ (by kernel_rfl) rfl adjustPointsUpto_plain (by kernel_rfl)
#print axioms adjustPointsUpto_card
end Go.Proofs.YtpicgchcdbginaaDoor
