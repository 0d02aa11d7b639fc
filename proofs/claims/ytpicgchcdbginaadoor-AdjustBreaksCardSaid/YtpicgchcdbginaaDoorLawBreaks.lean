/- The law AdjustBreaks returns true for every token; the card ties the two listed tables of utf8 to the program's text. -/
import Derived.Test.YtpicgchcdbginaaDoorE4
import Derived.Test.YtpicgchcdbginaaDoorCards
import Derived.Test.YtpicgchcdbginaaDoorTie
import Derived.Test.YtpicgchcdbginaaDoorKitW
import Derived.SevenTiedAt
namespace Go.Proofs.YtpicgchcdbginaaDoor
open Go.Joins Go.ChangeShapes Go.WideShapes Go.RowKit Go.Deep Go.ChangeAt
open Go.ChangeMaps (open_string shut_string)
set_option linter.unusedVariables false
set_option maxRecDepth 100000 in
theorem adjustBreaks_lifted (os : Os) (started : os.Started) (H : Type) (enc : TypeId × Value → H) (F : Stop.Interp) :
    ReturnsInHanded {} Tryd.checked os 4 .any ((OpenSpec.ofChange Rows.adjustBreaksSpec).preRow enc Tryd.prog Tryd.f4 Rows.adjustBreaksRow.domain false Rows.adjustBreaksRow.laid) (((OpenSpec.ofChange Rows.adjustBreaksSpec).at F).post enc Tryd.prog Tryd.f4 false true false false) := by
  have hx0 : (DataW.whole enc Tryd.prog ((World.laidAll Tryd.prog os Rows.adjustBreaksRow.laid).forCall (fun _ _ => 0) ⟨#[], #[.agg #[.int .i64 0, .string ByteArray.empty, .string ByteArray.empty, .string ByteArray.empty, .int .i64 0, .bool false, .int .i32 0, .bool false, .slice none 0 0]], []⟩).memory Tryd.f4.params.toList Rows.adjustBreaksSpec.vars false #[.agg #[.int .i64 0, .string ByteArray.empty, .string ByteArray.empty, .string ByteArray.empty, .int .i64 0, .bool false, .int .i32 0, .bool false, .slice none 0 0]].toList 8).isSome = true := by kernel_rfl
  have hL0 : laidMetH Tryd.prog Rows.adjustBreaksRow.laid ((World.laidAll Tryd.prog os Rows.adjustBreaksRow.laid).forCall (fun _ _ => 0) ⟨#[], #[.agg #[.int .i64 0, .string ByteArray.empty, .string ByteArray.empty, .string ByteArray.empty, .int .i64 0, .bool false, .int .i32 0, .bool false, .slice none 0 0]], []⟩).memory := by
    rw [MakeChecks.laidMetH_plain _ _ _ (by kernel_rfl)]
    exact laidMet_laidAll _ (by kernel_rfl) (by kernel_rfl)
  refine returnsInHanded_of_row (C := Tryd.checked) (s := (OpenSpec.ofChange Rows.adjustBreaksSpec)) own started (by kernel_rfl) Tryd.func4
    (wit_row (enc := enc) (C := Tryd.checked) (World.laidAll Tryd.prog os Rows.adjustBreaksRow.laid) #[.agg #[.int .i64 0, .string ByteArray.empty, .string ByteArray.empty, .string ByteArray.empty, .int .i64 0, .bool false, .int .i32 0, .bool false, .slice none 0 0]] (World.laidAll_os _ _ _) (World.shaped_of_ZipB (by kernel_rfl) (by kernel_rfl)) (by kernel_rfl)
      (OpenSpec.preRow_of_cond 8 (get_some hx0) (by kernel_rfl) (fun k hk => by cases hk) (by kernel_rfl) hL0)) ?_
  intro W base args ds gs before hval0 hW hcnd hcond hsz0 hL hsh _
  have hsz : (DataW.weightsEach Tryd.prog (Tryd.f4.params.toList ++ Rows.adjustBreaksSpec.plain.varTypes Tryd.prog) (ds ++ gs)).all (· ≤ reachBytes) = true := hsz0
  have hval : ∀ (j : Nat) t v, Tryd.f4.params[j]? = some t → args[j]? = some v → Value.okWide Tryd.prog W .any base t v := hval0
  have key : Calls Tryd.prog 4 args W fun e W' => ∃ v, e = .returned v ∧ Rows.adjustBreaksSpec.post enc Tryd.prog Tryd.f4 false true false false W args v W' := by
    have hW' := hW
    obtain ⟨p, q, hA0, hV, rfl, hfz, hnd⟩ := hW
    have hA : DataW.TrodAll enc Tryd.prog W 0 (fun _ => true) true Tryd.f4.params.toList args.toList ds p := hA0
    rw [Tryd.params4] at hA hval hsz
    obtain ⟨v0, vs0, d0, ds0, p0, q0, hargs, rfl, rfl, h0, r0⟩ := trodAll_cons hA
    obtain ⟨rfl, rfl, rfl⟩ := trodAll_nil r0
    obtain rfl : args = #[v0] := by cases args; simp_all
    obtain ⟨rfl, rfl⟩ := trodVars_none hV
    have hM : HasM W := cell_of_shapedOpen_int (zero := #[.int .i64 0]) (t := 3) hsh (of_decide_eq_true (by kernel_rfl)) (by kernel_rfl) rfl (by kernel_rfl) (by kernel_rfl) Tryd.underlying3
    have k0 := h0
    have lt0 := trod_lt k0
    have hv0 := hval 0 27 v0 rfl rfl
    obtain ⟨a0, a1, a2, a3, a4, a5, a6, a7, a8, y0, y1, y2, y3, y4, y5, y6, y7, y8, nn, rfl, hdd, t0, t1, t2, t3, t4, t5, t6, t7, t8⟩ := open_agg9 Tryd.underlying27 (by kernel_rfl) (by kernel_rfl) hv0 h0
    obtain ⟨n0, e0, x0, _⟩ := DataW.trod_int Tryd.underlying3 t0
    obtain ⟨n4, e4, x4, _⟩ := DataW.trod_int Tryd.underlying3 t4
    obtain ⟨n6, e6, x6, _⟩ := DataW.trod_int Tryd.underlying21 t6
    obtain ⟨s1, e1, x1, z1⟩ := DataW.trod_string Tryd.underlying9 t1
    obtain ⟨s2, e2, x2, z2⟩ := DataW.trod_string Tryd.underlying9 t2
    obtain ⟨s3, e3, x3, z3⟩ := DataW.trod_string Tryd.underlying9 t3
    obtain ⟨b5, e5, x5⟩ := DataW.trod_bool Tryd.underlying4 t5
    obtain ⟨b7, e7, x7⟩ := DataW.trod_bool Tryd.underlying4 t7
    obtain ⟨aa, an, ac, e8⟩ := slice_shape Tryd.underlying22 t8
    simp only [List.cons.injEq, and_true] at e0 e1 e2 e3 e4 e5 e6 e7 e8
    subst e0 e1 e2 e3 e4 e5 e6 e7 e8
    obtain ⟨L, rfl, hrA, hzA, hdA⟩ := open_attrs_of t8
    have hmA := attrs_sized_field (i := 8) hsz (j := 0) (t := 27) rfl (by rw [hdd]; rfl) Tryd.underlying27 rfl rfl rfl hdA
    refine (breaks4 n0 n4 n6 s1 s2 s3 b5 b7 aa ac L W hrA hmA hM).mono fun e W' ⟨he, bel⟩ => ?_
    subst he
    exact ⟨_, rfl, _, _, _, [], _, [], hW', trodAll_mk1 (shut_bool Tryd.underlying4 _), (trodAll_cons_mk (Below.trod laidOut (by kernel_rfl) (of_decide_eq_true (by kernel_rfl)) k0 bel lt0) trodAll_mk0), rfl, bel.frame _, fun h => by cases h⟩
  exact key
theorem adjustBreaks_said : Rows.AdjustBreaksSaid :=
  OpenClaim.holds_of_cond 4 Tryd.f4 rfl rfl rfl rfl rfl rfl rfl ⟨rfl, rfl, rfl, rfl, rfl⟩ rfl rfl rfl rfl rfl (by kernel_rfl) Tryd.func4 (by kernel_rfl)
    (of_decide_eq_true (by kernel_rfl)) (by unfold Func.isWrapper; first | (rw [if_pos (by decide +kernel)]; kernel_rfl) | (rw [if_neg (by decide +kernel)]; exact ⟨rfl, rfl⟩))
    (fun os started H enc _ F => by rw [OpenClaim.pre_eq_preRow]; exact adjustBreaks_lifted os started H enc F)
theorem adjustBreaks_plain (f : FuncId) (fn : Func) (hf : Tryd.pinned.checked.prog.funcNamed "hornbeam/hornbeamlaw11.AdjustBreaks" = some f) (hfn : Tryd.pinned.checked.prog.funcs[f]? = some fn) :
    false = Tryd.pinned.checked.prog.looks [] ∧ ∀ (j : Nat) t, fn.params[j]? = some t → Tryd.pinned.checked.prog.wantsStandIn t = false := by
  obtain rfl : f = 4 := Option.some.inj ((show Tryd.prog.funcNamed "hornbeam/hornbeamlaw11.AdjustBreaks" = some 4 by kernel_rfl).symm.trans hf) |>.symm
  obtain rfl : fn = Tryd.f4 := (Option.some.inj (Tryd.func4.symm.trans hfn)).symm
  refine ⟨by kernel_rfl, fun j t ht => ?_⟩
  rw [Tryd.params4] at ht
  have hm : t ∈ [27] := by simpa using Array.mem_of_getElem? ht
  have hall : ([27].all fun u => !Tryd.prog.wantsStandIn u) = true := by kernel_rfl
  exact (show Tryd.prog.wantsStandIn t = false by simpa using List.all_eq_true.1 hall t hm)
theorem adjustBreaks_card : Rows.AdjustBreaksCardSaid :=
  Claim7.holds_tied_plain_at .later [] _ _ _ _ adjustBreaks_said (fun _ h => by cases h) (by kernel_rfl) (fun _ h => by cases h) adjustBreaks_row_tie rfl ⟨rfl, rfl⟩ (by kernel_rfl) rfl adjustBreaks_plain (by kernel_rfl)
#print axioms adjustBreaks_card
end Go.Proofs.YtpicgchcdbginaaDoor
