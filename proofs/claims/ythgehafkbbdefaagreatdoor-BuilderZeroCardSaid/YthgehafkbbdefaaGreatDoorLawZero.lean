/- The law BuilderZero returns true for every token and name; the card ties the listed tables to the program's text. -/
import Derived.Test.YthgehafkbbdefaaGreatDoorZ1
import Derived.Test.YthgehafkbbdefaaGreatDoorCards
import Derived.Test.YthgehafkbbdefaaGreatDoorTie
import Derived.Test.YthgehafkbbdefaaGreatDoorKitW
import Derived.SevenTiedAt
namespace Go.Proofs.YthgehafkbbdefaaGreatDoor
open Go.Joins Go.ChangeShapes Go.WideShapes Go.RowKit Go.Deep Go.ChangeAt
open Go.ChangeMaps (open_string shut_string)
set_option linter.unusedVariables false
set_option maxRecDepth 100000 in
theorem builderZero_lifted (os : Os) (started : os.Started) (H : Type) (enc : TypeId × Value → H) (F : Stop.Interp) :
    ReturnsInHanded {} Tryz.checked os 3 .any ((OpenSpec.ofChange Rows.builderZeroSpec).preRow enc Tryz.prog Tryz.f3 Rows.builderZeroRow.domain false Rows.builderZeroRow.laid) (((OpenSpec.ofChange Rows.builderZeroSpec).at F).post enc Tryz.prog Tryz.f3 false true false false) := by
  have hx0 : (DataW.whole enc Tryz.prog ((World.laidAll Tryz.prog os Rows.builderZeroRow.laid).forCall (fun _ _ => 0) ⟨#[], #[.agg #[.int .i64 0, .string ByteArray.empty, .string ByteArray.empty, .string ByteArray.empty, .int .i64 0, .bool false, .int .i32 0, .bool false, .slice none 0 0], .string ByteArray.empty], []⟩).memory Tryz.f3.params.toList Rows.builderZeroSpec.vars false #[.agg #[.int .i64 0, .string ByteArray.empty, .string ByteArray.empty, .string ByteArray.empty, .int .i64 0, .bool false, .int .i32 0, .bool false, .slice none 0 0], .string ByteArray.empty].toList 8).isSome = true := by kernel_rfl
  have hL0 : laidMetH Tryz.prog Rows.builderZeroRow.laid ((World.laidAll Tryz.prog os Rows.builderZeroRow.laid).forCall (fun _ _ => 0) ⟨#[], #[.agg #[.int .i64 0, .string ByteArray.empty, .string ByteArray.empty, .string ByteArray.empty, .int .i64 0, .bool false, .int .i32 0, .bool false, .slice none 0 0], .string ByteArray.empty], []⟩).memory := by
    rw [MakeChecks.laidMetH_plain _ _ _ (by kernel_rfl)]
    exact laidMet_laidAll _ (by kernel_rfl) (by kernel_rfl)
  refine returnsInHanded_of_row (C := Tryz.checked) (s := (OpenSpec.ofChange Rows.builderZeroSpec)) own started (by kernel_rfl) Tryz.func3
    (wit_row (enc := enc) (C := Tryz.checked) (World.laidAll Tryz.prog os Rows.builderZeroRow.laid) #[.agg #[.int .i64 0, .string ByteArray.empty, .string ByteArray.empty, .string ByteArray.empty, .int .i64 0, .bool false, .int .i32 0, .bool false, .slice none 0 0], .string ByteArray.empty] (World.laidAll_os _ _ _) (World.shaped_of_ZipB (by kernel_rfl) (by kernel_rfl)) (by kernel_rfl)
      (OpenSpec.preRow_of_cond 8 (get_some hx0) (by kernel_rfl) (fun k hk => by cases hk) (by kernel_rfl) hL0)) ?_
  intro W base args ds gs before hval0 hW hcnd hcond hsz0 hL hsh _
  have hsz : (DataW.weightsEach Tryz.prog (Tryz.f3.params.toList ++ Rows.builderZeroSpec.plain.varTypes Tryz.prog) (ds ++ gs)).all (· ≤ reachBytes) = true := hsz0
  have hval : ∀ (j : Nat) t v, Tryz.f3.params[j]? = some t → args[j]? = some v → Value.okWide Tryz.prog W .any base t v := hval0
  have key : Calls Tryz.prog 3 args W fun e W' => ∃ v, e = .returned v ∧ Rows.builderZeroSpec.post enc Tryz.prog Tryz.f3 false true false false W args v W' := by
    have hW' := hW
    obtain ⟨p, q, hA0, hV, rfl, hfz, hnd⟩ := hW
    have hA : DataW.TrodAll enc Tryz.prog W 0 (fun _ => true) true Tryz.f3.params.toList args.toList ds p := hA0
    rw [Tryz.params3] at hA hval hsz
    obtain ⟨v0, vs0, d0, ds0, p0, q0, hargs, rfl, rfl, h0, r0⟩ := trodAll_cons hA
    obtain ⟨v1, vs1, d1, ds1, p1, q1, rfl, rfl, rfl, h1, r1⟩ := trodAll_cons r0
    obtain ⟨rfl, rfl, rfl⟩ := trodAll_nil r1
    obtain rfl : args = #[v0, v1] := by cases args; simp_all
    obtain ⟨rfl, rfl⟩ := trodVars_none hV
    have k0 := h0
    have lt0 := trod_lt k0
    have hv0 := hval 0 24 v0 rfl rfl
    obtain ⟨a0, a1, a2, a3, a4, a5, a6, a7, a8, y0, y1, y2, y3, y4, y5, y6, y7, y8, nn, rfl, hdd, t0, t1, t2, t3, t4, t5, t6, t7, t8⟩ := open_agg9 Tryz.underlying24 (by kernel_rfl) (by kernel_rfl) hv0 h0
    obtain ⟨n0, e0, x0, _⟩ := DataW.trod_int Tryz.underlying3 t0
    obtain ⟨n4, e4, x4, _⟩ := DataW.trod_int Tryz.underlying3 t4
    obtain ⟨n6, e6, x6, _⟩ := DataW.trod_int Tryz.underlying21 t6
    obtain ⟨s1, e1, x1, z1⟩ := DataW.trod_string Tryz.underlying9 t1
    obtain ⟨s2, e2, x2, z2⟩ := DataW.trod_string Tryz.underlying9 t2
    obtain ⟨s3, e3, x3, z3⟩ := DataW.trod_string Tryz.underlying9 t3
    obtain ⟨b5, e5, x5⟩ := DataW.trod_bool Tryz.underlying4 t5
    obtain ⟨b7, e7, x7⟩ := DataW.trod_bool Tryz.underlying4 t7
    obtain ⟨aa, an, ac, e8⟩ := slice_shape Tryz.underlying22 t8
    simp only [List.cons.injEq, and_true] at e0 e1 e2 e3 e4 e5 e6 e7 e8
    subst e0 e1 e2 e3 e4 e5 e6 e7 e8
    have k1 := h1
    have lt1 := trod_lt k1
    have hv1 := hval 1 9 v1 rfl rfl
    obtain ⟨s9, rfl, rfl, rfl, z9⟩ := open_string Tryz.underlying9 hv1 h1
    refine (zero3 n0 n4 n6 s1 s2 s3 s9 b5 b7 aa an ac W).mono fun e W' ⟨he, bel⟩ => ?_
    subst he
    exact ⟨_, rfl, _, _, _, [], _, [], hW', trodAll_mk1 (shut_bool Tryz.underlying4 _), (trodAll_cons_mk (Below.trod laidOut (by kernel_rfl) (of_decide_eq_true (by kernel_rfl)) k0 bel lt0) (trodAll_cons_mk (Below.trod laidOut (by kernel_rfl) (of_decide_eq_true (by kernel_rfl)) k1 bel lt1) trodAll_mk0)), rfl, bel.frame _, fun h => by cases h⟩
  exact key
theorem builderZero_said : Rows.BuilderZeroSaid :=
  OpenClaim.holds_of_cond 3 Tryz.f3 rfl rfl rfl rfl rfl rfl rfl ⟨rfl, rfl, rfl, rfl, rfl⟩ rfl rfl rfl rfl rfl (by kernel_rfl) Tryz.func3 (by kernel_rfl)
    (of_decide_eq_true (by kernel_rfl)) (by unfold Func.isWrapper; first | (rw [if_pos (by decide +kernel)]; kernel_rfl) | (rw [if_neg (by decide +kernel)]; exact ⟨rfl, rfl⟩))
    (fun os started H enc _ F => by rw [OpenClaim.pre_eq_preRow]; exact builderZero_lifted os started H enc F)
theorem builderZero_plain (f : FuncId) (fn : Func) (hf : Tryz.pinned.checked.prog.funcNamed "hornbeam/hornbeamlaw16.BuilderZero" = some f) (hfn : Tryz.pinned.checked.prog.funcs[f]? = some fn) :
    false = Tryz.pinned.checked.prog.looks [] ∧ ∀ (j : Nat) t, fn.params[j]? = some t → Tryz.pinned.checked.prog.wantsStandIn t = false := by
  obtain rfl : f = 3 := Option.some.inj ((show Tryz.prog.funcNamed "hornbeam/hornbeamlaw16.BuilderZero" = some 3 by kernel_rfl).symm.trans hf) |>.symm
  obtain rfl : fn = Tryz.f3 := (Option.some.inj (Tryz.func3.symm.trans hfn)).symm
  refine ⟨by kernel_rfl, fun j t ht => ?_⟩
  rw [Tryz.params3] at ht
  have hm : t ∈ [24, 9] := by simpa using Array.mem_of_getElem? ht
  have hall : ([24, 9].all fun u => !Tryz.prog.wantsStandIn u) = true := by kernel_rfl
  exact (show Tryz.prog.wantsStandIn t = false by simpa using List.all_eq_true.1 hall t hm)
theorem builderZero_card : Rows.BuilderZeroCardSaid :=
  Claim7.holds_tied_plain_at .later [] _ _ _ _ builderZero_said (fun _ h => by cases h) (by kernel_rfl) (fun _ h => by cases h) builderZero_row_tie rfl ⟨rfl, rfl⟩ (by kernel_rfl) rfl builderZero_plain (by kernel_rfl)
#print axioms builderZero_card
end Go.Proofs.YthgehafkbbdefaaGreatDoor
