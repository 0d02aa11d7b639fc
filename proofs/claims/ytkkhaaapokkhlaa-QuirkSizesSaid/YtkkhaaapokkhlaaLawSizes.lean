/- The law QuirkSizes returns true for every doctype token: its mode does not hang on the size of its letters, a good one is in no quirks; no condition but the form's own. -/
import Derived.Test.YtkkhaaapokkhlaaRows
import Derived.Test.YtkkhaaapokkhlaaKitR
import Derived.Test.YtkkhaaapokkhlaaW8
namespace Go.Proofs.Ytkkhaaapokkhlaa
open Go.Joins Go.ChangeShapes Go.WideShapes Go.RowKit Go.Deep Go.ChangeAt
open Go.ChangeMaps (open_string shut_string)
set_option linter.unusedVariables false

set_option maxRecDepth 100000 in
theorem quirkSizes_lifted (os : Os) (started : os.Started) (H : Type) (enc : TypeId × Value → H) :
    ReturnsInHanded {} Try.checked os 4 .any (Rows.quirkSizesSpec.pre6 enc Try.prog Try.f4 Rows.quirkSizesRow.domain false) (Rows.quirkSizesSpec.post enc Try.prog Try.f4 false true false false) := by
  refine returnsInHanded_of_change_sized (C := Try.checked) own started (by kernel_rfl) Try.func4
    (ChangeSpec.witness6 (enc := enc) (C := Try.checked) false ⟨#[], #[.agg #[.int .i64 0, .string ByteArray.empty, .string ByteArray.empty, .string ByteArray.empty, .int .i64 0, .bool false, .int .i32 0, .bool false, .slice none 0 0]], []⟩ 8 (by kernel_rfl) (by kernel_rfl) (by kernel_rfl) (by kernel_rfl)) ?_
  intro W base args ds gs before hval0 hW hcnd hsz0 _
  have hsz : (DataW.weightsEach Try.prog (Try.f4.params.toList ++ Rows.quirkSizesSpec.plain.varTypes Try.prog) (ds ++ gs)).all (· ≤ reachBytes) = true := hsz0
  have hval : ∀ (j : Nat) t v, Try.f4.params[j]? = some t → args[j]? = some v → Value.okWide Try.prog W .any base t v := hval0
  have hW' := hW
  obtain ⟨p, q, hA0, hV, rfl, hfz, hnd⟩ := hW
  have hA : DataW.TrodAll enc Try.prog W 0 (fun _ => true) true Try.f4.params.toList args.toList ds p := hA0
  rw [Try.params4] at hA hval hsz
  obtain ⟨v0, vs0, d0, ds0, p0, q0, hargs, rfl, rfl, h0, r0⟩ := trodAll_cons hA
  obtain ⟨rfl, rfl, rfl⟩ := trodAll_nil r0
  obtain rfl : args = #[v0] := by cases args; simp_all
  obtain ⟨rfl, rfl⟩ := trodVars_none hV
  have k0 := h0
  have lt0 := trod_lt k0
  have hv0 := hval 0 24 v0 rfl rfl
  obtain ⟨a0, a1, a2, a3, a4, a5, a6, a7, a8, y0, y1, y2, y3, y4, y5, y6, y7, y8, nn, rfl, hdd, t0, t1, t2, t3, t4, t5, t6, t7, t8⟩ := open_agg9 Try.underlying24 (by kernel_rfl) (by kernel_rfl) hv0 h0
  obtain ⟨n0, e0, x0, _⟩ := DataW.trod_int Try.underlying3 t0
  obtain ⟨n4, e4, x4, _⟩ := DataW.trod_int Try.underlying3 t4
  obtain ⟨n6, e6, x6, _⟩ := DataW.trod_int Try.underlying21 t6
  obtain ⟨s1, e1, x1, z1⟩ := DataW.trod_string Try.underlying9 t1
  obtain ⟨s2, e2, x2, z2⟩ := DataW.trod_string Try.underlying9 t2
  obtain ⟨s3, e3, x3, z3⟩ := DataW.trod_string Try.underlying9 t3
  obtain ⟨b5, e5, x5⟩ := DataW.trod_bool Try.underlying4 t5
  obtain ⟨b7, e7, x7⟩ := DataW.trod_bool Try.underlying4 t7
  obtain ⟨aa, an, ac, e8⟩ := slice_shape Try.underlying22 t8
  simp only [List.cons.injEq, and_true] at e0 e1 e2 e3 e4 e5 e6 e7 e8
  subst e0 e1 e2 e3 e4 e5 e6 e7 e8
  refine (sizes4 n0 n4 n6 s1 s2 s3 b5 b7 aa an ac W z1 z2 z3).mono fun e W' ⟨he, bel⟩ => ?_
  subst he
  exact ⟨_, rfl, _, _, _, [], _, [], hW', trodAll_mk1 (shut_bool Try.underlying4 _), (trodAll_cons_mk (Below.trod laidOut (by kernel_rfl) (of_decide_eq_true (by kernel_rfl)) k0 bel lt0) trodAll_mk0), rfl, bel.frame _, fun h => by cases h⟩
theorem quirkSizes_holds : Rows.QuirkSizesSaid :=
  OpenClaim.holds_of_wide 4 Try.f4 rfl rfl rfl rfl rfl rfl rfl ⟨rfl, rfl, rfl, rfl, rfl⟩ rfl rfl rfl rfl rfl (by kernel_rfl) Try.func4 (by kernel_rfl)
    (of_decide_eq_true (by kernel_rfl)) (by unfold Func.isWrapper; first | (rw [if_pos (by decide +kernel)]; kernel_rfl) | (rw [if_neg (by decide +kernel)]; exact ⟨rfl, rfl⟩))
    (fun os started H enc _ => quirkSizes_lifted os started H enc)
#print axioms quirkSizes_holds
end Go.Proofs.Ytkkhaaapokkhlaa
