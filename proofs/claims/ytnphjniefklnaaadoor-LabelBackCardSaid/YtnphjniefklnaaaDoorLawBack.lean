/- The law LabelBack returns true for every encoding, blanks and sizes; the card ties the listed variables to the program's text. -/
import Derived.Test.YtnphjniefklnaaaDoorL9
import Derived.Test.YtnphjniefklnaaaDoorL7
import Derived.Test.YtnphjniefklnaaaDoorCards
import Derived.Test.YtnphjniefklnaaaDoorTie
import Derived.Test.YtnphjniefklnaaaDoorKitW
import Derived.SevenTiedAt
namespace Go.Proofs.YtnphjniefklnaaaDoor
open Go.Joins Go.ChangeShapes Go.WideShapes Go.RowKit Go.Deep Go.ChangeAt
open Go.ChangeMaps (open_string shut_string)
set_option linter.unusedVariables false
set_option maxRecDepth 100000 in
theorem labelBack_lifted (os : Os) (started : os.Started) (H : Type) (enc : TypeId × Value → H) (F : Stop.Interp) :
    ReturnsInHanded {} Tryd.checked os 5 .any ((OpenSpec.ofChange Rows.labelBackSpec).preRow enc Tryd.prog Tryd.f5 Rows.labelBackRow.domain false Rows.labelBackRow.laid) (((OpenSpec.ofChange Rows.labelBackSpec).at F).post enc Tryd.prog Tryd.f5 false true false false) := by
  have hx0 : (DataW.whole enc Tryd.prog ((World.laidAll Tryd.prog os Rows.labelBackRow.laid).forCall (fun _ _ => 0) ⟨#[], #[.int .u8 0, .slice none 0 0, .slice none 0 0], []⟩).memory Tryd.f5.params.toList Rows.labelBackSpec.vars false #[.int .u8 0, .slice none 0 0, .slice none 0 0].toList 8).isSome = true := by kernel_rfl
  have hL0 : laidMetH Tryd.prog Rows.labelBackRow.laid ((World.laidAll Tryd.prog os Rows.labelBackRow.laid).forCall (fun _ _ => 0) ⟨#[], #[.int .u8 0, .slice none 0 0, .slice none 0 0], []⟩).memory := by
    rw [MakeChecks.laidMetH_plain _ _ _ (by kernel_rfl)]
    exact laidMet_laidAll _ (by kernel_rfl) (by kernel_rfl)
  refine returnsInHanded_of_row (C := Tryd.checked) (s := (OpenSpec.ofChange Rows.labelBackSpec)) own started (by kernel_rfl) Tryd.func5
    (wit_row (enc := enc) (C := Tryd.checked) (World.laidAll Tryd.prog os Rows.labelBackRow.laid) #[.int .u8 0, .slice none 0 0, .slice none 0 0] (World.laidAll_os _ _ _) (World.shaped_of_ZipB (by kernel_rfl) (by kernel_rfl)) (by kernel_rfl)
      (OpenSpec.preRow_of_cond 8 (get_some hx0) (by kernel_rfl) (fun k hk => by cases hk) (by kernel_rfl) hL0)) ?_
  intro W base args ds gs before hval0 hW hcnd hcond hsz0 hL hsh _
  have hsz : (DataW.weightsEach Tryd.prog (Tryd.f5.params.toList ++ Rows.labelBackSpec.plain.varTypes Tryd.prog) (ds ++ gs)).all (· ≤ reachBytes) = true := hsz0
  have hval : ∀ (j : Nat) t v, Tryd.f5.params[j]? = some t → args[j]? = some v → Value.okWide Tryd.prog W .any base t v := hval0
  have key : Calls Tryd.prog 5 args W fun e W' => ∃ v, e = .returned v ∧ Rows.labelBackSpec.post enc Tryd.prog Tryd.f5 false true false false W args v W' := by
    have hW' := hW
    obtain ⟨p, q, hA0, hV, rfl, hfz, hnd⟩ := hW
    have hA : DataW.TrodAll enc Tryd.prog W 0 (fun _ => true) true Tryd.f5.params.toList args.toList ds p := hA0
    rw [Tryd.params5] at hA hval hsz
    obtain ⟨v0, vs0, d0, ds0, p0, q0, hargs, rfl, rfl, h0, r0⟩ := trodAll_cons hA
    obtain ⟨v1, vs1, d1, ds1, p1, q1, rfl, rfl, rfl, h1, r1⟩ := trodAll_cons r0
    obtain ⟨v2, vs2, d2, ds2, p2, q2, rfl, rfl, rfl, h2, r2⟩ := trodAll_cons r1
    obtain ⟨rfl, rfl, rfl⟩ := trodAll_nil r2
    obtain rfl : args = #[v0, v1, v2] := by cases args; simp_all
    obtain ⟨rfl, rfl⟩ := trodVars_none hV
    have hT : Tabs W := tabs_of hL (by kernel_rfl) (List.Mem.tail _ (List.Mem.tail _ (List.Mem.head _))) (List.Mem.tail _ (List.Mem.head _)) (cell_of_shapedOpen_int (zero := #[.int .i64 0]) (t := 3) hsh (of_decide_eq_true (by kernel_rfl)) (by kernel_rfl) rfl (by kernel_rfl) (by kernel_rfl) Tryd.underlying3)
    have k0 := h0
    have lt0 := trod_lt k0
    have hv0 := hval 0 5 v0 rfl rfl
    obtain ⟨n0, rfl, rfl, rfl, z0⟩ := open_int Tryd.underlying5 hv0 h0
    obtain ⟨b0, rfl⟩ := u8_of z0
    have k1 := h1
    have lt1 := trod_lt k1
    have hv1 := hval 1 29 v1 rfl rfl
    obtain ⟨oa1, m1, cap1, L1, rfl, hm1, hx1, hR1, _⟩ := open_bytesv Tryd.underlying29 Tryd.underlying5 rfl hv1 h1
    have k2 := h2
    have lt2 := trod_lt k2
    have hv2 := hval 2 29 v2 rfl rfl
    obtain ⟨oa2, m2, cap2, L2, rfl, hm2, hx2, hR2, _⟩ := open_bytesv Tryd.underlying29 Tryd.underlying5 rfl hv2 h2
    refine (back5 b0.toNat (by have := b0.toNat_lt; omega) oa1 m1 cap1 L1 oa2 m2 cap2 L2 W hm1 hx1 hR1 hm2 hx2 hR2 hT).mono fun e W' ⟨he, bel⟩ => ?_
    subst he
    exact ⟨_, rfl, _, _, _, [], _, [], hW', trodAll_mk1 (shut_bool Tryd.underlying4 _), (trodAll_cons_mk (Below.trod laidOut (by kernel_rfl) (of_decide_eq_true (by kernel_rfl)) k0 bel lt0) (trodAll_cons_mk (Below.trod laidOut (by kernel_rfl) (of_decide_eq_true (by kernel_rfl)) k1 bel lt1) (trodAll_cons_mk (Below.trod laidOut (by kernel_rfl) (of_decide_eq_true (by kernel_rfl)) k2 bel lt2) trodAll_mk0))), rfl, bel.frame _, fun h => by cases h⟩
  exact key
theorem labelBack_said : Rows.LabelBackSaid :=
  OpenClaim.holds_of_cond 5 Tryd.f5 rfl rfl rfl rfl rfl rfl rfl ⟨rfl, rfl, rfl, rfl, rfl⟩ rfl rfl rfl rfl rfl (by kernel_rfl) Tryd.func5 (by kernel_rfl)
    (of_decide_eq_true (by kernel_rfl)) (by unfold Func.isWrapper; first | (rw [if_pos (by decide +kernel)]; kernel_rfl) | (rw [if_neg (by decide +kernel)]; exact ⟨rfl, rfl⟩))
    (fun os started H enc _ F => by rw [OpenClaim.pre_eq_preRow]; exact labelBack_lifted os started H enc F)
theorem labelBack_plain (f : FuncId) (fn : Func) (hf : Tryd.pinned.checked.prog.funcNamed "hornbeam/hornbeamlaw04.LabelBack" = some f) (hfn : Tryd.pinned.checked.prog.funcs[f]? = some fn) :
    false = Tryd.pinned.checked.prog.looks [] ∧ ∀ (j : Nat) t, fn.params[j]? = some t → Tryd.pinned.checked.prog.wantsStandIn t = false := by
  obtain rfl : f = 5 := Option.some.inj ((show Tryd.prog.funcNamed "hornbeam/hornbeamlaw04.LabelBack" = some 5 by kernel_rfl).symm.trans hf) |>.symm
  obtain rfl : fn = Tryd.f5 := (Option.some.inj (Tryd.func5.symm.trans hfn)).symm
  refine ⟨by kernel_rfl, fun j t ht => ?_⟩
  rw [Tryd.params5] at ht
  have hm : t ∈ [5, 29, 29] := by simpa using Array.mem_of_getElem? ht
  have hall : ([5, 29, 29].all fun u => !Tryd.prog.wantsStandIn u) = true := by kernel_rfl
  exact (show Tryd.prog.wantsStandIn t = false by simpa using List.all_eq_true.1 hall t hm)
theorem labelBack_card : Rows.LabelBackCardSaid :=
  Claim7.holds_tied_plain_at .later [] _ _ _ _ labelBack_said (fun _ h => by cases h) (by kernel_rfl) (fun _ h => by cases h) labelBack_row_tie rfl ⟨rfl, rfl⟩ (by kernel_rfl) rfl labelBack_plain (by kernel_rfl)
#print axioms labelBack_card
end Go.Proofs.YtnphjniefklnaaaDoor
