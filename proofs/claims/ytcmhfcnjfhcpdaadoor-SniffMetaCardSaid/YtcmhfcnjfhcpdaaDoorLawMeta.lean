/- The law SniffMeta returns true for every bytes ahead, every encoding and every quote; the card ties the listed variables to the program's text. -/
import Derived.Test.YtcmhfcnjfhcpdaaDoorC6
import Derived.Test.YtcmhfcnjfhcpdaaDoorC9
import Derived.Test.YtcmhfcnjfhcpdaaDoorKitR
import Derived.Test.YtcmhfcnjfhcpdaaDoorCards
import Derived.Test.YtcmhfcnjfhcpdaaDoorTie
import Derived.Test.YtcmhfcnjfhcpdaaDoorKitW
import Derived.SevenTiedAt
namespace Go.Proofs.YtcmhfcnjfhcpdaaDoor
open Go.Joins Go.ChangeShapes Go.WideShapes Go.RowKit Go.Deep Go.ChangeAt
open Go.ChangeMaps (open_string shut_string)
set_option linter.unusedVariables false
set_option maxRecDepth 100000 in
theorem sniffMeta_lifted (os : Os) (started : os.Started) (H : Type) (enc : TypeId × Value → H) (F : Stop.Interp) :
    ReturnsInHanded {} Tryd.checked os 5 .any ((OpenSpec.ofChange Rows.sniffMetaSpec).preRow enc Tryd.prog Tryd.f5 Rows.sniffMetaRow.domain false Rows.sniffMetaRow.laid) (((OpenSpec.ofChange Rows.sniffMetaSpec).at F).post enc Tryd.prog Tryd.f5 false true false false) := by
  have hx0 : (DataW.whole enc Tryd.prog ((World.laidAll Tryd.prog os Rows.sniffMetaRow.laid).forCall (fun _ _ => 0) ⟨#[], #[.slice none 0 0, .int .u8 0, .int .u8 0], []⟩).memory Tryd.f5.params.toList Rows.sniffMetaSpec.vars false #[.slice none 0 0, .int .u8 0, .int .u8 0].toList 8).isSome = true := by kernel_rfl
  have hL0 : laidMetH Tryd.prog Rows.sniffMetaRow.laid ((World.laidAll Tryd.prog os Rows.sniffMetaRow.laid).forCall (fun _ _ => 0) ⟨#[], #[.slice none 0 0, .int .u8 0, .int .u8 0], []⟩).memory := by
    rw [MakeChecks.laidMetH_plain _ _ _ (by kernel_rfl)]
    exact laidMet_laidAll _ (by kernel_rfl) (by kernel_rfl)
  refine returnsInHanded_of_row (C := Tryd.checked) (s := (OpenSpec.ofChange Rows.sniffMetaSpec)) own started (by kernel_rfl) Tryd.func5
    (wit_row (enc := enc) (C := Tryd.checked) (World.laidAll Tryd.prog os Rows.sniffMetaRow.laid) #[.slice none 0 0, .int .u8 0, .int .u8 0] (World.laidAll_os _ _ _) (World.shaped_of_ZipB (by kernel_rfl) (by kernel_rfl)) (by kernel_rfl)
      (OpenSpec.preRow_of_cond 8 (get_some hx0) (by kernel_rfl) (fun k hk => by cases hk) (by kernel_rfl) hL0)) ?_
  intro W base args ds gs before hval0 hW hcnd hcond hsz0 hL hsh _
  have hsz : (DataW.weightsEach Tryd.prog (Tryd.f5.params.toList ++ Rows.sniffMetaSpec.plain.varTypes Tryd.prog) (ds ++ gs)).all (· ≤ reachBytes) = true := hsz0
  have hval : ∀ (j : Nat) t v, Tryd.f5.params[j]? = some t → args[j]? = some v → Value.okWide Tryd.prog W .any base t v := hval0
  have key : Calls Tryd.prog 5 args W fun e W' => ∃ v, e = .returned v ∧ Rows.sniffMetaSpec.post enc Tryd.prog Tryd.f5 false true false false W args v W' := by
    have hW' := hW
    obtain ⟨p, q, hA0, hV, rfl, hfz, hnd⟩ := hW
    have hA : DataW.TrodAll enc Tryd.prog W 0 (fun _ => true) true Tryd.f5.params.toList args.toList ds p := hA0
    rw [Tryd.params5] at hA hval hsz
    obtain ⟨v0, vs0, d0, ds0, p0, q0, hargs, rfl, rfl, h0, r0⟩ := trodAll_cons hA
    obtain ⟨v1, vs1, d1, ds1, p1, q1, rfl, rfl, rfl, h1, r1⟩ := trodAll_cons r0
    obtain ⟨v2, vs2, d2, ds2, p2, q2, rfl, rfl, rfl, h2, r2⟩ := trodAll_cons r1
    obtain ⟨rfl, rfl, rfl⟩ := trodAll_nil r2
    obtain rfl : args = #[v0, v1, v2] := by cases args; simp_all
    obtain ⟨rfl, rfl⟩ := trodVars_none hV
    have hT : Tabs W := tabs_of hL (by kernel_rfl) (List.Mem.tail _ (List.Mem.tail _ (List.Mem.head _))) (List.Mem.tail _ (List.Mem.head _)) (cell_of_shapedOpen_int (zero := #[.int .i64 0]) (t := 3) hsh (of_decide_eq_true (by kernel_rfl)) (by kernel_rfl) rfl (by kernel_rfl) (by kernel_rfl) Tryd.underlying3)
    have k0 := h0
    have lt0 := trod_lt k0
    have hv0 := hval 0 26 v0 rfl rfl
    obtain ⟨oa0, m0, cap0, L0, rfl, hm0, hx0, hc0, hR0, hd0⟩ := open_bytesc Tryd.underlying26 Tryd.underlying5 (by kernel_rfl) hv0 h0
    have hs0 := bytes_sized hsz (j := 0) rfl rfl hd0
    subst hm0
    have k1 := h1
    have lt1 := trod_lt k1
    have hv1 := hval 1 5 v1 rfl rfl
    obtain ⟨n1, rfl, rfl, rfl, z1⟩ := open_int Tryd.underlying5 hv1 h1
    obtain ⟨b1, rfl⟩ := u8_of z1
    have lb1 := b1.toNat_lt
    have k2 := h2
    have lt2 := trod_lt k2
    have hv2 := hval 2 5 v2 rfl rfl
    obtain ⟨n2, rfl, rfl, rfl, z2⟩ := open_int Tryd.underlying5 hv2 h2
    obtain ⟨b2, rfl⟩ := u8_of z2
    have lb2 := b2.toNat_lt
    refine (meta5 oa0 cap0 L0 b1.toNat b2.toNat W hR0 hs0 (by omega) (by omega) (by omega) (by omega) hT).mono fun e W' ⟨he, bel⟩ => ?_
    subst he
    exact ⟨_, rfl, _, _, _, [], _, [], hW', trodAll_mk1 (shut_bool Tryd.underlying4 _), (trodAll_cons_mk (Below.trod laidOut (by kernel_rfl) (of_decide_eq_true (by kernel_rfl)) k0 bel lt0) (trodAll_cons_mk (Below.trod laidOut (by kernel_rfl) (of_decide_eq_true (by kernel_rfl)) k1 bel lt1) (trodAll_cons_mk (Below.trod laidOut (by kernel_rfl) (of_decide_eq_true (by kernel_rfl)) k2 bel lt2) trodAll_mk0))), rfl, bel.frame _, fun h => by cases h⟩
  exact key
theorem sniffMeta_said : Rows.SniffMetaSaid :=
  OpenClaim.holds_of_cond 5 Tryd.f5 rfl rfl rfl rfl rfl rfl rfl ⟨rfl, rfl, rfl, rfl, rfl⟩ rfl rfl rfl rfl rfl (by kernel_rfl) Tryd.func5 (by kernel_rfl)
    (of_decide_eq_true (by kernel_rfl)) (by unfold Func.isWrapper; first | (rw [if_pos (by decide +kernel)]; kernel_rfl) | (rw [if_neg (by decide +kernel)]; exact ⟨rfl, rfl⟩))
    (fun os started H enc _ F => by rw [OpenClaim.pre_eq_preRow]; exact sniffMeta_lifted os started H enc F)
theorem sniffMeta_plain (f : FuncId) (fn : Func) (hf : Tryd.pinned.checked.prog.funcNamed "hornbeam/hornbeamlaw06.SniffMeta" = some f) (hfn : Tryd.pinned.checked.prog.funcs[f]? = some fn) :
    false = Tryd.pinned.checked.prog.looks [] ∧ ∀ (j : Nat) t, fn.params[j]? = some t → Tryd.pinned.checked.prog.wantsStandIn t = false := by
  obtain rfl : f = 5 := Option.some.inj ((show Tryd.prog.funcNamed "hornbeam/hornbeamlaw06.SniffMeta" = some 5 by kernel_rfl).symm.trans hf) |>.symm
  obtain rfl : fn = Tryd.f5 := (Option.some.inj (Tryd.func5.symm.trans hfn)).symm
  refine ⟨by kernel_rfl, fun j t ht => ?_⟩
  rw [Tryd.params5] at ht
  have hm : t ∈ [26, 5, 5] := by simpa using Array.mem_of_getElem? ht
  have hall : ([26, 5, 5].all fun u => !Tryd.prog.wantsStandIn u) = true := by kernel_rfl
  exact (show Tryd.prog.wantsStandIn t = false by simpa using List.all_eq_true.1 hall t hm)
theorem sniffMeta_card : Rows.SniffMetaCardSaid :=
  Claim7.holds_tied_plain_at .later [] _ _ _ _ sniffMeta_said (fun _ h => by cases h) (by kernel_rfl) (fun _ h => by cases h) sniffMeta_row_tie rfl ⟨rfl, rfl⟩ (by kernel_rfl) rfl sniffMeta_plain (by kernel_rfl)
#print axioms sniffMeta_card
end Go.Proofs.YtcmhfcnjfhcpdaaDoor
