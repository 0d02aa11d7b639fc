/- The law ClassIns returns true for every body and every list of elements of bulk at most 1048576 (the second form); the card ties the listed variables to the program's text. -/
import Derived.Test.YthfdiinfeljeeaaGreatDoorCM10
import Derived.Test.YthfdiinfeljeeaaGreatDoorCards
import Derived.Test.YthfdiinfeljeeaaGreatDoorTie
import Derived.SevenTiedAt
namespace Go.Proofs.YthfdiinfeljeeaaGreatDoor
open Go.Joins Go.ChangeShapes Go.WideShapes Go.RowKit Go.Deep Go.ChangeAt
open Go.ChangeMaps (open_string shut_string)
set_option linter.unusedVariables false
set_option maxRecDepth 100000 in
theorem classInsUpto_lifted (os : Os) (started : os.Started) (H : Type) (enc : TypeId × Value → H) (F : Stop.Interp) :
    ReturnsInHanded {} Tryz.checked os 3 .any ((Rows.OpenSpec.upto Rows.classInsSpec).preRow enc Tryz.prog Tryz.f3 Rows.classInsUptoRow.domain false Rows.classInsUptoRow.laid) (((Rows.OpenSpec.upto Rows.classInsSpec).at F).post enc Tryz.prog Tryz.f3 false true false false) := by
  have hx0 : (DataW.whole enc Tryz.prog ((World.laidAll Tryz.prog os Rows.classInsUptoRow.laid).forCall (fun _ _ => 0) ⟨#[], #[.slice none 0 0, .slice none 0 0], []⟩).memory Tryz.f3.params.toList Rows.classInsSpec.vars false #[.slice none 0 0, .slice none 0 0].toList 8).isSome = true := by kernel_rfl
  have hL0 : laidMetH Tryz.prog Rows.classInsUptoRow.laid ((World.laidAll Tryz.prog os Rows.classInsUptoRow.laid).forCall (fun _ _ => 0) ⟨#[], #[.slice none 0 0, .slice none 0 0], []⟩).memory := by
    rw [MakeChecks.laidMetH_plain _ _ _ (by kernel_rfl)]
    exact laidMet_laidAll _ (by kernel_rfl) (by kernel_rfl)
  refine returnsInHanded_of_row (C := Tryz.checked) (s := (Rows.OpenSpec.upto Rows.classInsSpec)) own started (by kernel_rfl) Tryz.func3
    (wit_row (enc := enc) (C := Tryz.checked) (World.laidAll Tryz.prog os Rows.classInsUptoRow.laid) #[.slice none 0 0, .slice none 0 0] (World.laidAll_os _ _ _) (World.shaped_of_ZipB (by kernel_rfl) (by kernel_rfl)) (by kernel_rfl)
      (OpenSpec.preRow_of_cond 8 (get_some hx0) (by kernel_rfl) (fun k hk => by cases hk; kernel_rfl) (by kernel_rfl) hL0)) ?_
  intro W base args ds gs before hval0 hW hcnd hcond hsz0 hL hsh _
  have hsz : (DataW.weightsEach Tryz.prog (Tryz.f3.params.toList ++ Rows.classInsSpec.plain.varTypes Tryz.prog) (ds ++ gs)).all (· ≤ reachBytes) = true := hsz0
  have hval : ∀ (j : Nat) t v, Tryz.f3.params[j]? = some t → args[j]? = some v → Value.okWide Tryz.prog W .any base t v := hval0
  have hup := hcond _ rfl
  have key : Calls Tryz.prog 3 args W fun e W' => ∃ v, e = .returned v ∧ Rows.classInsSpec.post enc Tryz.prog Tryz.f3 false true false false W args v W' := by
    have hW' := hW
    obtain ⟨p, q, hA0, hV, rfl, hfz, hnd⟩ := hW
    have hA : DataW.TrodAll enc Tryz.prog W 0 (fun _ => true) true Tryz.f3.params.toList args.toList ds p := hA0
    rw [Tryz.params3] at hA hval hsz
    obtain ⟨v0, vs0, d0, ds0, p0, q0, hargs, rfl, rfl, h0, r0⟩ := trodAll_cons hA
    obtain ⟨v1, vs1, d1, ds1, p1, q1, rfl, rfl, rfl, h1, r1⟩ := trodAll_cons r0
    obtain ⟨rfl, rfl, rfl⟩ := trodAll_nil r1
    obtain rfl : args = #[v0, v1] := by cases args; simp_all
    obtain ⟨rfl, rfl⟩ := trodVars_none hV
    have hT : Env W := env_of hL (by kernel_rfl) (List.Mem.head _) (List.Mem.tail _ (List.Mem.head _)) (cell_of_shapedOpen_int (zero := #[.int .i64 0]) (t := 3) hsh (of_decide_eq_true (by kernel_rfl)) (by kernel_rfl) rfl (by kernel_rfl) (by kernel_rfl) Tryz.underlying3)
    have k0 := h0
    have lt0 := trod_lt k0
    have hv0 := hval 0 22 v0 rfl rfl
    have bu0 := bulk_arg hup (d := d0) (by simp)
    obtain ⟨oa0, cap0, L0, rfl, hr0, hn0, hl0, hs0⟩ := open_attrs hv0 h0
    have k1 := h1
    have lt1 := trod_lt k1
    have hv1 := hval 1 23 v1 rfl rfl
    have bu1 := bulk_arg hup (d := d1) (by simp)
    obtain ⟨oe1, ce1, es1, rfl, hr1, hl1⟩ := open_elems hv1 h1 bu1
    refine (classIns3 oa0 cap0 L0 oe1 ce1 es1 W (by omega) hr0 hn0 (fun s h => by have := hs0 s h; omega) hr1 hl1 hT).mono fun e W' ⟨he, bel⟩ => ?_
    subst he
    exact ⟨_, rfl, _, _, _, [], _, [], hW', trodAll_mk1 (shut_bool Tryz.underlying4 _), (trodAll_cons_mk (Below.trod laidOut (by kernel_rfl) (of_decide_eq_true (by kernel_rfl)) k0 bel lt0) (trodAll_cons_mk (Below.trod laidOut (by kernel_rfl) (of_decide_eq_true (by kernel_rfl)) k1 bel lt1) trodAll_mk0)), rfl, bel.frame _, fun h => by cases h⟩
  exact key
theorem classInsUpto_said : Rows.ClassInsUptoSaid :=
  OpenClaim.holds_of_cond 3 Tryz.f3 rfl rfl rfl rfl rfl rfl rfl ⟨rfl, rfl, rfl, rfl, rfl⟩ rfl rfl rfl rfl rfl (by kernel_rfl) Tryz.func3 (by kernel_rfl)
    (of_decide_eq_true (by kernel_rfl)) (by unfold Func.isWrapper; first | (rw [if_pos (by decide +kernel)]; kernel_rfl) | (rw [if_neg (by decide +kernel)]; exact ⟨rfl, rfl⟩))
    (fun os started H enc _ F => by rw [OpenClaim.pre_eq_preRow]; exact classInsUpto_lifted os started H enc F)
theorem classInsUpto_plain (f : FuncId) (fn : Func) (hf : Tryz.pinned.checked.prog.funcNamed "hornbeam/hornbeamlaw19.ClassIns" = some f) (hfn : Tryz.pinned.checked.prog.funcs[f]? = some fn) :
    false = Tryz.pinned.checked.prog.looks [] ∧ ∀ (j : Nat) t, fn.params[j]? = some t → Tryz.pinned.checked.prog.wantsStandIn t = false := by
  obtain rfl : f = 3 := Option.some.inj ((show Tryz.prog.funcNamed "hornbeam/hornbeamlaw19.ClassIns" = some 3 by kernel_rfl).symm.trans hf) |>.symm
  obtain rfl : fn = Tryz.f3 := (Option.some.inj (Tryz.func3.symm.trans hfn)).symm
  refine ⟨by kernel_rfl, fun j t ht => ?_⟩
  rw [Tryz.params3] at ht
  have hm : t ∈ [22, 23] := by simpa using Array.mem_of_getElem? ht
  have hall : ([22, 23].all fun u => !Tryz.prog.wantsStandIn u) = true := by kernel_rfl
  exact (show Tryz.prog.wantsStandIn t = false by simpa using List.all_eq_true.1 hall t hm)
theorem classInsUpto_card : Rows.ClassInsUptoCardSaid :=
  Claim7.holds_tied_plain_at .later [] _ _ _ _ classInsUpto_said (fun _ h => by cases h) (by kernel_rfl) (fun _ h => by cases h) classInsUpto_row_tie rfl ⟨rfl, rfl⟩ (by kernel_rfl) rfl classInsUpto_plain (by kernel_rfl)
#print axioms classInsUpto_card
end Go.Proofs.YthfdiinfeljeeaaGreatDoor
