/- The law DecodeChunks returns true for every encoding, every slice of bytes and every cuts (of bulk at most 1048576: the second form). -/
import Derived.Test.YtmfifaigphnbmaaK2
import Derived.Test.YtmfifaigphnbmaaF10
import Derived.Test.YtmfifaigphnbmaaRows
import Derived.Test.YtmfifaigphnbmaaKitW
import Derived.SevenTiedAt
namespace Go.Proofs.Ytmfifaigphnbmaa
open Go.Joins Go.ChangeShapes Go.WideShapes Go.RowKit Go.Deep Go.ChangeAt
open Go.ChangeMaps (open_string shut_string)
set_option linter.unusedVariables false
set_option maxRecDepth 100000 in
theorem decodeChunksUpto_lifted (os : Os) (started : os.Started) (H : Type) (enc : TypeId × Value → H) (F : Stop.Interp) :
    ReturnsInHanded {} Try.checked os 5 .any ((Rows.OpenSpec.upto Rows.decodeChunksSpec).preRow enc Try.prog Try.f5 Rows.decodeChunksUptoRow.domain false Rows.decodeChunksUptoRow.laid) (((Rows.OpenSpec.upto Rows.decodeChunksSpec).at F).post enc Try.prog Try.f5 false true false false) := by
  have hx0 : (DataW.whole enc Try.prog ((World.laidAll Try.prog os Rows.decodeChunksUptoRow.laid).forCall (fun _ _ => 0) ⟨#[], #[.int .u8 0, .slice none 0 0, .slice none 0 0], []⟩).memory Try.f5.params.toList Rows.decodeChunksSpec.vars false #[.int .u8 0, .slice none 0 0, .slice none 0 0].toList 8).isSome = true := by kernel_rfl
  have hL0 : laidMetH Try.prog Rows.decodeChunksUptoRow.laid ((World.laidAll Try.prog os Rows.decodeChunksUptoRow.laid).forCall (fun _ _ => 0) ⟨#[], #[.int .u8 0, .slice none 0 0, .slice none 0 0], []⟩).memory := by
    rw [MakeChecks.laidMetH_plain _ _ _ (by kernel_rfl)]
    exact laidMet_laidAll _ (by kernel_rfl) (by kernel_rfl)
  refine returnsInHanded_of_row (C := Try.checked) (s := (Rows.OpenSpec.upto Rows.decodeChunksSpec)) own started (by kernel_rfl) Try.func5
    (wit_row (enc := enc) (C := Try.checked) (World.laidAll Try.prog os Rows.decodeChunksUptoRow.laid) #[.int .u8 0, .slice none 0 0, .slice none 0 0] (World.laidAll_os _ _ _) (World.shaped_of_ZipB (by kernel_rfl) (by kernel_rfl)) (by kernel_rfl)
      (OpenSpec.preRow_of_cond 8 (get_some hx0) (by kernel_rfl) (fun k hk => by cases hk; kernel_rfl) (by kernel_rfl) hL0)) ?_
  intro W base args ds gs before hval0 hW hcnd hcond hsz0 hL hsh _
  have hsz : (DataW.weightsEach Try.prog (Try.f5.params.toList ++ Rows.decodeChunksSpec.plain.varTypes Try.prog) (ds ++ gs)).all (· ≤ reachBytes) = true := hsz0
  have hval : ∀ (j : Nat) t v, Try.f5.params[j]? = some t → args[j]? = some v → Value.okWide Try.prog W .any base t v := hval0
  have hup := hcond _ rfl
  have key : Calls Try.prog 5 args W fun e W' => ∃ v, e = .returned v ∧ Rows.decodeChunksSpec.post enc Try.prog Try.f5 false true false false W args v W' := by
    have hW' := hW
    obtain ⟨p, q, hA0, hV, rfl, hfz, hnd⟩ := hW
    have hA : DataW.TrodAll enc Try.prog W 0 (fun _ => true) true Try.f5.params.toList args.toList ds p := hA0
    rw [Try.params5] at hA hval hsz
    obtain ⟨v0, vs0, d0, ds0, p0, q0, hargs, rfl, rfl, h0, r0⟩ := trodAll_cons hA
    obtain ⟨v1, vs1, d1, ds1, p1, q1, rfl, rfl, rfl, h1, r1⟩ := trodAll_cons r0
    obtain ⟨v2, vs2, d2, ds2, p2, q2, rfl, rfl, rfl, h2, r2⟩ := trodAll_cons r1
    obtain ⟨rfl, rfl, rfl⟩ := trodAll_nil r2
    obtain rfl : args = #[v0, v1, v2] := by cases args; simp_all
    obtain ⟨rfl, rfl⟩ := trodVars_none hV
    have k0 := h0
    have lt0 := trod_lt k0
    have hv0 := hval 0 5 v0 rfl rfl
    obtain ⟨n0, rfl, rfl, rfl, z0⟩ := open_int Try.underlying5 hv0 h0
    obtain ⟨b0, rfl⟩ := u8_of z0
    have k1 := h1
    have lt1 := trod_lt k1
    have hv1 := hval 1 22 v1 rfl rfl
    obtain ⟨oa1, n1, c1, L1, rfl, hn1, hm1, hc1, hr1, hd1⟩ := open_bytesc Try.underlying22 Try.underlying5 (by kernel_rfl) hv1 h1
    have hb1 := bulk_bytes hup (by simp) hd1
    have k2 := h2
    have lt2 := trod_lt k2
    have hv2 := hval 2 22 v2 rfl rfl
    obtain ⟨oa2, n2, c2, L2, rfl, hn2, hm2, hc2, hr2, hd2⟩ := open_bytesc Try.underlying22 Try.underlying5 (by kernel_rfl) hv2 h2
    have hb2 := bulk_bytes hup (by simp) hd2
    refine (chunks5 b0 oa1 n1 c1 L1 oa2 n2 c2 L2 W hn1 hc1 hb1 hr1 hn2 hb2 hr2).mono fun e W' ⟨he, bel⟩ => ?_
    subst he
    exact ⟨_, rfl, _, _, _, [], _, [], hW', trodAll_mk1 (shut_bool Try.underlying4 _), (trodAll_cons_mk (Below.trod laidOut (by kernel_rfl) (of_decide_eq_true (by kernel_rfl)) k0 bel lt0) (trodAll_cons_mk (Below.trod laidOut (by kernel_rfl) (of_decide_eq_true (by kernel_rfl)) k1 bel lt1) (trodAll_cons_mk (Below.trod laidOut (by kernel_rfl) (of_decide_eq_true (by kernel_rfl)) k2 bel lt2) trodAll_mk0))), rfl, bel.frame _, fun h => by cases h⟩
  exact key
theorem decodeChunksUpto_holds : Rows.DecodeChunksUptoSaid :=
  OpenClaim.holds_of_cond 5 Try.f5 rfl rfl rfl rfl rfl rfl rfl ⟨rfl, rfl, rfl, rfl, rfl⟩ rfl rfl rfl rfl rfl (by kernel_rfl) Try.func5 (by kernel_rfl)
    (of_decide_eq_true (by kernel_rfl)) (by unfold Func.isWrapper; first | (rw [if_pos (by decide +kernel)]; kernel_rfl) | (rw [if_neg (by decide +kernel)]; exact ⟨rfl, rfl⟩))
    (fun os started H enc _ F => by rw [OpenClaim.pre_eq_preRow]; exact decodeChunksUpto_lifted os started H enc F)
#print axioms decodeChunksUpto_holds
end Go.Proofs.Ytmfifaigphnbmaa
