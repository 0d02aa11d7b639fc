/- From what a row lists to what the walks ask of the library's variables. -/
import Derived.Test.YtcmhfcnjfhcpdaaDoorL2
import Derived.Test.YtcmhfcnjfhcpdaaDoorRows
import Derived.Lib.LaidU8
import Derived.MakeChecks
import Derived.Test.YtcmhfcnjfhcpdaaDoorKitBulk
import Derived.Test.YtcmhfcnjfhcpdaaDoorKitY
import Derived.SizedLaws
namespace Go.Proofs.YtcmhfcnjfhcpdaaDoor
open Go.RowKit Go.Shelf Go.Lib
theorem tabIs_of_reads {P : Program} {W : World} {name : String} {k : IntKind} {zs : List Int} {g : Nat} {t e : TypeId} {n : Nat}
    (hg : P.globalNamed name = some g) (hty : (P.globals[g]?).map (·.type) = some t) (ht : P.underlying t = some (.array n e)) (he : P.underlying e = some (.int k)) (hce : P.cellsOf e = 1) (hct : P.cellsOf t = n)
    (h : Lib.VarReads P W name (Lib.tabData k zs)) : Lib.TabIs P W name k zs := by
  obtain ⟨g', t', cs, fuel, p, hg', ht', hvar, hd⟩ := h
  obtain rfl := Option.some.inj (hg.symm.trans hg')
  obtain rfl := Option.some.inj (hty.symm.trans ht')
  unfold Lib.TabIs
  rw [hvar, ← Lib.cells_of_tab ht he hce hct hd]
theorem whiteX : WhiteExtra Tryd.prog Tryd.lays199_ren := ⟨by kernel_rfl, by kernel_rfl, by kernel_rfl, by kernel_rfl, by kernel_rfl, by kernel_rfl, by kernel_rfl, by kernel_rfl⟩
theorem tabs_of {W : World} {l : List (String × DataW Unit)} (h : laidMetH Tryd.prog l W) (hp : (l.all fun x => x.2.handleName?.isNone) = true) (h1 : ("strings.asciiSpace", Rows.laid_strings_asciiSpace) ∈ l) (h2 : ("unicode.White_Space", Rows.laid_unicode_White_Space) ∈ l)
    (hM : ∃ m, W.cell? ⟨0, 0, none⟩ = some (.int .i64 m)) : Tabs W := by
  rw [MakeChecks.laidMetH_plain _ _ _ hp] at h
  have r1 := Lib.laidMet.reads h h1
  have r2 := Lib.laidMet.reads h h2
  have d1 : (Rows.laid_strings_asciiSpace : DataW Unit) = Lib.tabData .u8 Lib.asciiSpaceTab := by as_aux_lemma => kernel_rfl
  have d2 : (Rows.laid_unicode_White_Space : DataW Unit) = Lib.whiteData := by as_aux_lemma => kernel_rfl
  rw [d1] at r1
  rw [d2] at r2
  have t1 : Lib.TabIs Tryd.prog W "strings.asciiSpace" .u8 Lib.asciiSpaceTab := tabIs_of_reads (g := 1) (t := 78) (e := 5) (n := 256) (by kernel_rfl) (by kernel_rfl) (by kernel_rfl) (by kernel_rfl) (by kernel_rfl) (by kernel_rfl) r1
  have t2 := whiteTab_of_reads Tryd.lays199 whiteX r2
  exact ⟨t1, t2, hM⟩
theorem bulk_str {H : Type} {L : List UInt8} {l : List (DataW H)} (h : Rows.uptoSmall H l = true) (hd : DataW.lit (.string L) ∈ l) : L.length ≤ 1048576 := by
  have h1 := bulk_most h
  have h2 := bulk_mem hd
  rw [bulk_text] at h2
  omega
open Go.Deep Go.ChangeShapes
theorem bulk_lits {H : Type} (k : IntKind) (zs : List Int) : Rows.uptoBulkAll (lits (H := H) k zs) = zs.length := by
  induction zs with
  | nil => rfl
  | cons z r ih =>
    show Rows.uptoBulkAll (.lit (.int k z) :: lits k r) = _
    rw [Rows.uptoBulkAll, ih, List.length_cons]
    simp only [Rows.uptoBulk]
    omega
theorem bulk_slice {H : Type} {k : IntKind} {zs : List Int} {sp : List (DataW H)} {d : DataW H} {l : List (DataW H)} (h : Rows.uptoSmall H l = true) (hd : d ∈ l) (he : d = .slice (lits k zs) sp) : zs.length ≤ 1048576 := by
  subst he
  have h1 := bulk_most h
  have h2 := bulk_mem hd
  simp only [Rows.uptoBulk, bulk_lits] at h2
  omega
theorem bulk_bytes {H : Type} {L : List UInt8} {d : DataW H} {l : List (DataW H)} (h : Rows.uptoSmall H l = true) (hd : d ∈ l) (he : d = .nil ∧ L = [] ∨ ∃ r, d = .slice (lits .u8 (nums L)) r) : L.length ≤ 1048576 := by
  rcases he with ⟨_, rfl⟩ | ⟨r, he⟩
  · simp
  · have := bulk_slice h hd he
    rwa [nums_length] at this
theorem bytes5 : Tryd.prog.bytesOf 5 = 1 := by kernel_rfl
theorem bytes_sized {H : Type} {L : List UInt8} {ts : List TypeId} {ds : List (DataW H)} {d : DataW H} {j : Nat} (h : (DataW.weightsEach Tryd.prog ts ds).all (· ≤ reachBytes) = true) (ht : ts[j]? = some 26) (hd : ds[j]? = some d)
    (hL : d = .nil ∧ L = [] ∨ ∃ r, d = .slice (lits .u8 (nums L)) r) : L.length ≤ 140737488351232 := by
  rcases hL with ⟨_, rfl⟩ | ⟨sp, rfl⟩
  · simp
  · have := sized_slice h ht hd Tryd.underlying26
    rw [bytes5] at this
    have hr : reachBytes = 140737488351232 := rfl
    have hl : (lits (H := H) .u8 (nums L)).length = L.length := by simp [lits, nums]
    rw [hr, hl] at this
    omega
end Go.Proofs.YtcmhfcnjfhcpdaaDoor
