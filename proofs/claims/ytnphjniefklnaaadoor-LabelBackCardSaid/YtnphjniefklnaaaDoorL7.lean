/- From what a row lists to what the walks ask of the library's variables. -/
import Derived.Test.YtnphjniefklnaaaDoorL6
import Derived.Test.YtnphjniefklnaaaDoorRows
import Derived.Lib.LaidU8
import Derived.MakeChecks
import Derived.Test.YtnphjniefklnaaaDoorKitBulk
namespace Go.Proofs.YtnphjniefklnaaaDoor
open Go.RowKit Go.Shelf Go.Lib
theorem tabIs_of_reads {P : Program} {W : World} {name : String} {k : IntKind} {zs : List Int} {g : Nat} {t e : TypeId} {n : Nat}
    (hg : P.globalNamed name = some g) (hty : (P.globals[g]?).map (·.type) = some t) (ht : P.underlying t = some (.array n e)) (he : P.underlying e = some (.int k)) (hce : P.cellsOf e = 1) (hct : P.cellsOf t = n)
    (h : Lib.VarReads P W name (Lib.tabData k zs)) : Lib.TabIs P W name k zs := by
  obtain ⟨g', t', cs, fuel, p, hg', ht', hvar, hd⟩ := h
  obtain rfl := Option.some.inj (hg.symm.trans hg')
  obtain rfl := Option.some.inj (hty.symm.trans ht')
  unfold Lib.TabIs
  rw [hvar, ← Lib.cells_of_tab ht he hce hct hd]
theorem whiteX : WhiteExtra Tryd.prog Tryd.lays199_ren := ⟨by kernel_rfl, by kernel_rfl, by kernel_rfl, by kernel_rfl, by kernel_rfl, by kernel_rfl, by kernel_rfl, by kernel_rfl⟩
theorem tabs_of {W : World} {l : List (String × DataW Unit)} (h : laidMetH Tryd.prog l W) (hp : (l.all fun x => x.2.handleName?.isNone) = true) (h1 : ("strings.asciiSpace", Rows.laid_strings_asciiSpace) ∈ l) (h2 : ("unicode.White_Space", Rows.laid_unicode_White_Space) ∈ l)
    (hM : ∃ m, W.cell? ⟨4, 0, none⟩ = some (.int .i64 m)) : Tabs W := by
  rw [MakeChecks.laidMetH_plain _ _ _ hp] at h
  have r1 := Lib.laidMet.reads h h1
  have r2 := Lib.laidMet.reads h h2
  have d1 : (Rows.laid_strings_asciiSpace : DataW Unit) = Lib.tabData .u8 Lib.asciiSpaceTab := by as_aux_lemma => kernel_rfl
  have d2 : (Rows.laid_unicode_White_Space : DataW Unit) = Lib.whiteData := by as_aux_lemma => kernel_rfl
  rw [d1] at r1
  rw [d2] at r2
  have t1 : Lib.TabIs Tryd.prog W "strings.asciiSpace" .u8 Lib.asciiSpaceTab := tabIs_of_reads (g := 0) (t := 56) (e := 5) (n := 256) (by kernel_rfl) (by kernel_rfl) (by kernel_rfl) (by kernel_rfl) (by kernel_rfl) (by kernel_rfl) r1
  have t2 := whiteTab_of_reads Tryd.lays199 whiteX r2
  exact ⟨t1, t2, hM⟩
theorem bulk_str {H : Type} {L : List UInt8} {l : List (DataW H)} (h : Rows.uptoSmall H l = true) (hd : DataW.lit (.string L) ∈ l) : L.length ≤ 1048576 := by
  have h1 := bulk_most h
  have h2 := bulk_mem hd
  rw [bulk_text] at h2
  omega
theorem u8_of {n : Int} (h : (Lit.int .u8 n).wf = true) : ∃ b : UInt8, n = (b.toNat : Int) := by
  have h2 : 0 ≤ n ∧ n < 256 := by
    have e1 : IntKind.u8.min = 0 := rfl
    have e2 : IntKind.u8.max = 255 := rfl
    simp [Lit.wf, e1, e2] at h
    omega
  refine ⟨UInt8.ofNat n.toNat, ?_⟩
  rw [UInt8.toNat_ofNat']
  omega
end Go.Proofs.YtnphjniefklnaaaDoor
