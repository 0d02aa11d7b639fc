/- The walk of quirk.Mode. -/
import Derived.Test.YtkkhaaapokkhlaaW4
import Derived.Laws.EntriesVeiled
import Derived.StillTailTactics
namespace Go.Proofs.Ytkkhaaapokkhlaa
open Go.RowKit
set_option linter.defProp false

/-- What the closures of Mode read; and what stood before the call stands. -/
structure Env0 (w0 w : World) (bt bid bf : Nat) (has : Int) (id sys : ByteArray) : Prop where
  hB : Below w0.heap.size w0 w
  hT : w.cell? ⟨bt, 4, none⟩ = some (.int .i64 has)
  hS : w.cell? ⟨bt, 3, none⟩ = some (.string sys)
  hI : w.cell? ⟨bid, 0, none⟩ = some (.string id)
  hF : w.cell? ⟨bf, 0, none⟩ = some (.func (.func 12) #[] #[.pointer (some ⟨bt, 0, none⟩), .pointer (some ⟨bid, 0, none⟩)])
theorem Env0.below {w0 w : World} {bt bid bf : Nat} {has : Int} {id sys : ByteArray} {w' : World} (h : Env0 w0 w bt bid bf has id sys) (hb : Below w.heap.size w w') : Env0 w0 w' bt bid bf has id sys := ⟨btr h.hB hb, bcl hb h.hT, bcl hb h.hS, bcl hb h.hI, bcl hb h.hF⟩
/-- The same, with the table of old beginnings laid in block bl. -/
structure Env (w0 w : World) (bt bid bf bl : Nat) (has : Int) (id sys : ByteArray) : Prop extends Env0 w0 w bt bid bf has id sys where
  hL : ∀ i (h : i < oldL.length), w.cell? ⟨bl, i, none⟩ = some (.string oldL[i])
section
variable {w0 w : World} {bt bid bf bl : Nat} {has : Int} {id sys : ByteArray}
theorem Env.below {w' : World} (h : Env w0 w bt bid bf bl has id sys) (hb : Below w.heap.size w w') : Env w0 w' bt bid bf bl has id sys := ⟨h.toEnv0.below hb, fun i hi => bcl hb (h.hL i hi)⟩
theorem Env.alloc (h : Env w0 w bt bid bf bl has id sys) (o : Obj) : Env w0 (w.alloc o) bt bid bf bl has id sys := h.below ((Below.refl _ _).alloc (Nat.le_refl _) o)
theorem Env.drew (h : Env w0 w bt bid bf bl has id sys) : Env w0 w.drew bt bid bf bl has id sys := h.below (Below.refl _ _).drew
theorem Env0.old (h : Env0 w0 w bt bid bf has id sys) (n : Nat) (hn : n = w.heap.size + 1) : Env w0 ((w.alloc (.cells oldV 32)).alloc (.cells oldV 32)) bt bid bf n has id sys :=
  ⟨h.below (bal (bal (Below.refl _ _) _) _), fun i hi => by rw [World.cell?_alloc_at _ _ _ _ (by simp [hn])]; exact oldV_at i hi⟩
theorem Env0.mk2 {w2 : World} (hB : Below w.heap.size w w2) (hT : w2.cell? ⟨w.heap.size, 4, none⟩ = some (.int .i64 has)) (hS : w2.cell? ⟨w.heap.size, 3, none⟩ = some (.string sys)) :
    Env0 w ((w2.alloc (.cells #[.string id] 9)).alloc (.cells #[.func (.func 12) #[] #[.pointer (some ⟨w.heap.size, 0, none⟩), .pointer (some ⟨w2.heap.size, 0, none⟩)]] 30)) w.heap.size w2.heap.size (w2.heap.size + 1) has id sys := by
  refine ⟨bal (bal hB _) _, cell_alloc (cell_alloc hT _) _, cell_alloc (cell_alloc hS _) _, cell_alloc ?_ _, ?_⟩
  · rw [World.cell?_alloc_new]; rfl
  · rw [World.cell?_alloc_at _ _ _ _ (by simp)]; rfl
/-- The parameter's box, read behind a call. -/
theorem box_cells {w1 : World} {kind ch : Int} {nm data : ByteArray} {q sf : Bool} {at_ : Value}
    (hb : Below (w.alloc (.cells #[.int .i64 kind, .string nm, .string data, .string sys, .int .i64 has, .bool q, .int .i32 ch, .bool sf, at_] 24)).heap.size (w.alloc (.cells #[.int .i64 kind, .string nm, .string data, .string sys, .int .i64 has, .bool q, .int .i32 ch, .bool sf, at_] 24)) w1) :
    w1.cell? ⟨w.heap.size, 2, none⟩ = some (.string data) ∧ w1.cell? ⟨w.heap.size, 4, none⟩ = some (.int .i64 has) ∧ w1.cell? ⟨w.heap.size, 3, none⟩ = some (.string sys) ∧ Below w.heap.size w w1 := by
  refine ⟨bcl hb ?_, bcl hb ?_, bcl hb ?_, btr (bal (Below.refl _ _) _) hb⟩ <;> rw [World.cell?_alloc_new] <;> rfl

theorem begins_two (E : Env w0 w bt bid bf bl has id sys) (s t : ByteArray) (hs : s.size ≤ maxLen) (ht : t.size ≤ maxLen) (n : Nat) (hn : n = w.heap.size) :
    Calls Try.prog 12 #[.slice (some ⟨n, 0, none⟩) 2 2, .pointer (some ⟨bt, 0, none⟩), .pointer (some ⟨bid, 0, none⟩)] (w.alloc (.cells #[.string s, .string t] 9)) fun e w' => e = .returned (.bool (bgP (hasB has 2) id.data.toList [s, t])) ∧ Env w0 w' bt bid bf bl has id sys := by
  subst hn
  have E' := E.alloc (.cells #[.string s, .string t] 9)
  refine (begins12 w.heap.size 2 2 bt bid has id [s, t] _ rfl (by unfold maxLen; omega) (by simp; exact ⟨hs, ht⟩) (fun i h => ?_) E'.hT E'.hI).mono fun e w' ⟨he, hb⟩ => ⟨he, E'.below hb⟩
  rw [World.cell?_alloc_new]
  match i, h with
  | 0, _ => rfl
  | 1, _ => rfl
theorem begins_old (E : Env w0 w bt bid bf bl has id sys) :
    Calls Try.prog 12 #[.slice (some ⟨bl, 0, none⟩) 29 29, .pointer (some ⟨bt, 0, none⟩), .pointer (some ⟨bid, 0, none⟩)] w fun e w' => e = .returned (.bool (bgP (hasB has 2) id.data.toList oldL)) ∧ Env w0 w' bt bid bf bl has id sys :=
  (begins12 bl 29 29 bt bid has id oldL _ oldL_length.symm (by unfold maxLen; omega) oldL_short E.hL E.hT E.hI).mono fun e w' ⟨he, hb⟩ => ⟨he, E.below hb⟩
theorem is_one (E : Env w0 w bt bid bf bl has id sys) (s : ByteArray) (hs : s.size ≤ maxLen) :
    Calls Try.prog 13 #[.string s, .pointer (some ⟨bf, 0, none⟩), .pointer (some ⟨bid, 0, none⟩)] w fun e w' => e = .returned (.bool (isP (hasB has 2) id.data.toList s)) ∧ Env w0 w' bt bid bf bl has id sys :=
  (is13 bf bt bid s has id w hs E.hF E.hT E.hI).mono fun _ _ ⟨he, hb⟩ => ⟨he, E.below hb⟩
theorem small_sys (E : Env w0 w bt bid bf bl has id sys) (hs : sys.size ≤ maxLen) :
    Calls Try.prog 11 #[.string sys] w fun e w' => e = .returned (.string (mkS (low sys.data.toList))) ∧ Env w0 w' bt bid bf bl has id sys :=
  (small11 sys w hs).mono fun _ _ ⟨he, hb⟩ => ⟨he, E.below hb⟩

abbrev s4F : ByteArray := ⟨#[45, 47, 47, 87, 51, 67, 47, 47, 68, 84, 68, 32, 72, 84, 77, 76, 32, 52, 46, 48, 49, 32, 70, 114, 97, 109, 101, 115, 101, 116, 47, 47]⟩
abbrev s4T : ByteArray := ⟨#[45, 47, 47, 87, 51, 67, 47, 47, 68, 84, 68, 32, 72, 84, 77, 76, 32, 52, 46, 48, 49, 32, 84, 114, 97, 110, 115, 105, 116, 105, 111, 110, 97, 108, 47, 47]⟩
abbrev sXF : ByteArray := ⟨#[45, 47, 47, 87, 51, 67, 47, 47, 68, 84, 68, 32, 88, 72, 84, 77, 76, 32, 49, 46, 48, 32, 70, 114, 97, 109, 101, 115, 101, 116, 47, 47]⟩
abbrev sXT : ByteArray := ⟨#[45, 47, 47, 87, 51, 67, 47, 47, 68, 84, 68, 32, 88, 72, 84, 77, 76, 32, 49, 46, 48, 32, 84, 114, 97, 110, 115, 105, 116, 105, 111, 110, 97, 108, 47, 47]⟩
abbrev sW3 : ByteArray := ⟨#[45, 47, 47, 87, 51, 79, 47, 47, 68, 84, 68, 32, 87, 51, 32, 72, 84, 77, 76, 32, 83, 116, 114, 105, 99, 116, 32, 51, 46, 48, 47, 47, 69, 78, 47, 47]⟩
abbrev sTE : ByteArray := ⟨#[45, 47, 87, 51, 67, 47, 68, 84, 68, 32, 72, 84, 77, 76, 32, 52, 46, 48, 32, 84, 114, 97, 110, 115, 105, 116, 105, 111, 110, 97, 108, 47, 69, 78]⟩
abbrev sHT : ByteArray := ⟨#[72, 84, 77, 76]⟩
def sIBM : List UInt8 := [104, 116, 116, 112, 58, 47, 47, 119, 119, 119, 46, 105, 98, 109, 46, 99, 111, 109, 47, 100, 97, 116, 97, 47, 100, 116, 100, 47, 118, 49, 49, 47, 105, 98, 109, 120, 104, 116, 109, 108, 49, 45, 116, 114, 97, 110, 115, 105, 116, 105, 111, 110, 97, 108, 46, 100, 116, 100]
theorem s4F_short : s4F.size ≤ maxLen := by unfold maxLen; decide
theorem s4T_short : s4T.size ≤ maxLen := by unfold maxLen; decide
theorem sXF_short : sXF.size ≤ maxLen := by unfold maxLen; decide
theorem sXT_short : sXT.size ≤ maxLen := by unfold maxLen; decide
theorem sW3_short : sW3.size ≤ maxLen := by unfold maxLen; decide
theorem sTE_short : sTE.size ≤ maxLen := by unfold maxLen; decide
theorem sHT_short : sHT.size ≤ maxLen := by unfold maxLen; decide
def begins_4 (E : Env w0 w bt bid bf bl has id sys) := begins_two E s4F s4T s4F_short s4T_short
def begins_X (E : Env w0 w bt bid bf bl has id sys) := begins_two E sXF sXT sXF_short sXT_short
def is_W (E : Env w0 w bt bid bf bl has id sys) := is_one E sW3 sW3_short
def is_T (E : Env w0 w bt bid bf bl has id sys) := is_one E sTE sTE_short
def is_H (E : Env w0 w bt bid bf bl has id sys) := is_one E sHT sHT_short
end

/-- The mode of a doctype of HTML that forces nothing: id its public identifier in small letters. -/
def modeQ (id sys : List UInt8) (has : Int) : Int :=
  if isP (hasB has 2) id sW3 || isP (hasB has 2) id sTE || isP (hasB has 2) id sHT || bgP (hasB has 2) id oldL || (hasB has 4 && low sys == sIBM) || (!hasB has 4 && bgP (hasB has 2) id [s4F, s4T]) then 2
  else if bgP (hasB has 2) id [s4F, s4T] || bgP (hasB has 2) id [sXF, sXT] then 1 else 0
def modeP (kind has : Int) (nm data sys : List UInt8) (q : Bool) : Int :=
  if !(kind == 0) || q || !(low nm == [104, 116, 109, 108]) then 2 else modeQ (low data) sys has

theorem small_html (nm : ByteArray) (w : World) (hn : nm.size ≤ maxLen) (h : (low nm.data.toList == [104, 116, 109, 108]) = true) :
    Calls Try.prog 11 #[.string nm] w fun e w' => e = .returned (.string ⟨#[104, 116, 109, 108]⟩) ∧ Below w.heap.size w w' := by
  have := small11 nm w hn
  rwa [beq_iff_eq.1 h] at this

set_option maxHeartbeats 1000000 in
theorem mode6_yes (has ch : Int) (nm data sys : ByteArray) (sf : Bool) (at_ : Value) (w : World) (hn : nm.size ≤ maxLen) (hd : data.size ≤ maxLen) (hs : sys.size ≤ maxLen) (hh : (low nm.data.toList == [104, 116, 109, 108]) = true) :
    Calls Try.prog 6 #[.agg #[.int .i64 0, .string nm, .string data, .string sys, .int .i64 has, .bool false, .int .i32 ch, .bool sf, at_]] w fun e w' => e = .returned (.int .i64 (modeQ (low data.data.toList) sys.data.toList has)) ∧ Below w.heap.size w w' := by
  have HH := Go.Lib.hid hh
  clear hh
  go_enter Try.func6, Try.ntmps6
  go_wp2_with (first
    | (go_at_call 11; (with_reducible refine (small_html nm _ hn HH.out).mono ?_); rintro e w1 ⟨rfl, hb1⟩; obtain ⟨hD1, hT1, hS1, hB1⟩ := box_cells hb1)
    | (go_at_call 11; (with_reducible refine (small11 data _ hd).mono ?_); rintro e w2 ⟨rfl, hb2⟩; have E := Env0.mk2 (id := mkS (low data.data.toList)) (btr hB1 hb2) (bcl hb2 hT1) (bcl hb2 hS1))
    | (go_at_call 11; (with_reducible refine (small_sys E hs).mono ?_); rintro e w5 ⟨rfl, E⟩; have hF := E.hF; have hT := E.hT; have hS := E.hS; have hI := E.hI)
    | (go_at_call 14; (with_reducible refine (old14 _).mono ?_); rintro e w3 ⟨rfl, rfl⟩; have E := E.old (w2.heap.size + 1 + 1 + 1) (by simp); have hF := E.hF; have hT := E.hT; have hS := E.hS; have hI := E.hI)
    | (with_reducible refine step_alloc (o := ⟨some 6, .alloc 32, _, _, _, _⟩) rfl 32 rfl (Array.replicate 29 (.string ByteArray.empty)) ?h1 ?_)
    | (with_reducible refine step_store_new (o := ⟨none, .store 32 _ _, _, _, _, _⟩) rfl 32 _ _ rfl (Array.replicate 29 (.string ByteArray.empty)) oldV ?h3 ?h4 ?h5 ?h6 ?h7 ?_)
    | (go_at_call 12; (with_reducible refine (begins_4 E _ (by simp)).mono ?_); rintro e w5 ⟨rfl, E⟩; have hF := E.hF; have hT := E.hT; have hS := E.hS; have hI := E.hI; cases h4 : bgP (hasB has 2) (mkS (low data.data.toList)).data.toList [s4F, s4T])
    | (go_at_call 12; (with_reducible refine (begins_X E _ (by simp)).mono ?_); rintro e w5 ⟨rfl, E⟩; have hF := E.hF; have hT := E.hT; have hS := E.hS; have hI := E.hI; cases hX : bgP (hasB has 2) (mkS (low data.data.toList)).data.toList [sXF, sXT])
    | (go_at_call 13; (with_reducible refine (is_W E).mono ?_); rintro e w5 ⟨rfl, E⟩; have hF := E.hF; have hT := E.hT; have hS := E.hS; have hI := E.hI; cases hW : isP (hasB has 2) (mkS (low data.data.toList)).data.toList sW3)
    | (go_at_call 13; (with_reducible refine (is_T E).mono ?_); rintro e w5 ⟨rfl, E⟩; have hF := E.hF; have hT := E.hT; have hS := E.hS; have hI := E.hI; cases hE : isP (hasB has 2) (mkS (low data.data.toList)).data.toList sTE)
    | (go_at_call 12; (with_reducible refine (begins_old E).mono ?_); rintro e w5 ⟨rfl, E⟩; have hF := E.hF; have hT := E.hT; have hS := E.hS; have hI := E.hI; cases hO : bgP (hasB has 2) (mkS (low data.data.toList)).data.toList oldL)
    | (go_still_tail 2, (by kernel_rfl); change wpList _ _ _ _ _ (World.drew _); have E := E.drew; have hF := E.hF; have hT := E.hT; have hS := E.hS; have hI := E.hI)
    | (go_at_call 13; (with_reducible refine (is_H E).mono ?_); rintro e w5 ⟨rfl, E⟩; have hF := E.hF; have hT := E.hT; have hS := E.hS; have hI := E.hI; cases hH : isP (hasB has 2) (mkS (low data.data.toList)).data.toList sHT))
  case h1 => as_aux_lemma => kernel_rfl
  case h5 => as_aux_lemma => kernel_rfl
  case h6 => as_aux_lemma => kernel_rfl
  case h7 =>
    intro v hv
    obtain ⟨s, _, rfl⟩ : ∃ s, s ∈ oldL ∧ Value.string s = v := by simpa [oldV] using hv
    rfl
  all_goals
    go_ret
    exact ⟨ret_int (by simp_all [modeQ, mkS_data, hasB, sIBM, tl_mkS]), E.hB⟩
end Go.Proofs.Ytkkhaaapokkhlaa
