/- Texts of one seat, merged: lemmas and contracts that the law leans on. -/
import Derived.Test.YthfdiinfeljeeaaGreatDoorCM7
import Derived.Deep.RegionLaw
import Derived.Deep.RegionHeld3
import Derived.Lib.SpaceUEq
import Derived.Lib.TrimUEq
import Derived.Deep.LoopGhost
import Derived.Defers
import Derived.Lib.AppendStr
import Derived.Deep.RegionHeld
import Derived.Deep.QuietTactic
/- A Builder's text. -/
namespace Go.Proofs.YthfdiinfeljeeaaGreatDoor
open Go.RowKit
theorem Tryz.bytes5 : Tryz.prog.cellsOf 5 = 1 := by kernel_rfl
set_option maxHeartbeats 2000000 in
set_option maxRecDepth 100000 in
theorem string50 (B b T : Nat) (rest : List Value) (l : List UInt8) (w : World) (h : WB B b T rest (Lib.byteCells l) w) :
    Calls Tryz.prog 50 #[.pointer (some ⟨b, 0, none⟩)] w fun e w' => e = .returned (.string (mkS l)) ∧ Below B w w' := by
  obtain ⟨hB, p, v, hp, hbk, hown, hnil⟩ := h
  rw [Lib.byteCells_length] at hown
  have hbk' : w.drew.heap[b]? = some (.cells (p :: v :: rest).toArray T (0, 0)) := hbk
  have c1 := blk_cells hbk' 1
  rw [show (p :: v :: rest).toArray[1]? = some v by simp] at c1
  have mixed : Tryz.prog.follows .mixedOrders = true := by kernel_rfl
  cases l with
  | nil =>
    obtain rfl := hnil.2 rfl
    clear hnil hown
    have hUS := fun q => Lib.run_unsafeString_none (P := Tryz.prog) w.drew 118 3 9 q
    have hSD : (Builtin.unsafeSliceData_ #[93] 118 #[.slice none 0 0]).run Tryz.prog w.drew = .ok (.pointer none) w.drew := rfl
    go_enter Tryz.func50, Tryz.ntmps50
    go_wp2
    go_region_law (fail)
    all_goals (go_wp2; go_ret; exact ⟨rfl, Below.drew (Below.refl B w)⟩)
  | cons x r =>
    have h0 : (x :: r) ≠ [] := by simp
    generalize x :: r = l at *
    have hl0 : l.length ≠ 0 := by simpa using h0
    obtain ⟨g, cap, cur, rfl, hbg, hg, hnc, hcm, hcs, htake⟩ : ∃ g cap cur, v = .slice (some ⟨g, 0, none⟩) l.length cap ∧ B ≤ g ∧ w.heap[g]? = some (.cells cur 5 (0, 0)) ∧ l.length ≤ cap ∧ cap ≤ maxLen ∧ cur.size = cap * 1 ∧ cur.toList.take (l.length * 1) = Lib.byteCells l := by
      rcases hown.2 with ⟨_, hz⟩ | ⟨g, cap, cur, hv, r⟩
      · exact absurd hz hl0
      · exact ⟨g, cap, cur, hv, r⟩
    have hSD : (Builtin.unsafeSliceData_ #[93] 118 #[.slice (some ⟨g, 0, none⟩) l.length cap]).run Tryz.prog w.drew = .ok (.pointer (some ⟨g, 0, none⟩)) w.drew :=
      Lib.run_unsafeSliceData_row _ _ _ _ _ _ (by omega)
    have hUS : (Builtin.unsafeString_ #[118, 3] 9 #[.pointer (some ⟨g, 0, none⟩), .int .i64 l.length]).run Tryz.prog w.drew = .ok (.string ⟨l.toArray⟩) (w.drew.freeze ⟨g, 0, none⟩ l.length) := by
      refine Lib.run_unsafeString_row w.drew 118 3 9 5 Tryz.underlying118 Tryz.bytes5 g cur.size (by have hg' : w.drew.heap[g]? = some (.cells cur 5 (0, 0)) := hg; simp [World.shape?, hg']) l h0 (by omega) (by unfold maxLen at hcm; omega) ?_
      intro j x hx
      exact hown.cells (g := g) rfl j (.int .u8 x.toNat) (by simp [Lib.byteCells, hx])
    clear hown hnil hcs htake hnc hcm
    go_enter Tryz.func50, Tryz.ntmps50
    go_wp2
    go_region_law (fail)
    all_goals (go_wp2; go_ret; exact ⟨rfl, Lib.below_freeze (Below.drew (Below.refl B w)) (p := ⟨g, 0, none⟩) hbg _⟩)
end Go.Proofs.YthfdiinfeljeeaaGreatDoor
/- Escaping, plainly. -/
namespace Go.Proofs.YthfdiinfeljeeaaGreatDoor
/-- A text as it is written: between tags, or in an attribute. -/
def escL (attr : Bool) : List UInt8 → List UInt8
  | [] => []
  | a :: t =>
    if a = 38 then [38, 97, 109, 112, 59] ++ escL attr t
    else if a = 194 then match t with
      | b :: t' => if b = 160 then [38, 110, 98, 115, 112, 59] ++ escL attr t' else a :: escL attr (b :: t')
      | [] => [a]
    else if (a == 34 && attr) = true then [38, 113, 117, 111, 116, 59] ++ escL attr t
    else if (a == 60 && !attr) = true then [38, 108, 116, 59] ++ escL attr t
    else if (a == 62 && !attr) = true then [38, 103, 116, 59] ++ escL attr t
    else a :: escL attr t
theorem escL_cons (attr : Bool) (a : UInt8) (t : List UInt8) (h : a ≠ 194) : escL attr (a :: t) = (if a = 38 then [38, 97, 109, 112, 59] else if (a == 34 && attr) = true then [38, 113, 117, 111, 116, 59] else if (a == 60 && !attr) = true then [38, 108, 116, 59] else if (a == 62 && !attr) = true then [38, 103, 116, 59] else [a]) ++ escL attr t := by
  rw [escL.eq_def]
  simp only [if_neg h]
  repeat' split
  all_goals rfl
theorem escL_nb (attr : Bool) (t : List UInt8) : escL attr (194 :: 160 :: t) = [38, 110, 98, 115, 112, 59] ++ escL attr t := by
  rw [escL]; rfl
theorem escL_c2 (attr : Bool) (t : List UInt8) (h : t.head? ≠ some 160) : escL attr (194 :: t) = 194 :: escL attr t := by
  cases t with
  | nil => rfl
  | cons b t' =>
    rw [escL.eq_def]
    simp only
    rw [if_neg (show ¬ (194 : UInt8) = 38 by decide), if_pos trivial, if_neg (by simpa using h)]
end Go.Proofs.YthfdiinfeljeeaaGreatDoor
/- Escaping, rune by rune: plainly. -/
namespace Go.Proofs.YthfdiinfeljeeaaGreatDoor
theorem esc_run (attr : Bool) (t : List UInt8) : ∀ c : List UInt8, (∀ b ∈ c, 128 ≤ b.toNat ∧ b ≠ 194) → escL attr (c ++ t) = c ++ escL attr t
  | [], _ => rfl
  | b :: c, h => by
    have hb := h b (by simp)
    have ih := esc_run attr t c fun x hx => h x (List.mem_cons_of_mem _ hx)
    have n1 : b ≠ 38 := by rintro rfl; exact absurd hb.1 (by decide)
    have n2 : (b == 34) = false := beq_eq_false_iff_ne.2 (by rintro rfl; exact absurd hb.1 (by decide))
    have n3 : (b == 60) = false := beq_eq_false_iff_ne.2 (by rintro rfl; exact absurd hb.1 (by decide))
    have n4 : (b == 62) = false := beq_eq_false_iff_ne.2 (by rintro rfl; exact absurd hb.1 (by decide))
    rw [List.cons_append, escL_cons attr b _ hb.2, ih, if_neg n1, n2, n3, n4]
    simp
/-- What one step of the decoder takes, as it is written. -/
structure EscAt (attr : Bool) (d : List UInt8) (r k : Nat) : Prop where
  ge : 1 ≤ k
  le : k ≤ d.length
  amp : r = 38 → k = 1 ∧ escL attr d = [38, 97, 109, 112, 59] ++ escL attr (d.drop k)
  nb : r = 160 → k = 2 ∧ escL attr d = [38, 110, 98, 115, 112, 59] ++ escL attr (d.drop k)
  quot : r = 34 → attr = true → k = 1 ∧ escL attr d = [38, 113, 117, 111, 116, 59] ++ escL attr (d.drop k)
  lt : r = 60 → attr = false → k = 1 ∧ escL attr d = [38, 108, 116, 59] ++ escL attr (d.drop k)
  gt : r = 62 → attr = false → k = 1 ∧ escL attr d = [38, 103, 116, 59] ++ escL attr (d.drop k)
  no : r ≠ 38 → r ≠ 160 → ¬ (r = 34 ∧ attr = true) → ¬ (r = 60 ∧ attr = false) → ¬ (r = 62 ∧ attr = false) → escL attr d = d.take k ++ escL attr (d.drop k)
theorem esc_dec (attr : Bool) (d : List UInt8) (hd : d ≠ []) (r k : Nat) (h : Lib.decodeN d.length (d.getD 0 0).toNat (d.getD 1 0).toNat (d.getD 2 0).toNat (d.getD 3 0).toNat = (r, k)) : EscAt attr d r k := by
  obtain ⟨b0, t, rfl⟩ := List.exists_cons_of_ne_nil hd
  rw [show (b0 :: t).getD 0 0 = b0 from rfl] at h
  by_cases h0 : b0.toNat < 128
  · rw [Lib.decodeN, if_pos h0] at h
    obtain ⟨rfl, rfl⟩ := Prod.mk.inj h
    have n194 : b0 ≠ 194 := by rintro rfl; exact absurd h0 (by decide)
    have hE := escL_cons attr b0 t n194
    have e : ∀ n : Nat, n < 256 → b0.toNat = n → b0 = UInt8.ofNat n := fun n hn hb => UInt8.toNat_inj.1 (by rw [hb]; simp; omega)
    have e38 := e 38 (by decide)
    have e34 := e 34 (by decide)
    have e60 := e 60 (by decide)
    have e62 := e 62 (by decide)
    refine ⟨Nat.le_refl _, by simp, ?_, fun h => by omega, ?_, ?_, ?_, ?_⟩
    · intro hr
      obtain rfl := e38 hr
      exact ⟨rfl, hE⟩
    · rintro hr rfl
      obtain rfl := e34 hr
      exact ⟨rfl, hE⟩
    · rintro hr rfl
      obtain rfl := e60 hr
      exact ⟨rfl, hE⟩
    · rintro hr rfl
      obtain rfl := e62 hr
      exact ⟨rfl, hE⟩
    · intro c1 _ c2 c3 c4
      rw [hE, if_neg (by rintro rfl; exact c1 rfl), if_neg, if_neg, if_neg]
      · rfl
      · rintro hx
        rw [Bool.and_eq_true, beq_iff_eq] at hx
        obtain ⟨rfl, hx⟩ := hx
        exact c4 ⟨rfl, by simpa using hx⟩
      · rintro hx
        rw [Bool.and_eq_true, beq_iff_eq] at hx
        obtain ⟨rfl, hx⟩ := hx
        exact c3 ⟨rfl, by simpa using hx⟩
      · rintro hx
        rw [Bool.and_eq_true, beq_iff_eq] at hx
        obtain ⟨rfl, hx⟩ := hx
        exact c2 ⟨rfl, hx⟩
  · have hc := Lib.decodeN_conts (b0 :: t).length b0.toNat ((b0 :: t).getD 1 0).toNat ((b0 :: t).getD 2 0).toNat ((b0 :: t).getD 3 0).toNat
    have h1 := Lib.decodeN_ge1 (b0 :: t).length b0.toNat ((b0 :: t).getD 1 0).toNat ((b0 :: t).getD 2 0).toNat ((b0 :: t).getD 3 0).toNat
    rw [h] at hc h1
    dsimp only at hc h1
    obtain ⟨c1, c2, c3, c4⟩ := hc
    have hb0 := b0.toNat_lt
    -- what the numbers say
    have key : 128 ≤ r ∧ (k = 2 → b0.toNat / 32 = 6 ∧ r = b0.toNat % 32 * 64 + ((b0 :: t).getD 1 0).toNat % 64) ∧ (3 ≤ k → 224 ≤ b0.toNat) ∧ (k = 1 → r = 65533 ∧ ¬ (b0.toNat = 194 ∧ 1 < (b0 :: t).length ∧ ((b0 :: t).getD 1 0).toNat = 160)) ∧ (r = 160 → k = 2) := by
      generalize (b0 :: t).length = n at *
      generalize ((b0 :: t).getD 1 0).toNat = x1 at *
      generalize ((b0 :: t).getD 2 0).toNat = x2 at *
      generalize ((b0 :: t).getD 3 0).toNat = x3 at *
      generalize b0.toNat = x0 at *
      rw [Lib.decodeN, if_neg h0] at h
      clear c1 c2 c3 c4
      repeat' split at h
      all_goals
        obtain ⟨rfl, rfl⟩ := Prod.mk.inj h
        refine ⟨by omega, fun _ => by omega, fun _ => by omega, fun _ => by omega, fun _ => by omega⟩
    obtain ⟨k1, k2, k3, k4, k5⟩ := key
    have hl0 : 1 ≤ (b0 :: t).length := by simp
    have hle : k ≤ (b0 :: t).length := by omega
    refine ⟨h1, hle, fun _ => by omega, ?_, fun _ => by omega, fun _ => by omega, fun _ => by omega, ?_⟩
    · intro hr
      have hk := k5 hr
      subst hk
      obtain ⟨e1, e2⟩ := k2 rfl
      obtain ⟨b1, t1, rfl⟩ : ∃ b1 t1, t = b1 :: t1 := List.exists_cons_of_ne_nil (by rintro rfl; simp at hle)
      rw [show (b0 :: b1 :: t1).getD 1 0 = b1 from rfl] at e2 c1
      have := (c1 (Nat.le_refl _)).1
      obtain rfl : b0 = 194 := UInt8.toNat_inj.1 (by show b0.toNat = 194; have h3 := Nat.mod_lt b1.toNat (show 0 < 64 by decide); generalize b1.toNat % 64 = m at *; have h5 : b0.toNat % 32 = 2 := (by omega); omega)
      obtain rfl : b1 = 160 := UInt8.toNat_inj.1 (by show b1.toNat = 160; have e3 : (194 : UInt8).toNat = 194 := rfl; rw [e3] at e2; omega)
      exact ⟨rfl, escL_nb attr t1⟩
    · intro _ hr _ _ _
      rcases (show k = 1 ∨ k = 2 ∨ k = 3 ∨ k = 4 by omega) with rfl | rfl | rfl | rfl
      · by_cases e : b0 = 194
        · subst e
          have hn := (k4 rfl).2
          refine escL_c2 attr t ?_
          intro hh
          cases t with
          | nil => simp at hh
          | cons b1 t1 =>
            simp only [List.head?_cons, Option.some.injEq] at hh
            subst hh
            exact hn ⟨rfl, by simp, rfl⟩
        · exact esc_run attr t [b0] (by simp; exact ⟨by omega, e⟩)
      · obtain ⟨b1, t1, rfl⟩ : ∃ b1 t1, t = b1 :: t1 := List.exists_cons_of_ne_nil (by rintro rfl; simp at hle)
        obtain ⟨e1, e2⟩ := k2 rfl
        rw [show (b0 :: b1 :: t1).getD 1 0 = b1 from rfl] at e2 c1
        have hc1 := (c1 (Nat.le_refl _)).1
        have n1 : 128 ≤ b1.toNat ∧ b1 ≠ 194 := ⟨by omega, by rintro rfl; exact absurd hc1 (by decide)⟩
        by_cases e : b0 = 194
        · subst e
          rw [escL_c2 attr (b1 :: t1) (by
            simp only [List.head?_cons, ne_eq, Option.some.injEq]
            rintro rfl
            exact hr e2)]
          have := esc_run attr t1 [b1] (by simpa using n1)
          rw [show b1 :: t1 = [b1] ++ t1 from rfl, this]
          rfl
        · exact esc_run attr t1 [b0, b1] (by simp; exact ⟨⟨by omega, e⟩, n1⟩)
      · obtain ⟨b1, t1, rfl⟩ : ∃ b1 t1, t = b1 :: t1 := List.exists_cons_of_ne_nil (by rintro rfl; simp at hle)
        obtain ⟨b2, t2, rfl⟩ : ∃ b1 t2, t1 = b1 :: t2 := List.exists_cons_of_ne_nil (by rintro rfl; simp at hle)
        have hk := k3 (Nat.le_refl _)
        rw [show (b0 :: b1 :: b2 :: t2).getD 1 0 = b1 from rfl] at c1
        rw [show (b0 :: b1 :: b2 :: t2).getD 2 0 = b2 from rfl] at c2
        have hc1 := (c1 (by omega)).1
        have hc2 := (c2 (by omega)).1
        have n0 : 128 ≤ b0.toNat ∧ b0 ≠ 194 := ⟨by omega, by rintro rfl; exact absurd hk (by decide)⟩
        have n1 : 128 ≤ b1.toNat ∧ b1 ≠ 194 := ⟨by omega, by rintro rfl; exact absurd hc1 (by decide)⟩
        have n2 : 128 ≤ b2.toNat ∧ b2 ≠ 194 := ⟨by omega, by rintro rfl; exact absurd hc2 (by decide)⟩
        exact esc_run attr t2 [b0, b1, b2] (by simp; exact ⟨n0, n1, n2⟩)
      · obtain ⟨b1, t1, rfl⟩ : ∃ b1 t1, t = b1 :: t1 := List.exists_cons_of_ne_nil (by rintro rfl; simp at hle)
        obtain ⟨b2, t2, rfl⟩ : ∃ b1 t2, t1 = b1 :: t2 := List.exists_cons_of_ne_nil (by rintro rfl; simp at hle)
        obtain ⟨b3, t3, rfl⟩ : ∃ b1 t3, t2 = b1 :: t3 := List.exists_cons_of_ne_nil (by rintro rfl; simp at hle)
        have hk := k3 (by omega)
        rw [show (b0 :: b1 :: b2 :: b3 :: t3).getD 1 0 = b1 from rfl] at c1
        rw [show (b0 :: b1 :: b2 :: b3 :: t3).getD 2 0 = b2 from rfl] at c2
        rw [show (b0 :: b1 :: b2 :: b3 :: t3).getD 3 0 = b3 from rfl] at c3
        have hc1 := (c1 (by omega)).1
        have hc2 := (c2 (by omega)).1
        have hc3 := (c3 (by omega)).1
        have n0 : 128 ≤ b0.toNat ∧ b0 ≠ 194 := ⟨by omega, by rintro rfl; exact absurd hk (by decide)⟩
        have n1 : 128 ≤ b1.toNat ∧ b1 ≠ 194 := ⟨by omega, by rintro rfl; exact absurd hc1 (by decide)⟩
        have n2 : 128 ≤ b2.toNat ∧ b2 ≠ 194 := ⟨by omega, by rintro rfl; exact absurd hc2 (by decide)⟩
        have n3 : 128 ≤ b3.toNat ∧ b3 ≠ 194 := ⟨by omega, by rintro rfl; exact absurd hc3 (by decide)⟩
        exact esc_run attr t3 [b0, b1, b2, b3] (by simp; exact ⟨n0, n1, n2, n3⟩)
theorem esc_at (attr : Bool) (s : ByteArray) (pos : Nat) (h : pos < s.size) : EscAt attr (s.data.toList.drop pos) (Utf8.decode s pos).1 (Utf8.decode s pos).2 := by
  have hl := dlen s
  refine esc_dec attr _ (by rw [ne_eq, List.drop_eq_nil_iff]; omega) _ _ ?_
  rw [← Lib.decodeL_drop, Lib.decodeL_N]
end Go.Proofs.YthfdiinfeljeeaaGreatDoor
/- Escaping: the program writes what stands ahead of a place. -/
namespace Go.Proofs.YthfdiinfeljeeaaGreatDoor
open Go.RowKit
theorem WB.kept {B b T : Nat} {rest bs : List Value} {w w' : World} (h : WB B b T rest bs w) (hb : w'.heap[b]? = w.heap[b]?) (hg : ∀ (g : Nat) (cs : Array Value), w.heap[g]? = some (.cells cs 5 (0, 0)) → w'.heap[g]? = w.heap[g]?) : WB B b T rest bs w' := by
  obtain ⟨hB, p, v, hp, hbk, hown, hnil⟩ := h
  refine ⟨hB, p, v, hp, hb.trans hbk, ⟨hown.1, ?_⟩, hnil⟩
  rcases hown.2 with hn | ⟨g', cap', cur, hv, hb', hh, rest⟩
  · exact .inl hn
  · exact .inr ⟨g', cap', cur, hv, hb', (hg g' _ hh).trans hh, rest⟩
theorem WB.blk {B b T : Nat} {rest bs : List Value} {w : World} (h : WB B b T rest bs w) : ∃ cs, w.heap[b]? = some (.cells cs T (0, 0)) := by
  obtain ⟨_, p, v, _, hbk, _⟩ := h
  exact ⟨_, hbk⟩
theorem WB.fr {B b T B' : Nat} {T' : List Nat} {rest bs : List Value} {w w' : World} (h : WB B b T rest bs w) (hf : Fr B' T' w w') (h1 : T ∉ T') (h2 : 5 ∉ T') : WB B b T rest bs w' := by
  obtain ⟨cs, hc⟩ := h.blk
  exact h.kept ((hf.blk hc h1).trans hc.symm) fun g cs hg => (hf.blk hg h2).trans hg.symm
theorem WB.below {B b T : Nat} {rest bs : List Value} {w w' : World} (h : WB B b T rest bs w) (hb : Below w.heap.size w w') : WB B b T rest bs w' := by
  obtain ⟨cs, hc⟩ := h.blk
  exact h.kept (hb.block _ (blk_lt hc)) fun g cs hg => hb.block _ (blk_lt hg)
theorem WB.other {B b T k i t : Nat} {rest bs : List Value} {w : World} {cs : Array Value} (h : WB B b T rest bs w) (hk : w.heap[k]? = some (.cells cs t (0, 0))) (h1 : t ≠ T) (h2 : t ≠ 5) (v : Value) : WB B b T rest bs (w.setCell ⟨k, i, none⟩ v) := by
  obtain ⟨cs', hc⟩ := h.blk
  refine h.kept ((set_blk_ne hc (fun e => ?_) v).trans hc.symm) fun g cs hg => (set_blk_ne hg (fun e => ?_) v).trans hg.symm
  · subst e; rw [hk] at hc; injection hc with hc; injection hc with _ hc _; exact h1 hc
  · subst e; rw [hk] at hg; injection hg with hg; injection hg with _ hg _; exact h2 hg
theorem cells_app (a : List UInt8) (s : ByteArray) : Lib.byteCells a ++ Lib.strCells s = Lib.byteCells (a ++ s.data.toList) := by
  simp [Lib.byteCells, Lib.strCells]
set_option maxHeartbeats 2000000 in
set_option maxRecDepth 100000 in
theorem put106 (B b sB fB : Nat) (L : List UInt8) (s y : ByteArray) (f i n : Nat) (w : World) (h : WB B b 95 [] (Lib.byteCells L) w) (hs : w.heap[sB]? = some (.cells #[.string s] 9 (0, 0))) (hf : w.heap[fB]? = some (.cells #[.int .i64 (f : Int)] 3 (0, 0)))
    (h1 : f ≤ i) (h2 : i ≤ s.size) (hn : n ≤ 2) (hL : L.length ≤ 100000000) (hy : y.size ≤ 100) (hss : s.size ≤ 1048576) (hB : B ≤ w.heap.size) (hfB : B ≤ fB) :
    Calls Tryz.prog 106 #[.int .i64 (i : Int), .int .i64 (n : Int), .string y, .pointer (some ⟨b, 0, none⟩), .pointer (some ⟨sB, 0, none⟩), .pointer (some ⟨fB, 0, none⟩)] w fun e w' =>
      e = .returned (.tuple #[]) ∧ WB B b 95 [] (Lib.byteCells (L ++ (s.extract f i).data.toList ++ y.data.toList)) w' ∧ w'.heap[fB]? = some (.cells #[.int .i64 ((i + n : Nat) : Int)] 3 (0, 0)) ∧ Fr B [95, 5, 3] w w' := by
  have hbl : ∀ a : List UInt8, (Lib.byteCells a).length = a.length := Lib.byteCells_length
  have W1 := write86 B b 95 2 head95 [] (Lib.byteCells L) rfl (s.extract f i) w h (by rw [hbl, ByteArray.size_extract]; omega) hB
  have hcs := blk_cells hs 0
  have hcf := blk_cells hf 0
  have hex : (s.extract f i).size ≤ 1048576 := by rw [ByteArray.size_extract]; omega
  have hfr : ∀ w1, Fr B [95, 5] w w1 → B ≤ w1.heap.size := fun w1 h => Nat.le_trans hB h.size
  have hcl : (L ++ (s.extract f i).data.toList).length ≤ 200000000 := by rw [List.length_append, dlen]; omega
  rw [cells_app] at W1
  have W2 := fun w1 (h : WB B b 95 [] (Lib.byteCells (L ++ (s.extract f i).data.toList)) w1) hB => write86 B b 95 2 head95 [] (Lib.byteCells (L ++ (s.extract f i).data.toList)) rfl y w1 h (by rw [hbl]; omega) hB
  go_enter Tryz.func106, Tryz.ntmps106
  go_wp2_with (first | (go_at_call 86; with_reducible refine W1.mono ?_; rintro e w1 ⟨rfl, hw1, hf1⟩; have hc2 := hf1.blk hf (by decide)) | (go_at_call 86; with_reducible refine (W2 _ hw1 (hfr _ hf1)).mono ?_; rintro e w2 ⟨rfl, hw2, hf2⟩; have hc3 := hf2.blk hc2 (by decide); have ff := blk_free hc3 0; have fc := blk_cells hc3 0))
  rw [cells_app] at hw2
  go_end0
  exact ⟨rfl, hw2.other hc3 (by decide) (by decide) _, by have := set_blk (i := 0) hc3 (.int .i64 ((i : Int) + (n : Int))); rw [Int.natCast_add]; simpa using this, ((hf1.mono (by simp)).trans (hf2.mono (by simp))).set hc3 (by simp) hfB _⟩
end Go.Proofs.YthfdiinfeljeeaaGreatDoor
/- Escaping: the program's walk. -/
namespace Go.Proofs.YthfdiinfeljeeaaGreatDoor
open Go.RowKit Go.Lib
theorem ext_join (s : ByteArray) (f i k : Nat) (h : f ≤ i) : (s.extract f (i + k)).data.toList = (s.extract f i).data.toList ++ (s.data.toList.drop i).take k := by
  rw [ByteArray.data_extract, ByteArray.data_extract, Array.toList_extract, Array.toList_extract, List.extract_eq_take_drop, List.extract_eq_take_drop, show i + k - f = (i - f) + k by omega, List.take_add, List.drop_drop, show f + (i - f) = i by omega]
theorem ext_nil (s : ByteArray) (i : Nat) : (s.extract i i).data.toList = [] := by
  rw [ByteArray.data_extract, Array.toList_extract, List.extract_eq_take_drop, Nat.sub_self, List.take_zero]
theorem ext_len (s : ByteArray) (f i : Nat) (h : i ≤ s.size) : (s.extract f i).data.toList.length = i - f := by
  rw [dlen, ByteArray.size_extract]; omega
set_option maxHeartbeats 8000000 in
set_option maxRecDepth 100000 in
theorem escape85 (s : ByteArray) (attr : Bool) (w : World) (hs : s.size ≤ 1048576) :
    Calls Tryz.prog 85 #[.string s, .bool attr] w fun e w' => e = .returned (.string (mkS (escL attr s.data.toList))) ∧ Below w.heap.size w w' := by
  have hlen := dlen s
  have b0 := at_new w (.cells #[.string s] 9) _ rfl
  have b0 := at_old b0 (.cells #[.pointer none, .slice none 0 0] 95)
  have b1 := at_new (w.alloc (.cells #[.string s] 9)) (.cells #[.pointer none, .slice none 0 0] 95) (w.heap.size + 1) (by simp)
  have b0 := at_old b0 (.cells #[.int .i64 0] 3)
  have b1 := at_old b1 (.cells #[.int .i64 0] 3)
  have b2 := at_new ((w.alloc (.cells #[.string s] 9)).alloc (.cells #[.pointer none, .slice none 0 0] 95)) (.cells #[.int .i64 0] 3) (w.heap.size + 2) (by simp)
  have hB3 : Below w.heap.size w (((w.alloc (.cells #[.string s] 9)).alloc (.cells #[.pointer none, .slice none 0 0] 95)).alloc (.cells #[.int .i64 0] 3)) := bal (bal (bal (Below.refl _ _) _) _) _
  have hsz : (((w.alloc (.cells #[.string s] 9)).alloc (.cells #[.pointer none, .slice none 0 0] 95)).alloc (.cells #[.int .i64 0] 3)).heap.size = w.heap.size + 3 := by simp
  go_enter Tryz.func85, Tryz.ntmps85
  go_wp2
  generalize ((w.alloc (.cells #[.string s] 9)).alloc (.cells #[.pointer none, .slice none 0 0] 95)).alloc (.cells #[.int .i64 0] 3) = W3 at *
  have hit0 := World.iter_heap W3 s 0
  rw [hsz] at hit0
  have hw0 : WB w.heap.size (w.heap.size + 1) 95 [] (Lib.byteCells []) (W3.iter s 0) := ⟨by omega, _, _, .inl rfl, at_old b1 _, own_nil _ _ _ _, by simp [Lib.byteCells]⟩
  have c0 := at_old b0 (.stringIter s 0)
  have c2 := at_old b2 (.stringIter s 0)
  have hB4 := bal hB3 (.stringIter s 0)
  have c0 : (W3.iter s 0).heap[w.heap.size]? = some (.cells #[.string s] 9 (0, 0)) := c0
  have c2 : (W3.iter s 0).heap[w.heap.size + 2]? = some (.cells #[.int .i64 ((0 : Nat) : Int)] 3 (0, 0)) := c2
  have hB4 : Below w.heap.size w (W3.iter s 0) := hB4
  clear b0 b1 b2 hB3
  generalize W3.iter s 0 = wi at *
  go_loopg [8, 9] s.size (fun g _ _ wx => ∃ (i f : Nat) (L : List UInt8), (i ≤ s.size ∧ s.size ≤ i + g ∧ f ≤ i ∧ L.length ≤ 6 * f) ∧ wx.heap[w.heap.size + 3]? = some (.stringIter s i) ∧ wx.heap[w.heap.size]? = some (.cells #[.string s] 9 (0, 0)) ∧
    wx.heap[w.heap.size + 2]? = some (.cells #[.int .i64 (f : Int)] 3 (0, 0)) ∧ WB w.heap.size (w.heap.size + 1) 95 [] (Lib.byteCells L) wx ∧ Below w.heap.size w wx ∧ escL attr s.data.toList = L ++ (s.extract f i).data.toList ++ escL attr (s.data.toList.drop i))
  case atStart => exact ⟨0, 0, [], ⟨by omega, by omega, Nat.le_refl _, by simp⟩, hit0, c0, c2, hw0, hB4, by rw [ext_nil]; simp⟩
  case round =>
    clear hit0 c0 c2 hw0 hB4 hsz
    obtain ⟨i, f, L, hig, hit, c0, c2, hW, hB, hE⟩ := hrel
    have hg := Go.Lib.hid hig
    have HE := Go.Lib.hid hE
    obtain ⟨hi0, -, hfi, hL⟩ := hig
    clear hE
    by_cases hi : i < s.size
    · have E := esc_at attr s i hi
      have hnx := fun ty => run_next_any_at (P := Tryz.prog) wr (w.heap.size + 3) s i ty hit hi
      have hit2 := iterAt_heap wr (w.heap.size + 3) s i (i + (Utf8.decode s i).2) hit
      have hb2 := below_iterAt hB (show w.heap.size ≤ w.heap.size + 3 by omega) s (i + (Utf8.decode s i).2)
      have hoth := fun k (h : k ≠ w.heap.size + 3) => iterAt_other wr (w.heap.size + 3) k s (i + (Utf8.decode s i).2) h
      have c0 := (hoth w.heap.size (by omega)).trans c0
      have c2 := (hoth (w.heap.size + 2) (by omega)).trans c2
      have hW : WB w.heap.size (w.heap.size + 1) 95 [] (Lib.byteCells L) (wr.iterAt (w.heap.size + 3) s (i + (Utf8.decode s i).2)) := hW.kept (hoth _ (by omega)) fun g cs h => hoth g (fun e => by rw [e, hit] at h; cases h)
      generalize wr.iterAt (w.heap.size + 3) s (i + (Utf8.decode s i).2) = wn at *
      have hst : ∀ (L2 : List UInt8) (w2 : World) (f2 : Nat), Fr w.heap.size [95, 5, 3] wn w2 → w2.heap[w.heap.size + 3]? = some (.stringIter s (i + (Utf8.decode s i).2)) ∧ w2.heap[w.heap.size]? = some (.cells #[.string s] 9 (0, 0)) ∧ Below w.heap.size w w2 := fun _ w2 _ hf =>
        ⟨(hf.keep _ (blk_lt hit2) (fun cs t fr he => by rw [hit2] at he; cases he)).trans hit2, hf.blk c0 (by decide), hb2.trans hf.below⟩
      have hPut := fun (y : ByteArray) (n : Nat) (hy : y.size ≤ 100) (hn : n ≤ 2) => put106 w.heap.size (w.heap.size + 1) w.heap.size (w.heap.size + 2) L s y f i n wn hW c0 c2 hfi (by omega) hn (by omega) hy hs hb2.size (by omega)
      have hk := E.ge
      have hkl : i + (Utf8.decode s i).2 ≤ s.size := by have := E.le; rw [List.length_drop] at this; omega
      have hPre := (ext_len s f i hi0).symm
      have hLe : L.length ≤ 6 * s.size := by omega
      clear hoth hit hB
      have EH := Go.Lib.hid E
      clear E
      generalize (Utf8.decode s i).1 = r at *
      generalize (Utf8.decode s i).2 = k at *
      cases q38 : ((r : Int) == 38)
      · have n38 : r ≠ 38 := fun h => by rw [h] at q38; exact absurd q38 (by decide)
        cases q160 : ((r : Int) == 160)
        · have n160 : r ≠ 160 := fun h => by rw [h] at q160; exact absurd q160 (by decide)
          cases q34 : ((r : Int) == 34)
          · have n34 : r ≠ 34 := fun h => by rw [h] at q34; exact absurd q34 (by decide)
            cases q60 : ((r : Int) == 60)
            · have n60 : r ≠ 60 := fun h => by rw [h] at q60; exact absurd q60 (by decide)
              cases q62 : ((r : Int) == 62)
              · have n62 : r ≠ 62 := fun h => by rw [h] at q62; exact absurd q62 (by decide)
                have hE2 := EH.out.no n38 n160 (fun h => n34 h.1) (fun h => n60 h.1) (fun h => n62 h.1)
                have HE2 := Go.Lib.hid hE2
                clear hPut hE2
                go_wp2
                go_roundg (gk - 1)
                case measure => have := hg.out; omega
                case rel => exact ⟨i + k, f, L, ⟨hkl, by have := hg.out; omega, by omega, hL⟩, hit2, c0, c2, hW, hb2, by rw [HE.out, HE2.out, List.drop_drop, ext_join s f i k hfi]; simp⟩
              · have e62 : r = 62 := by have := beq_iff_eq.1 q62; omega
                subst e62
                cases attr
                · have hf0 := EH.out.gt rfl rfl
                  obtain ⟨rfl, hE2⟩ := hf0
                  have hP := hPut ⟨#[38, 103, 116, 59]⟩ 1 (by show 4 ≤ 100; decide) (by decide)
                  have HE2 := Go.Lib.hid hE2
                  clear hPut hE2
                  go_wp2_with (go_at_call 106; refine hP.mono ?_; rintro e w2 ⟨rfl, hw2, hf2, hfr2⟩)
                  obtain ⟨s1, s2, s3⟩ := hst [] w2 0 hfr2
                  go_roundg (gk - 1)
                  case measure => have := hg.out; omega
                  case rel => exact ⟨i + 1, i + 1, L ++ (s.extract f i).data.toList ++ [38, 103, 116, 59], ⟨hkl, by have := hg.out; omega, Nat.le_refl _, by rw [List.length_append, List.length_append, ← hPre]; simp only [List.length_cons, List.length_nil]; omega⟩, s1, s2, hf2, hw2, s3, by rw [HE.out, HE2.out, List.drop_drop, ext_nil]; simp⟩
                · have hx := hkl
                  have hE2 := EH.out.no n38 n160 (fun h => absurd h.1 (by decide)) (fun h => absurd h.1 (by decide)) (fun h => absurd h.2 (by decide))
                  have HE2 := Go.Lib.hid hE2
                  clear hPut hE2
                  go_wp2
                  go_roundg (gk - 1)
                  case measure => have := hg.out; omega
                  case rel => exact ⟨i + k, f, L, ⟨hkl, by have := hg.out; omega, by omega, hL⟩, hit2, c0, c2, hW, hb2, by rw [HE.out, HE2.out, List.drop_drop, ext_join s f i k hfi]; simp⟩
            · have e60 : r = 60 := by have := beq_iff_eq.1 q60; omega
              subst e60
              cases attr
              · have hf0 := EH.out.lt rfl rfl
                obtain ⟨rfl, hE2⟩ := hf0
                have hP := hPut ⟨#[38, 108, 116, 59]⟩ 1 (by show 4 ≤ 100; decide) (by decide)
                have HE2 := Go.Lib.hid hE2
                clear hPut hE2
                go_wp2_with (go_at_call 106; refine hP.mono ?_; rintro e w2 ⟨rfl, hw2, hf2, hfr2⟩)
                obtain ⟨s1, s2, s3⟩ := hst [] w2 0 hfr2
                go_roundg (gk - 1)
                case measure => have := hg.out; omega
                case rel => exact ⟨i + 1, i + 1, L ++ (s.extract f i).data.toList ++ [38, 108, 116, 59], ⟨hkl, by have := hg.out; omega, Nat.le_refl _, by rw [List.length_append, List.length_append, ← hPre]; simp only [List.length_cons, List.length_nil]; omega⟩, s1, s2, hf2, hw2, s3, by rw [HE.out, HE2.out, List.drop_drop, ext_nil]; simp⟩
              · have hx := hkl
                have hE2 := EH.out.no n38 n160 (fun h => absurd h.1 (by decide)) (fun h => absurd h.2 (by decide)) (fun h => absurd h.1 (by decide))
                have HE2 := Go.Lib.hid hE2
                clear hPut hE2
                go_wp2
                go_roundg (gk - 1)
                case measure => have := hg.out; omega
                case rel => exact ⟨i + k, f, L, ⟨hkl, by have := hg.out; omega, by omega, hL⟩, hit2, c0, c2, hW, hb2, by rw [HE.out, HE2.out, List.drop_drop, ext_join s f i k hfi]; simp⟩
          · have e34 : r = 34 := by have := beq_iff_eq.1 q34; omega
            subst e34
            cases attr
            · have hx := hkl
              have hE2 := EH.out.no n38 n160 (fun h => absurd h.2 (by decide)) (fun h => absurd h.1 (by decide)) (fun h => absurd h.1 (by decide))
              have HE2 := Go.Lib.hid hE2
              clear hPut hE2
              go_wp2
              go_roundg (gk - 1)
              case measure => have := hg.out; omega
              case rel => exact ⟨i + k, f, L, ⟨hkl, by have := hg.out; omega, by omega, hL⟩, hit2, c0, c2, hW, hb2, by rw [HE.out, HE2.out, List.drop_drop, ext_join s f i k hfi]; simp⟩
            · have hf0 := EH.out.quot rfl rfl
              obtain ⟨rfl, hE2⟩ := hf0
              have hP := hPut ⟨#[38, 113, 117, 111, 116, 59]⟩ 1 (by show 6 ≤ 100; decide) (by decide)
              have HE2 := Go.Lib.hid hE2
              clear hPut hE2
              go_wp2_with (go_at_call 106; refine hP.mono ?_; rintro e w2 ⟨rfl, hw2, hf2, hfr2⟩)
              obtain ⟨s1, s2, s3⟩ := hst [] w2 0 hfr2
              go_roundg (gk - 1)
              case measure => have := hg.out; omega
              case rel => exact ⟨i + 1, i + 1, L ++ (s.extract f i).data.toList ++ [38, 113, 117, 111, 116, 59], ⟨hkl, by have := hg.out; omega, Nat.le_refl _, by rw [List.length_append, List.length_append, ← hPre]; simp only [List.length_cons, List.length_nil]; omega⟩, s1, s2, hf2, hw2, s3, by rw [HE.out, HE2.out, List.drop_drop, ext_nil]; simp⟩
        · have e160 : r = 160 := by have := beq_iff_eq.1 q160; omega
          subst e160
          have hf0 := EH.out.nb rfl
          obtain ⟨rfl, hE2⟩ := hf0
          have hP := hPut ⟨#[38, 110, 98, 115, 112, 59]⟩ 2 (by show 6 ≤ 100; decide) (by decide)
          have HE2 := Go.Lib.hid hE2
          clear hPut hE2
          go_wp2_with (go_at_call 106; refine hP.mono ?_; rintro e w2 ⟨rfl, hw2, hf2, hfr2⟩)
          obtain ⟨s1, s2, s3⟩ := hst [] w2 0 hfr2
          go_roundg (gk - 1)
          case measure => have := hg.out; omega
          case rel => exact ⟨i + 2, i + 2, L ++ (s.extract f i).data.toList ++ [38, 110, 98, 115, 112, 59], ⟨hkl, by have := hg.out; omega, Nat.le_refl _, by rw [List.length_append, List.length_append, ← hPre]; simp only [List.length_cons, List.length_nil]; omega⟩, s1, s2, hf2, hw2, s3, by rw [HE.out, HE2.out, List.drop_drop, ext_nil]; simp⟩
      · have e38 : r = 38 := by have := beq_iff_eq.1 q38; omega
        subst e38
        have hf0 := EH.out.amp rfl
        obtain ⟨rfl, hE2⟩ := hf0
        have hP := hPut ⟨#[38, 97, 109, 112, 59]⟩ 1 (by show 5 ≤ 100; decide) (by decide)
        have HE2 := Go.Lib.hid hE2
        clear hPut hE2
        go_wp2_with (go_at_call 106; refine hP.mono ?_; rintro e w2 ⟨rfl, hw2, hf2, hfr2⟩)
        obtain ⟨s1, s2, s3⟩ := hst [] w2 0 hfr2
        go_roundg (gk - 1)
        case measure => have := hg.out; omega
        case rel => exact ⟨i + 1, i + 1, L ++ (s.extract f i).data.toList ++ [38, 97, 109, 112, 59], ⟨hkl, by have := hg.out; omega, Nat.le_refl _, by rw [List.length_append, List.length_append, ← hPre]; simp only [List.length_cons, List.length_nil]; omega⟩, s1, s2, hf2, hw2, s3, by rw [HE.out, HE2.out, List.drop_drop, ext_nil]; simp⟩
    · obtain rfl : i = s.size := by omega
      have hnx := fun ty => run_next_end_at (P := Tryz.prog) wr (w.heap.size + 3) s s.size ty hit hi
      have hP := put106 w.heap.size (w.heap.size + 1) w.heap.size (w.heap.size + 2) L s ⟨#[]⟩ f s.size 0 wr hW c0 c2 hfi (Nat.le_refl _) (by decide) (by omega) (by decide) hs hB.size (by omega)
      rw [List.drop_of_length_le (Nat.le_of_eq hlen)] at HE
      have he : L ++ (s.extract f s.size).data.toList ++ (⟨#[]⟩ : ByteArray).data.toList = escL attr s.data.toList := by rw [HE.out]; simp [escL]
      rw [he] at hP
      have HS := fun W h => string50 w.heap.size (w.heap.size + 1) 95 [] (escL attr s.data.toList) W h
      clear he HE
      have cs0 := blk_cells c0 0
      go_wp2_with (first | (go_at_call 106; refine hP.mono ?_; rintro e w2 ⟨rfl, hw2, hf2, hfr2⟩) | (go_at_call 50; with_reducible refine (HS _ hw2).mono ?_; rintro e w3 ⟨rfl, hw3⟩))

      go_ret
      exact ⟨rfl, (hB.trans hfr2.below).trans hw3⟩
end Go.Proofs.YthfdiinfeljeeaaGreatDoor
/- All nodes in a node: none twice; so what is written is not long. -/
namespace Go.Proofs.YthfdiinfeljeeaaGreatDoor
def preV (ks : Nat → List Nat) : Nat → Nat → List Nat
  | 0, id => [id]
  | f + 1, id => id :: (ks id).flatMap (preV ks f)
theorem preV_head (ks : Nat → List Nat) (f id : Nat) : id ∈ preV ks f id := by cases f <;> simp [preV]
section
variable {l : List Nd} {ks : Nat → List Nat} {rk : Nat → Nat}
theorem kid_rank (hG : Good l ks) (hR : Ranked l rk) {id c : Nat} (hid : id < l.length) (hc : c ∈ ks id) : c < l.length ∧ (gN l c).up = (id : Int) ∧ rk id < rk c := by
  obtain ⟨h1, h2⟩ := hG.mem id hid c hc
  refine ⟨h1, h2, ?_⟩
  have hu : upI l c = (id : Int) := by
    unfold upI
    rw [List.getElem?_eq_getElem h1]
    have : (l[c]).up = (id : Int) := by rw [← h2, show gN l c = l[c] from getD_of h1]
    simp only [this]
    rw [if_neg (by omega)]
  rcases hR c h1 with h3 | ⟨j, h3, _, h4⟩
  · rw [hu] at h3; omega
  · rw [hu] at h3
    obtain rfl : id = j := by omega
    exact h4
theorem preV_mem (hG : Good l ks) (hR : Ranked l rk) : ∀ (f id x : Nat), id < l.length → x ∈ preV ks f id → x < l.length ∧ rk id ≤ rk x
  | 0, id, x, hid, hx => by
    simp [preV] at hx
    subst hx
    exact ⟨hid, Nat.le_refl _⟩
  | f + 1, id, x, hid, hx => by
    rw [preV, List.mem_cons, List.mem_flatMap] at hx
    rcases hx with rfl | ⟨c, hc, hx⟩
    · exact ⟨hid, Nat.le_refl _⟩
    · obtain ⟨h1, _, h2⟩ := kid_rank hG hR hid hc
      obtain ⟨h3, h4⟩ := preV_mem hG hR f c x h1 hx
      exact ⟨h3, by omega⟩
theorem preV_up (hG : Good l ks) : ∀ (f id x : Nat), id < l.length → x ∈ preV ks f id → x = id ∨ ∃ y, y < l.length ∧ x ∈ ks y ∧ y ∈ preV ks f id
  | 0, id, x, _, hx => by
    simp [preV] at hx
    exact .inl hx
  | f + 1, id, x, hid, hx => by
    rw [preV, List.mem_cons, List.mem_flatMap] at hx
    rcases hx with rfl | ⟨c, hc, hx⟩
    · exact .inl rfl
    · right
      have hcl := (hG.mem id hid c hc).1
      rcases preV_up hG f c x hcl hx with rfl | ⟨y, hy, h1, h2⟩
      · exact ⟨id, hid, hc, by simp [preV]⟩
      · exact ⟨y, hy, h1, by rw [preV, List.mem_cons, List.mem_flatMap]; exact .inr ⟨c, hc, h2⟩⟩
theorem preV_apart (hG : Good l ks) (hR : Ranked l rk) (id c1 c2 f : Nat) (hid : id < l.length) (h1 : c1 ∈ ks id) (h2 : c2 ∈ ks id) : ∀ (n x : Nat), rk x ≤ n → x ∈ preV ks f c1 → x ∈ preV ks f c2 → c1 = c2 := by
  obtain ⟨l1, u1, r1⟩ := kid_rank hG hR hid h1
  obtain ⟨l2, u2, r2⟩ := kid_rank hG hR hid h2
  have key : ∀ c, c ∈ ks id → id ∈ preV ks f c → False := fun c hc hx => by
    obtain ⟨l3, _, r3⟩ := kid_rank hG hR hid hc
    have := (preV_mem hG hR f c id l3 hx).2
    omega
  intro n
  induction n with
  | zero =>
    intro x hn hx1 hx2
    have := (preV_mem hG hR f c1 x l1 hx1).2
    omega
  | succ n ih =>
    intro x hn hx1 hx2
    rcases preV_up hG f c1 x l1 hx1 with rfl | ⟨y1, hy1, k1, p1⟩
    · rcases preV_up hG f c2 x l2 hx2 with rfl | ⟨y2, hy2, k2, p2⟩
      · rfl
      · have := (hG.mem y2 hy2 x k2).2
        rw [u1] at this
        obtain rfl : id = y2 := by omega
        exact (key c2 h2 p2).elim
    · rcases preV_up hG f c2 x l2 hx2 with rfl | ⟨y2, hy2, k2, p2⟩
      · have := (hG.mem y1 hy1 x k1).2
        rw [u2] at this
        obtain rfl : id = y1 := by omega
        exact (key c1 h1 p1).elim
      · have e1 := (hG.mem y1 hy1 x k1).2
        have e2 := (hG.mem y2 hy2 x k2).2
        obtain rfl : y1 = y2 := by omega
        have := (kid_rank hG hR hy1 k1).2.2
        exact ih y1 (by omega) p1 p2
theorem nodup_flat {g : Nat → List Nat} : ∀ (xs : List Nat), xs.Nodup → (∀ c ∈ xs, (g c).Nodup) → (∀ c1 ∈ xs, ∀ c2 ∈ xs, ∀ x, x ∈ g c1 → x ∈ g c2 → c1 = c2) → (xs.flatMap g).Nodup
  | [], _, _, _ => by simp
  | a :: t, hn, hg, hd => by
    rw [List.flatMap_cons, List.nodup_append]
    refine ⟨hg a (by simp), nodup_flat t (List.nodup_cons.1 hn).2 (fun c hc => hg c (by simp [hc])) (fun c1 h1 c2 h2 => hd c1 (by simp [h1]) c2 (by simp [h2])), ?_⟩
    intro x hx y hy e
    subst e
    obtain ⟨c, hc, hy⟩ := List.mem_flatMap.1 hy
    have := hd a (by simp) c (by simp [hc]) x hx hy
    subst this
    exact (List.nodup_cons.1 hn).1 hc
theorem preV_nodup (hG : Good l ks) (hR : Ranked l rk) : ∀ (f id : Nat), id < l.length → (preV ks f id).Nodup
  | 0, id, _ => by simp [preV]
  | f + 1, id, hid => by
    rw [preV, List.nodup_cons]
    refine ⟨fun hx => ?_, nodup_flat _ (hG.nod id hid) (fun c hc => preV_nodup hG hR f c (hG.mem id hid c hc).1) (fun c1 h1 c2 h2 x hx1 hx2 => preV_apart hG hR id c1 c2 f hid h1 h2 (rk x) x (Nat.le_refl _) hx1 hx2)⟩
    obtain ⟨c, hc, hx⟩ := List.mem_flatMap.1 hx
    obtain ⟨l3, _, r3⟩ := kid_rank hG hR hid hc
    have := (preV_mem hG hR f c id l3 hx).2
    omega
theorem preV_len (hG : Good l ks) (hR : Ranked l rk) (f id : Nat) (hid : id < l.length) : (preV ks f id).length ≤ l.length :=
  nodup_bound l.length _ (preV_nodup hG hR f id hid) fun x hx => (preV_mem hG hR f id x hid hx).1
end
end Go.Proofs.YthfdiinfeljeeaaGreatDoor
/- What is written of a node, plainly; how long it is. -/
namespace Go.Proofs.YthfdiinfeljeeaaGreatDoor
/-- An attribute, a list of them, as they are written. -/
def attrW (x : A4) : List UInt8 := [32] ++ x.nm.data.toList ++ [61, 34] ++ escL true x.va.data.toList ++ [34]
def attrsW (al : List A4) : List UInt8 := al.flatMap attrW
/-- A node as it is written. -/
def outV (v : Nat → Vw) (ks : Nat → List Nat) : Nat → Nat → List UInt8
  | 0, _ => []
  | f + 1, id =>
    if ((v id).kind == 2) = true then escL false (v id).data.data.toList
    else if ((v id).kind == 3) = true then [60, 33, 45, 45] ++ (v id).data.data.toList ++ [45, 45, 62]
    else [60] ++ (v id).name.data.toList ++ attrsW (v id).al ++ [62] ++ (ks id).flatMap (outV v ks f) ++ [60, 47] ++ (v id).name.data.toList ++ [62]
abbrev okNames : List (List UInt8) := [wHtml, wHead, wTitle, wBody, wSpan, wP, wDiv, wSection, wArticle, wMain, wAside]
/-- What the writers meet of a document of the class. -/
def Wr (v : Nat → Vw) (ks : Nat → List Nat) : Nat → Nat → Prop
  | 0, _ => False
  | f + 1, id => ((v id).kind == 2) = true ∨ (((v id).kind == 2) = false ∧ ((v id).kind == 3) = true) ∨
      ((v id).kind = 1 ∧ (v id).space = 0 ∧ (v id).name.toList ∈ okNames ∧ (∀ x ∈ (v id).al, x.sp = 0) ∧ ∀ c ∈ ks id, Wr v ks f c)
theorem escL_len (attr : Bool) : ∀ (n : Nat) (l : List UInt8), l.length ≤ n → (escL attr l).length ≤ 6 * l.length
  | _, [], _ => by simp [escL]
  | 0, a :: t, h => by simp at h
  | n + 1, a :: t, h => by
    rw [List.length_cons] at h
    by_cases h194 : a = 194
    · subst h194
      rcases t with _ | ⟨b, t'⟩
      · simp [escL]
      · by_cases hb : b = 160
        · subst hb
          have := escL_len attr n t' (by rw [List.length_cons] at h; omega)
          rw [escL_nb, List.length_append]
          simp only [List.length_cons, List.length_nil]
          omega
        · have := escL_len attr n (b :: t') (by omega)
          rw [escL_c2 attr (b :: t') (by simpa using hb), List.length_cons]
          simp only [List.length_cons] at *
          omega
    · have := escL_len attr n t (by omega)
      rw [escL_cons attr a t h194, List.length_append, List.length_cons]
      repeat' split
      all_goals (simp only [List.length_cons, List.length_nil]; omega)
theorem attrsW_len : ∀ (al : List A4), (∀ s ∈ txtA al, s.size ≤ 1048576) → (attrsW al).length ≤ al.length * 7340036
  | [], _ => by simp [attrsW]
  | x :: t, h => by
    have ih := attrsW_len t fun s hs => h s (by simp only [txtA, List.flatMap_cons] at *; exact List.mem_append_right _ hs)
    have h1 := h x.nm (by simp [txtA])
    have h2 := h x.va (by simp [txtA])
    have h3 := escL_len true _ x.va.data.toList (Nat.le_refl _)
    rw [dlen] at h3
    have h4 : x.nm.data.toList.length = x.nm.size := dlen _
    rw [show attrsW (x :: t) = attrW x ++ attrsW t from rfl, List.length_append, attrW]
    simp only [List.length_append, List.length_cons, List.length_nil]
    omega
/-- What bounds a node's own texts. -/
structure SmallV (x : Vw) : Prop where
  name : x.name.size ≤ 1048576
  data : x.data.size ≤ 1048576
  al : x.al.length ≤ 1024
  txt : ∀ s ∈ txtA x.al, s.size ≤ 1048576
abbrev costC : Nat := 10000000000
theorem outV_len (v : Nat → Vw) (ks : Nat → List Nat) (hv : ∀ i, SmallV (v i)) : ∀ (f id : Nat), (outV v ks f id).length ≤ costC * (preV ks f id).length
  | 0, id => by simp [outV]
  | f + 1, id => by
    have hs := hv id
    have hn : (v id).name.data.toList.length = (v id).name.size := dlen _
    have hd : (v id).data.data.toList.length = (v id).data.size := dlen _
    have h1 := hs.name
    have h2 := hs.data
    have h3 := attrsW_len _ hs.txt
    have h4 := hs.al
    have h5 := escL_len false _ (v id).data.data.toList (Nat.le_refl _)
    have hk : ∀ xs : List Nat, (xs.flatMap (outV v ks f)).length ≤ costC * (xs.flatMap (preV ks f)).length := by
      intro xs
      induction xs with
      | nil => simp
      | cons a t ih =>
        rw [List.flatMap_cons, List.flatMap_cons, List.length_append, List.length_append, Nat.mul_add]
        have := outV_len v ks hv f a
        omega
    have hk := hk (ks id)
    rw [preV, List.length_cons, Nat.mul_add, Nat.mul_one, outV]
    have h6 : (v id).al.length * 7340036 ≤ 1024 * 7340036 := Nat.mul_le_mul_right _ h4
    generalize costC * ((ks id).flatMap (preV ks f)).length = K at *
    generalize (ks id).flatMap (outV v ks f) = O at *
    generalize attrsW (v id).al = A at *
    have hC : costC = 10000000000 := rfl
    repeat' split
    all_goals (try simp only [List.length_append, List.length_cons, List.length_nil])
    all_goals omega
theorem kids_len (v : Nat → Vw) (ks : Nat → List Nat) (hv : ∀ i, SmallV (v i)) (f : Nat) : ∀ xs : List Nat, (xs.flatMap (outV v ks f)).length ≤ costC * (xs.flatMap (preV ks f)).length
  | [] => by simp
  | a :: t => by
    rw [List.flatMap_cons, List.flatMap_cons, List.length_append, List.length_append, Nat.mul_add]
    have := outV_len v ks hv f a
    have := kids_len v ks hv f t
    omega
end Go.Proofs.YthfdiinfeljeeaaGreatDoor
/- A deferred write; names that are neither void nor raw. -/
namespace Go.Proofs.YthfdiinfeljeeaaGreatDoor
open Go.RowKit
set_option maxHeartbeats 2000000 in
set_option maxRecDepth 100000 in
theorem write86D (B b T k : Nat) (hT : HeadB T k) (rest bs : List Value) (hk : rest.length + 2 = k) (s : ByteArray) (u : FrameMode) (w : World) (h : WB B b T rest bs w) (hlen : bs.length + s.size ≤ 140737488355328) (hBw : B ≤ w.heap.size) :
    CallsD Tryz.prog 86 #[.pointer (some ⟨b, 0, none⟩), .string s] u w fun e u' w' => u' = u ∧ (e = .returned (.tuple #[.int .i64 s.size, .nilIface]) ∧ WB B b T rest (bs ++ Lib.strCells s) w' ∧ Fr B [T, 5] w w') := by
  obtain ⟨hB, p, v, hp, hbk, hown, hnil⟩ := h
  obtain ⟨i0, hi, hz0, hz1, hz2⟩ := info_parts Tryz.info5
  have C := copy107 T k b hT p v rest w hp hbk hk
  go_enter_d Tryz.func86, Tryz.ntmps86
  go_wp2_with (go_at_call 107; refine C.mono ?_)
  rintro e w1 ⟨rfl, hb1, hg1⟩
  have hr1 : w1.ownsRow B 5 1 v bs.length bs := hown.kept hg1 (.inr fun e => by
    obtain ⟨_, cs, hc⟩ := own_block hown e
    rw [hbk] at hc
    exact hT.1 (by injection hc with hc; injection hc))
  have hF1 : Fr B [T, 5] w w1 := (Fr.refl B _ w).grown hg1 (fun g e => by cases e; exact ⟨hB, .inr ⟨_, _, _, hbk, by simp⟩⟩) hBw
  have hs1 := hg1.size
  have c0 := blk_cells hb1 0
  have c1 := blk_cells hb1 1
  have f1 := blk_free hb1 1
  rw [show (Value.pointer (some ⟨b, 0, none⟩) :: v :: rest).toArray[0]? = some (.pointer (some ⟨b, 0, none⟩)) by simp] at c0
  rw [show (Value.pointer (some ⟨b, 0, none⟩) :: v :: rest).toArray[1]? = some v by simp] at c1
  clear C hbk hg1 hp
  go_wp2_with (at_builtin; refine Lib.wpList_append_own_string _ rfl _ _ 93 9 rfl B 5 i0 Tryz.underlying93 Tryz.underlying9 hi hz0 hz1 hz2 _ _ _ rfl hr1 s rfl ?c3 ?c4 ?c5 ?_)
  case c3 => unfold maxLen; omega
  case c4 => omega
  case c5 => omega
  intro v' w2 hown' hgrow hn'
  have hne : ∀ g, v.ownBlock = some g → g ≠ b := fun g e he => by
    obtain ⟨_, cs, hc⟩ := own_block hr1 e
    rw [he, hb1] at hc
    exact hT.1 (by injection hc with hc; injection hc)
  have hb2 : w2.heap[b]? = some (.cells (.pointer (some ⟨b, 0, none⟩) :: v :: rest).toArray T (0, 0)) := by
    rw [hgrow.block b (blk_lt hb1) (fun e => hne b e.symm rfl)]
    exact hb1
  have hF2 : Fr B [T, 5] w w2 := hF1.grown hgrow (fun g e => by obtain ⟨h1, cs, h2⟩ := own_block hr1 e; exact ⟨h1, .inr ⟨_, _, _, h2, by simp⟩⟩) hBw
  have d0 := blk_cells hb2 0
  have d1 := blk_cells hb2 1
  have g1 := blk_free hb2 1
  rw [show (Value.pointer (some ⟨b, 0, none⟩) :: v :: rest).toArray[0]? = some (.pointer (some ⟨b, 0, none⟩)) by simp] at d0
  rw [show (Value.pointer (some ⟨b, 0, none⟩) :: v :: rest).toArray[1]? = some v by simp] at d1
  obtain ⟨ao, n', cap, rfl⟩ : ∃ ao n' cap, v' = .slice ao n' cap := by
    rcases hown'.2 with ⟨hv, _⟩ | ⟨g, cap, cur, hv, _⟩
    · exact ⟨_, _, _, hv⟩
    · exact ⟨_, _, _, hv⟩
  have hl2 : bs.length + s.size = (bs ++ Lib.strCells s).length := by rw [List.length_append, Lib.strCells_length]
  rw [hl2] at hown'
  have hb3 := set_blk (i := 1) hb2 (.slice ao n' cap)
  have hr3 : (w2.setCell ⟨b, 1, none⟩ (.slice ao n' cap)).ownsRow B 5 1 (.slice ao n' cap) (bs ++ Lib.strCells s).length (bs ++ Lib.strCells s) := hown'.kept (grown_set w2 b 1 _) (.inr fun e => by
    obtain ⟨_, cs, hc⟩ := own_block hown' e
    rw [hb2] at hc
    exact hT.1 (by injection hc with hc; injection hc))
  have hn3 : Value.slice ao n' cap = .slice none 0 0 ↔ bs ++ Lib.strCells s = [] := by
    rw [hn', List.append_eq_nil_iff]
    constructor
    · rintro ⟨h1, rfl⟩
      exact ⟨h1, rfl⟩
    · rintro ⟨h1, h2⟩
      refine ⟨h1, ByteArray.ext ?_⟩
      have : s.size = 0 := by rw [← Lib.strCells_length, h2]; rfl
      exact Array.eq_empty_of_size_eq_zero this
  clear hown' hgrow hn' hr1 hb1 hF1 hown hnil hl2 hne
  go_wp2
  go_ret2
  exact ⟨rfl, ⟨hB, _, _, .inr rfl, by simpa using hb3, hr3, hn3⟩, hF2.set hb2 (by simp) hB _⟩
def voidNames : List ByteArray := [⟨#[97, 114, 101, 97]⟩, ⟨#[98, 97, 115, 101]⟩, ⟨#[98, 97, 115, 101, 102, 111, 110, 116]⟩, ⟨#[98, 103, 115, 111, 117, 110, 100]⟩, ⟨#[98, 114]⟩, ⟨#[99, 111, 108]⟩, ⟨#[101, 109, 98, 101, 100]⟩, ⟨#[102, 114, 97, 109, 101]⟩, ⟨#[104, 114]⟩, ⟨#[105, 109, 103]⟩, ⟨#[105, 110, 112, 117, 116]⟩, ⟨#[107, 101, 121, 103, 101, 110]⟩, ⟨#[108, 105, 110, 107]⟩, ⟨#[109, 101, 116, 97]⟩, ⟨#[112, 97, 114, 97, 109]⟩, ⟨#[115, 111, 117, 114, 99, 101]⟩, ⟨#[116, 114, 97, 99, 107]⟩, ⟨#[119, 98, 114]⟩]
def rawNames : List ByteArray := [⟨#[115, 116, 121, 108, 101]⟩, ⟨#[115, 99, 114, 105, 112, 116]⟩, ⟨#[120, 109, 112]⟩, ⟨#[105, 102, 114, 97, 109, 101]⟩, ⟨#[110, 111, 101, 109, 98, 101, 100]⟩, ⟨#[110, 111, 102, 114, 97, 109, 101, 115]⟩, ⟨#[112, 108, 97, 105, 110, 116, 101, 120, 116]⟩]
theorem no_void : ∀ L ∈ okNames, ∀ x ∈ voidNames, (x.toList == L) = false := by decide +kernel
theorem no_raw : ∀ L ∈ okNames, ∀ x ∈ rawNames, (x.toList == L) = false := by decide +kernel
set_option maxHeartbeats 1000000 in
set_option maxRecDepth 100000 in
theorem in83 (b T : Nat) (L : List ByteArray) (s : ByteArray) (w : World) (hb : w.heap[b]? = some (.cells (L.map Value.string).toArray T (0, 0))) (hno : ∀ x ∈ L, (x.toList == s.toList) = false) (hl : L.length ≤ 100) :
    Calls Tryz.prog 83 #[.slice (some ⟨b, 0, none⟩) L.length L.length, .string s] w fun e w' => e = .returned (.bool false) ∧ w' = w := by
  have hc : ∀ k (h : k < L.length), w.cell? ⟨b, k, none⟩ = some (.string L[k]) := fun k h => by rw [blk_cells hb k]; simp [h]
  have hn : ∀ k (h : k < L.length), (L[k].toList == s.toList) = false := fun k h => hno _ (List.getElem_mem h)
  clear hb hno
  go_enter Tryz.func83, Tryz.ntmps83
  go_wp2
  go_loopw [6, 9] (fun _ v9 wr => ∃ i : Nat, v9 = .int .i64 i ∧ i ≤ L.length ∧ wr = w) (fun _ v9 _ => L.length - (intOf v9).toNat)
  case atStart => exact ⟨0, rfl, Nat.zero_le _, rfl⟩
  case round =>
    obtain ⟨i, rfl, hi, rfl⟩ := hrel
    by_cases hlt : i < L.length
    · have cx := hc i hlt
      have nx := hn i hlt
      have i0 : (0 : Int) ≤ (i : Int) := by omega
      have i1 : (i : Int) < (L.length : Int) := by omega
      clear hc hn
      generalize L[i] = x at *
      go_wp2
      go_roundw
      case rel => exact ⟨i + 1, by go_num, by omega, by trivial⟩
      case measure => simp [intOf]; omega
    · obtain rfl : i = L.length := by omega
      clear hc hn
      go_wp2
      go_ret
      exact ⟨rfl, rfl⟩
set_option maxHeartbeats 1000000 in
set_option maxRecDepth 100000 in
theorem voids82 (w : World) : Calls Tryz.prog 82 #[] w fun e w' => e = .returned (.agg (voidNames.map Value.string).toArray) ∧ Below w.heap.size w w' := by
  unfold voidNames
  simp only [List.map_cons, List.map_nil]
  go_enter Tryz.func82, Tryz.ntmps82
  go_wp2
  exact bodyPost_ret (results_cell_row rfl _ _ w.heap.size 128 _ (0, 0) _ rfl (at_new _ _ _ rfl) Tryz.underlying128 rfl (by as_aux_lemma => kernel_rfl)) rfl ⟨rfl, bal (Below.refl _ _) _⟩
set_option maxHeartbeats 1000000 in
set_option maxRecDepth 100000 in
theorem void63 {name : ByteArray} (h : name.toList ∈ okNames) (w : World) : Calls Tryz.prog 63 #[.string name] w fun e w' => e = .returned (.bool false) ∧ Below w.heap.size w w' := by
  have V := voids82 w
  have I : ∀ (W : World) (b : Nat), W.heap[b]? = some (.cells (voidNames.map Value.string).toArray 128 (0, 0)) → Calls Tryz.prog 83 #[.slice (some ⟨b, 0, none⟩) 18 18, .string name] W fun e w' => e = .returned (.bool false) ∧ w' = W := fun W b hb => in83 b 128 voidNames name W hb (fun x hx => no_void _ h x hx) (by decide)
  unfold voidNames at V I
  simp only [List.map_cons, List.map_nil] at V I
  clear h
  go_enter Tryz.func63, Tryz.ntmps63
  go_wp2_with (first | (go_at_call 82; with_reducible refine V.mono ?_; rintro e w1 ⟨rfl, hw1⟩) | (go_at_call 83; refine (I _ _ (at_new _ _ _ rfl)).mono ?_; rintro e w2 ⟨rfl, rfl⟩))
  go_ret
  exact ⟨rfl, bal hw1 _⟩
set_option maxHeartbeats 1000000 in
set_option maxRecDepth 100000 in
theorem plains84 (w : World) : Calls Tryz.prog 84 #[] w fun e w' => e = .returned (.agg (rawNames.map Value.string).toArray) ∧ Below w.heap.size w w' := by
  unfold rawNames
  simp only [List.map_cons, List.map_nil]
  go_enter Tryz.func84, Tryz.ntmps84
  go_wp2
  exact bodyPost_ret (results_cell_row rfl _ _ w.heap.size 131 _ (0, 0) _ rfl (at_new _ _ _ rfl) Tryz.underlying131 rfl (by as_aux_lemma => kernel_rfl)) rfl ⟨rfl, bal (Below.refl _ _) _⟩
set_option maxHeartbeats 1000000 in
set_option maxRecDepth 100000 in
theorem plain65 {name : ByteArray} (h : name.toList ∈ okNames) (w : World) : Calls Tryz.prog 65 #[.string name, .bool false] w fun e w' => e = .returned (.bool false) ∧ Below w.heap.size w w' := by
  have V := plains84 w
  have I : ∀ (W : World) (b : Nat), W.heap[b]? = some (.cells (rawNames.map Value.string).toArray 131 (0, 0)) → Calls Tryz.prog 83 #[.slice (some ⟨b, 0, none⟩) 7 7, .string name] W fun e w' => e = .returned (.bool false) ∧ w' = W := fun W b hb => in83 b 131 rawNames name W hb (fun x hx => no_raw _ h x hx) (by decide)
  unfold rawNames at V I
  simp only [List.map_cons, List.map_nil] at V I
  clear h
  go_enter Tryz.func65, Tryz.ntmps65
  go_wp2_with (first | (go_at_call 84; with_reducible refine V.mono ?_; rintro e w1 ⟨rfl, hw1⟩) | (go_at_call 83; refine (I _ _ (at_new _ _ _ rfl)).mono ?_; rintro e w2 ⟨rfl, rfl⟩))
  go_ret
  exact ⟨rfl, bal hw1 _⟩
/-- A node's value of which we ask nothing but that it is an element of HTML of a name. -/
def okN (n : Nd) : Prop := n.kind = 1 ∧ n.space = 0 ∧ n.name.toList ∈ okNames
set_option maxHeartbeats 1000000 in
set_option maxRecDepth 100000 in
theorem html62v (n : Nd) (b : Nat) (h : okN n) (w : World) : Calls Tryz.prog 62 #[.agg (n.look b), .func (.func 63) #[] #[]] w fun e w' => e = .returned (.bool false) ∧ Below w.heap.size w w' := by
  obtain ⟨h1, h2, h3⟩ := h
  have hb1 := bal (Below.refl w.heap.size w) (.cells (n.look b) 52)
  have hbt : ∀ {w1 : World}, Below (w.alloc (.cells (n.look b) 52)).heap.size (w.alloc (.cells (n.look b) 52)) w1 → Below w.heap.size w w1 := fun h => hb1.trans ⟨h.os, h.tape, h.output, h.size, fun j hj => h.block j (Nat.lt_of_lt_of_le hj hb1.size)⟩
  have V := void63 h3 (w.alloc (.cells (n.look b) 52))
  unfold Nd.look at *
  rw [h1, h2] at *
  clear h1 h2 h3
  go_enter Tryz.func62, Tryz.ntmps62
  go_wp2_with (go_at_call 63; refine V.mono ?_; rintro e w1 ⟨rfl, hw1⟩)
  go_ret
  exact ⟨rfl, hbt hw1⟩
set_option maxHeartbeats 1000000 in
set_option maxRecDepth 100000 in
theorem raw64 {name : ByteArray} (h : name.toList ∈ okNames) (c b : Nat) (v0 v1 v2 : Value) (w : World) (hc : w.heap[c]? = some (.cells #[.pointer (some ⟨b, 0, none⟩)] 91 (0, 0))) (hb : w.heap[b]? = some (.cells #[v0, v1, v2, .bool false] 97 (0, 0))) :
    Calls Tryz.prog 64 #[.string name, .pointer (some ⟨c, 0, none⟩)] w fun e w' => e = .returned (.bool false) ∧ Below w.heap.size w w' := by
  have V := plain65 h w
  have c0 := blk_cells hc 0
  have c3 := blk_cells hb 3
  clear hc hb h
  go_enter Tryz.func64, Tryz.ntmps64
  go_wp2_with (go_at_call 65; refine V.mono ?_; rintro e w1 ⟨rfl, hw1⟩)
  go_ret
  exact ⟨rfl, hw1⟩
set_option maxHeartbeats 1000000 in
set_option maxRecDepth 100000 in
theorem html62r (n : Nd) (b : Nat) (h : okN n) (c bw : Nat) (v0 v1 v2 : Value) (w : World) (hc : w.heap[c]? = some (.cells #[.pointer (some ⟨bw, 0, none⟩)] 91 (0, 0))) (hb : w.heap[bw]? = some (.cells #[v0, v1, v2, .bool false] 97 (0, 0))) :
    Calls Tryz.prog 62 #[.agg (n.look b), .func (.func 64) #[] #[.pointer (some ⟨c, 0, none⟩)]] w fun e w' => e = .returned (.bool false) ∧ Below w.heap.size w w' := by
  obtain ⟨h1, h2, h3⟩ := h
  have hb1 := bal (Below.refl w.heap.size w) (.cells (n.look b) 52)
  have hbt : ∀ {w1 : World}, Below (w.alloc (.cells (n.look b) 52)).heap.size (w.alloc (.cells (n.look b) 52)) w1 → Below w.heap.size w w1 := fun h => hb1.trans ⟨h.os, h.tape, h.output, h.size, fun j hj => h.block j (Nat.lt_of_lt_of_le hj hb1.size)⟩
  have V := raw64 h3 c bw v0 v1 v2 (w.alloc (.cells (n.look b) 52)) (at_old hc _) (at_old hb _)
  unfold Nd.look at *
  rw [h1, h2] at *
  clear h1 h2 h3 hc hb
  go_enter Tryz.func62, Tryz.ntmps62
  go_wp2_with (go_at_call 64; refine V.mono ?_; rintro e w1 ⟨rfl, hw1⟩)
  go_ret
  exact ⟨rfl, hbt hw1⟩
theorem shown87 (pre nm va : ByteArray) (w : World) : Calls Tryz.prog 87 #[.agg #[.int .i64 0, .string pre, .string nm, .string va]] w fun e w' => e = .returned (.string nm) ∧ Below w.heap.size w w' := by
  go_enter Tryz.func87, Tryz.ntmps87
  go_wp2
  go_ret
  exact ⟨rfl, bal (Below.refl _ _) _⟩
end Go.Proofs.YthfdiinfeljeeaaGreatDoor
/- The program writes a text, a comment. -/
namespace Go.Proofs.YthfdiinfeljeeaaGreatDoor
open Go.RowKit
theorem WB.two {B b T : Nat} {x y : Value} {bs : List Value} {w : World} (h : WB B b T [x, y] bs w) : w.cell? ⟨b, 2, none⟩ = some x ∧ w.cell? ⟨b, 3, none⟩ = some y := by
  obtain ⟨_, p, v, _, hbk, _⟩ := h
  have c2 := blk_cells hbk 2
  have c3 := blk_cells hbk 3
  exact ⟨by simpa using c2, by simpa using c3⟩
theorem WB.drew {B b T : Nat} {rest bs : List Value} {w : World} (h : WB B b T rest bs w) : WB B b T rest bs w.drew := h.below ⟨rfl, rfl, rfl, Nat.le_refl _, fun _ _ => rfl⟩
theorem WB.le {B b T : Nat} {rest bs : List Value} {w : World} (h : WB B b T rest bs w) : B ≤ w.heap.size := by
  obtain ⟨cs, hc⟩ := h.blk
  have := blk_lt hc
  have := h.base
  omega
theorem wr86 (B b p : Nat) (L : List UInt8) (s : ByteArray) (w : World) (h : WB B b 97 [.pointer (some ⟨p, 0, none⟩), .bool false] (Lib.byteCells L) w) (hL : L.length ≤ 100000000000000) (hs : s.size ≤ 10000000000000) :
    Calls Tryz.prog 86 #[.pointer (some ⟨b, 0, none⟩), .string s] w fun e w' => (e = .returned (.tuple #[.int .i64 s.size, .nilIface])) ∧ WB B b 97 [.pointer (some ⟨p, 0, none⟩), .bool false] (Lib.byteCells (L ++ s.data.toList)) w' ∧ Fr B [97, 5] w w' := by
  have := write86 B b 97 4 head97 [.pointer (some ⟨p, 0, none⟩), .bool false] (Lib.byteCells L) rfl s w h (by rw [Lib.byteCells_length]; omega) h.le
  rw [cells_app] at this
  exact this
set_option maxHeartbeats 8000000 in
set_option maxRecDepth 100000 in
theorem text66 (B bw BA p g cap : Nat) (l : List Nd) (id : Nat) (L : List UInt8) (w : World) (hA : ArO w BA p g cap l) (hid : id < l.length) (hal : l[id].al.length ≤ 1024) (hd : l[id].data.size ≤ 1048576) (hkind : l[id].kind = 2)
    (hW : WB B bw 97 [.pointer (some ⟨p, 0, none⟩), .bool false] (Lib.byteCells L) w) (hL : L.length ≤ 100000000000000) :
    Calls Tryz.prog 66 #[.pointer (some ⟨bw, 0, none⟩), .int .i64 (id : Int), .bool false] w fun e w' => e = .returned (.tuple #[]) ∧ WB B bw 97 [.pointer (some ⟨p, 0, none⟩), .bool false] (Lib.byteCells (L ++ escL false l[id].data.data.toList)) w' ∧ Fr B [97, 5] w w' := by
  have hN := node21 BA p g cap l id w hA hid hal
  obtain ⟨c2, c3⟩ := hW.two
  have hel := escL_len false _ l[id].data.data.toList (Nat.le_refl _)
  rw [dlen] at hel
  generalize l[id] = n at *
  obtain ⟨kind, space, name, al, aa, ac, data, sys, up, fst, lst, prv, nxt, inn, host⟩ := n
  unfold NodePost Nd.look at hN
  dsimp only at *
  subst hkind
  have E := fun W => escape85 data false W hd
  have hle := hW.le
  clear hA hal
  go_enter Tryz.func66, Tryz.ntmps66
  go_wp2_with (first | (go_at_call 21; with_reducible refine hN.mono ?_; rintro e w1 ⟨ab, rfl, hb, hle1, hw1⟩) | (go_at_call 85; with_reducible refine (E _).mono ?_; rintro e w2 ⟨rfl, hw2⟩; have hbx := bblk hw2 (at_new _ _ _ rfl); have cx := blk_cells hbx; have fx := blk_free hbx))
  have hW1 := (hW.below hw1).below (bal (Below.refl _ _) (.cells #[.int .i64 2, .int .i64 space, .string name, .slice (some ⟨ab, 0, none⟩) al.length al.length, .string data, .string sys, .int .i64 up, .int .i64 fst, .int .i64 lst, .int .i64 prv, .int .i64 nxt, .int .i64 inn] 52))
  have hW2 := ((hW1.below hw2).other hbx (by decide) (by decide) (i := 4) (.string (mkS (escL false data.data.toList)))).drew
  have hset := set_blk (i := 4) hbx (.string (mkS (escL false data.data.toList)))
  have hb1 := bal hw1 (.cells #[.int .i64 2, .int .i64 space, .string name, .slice (some ⟨ab, 0, none⟩) al.length al.length, .string data, .string sys, .int .i64 up, .int .i64 fst, .int .i64 lst, .int .i64 prv, .int .i64 nxt, .int .i64 inn] 52)
  have hF : Fr B [97, 5] w (w2.setCell ⟨w1.heap.size, 4, none⟩ (.string (mkS (escL false data.data.toList)))).drew := (Fr.new_set (Fr.of_below hle (btr hb1 hw2)) hw1.size hle _).trans (Fr.of_below (by have := hW2.le; exact this) ⟨rfl, rfl, rfl, Nat.le_refl _, fun _ _ => rfl⟩)
  have hce : ((w2.setCell ⟨w1.heap.size, 4, none⟩ (.string (mkS (escL false data.data.toList)))).drew).cell? ⟨w1.heap.size, 4, none⟩ = some (.string (mkS (escL false data.data.toList))) := blk_cells hset 4
  have P := wr86 B bw p L (mkS (escL false data.data.toList)) _ hW2 hL (by rw [mkS_size]; omega)
  rw [mkS_data] at P
  clear hW1 hW2 hset hbx cx fx hN E hW c2 c3
  go_region_law (go_simp; go_at_call 86; with_reducible refine P.mono ?_; rintro e w3 ⟨rfl, hw3, hf3⟩)
  all_goals (go_wp2; go_end0; exact ⟨rfl, hw3, hF.trans hf3⟩)
end Go.Proofs.YthfdiinfeljeeaaGreatDoor
/- Escaping: the reference's walk. -/
namespace Go.Proofs.YthfdiinfeljeeaaGreatDoor
open Go.RowKit
theorem strCells_u8 (s : ByteArray) : Go.Lib.strCells s = u8s s.data.toList := by
  simp [Go.Lib.strCells, u8s]
theorem info5e : ∃ i, Tryz.prog.info? 5 = some i ∧ i.zero = some (.int .u8 0) ∧ i.size = 1 ∧ i.bytes = 1 := by
  obtain ⟨i, h1, h2⟩ := Option.map_eq_some_iff.1 (show (Tryz.prog.info? 5).map (fun i => (i.zero, i.size, i.bytes)) = some (some (.int .u8 0), 1, 1) by kernel_rfl)
  simp only [Prod.mk.injEq] at h2
  exact ⟨i, h1, h2.1, h2.2.1, h2.2.2⟩
/-- 'out = append(out, "..")'. -/
theorem step_app_str {w0 w : World} {ops : Array Oper} {rest : List Oper} {o : Oper} {a : Act} {Q : Exit → Act → World → Prop} (hgd : o.guard = none) (sl x : Operand)
    (ho : o.op = .call { callee := .builtin .append, args := #[sl, x], argTypes := #[93, 9] }) (base : Nat)
    (v : Value) (n : Nat) (L : List UInt8) (hs : a.eval sl = v) (hown : w.ownsRow base 5 1 v n (u8s L)) (s : ByteArray) (hx : a.eval x = .string s)
    (hl : n + s.size ≤ 100000000) (hB : Below base w0 w) (hbase : base ≤ w.heap.size)
    (h : ∀ v' w', w'.ownsRow base 5 1 v' (n + s.size) (u8s (L ++ s.data.toList)) → Below base w0 w' → wpList Tryz.prog ops Q rest (a.put o.dst v') w') : wpList Tryz.prog ops Q (o :: rest) a w := by
  obtain ⟨i, hi, hz, h1, h2⟩ := info5e
  refine Go.Lib.wpList_append_own_string (w := w) hgd sl x 93 9 ho base 5 i Tryz.underlying93 Tryz.underlying9 hi hz h1 h2 v n (u8s L) hs hown s hx (by simp only [maxLen]; omega) (by omega) hbase ?_
  intro v' w' hown' hg _
  refine h v' w' ?_ (hB.grown hg hbase (own_base hown))
  rw [strCells_u8] at hown'
  rw [U.u8s_append']
  exact hown'
set_option maxHeartbeats 8000000 in
set_option maxRecDepth 100000 in
theorem rescape89 (s : ByteArray) (attr : Bool) (w : World) (hs : s.size ≤ 1048576) :
    Calls Tryz.prog 89 #[.string s, .bool attr] w fun e w' => e = .returned (.string (mkS (escL attr s.data.toList))) ∧ Below w.heap.size w w' := by
  have hlen := dlen s
  go_enter Tryz.func89, Tryz.ntmps89
  go_wp2
  go_loopw [5, 6] (fun v5 v6 wr => ∃ (i : Nat) (L : List UInt8), v6 = .int .i64 i ∧ i ≤ s.size ∧ L.length ≤ 6 * i ∧ wr.ownsRow w.heap.size 5 1 v5 L.length (u8s L) ∧ Below w.heap.size w wr ∧ escL attr s.data.toList = L ++ escL attr (s.data.toList.drop i)) (fun _ v6 _ => s.size - (intOf v6).toNat)
  case atStart => exact ⟨0, [], rfl, Nat.zero_le _, by simp, own_nil _ _ _ _, Below.refl _ _, by simp⟩
  case round =>
    obtain ⟨i, L, rfl, hi, hl, hown, hb, hE⟩ := hrel
    have hbs := hb.size
    by_cases hlt : i < s.size
    · have hd := drop_at s i hlt
      have hg := at_list s i hlt
      obtain ⟨x, hx⟩ : ∃ x, s[i]'hlt = x := ⟨_, rfl⟩
      rw [hx] at hg
      rw [hg] at hd
      rw [hd] at hE
      have hl2 : L.length + 6 ≤ 100000000 := by omega
      have i0 : (0 : Int) ≤ (i : Int) := by omega
      have i1 : (i : Int) < (s.size : Int) := by omega
      obtain ⟨oa5, c5, rfl⟩ := own_slice hown
      clear hg hd
      cases q38 : ((x.toNat : Int) == 38)
      · cases q194 : ((x.toNat : Int) == 194)
        · have hn194 : x ≠ 194 := by rintro rfl; simp at q194
          have hn38 : x ≠ 38 := by rintro rfl; simp at q38
          have hE2 := escL_cons attr x (s.data.toList.drop (i + 1)) hn194
          rw [if_neg hn38] at hE2
          cases q34 : ((x.toNat : Int) == 34)
          · have e34 : (x == 34) = false := by rw [beq_eq_false_iff_ne]; rintro rfl; simp at q34
            cases q60 : ((x.toNat : Int) == 60)
            · have e60 : (x == 60) = false := by rw [beq_eq_false_iff_ne]; rintro rfl; simp at q60
              cases q62 : ((x.toNat : Int) == 62)
              · have e62 : (x == 62) = false := by rw [beq_eq_false_iff_ne]; rintro rfl; simp at q62
                rw [e34, e60, e62] at hE2
                simp only [Bool.false_and, Bool.false_eq_true, if_false] at hE2
                have HE := Go.Lib.hid (And.intro hE hE2)
                clear hE hE2
                go_wp2_with (at_builtin; refine step_append (w0 := w) rfl w.heap.size (.tmp 13) (.tmp 17) 93 5 (.int .u8 0) 1 1 rfl Tryz.underlying93 U.Tryz.info5 rfl (by decide) (by decide) _ L.length wr.heap.size (u8s L) #[.int .u8 x.toNat] rfl rfl rfl rfl (fun u hu => by simp at hu; subst hu; rfl) hown hb hbs (by omega) ?_; intro v2 w2 hown2 hb2)
                go_roundw
                case rel => exact ⟨i + 1, L ++ [x], by go_num, by omega, by rw [List.length_append]; simp only [List.length_cons, List.length_nil]; omega, by rw [List.length_append, U.u8s_append']; exact hown2, hb2, by rw [HE.out.1, HE.out.2, List.append_assoc]⟩
                case measure => simp [intOf]; omega
              · obtain rfl : x = 62 := UInt8.toNat_inj.1 (by have := beq_iff_eq.1 q62; show x.toNat = 62; omega)
                cases attr
                · have HE := Go.Lib.hid (And.intro hE hE2)
                  clear hE hE2
                  go_wp2_with (at_builtin; refine step_app_str (w0 := w) rfl (.tmp 79) _ rfl w.heap.size _ L.length L rfl hown ⟨#[38, 103, 116, 59]⟩ rfl (by show L.length + 4 ≤ 100000000; omega) hb hbs ?_; intro v2 w2 hown2 hb2)
                  go_roundw
                  case rel => exact ⟨i + 1, L ++ [38, 103, 116, 59], by go_num, by omega, by rw [List.length_append]; simp only [List.length_cons, List.length_nil]; omega, by rw [List.length_append]; exact hown2, hb2, by rw [HE.out.1, HE.out.2, List.append_assoc]; rfl⟩
                  case measure => simp [intOf]; omega
                · have HE := Go.Lib.hid (And.intro hE hE2)
                  clear hE hE2
                  go_wp2_with (at_builtin; refine step_append (w0 := w) rfl w.heap.size (.tmp 13) (.tmp 17) 93 5 (.int .u8 0) 1 1 rfl Tryz.underlying93 U.Tryz.info5 rfl (by decide) (by decide) _ L.length wr.heap.size (u8s L) #[.int .u8 62] rfl rfl rfl rfl (fun u hu => by simp at hu; subst hu; rfl) hown hb hbs (by omega) ?_; intro v2 w2 hown2 hb2)
                  go_roundw
                  case rel => exact ⟨i + 1, L ++ [62], by go_num, by omega, by rw [List.length_append]; simp only [List.length_cons, List.length_nil]; omega, by rw [List.length_append, U.u8s_append']; exact hown2, hb2, by rw [HE.out.1, HE.out.2, List.append_assoc]; rfl⟩
                  case measure => simp [intOf]; omega
            · obtain rfl : x = 60 := UInt8.toNat_inj.1 (by have := beq_iff_eq.1 q60; show x.toNat = 60; omega)
              cases attr
              · have HE := Go.Lib.hid (And.intro hE hE2)
                clear hE hE2
                go_wp2_with (at_builtin; refine step_app_str (w0 := w) rfl (.tmp 68) _ rfl w.heap.size _ L.length L rfl hown ⟨#[38, 108, 116, 59]⟩ rfl (by show L.length + 4 ≤ 100000000; omega) hb hbs ?_; intro v2 w2 hown2 hb2)
                go_roundw
                case rel => exact ⟨i + 1, L ++ [38, 108, 116, 59], by go_num, by omega, by rw [List.length_append]; simp only [List.length_cons, List.length_nil]; omega, by rw [List.length_append]; exact hown2, hb2, by rw [HE.out.1, HE.out.2, List.append_assoc]; rfl⟩
                case measure => simp [intOf]; omega
              · have HE := Go.Lib.hid (And.intro hE hE2)
                clear hE hE2
                go_wp2_with (at_builtin; refine step_append (w0 := w) rfl w.heap.size (.tmp 13) (.tmp 17) 93 5 (.int .u8 0) 1 1 rfl Tryz.underlying93 U.Tryz.info5 rfl (by decide) (by decide) _ L.length wr.heap.size (u8s L) #[.int .u8 60] rfl rfl rfl rfl (fun u hu => by simp at hu; subst hu; rfl) hown hb hbs (by omega) ?_; intro v2 w2 hown2 hb2)
                go_roundw
                case rel => exact ⟨i + 1, L ++ [60], by go_num, by omega, by rw [List.length_append]; simp only [List.length_cons, List.length_nil]; omega, by rw [List.length_append, U.u8s_append']; exact hown2, hb2, by rw [HE.out.1, HE.out.2, List.append_assoc]; rfl⟩
                case measure => simp [intOf]; omega
          · obtain rfl : x = 34 := UInt8.toNat_inj.1 (by have := beq_iff_eq.1 q34; show x.toNat = 34; omega)
            cases attr
            · have HE := Go.Lib.hid (And.intro hE hE2)
              clear hE hE2
              go_wp2_with (at_builtin; refine step_append (w0 := w) rfl w.heap.size (.tmp 13) (.tmp 17) 93 5 (.int .u8 0) 1 1 rfl Tryz.underlying93 U.Tryz.info5 rfl (by decide) (by decide) _ L.length wr.heap.size (u8s L) #[.int .u8 34] rfl rfl rfl rfl (fun u hu => by simp at hu; subst hu; rfl) hown hb hbs (by omega) ?_; intro v2 w2 hown2 hb2)
              go_roundw
              case rel => exact ⟨i + 1, L ++ [34], by go_num, by omega, by rw [List.length_append]; simp only [List.length_cons, List.length_nil]; omega, by rw [List.length_append, U.u8s_append']; exact hown2, hb2, by rw [HE.out.1, HE.out.2, List.append_assoc]; rfl⟩
              case measure => simp [intOf]; omega
            · have HE := Go.Lib.hid (And.intro hE hE2)
              clear hE hE2
              go_wp2_with (at_builtin; refine step_app_str (w0 := w) rfl (.tmp 57) _ rfl w.heap.size _ L.length L rfl hown ⟨#[38, 113, 117, 111, 116, 59]⟩ rfl (by show L.length + 6 ≤ 100000000; omega) hb hbs ?_; intro v2 w2 hown2 hb2)
              go_roundw
              case rel => exact ⟨i + 1, L ++ [38, 113, 117, 111, 116, 59], by go_num, by omega, by rw [List.length_append]; simp only [List.length_cons, List.length_nil]; omega, by rw [List.length_append]; exact hown2, hb2, by rw [HE.out.1, HE.out.2, List.append_assoc]; rfl⟩
              case measure => simp [intOf]; omega
        · obtain rfl : x = 194 := UInt8.toNat_inj.1 (by have := beq_iff_eq.1 q194; show x.toNat = 194; omega)
          by_cases hl3 : i + 1 < s.size
          · have hd2 := drop_at s (i + 1) hl3
            have hg2 := at_list s (i + 1) hl3
            obtain ⟨y, hy⟩ : ∃ y, s[i + 1]'hl3 = y := ⟨_, rfl⟩
            rw [hy] at hg2
            rw [hg2] at hd2
            cases q160 : ((y.toNat : Int) == 160)
            · have hE2 := escL_c2 attr (s.data.toList.drop (i + 1)) (by rw [hd2]; simp only [List.head?_cons, ne_eq, Option.some.injEq]; rintro rfl; simp at q160)
              have HE := Go.Lib.hid (And.intro hE hE2)
              clear hE hE2 hd2 hg2
              go_wp2_with (at_builtin; refine step_append (w0 := w) rfl w.heap.size (.tmp 13) (.tmp 17) 93 5 (.int .u8 0) 1 1 rfl Tryz.underlying93 U.Tryz.info5 rfl (by decide) (by decide) _ L.length wr.heap.size (u8s L) #[.int .u8 194] rfl rfl rfl rfl (fun u hu => by simp at hu; subst hu; rfl) hown hb hbs (by omega) ?_; intro v2 w2 hown2 hb2)
              go_roundw
              case rel => exact ⟨i + 1, L ++ [194], by go_num, by omega, by rw [List.length_append]; simp only [List.length_cons, List.length_nil]; omega, by rw [List.length_append, U.u8s_append']; exact hown2, hb2, by rw [HE.out.1, HE.out.2]; simp⟩
              case measure => simp [intOf]; omega
            · obtain rfl : y = 160 := UInt8.toNat_inj.1 (by have := beq_iff_eq.1 q160; show y.toNat = 160; omega)
              have hE2 := escL_nb attr (s.data.toList.drop (i + 1 + 1))
              rw [← hd2] at hE2
              have HE := Go.Lib.hid (And.intro hE hE2)
              clear hE hE2 hd2 hg2
              go_wp2_with (at_builtin; refine step_app_str (w0 := w) rfl (.tmp 45) _ rfl w.heap.size _ L.length L rfl hown ⟨#[38, 110, 98, 115, 112, 59]⟩ rfl (by show L.length + 6 ≤ 100000000; omega) hb hbs ?_; intro v2 w2 hown2 hb2)
              go_roundw
              case rel => exact ⟨i + 1 + 1, L ++ [38, 110, 98, 115, 112, 59], by go_num, by omega, by rw [List.length_append]; simp only [List.length_cons, List.length_nil]; omega, by rw [List.length_append]; exact hown2, hb2, by rw [HE.out.1, HE.out.2, List.append_assoc]⟩
              case measure => simp [intOf]; omega
          · have hE2 := escL_c2 attr (s.data.toList.drop (i + 1)) (by rw [List.drop_of_length_le (by omega)]; simp)
            have HE := Go.Lib.hid (And.intro hE hE2)
            clear hE hE2
            go_wp2_with (at_builtin; refine step_append (w0 := w) rfl w.heap.size (.tmp 13) (.tmp 17) 93 5 (.int .u8 0) 1 1 rfl Tryz.underlying93 U.Tryz.info5 rfl (by decide) (by decide) _ L.length wr.heap.size (u8s L) #[.int .u8 194] rfl rfl rfl rfl (fun u hu => by simp at hu; subst hu; rfl) hown hb hbs (by omega) ?_; intro v2 w2 hown2 hb2)
            go_roundw
            case rel => exact ⟨i + 1, L ++ [194], by go_num, by omega, by rw [List.length_append]; simp only [List.length_cons, List.length_nil]; omega, by rw [List.length_append, U.u8s_append']; exact hown2, hb2, by rw [HE.out.1, HE.out.2]; simp⟩
            case measure => simp [intOf]; omega
      · obtain rfl : x = 38 := UInt8.toNat_inj.1 (by have := beq_iff_eq.1 q38; show x.toNat = 38; omega)
        have hE2 := escL_cons attr 38 (s.data.toList.drop (i + 1)) (by decide)
        have HE := Go.Lib.hid (And.intro hE hE2)
        clear hE hE2
        go_wp2_with (at_builtin; refine step_app_str (w0 := w) rfl (.tmp 24) _ rfl w.heap.size _ L.length L rfl hown ⟨#[38, 97, 109, 112, 59]⟩ rfl (by show L.length + 5 ≤ 100000000; omega) hb hbs ?_; intro v2 w2 hown2 hb2)
        go_roundw
        case rel => exact ⟨i + 1, L ++ [38, 97, 109, 112, 59], by go_num, by omega, by rw [List.length_append]; simp only [List.length_cons, List.length_nil]; omega, by rw [List.length_append]; exact hown2, hb2, by rw [HE.out.1, HE.out.2, List.append_assoc]; rfl⟩
        case measure => simp [intOf]; omega
    · obtain rfl : i = s.size := by omega
      rw [List.drop_of_length_le (by omega)] at hE
      have HE := Go.Lib.hid hE
      clear hE
      obtain ⟨oa5, c5, rfl⟩ := own_slice hown
      have hcv := own_conv hown
      go_wp2
      go_ret
      exact ⟨by rw [HE.out]; simp [escL], hb⟩
end Go.Proofs.YthfdiinfeljeeaaGreatDoor
/- The reference's attribute names, where they are in no namespace; names that are not void and not raw. -/
namespace Go.Proofs.YthfdiinfeljeeaaGreatDoor
open Go.RowKit
theorem rshown90 (pre nm va : ByteArray) (w : World) : Calls Tryz.prog 90 #[.agg #[.int .i64 0, .string pre, .string nm, .string va]] w fun e w' => e = .returned (.string nm) ∧ Below w.heap.size w w' := by
  go_enter Tryz.func90, Tryz.ntmps90
  go_wp2
  go_ret
  exact ⟨rfl, bal (Below.refl _ _) _⟩
def voidLs : List (List UInt8) := [[97, 114, 101, 97], [98, 97, 115, 101], [98, 97, 115, 101, 102, 111, 110, 116], [98, 103, 115, 111, 117, 110, 100], [98, 114], [99, 111, 108], [101, 109, 98, 101, 100], [102, 114, 97, 109, 101], [104, 114], [105, 109, 103], [105, 110, 112, 117, 116], [107, 101, 121, 103, 101, 110], [108, 105, 110, 107], [109, 101, 116, 97], [112, 97, 114, 97, 109], [115, 111, 117, 114, 99, 101], [116, 114, 97, 99, 107], [119, 98, 114]]
theorem no_voidLs : ∀ L ∈ okNames, ∀ x ∈ voidLs, (L == x) = false := by decide +kernel
set_option maxHeartbeats 1000000 in
set_option maxRecDepth 100000 in
theorem rvoid67 {name : ByteArray} (h : name.toList ∈ okNames) (w : World) : Calls Tryz.prog 67 #[.string name] w fun e w' => e = .returned (.bool false) ∧ Below w.heap.size w w' := by
  have hn := no_voidLs _ h
  have a0 : (name.toList == [97, 114, 101, 97]) = false := hn _ (by simp [voidLs])
  have a1 : (name.toList == [98, 97, 115, 101]) = false := hn _ (by simp [voidLs])
  have a2 : (name.toList == [98, 97, 115, 101, 102, 111, 110, 116]) = false := hn _ (by simp [voidLs])
  have a3 : (name.toList == [98, 103, 115, 111, 117, 110, 100]) = false := hn _ (by simp [voidLs])
  have a4 : (name.toList == [98, 114]) = false := hn _ (by simp [voidLs])
  have a5 : (name.toList == [99, 111, 108]) = false := hn _ (by simp [voidLs])
  have a6 : (name.toList == [101, 109, 98, 101, 100]) = false := hn _ (by simp [voidLs])
  have a7 : (name.toList == [102, 114, 97, 109, 101]) = false := hn _ (by simp [voidLs])
  have a8 : (name.toList == [104, 114]) = false := hn _ (by simp [voidLs])
  have a9 : (name.toList == [105, 109, 103]) = false := hn _ (by simp [voidLs])
  have a10 : (name.toList == [105, 110, 112, 117, 116]) = false := hn _ (by simp [voidLs])
  have a11 : (name.toList == [107, 101, 121, 103, 101, 110]) = false := hn _ (by simp [voidLs])
  have a12 : (name.toList == [108, 105, 110, 107]) = false := hn _ (by simp [voidLs])
  have a13 : (name.toList == [109, 101, 116, 97]) = false := hn _ (by simp [voidLs])
  have a14 : (name.toList == [112, 97, 114, 97, 109]) = false := hn _ (by simp [voidLs])
  have a15 : (name.toList == [115, 111, 117, 114, 99, 101]) = false := hn _ (by simp [voidLs])
  have a16 : (name.toList == [116, 114, 97, 99, 107]) = false := hn _ (by simp [voidLs])
  have a17 : (name.toList == [119, 98, 114]) = false := hn _ (by simp [voidLs])
  clear hn h
  go_enter Tryz.func67, Tryz.ntmps67
  go_wp2
  go_ret
  exact ⟨rfl, Below.refl _ _⟩
def rawLs : List (List UInt8) := [[115, 116, 121, 108, 101], [115, 99, 114, 105, 112, 116], [120, 109, 112], [105, 102, 114, 97, 109, 101], [110, 111, 101, 109, 98, 101, 100], [110, 111, 102, 114, 97, 109, 101, 115], [112, 108, 97, 105, 110, 116, 101, 120, 116]]
theorem no_rawLs : ∀ L ∈ okNames, ∀ x ∈ rawLs, (L == x) = false := by decide +kernel
set_option maxHeartbeats 1000000 in
set_option maxRecDepth 100000 in
theorem rplain88 {name : ByteArray} (h : name.toList ∈ okNames) (w : World) : Calls Tryz.prog 88 #[.string name, .bool false] w fun e w' => e = .returned (.bool false) ∧ Below w.heap.size w w' := by
  have hn := no_rawLs _ h
  have a0 : (name.toList == [115, 116, 121, 108, 101]) = false := hn _ (by simp [rawLs])
  have a1 : (name.toList == [115, 99, 114, 105, 112, 116]) = false := hn _ (by simp [rawLs])
  have a2 : (name.toList == [120, 109, 112]) = false := hn _ (by simp [rawLs])
  have a3 : (name.toList == [105, 102, 114, 97, 109, 101]) = false := hn _ (by simp [rawLs])
  have a4 : (name.toList == [110, 111, 101, 109, 98, 101, 100]) = false := hn _ (by simp [rawLs])
  have a5 : (name.toList == [110, 111, 102, 114, 97, 109, 101, 115]) = false := hn _ (by simp [rawLs])
  have a6 : (name.toList == [112, 108, 97, 105, 110, 116, 101, 120, 116]) = false := hn _ (by simp [rawLs])
  clear hn h
  go_enter Tryz.func88, Tryz.ntmps88
  go_wp2
  go_ret
  exact ⟨rfl, Below.refl _ _⟩
end Go.Proofs.YthfdiinfeljeeaaGreatDoor
/- The reference's look at a node's children. -/
namespace Go.Proofs.YthfdiinfeljeeaaGreatDoor
open Go.RowKit
theorem AtO.rdK {w : World} {n : On} (h : AtO w n) (i : Nat) (hi : i < n.ks.length) : ∃ b, n.ka = some ⟨b, 0, none⟩ ∧ ∀ j (hj : j < n.ks.length), w.cell? ⟨b, j, none⟩ = some (.int .i64 (n.ks[j] : Nat)) := by
  rcases h.2 with ⟨_, h2, _⟩ | ⟨b, cs, h1, h2, h3⟩
  · rw [h2] at hi; simp at hi
  · refine ⟨b, h1, fun j hj => ?_⟩
    obtain ⟨t, ht⟩ := h3
    rw [blk_cells h2, ← Array.getElem?_toList, ← ht, List.getElem?_append_left (by simpa [intsV] using hj)]
    simp [intsV, hj]
/-- Is a child right, with the one ahead of it? -/
def okK (m : List On) (xs : List Nat) (o : Nat → Bool) (i : Nat) : Bool := match xs[i]? with
  | none => true
  | some c => !((m.getD c on0).kind == 2 && decide (0 < i) && (m.getD (xs.getD (i - 1) 0) on0).kind == 2) && o c
def kidsO (m : List On) (xs : List Nat) (o : Nat → Bool) : Bool := (List.range xs.length).all (okK m xs o)
set_option maxHeartbeats 4000000 in
set_option maxRecDepth 100000 in
theorem kids33 (B p g cap : Nat) (m : List On) (id : Nat) (block : Bool) (depth : Int) (w : World) (hO : Or w B p g cap m) (hid : id < m.length) (o : Nat → Bool)
    (hks : ∀ c ∈ m[id].ks, c < m.length) (hkl : m[id].ks.length ≤ 1000000)
    (ho : ∀ c ∈ m[id].ks, ∀ W, Below w.heap.size w W → Calls Tryz.prog 61 #[.pointer (some ⟨p, 0, none⟩), .int .i64 c, .bool block, .int .i64 depth] W fun e w' => e = .returned (.bool (o c)) ∧ Below W.heap.size W w') :
    Calls Tryz.prog 33 #[.pointer (some ⟨p, 0, none⟩), .int .i64 id, .bool block, .int .i64 depth] w fun e w' => e = .returned (.bool (kidsO m m[id].ks o)) ∧ Below w.heap.size w w' := by
  have hc := hO.cell
  have k9 := hO.at id 9 hid (by omega)
  have hrd := (hO.at_ _ (List.getElem_mem hid)).rdK
  rw [show (m[id]).cells[9]? = some (.slice (m[id]).ka (m[id]).ks.length (m[id]).kc) from rfl] at k9
  have hK : ∀ c (h : c < m.length), w.cell? ⟨g, c * 10, none⟩ = some (.int .i64 m[c].kind) := fun c h => by
    have := hO.at c 0 h (by omega)
    rw [Nat.add_zero] at this
    exact this
  generalize (m[id]).ks = xs at *
  generalize (m[id]).ka = ka at *
  generalize (m[id]).kc = kc at *
  have hl0 : (0 : Int) ≤ (id : Int) := by omega
  have hl1 : (id : Int) < (m.length : Int) := by omega
  clear hO
  go_enter Tryz.func33, Tryz.ntmps33
  go_wp2
  go_loopw [10] (fun v10 wr => ∃ i : Nat, v10 = .int .i64 i ∧ i ≤ xs.length ∧ Below w.heap.size w wr ∧ ∀ j, j < i → okK m xs o j = true) (fun v10 _ => xs.length - (intOf v10).toNat)
  case atStart => exact ⟨0, rfl, Nat.zero_le _, Below.refl _ _, fun j hj => absurd hj (Nat.not_lt_zero _)⟩
  case round =>
    obtain ⟨i, rfl, hi, hbw, hall⟩ := hrel
    by_cases hlt : i < xs.length
    · obtain ⟨b, rfl, hx⟩ := hrd i hlt
      have hbd := below_drewN hbw 1
      have hcw := bcl hbw hc
      have hxi := bcl hbw (hx i hlt)
      have hci := hks _ (List.getElem_mem hlt)
      have hki := bcl hbw (hK _ hci)
      have CO := ho _ (List.getElem_mem hlt) _ hbd
      have hok : okK m xs o i = (!((m[xs[i]]'hci).kind == 2 && decide (0 < i) && (m.getD (xs.getD (i - 1) 0) on0).kind == 2) && o xs[i]) := by
        rw [okK, List.getElem?_eq_getElem hlt]
        simp only
        rw [List.getD_eq_getElem?_getD (l := m), List.getElem?_eq_getElem hci]
        rfl
      have hc0 : (0 : Int) ≤ (xs[i] : Int) := by omega
      have hc1 : ((xs[i] : Nat) : Int) < (m.length : Int) := by omega
      have hno : okK m xs o i = false → kidsO m xs o = false := fun h => by
        rw [kidsO, List.all_eq_false]; exact ⟨i, List.mem_range.2 hlt, by rw [h]; simp⟩
      have hbt : ∀ {w1 w2 : World}, Below w.heap.size w w1 → Below w1.heap.size w1 w2 → Below w.heap.size w w2 := fun h h2 => h.trans ⟨h2.os, h2.tape, h2.output, h2.size, fun j hj => h2.block j (Nat.lt_of_lt_of_le hj h.size)⟩
      have hxi0 := hx i hlt
      have hki0 := hK _ hci
      clear hrd ho
      generalize hcc : xs[i] = c at *
      generalize hkk : m[c].kind = k at *
      have hbd : Below w.heap.size w wr.drew := hbd
      have CO : Calls Tryz.prog 61 #[.pointer (some ⟨p, 0, none⟩), .int .i64 (c : Int), .bool block, .int .i64 depth] wr.drew fun e w' => e = .returned (.bool (o c)) ∧ Below wr.drew.heap.size wr.drew w' := CO
      cases q1 : (k == 2)
      · rw [q1, Bool.false_and, Bool.false_and, Bool.not_false, Bool.true_and] at hok
        have HS := Go.Lib.hid (And.intro hall (And.intro hok hno))
        clear hall hok hno hx hK hks hkk hcc
        go_wp2
        refine wp_region_held_drew (S := (fun W => Below w.heap.size w W ∧ W.cell? ⟨p, 0, none⟩ = some (.slice (some ⟨g, 0, none⟩) m.length cap) ∧ W.cell? ⟨b, i, none⟩ = some (.int .i64 (c : Int)) ∧ W.cell? ⟨g, c * 10, none⟩ = some (.int .i64 k))) (by kernel_rfl) (⟨hbd, bcl hbd hc, bcl hbd hxi0, bcl hbd hki0⟩) (fun hHeld => ?_)
        refine wpAnyH_take (i := 0) (oi := ⟨some 25, _, _, _, _, _⟩) (v := ?_) rfl (by kernel_rfl) (by kernel_rfl) (by kernel_rfl) (fun _ _ _ h => h) (Or.inl ⟨by kernel_rfl, ?_⟩) (by assumption) ?_
        rotate_left
        · intro w hSw; (try dsimp only at hSw); (try go_simp); all_goals (with_reducible rfl)
        try simp only [Act.put]
        refine wpAnyH_take (i := 1) (oi := ⟨some 26, _, _, _, _, _⟩) (v := ?_) rfl (by kernel_rfl) (by kernel_rfl) (by kernel_rfl) (fun _ _ _ h => h) (Or.inl ⟨by kernel_rfl, ?_⟩) (by assumption) ?_
        rotate_left
        · intro w hSw; (try dsimp only at hSw); (try go_simp); all_goals (with_reducible rfl)
        try simp only [Act.put]
        refine wpAnyH_take (i := 2) (oi := ⟨some 27, _, _, _, _, _⟩) (v := ?_) rfl (by kernel_rfl) (by kernel_rfl) (by kernel_rfl) (fun _ _ _ h => h) (Or.inl ⟨by kernel_rfl, ?_⟩) (by assumption) ?_
        rotate_left
        · intro w hSw; (try dsimp only at hSw); (try go_simp); all_goals (with_reducible rfl)
        try simp only [Act.put]
        refine wpAnyH_take (i := 3) (oi := ⟨some 28, _, _, _, _, _⟩) (v := ?_) rfl (by kernel_rfl) (by kernel_rfl) (by kernel_rfl) (fun _ _ _ h => h) (Or.inl ⟨by kernel_rfl, ?_⟩) (by assumption) ?_
        rotate_left
        · intro w hSw; (try dsimp only at hSw); (try go_simp); all_goals (with_reducible rfl)
        try simp only [Act.put]
        refine wpAnyH_take (i := 4) (oi := ⟨some 29, _, _, _, _, _⟩) (v := ?_) rfl (by kernel_rfl) (by kernel_rfl) (by kernel_rfl) (fun _ _ _ h => h) (Or.inl ⟨by kernel_rfl, ?_⟩) (by assumption) ?_
        rotate_left
        · intro w hSw; (try dsimp only at hSw); (try go_simp); all_goals (with_reducible rfl)
        try simp only [Act.put]
        refine wpAnyH_take (i := 5) (oi := ⟨some 30, _, _, _, _, _⟩) (v := ?_) rfl (by kernel_rfl) (by kernel_rfl) (by kernel_rfl) (fun _ _ _ h => h) (Or.inl ⟨by kernel_rfl, ?_⟩) (by assumption) ?_
        rotate_left
        · intro w hSw; (try dsimp only at hSw); (try go_simp); all_goals (with_reducible rfl)
        try simp only [Act.put]
        refine wpAnyH_take (i := 6) (oi := ⟨some 31, _, _, _, _, _⟩) (v := ?_) rfl (by kernel_rfl) (by kernel_rfl) (by kernel_rfl) (fun _ _ _ h => h) (Or.inl ⟨by kernel_rfl, ?_⟩) (by assumption) ?_
        rotate_left
        · intro w hSw; (try dsimp only at hSw); (try go_simp); all_goals (with_reducible rfl)
        try simp only [Act.put]
        refine wpAnyH_take (i := 7) (oi := ⟨some 32, _, _, _, _, _⟩) (v := ?_) rfl (by kernel_rfl) (by kernel_rfl) (by kernel_rfl) (fun _ _ _ h => h) (Or.inl ⟨by kernel_rfl, ?_⟩) (by assumption) ?_
        rotate_left
        · intro w hSw; (try dsimp only at hSw); (try go_simp); all_goals (with_reducible rfl)
        try simp only [Act.put]
        refine wpAnyH_take (i := 8) (oi := ⟨some 33, _, _, _, _, _⟩) (v := ?_) rfl (by kernel_rfl) (by kernel_rfl) (by kernel_rfl) (fun _ _ _ h => h) (Or.inl ⟨by kernel_rfl, ?_⟩) (by assumption) ?_
        rotate_left
        · intro w hSw; (try dsimp only at hSw); (try go_simp); all_goals (with_reducible rfl)
        try simp only [Act.put]
        refine wpAnyH_take (i := 9) (oi := ⟨some 34, _, _, _, _, _⟩) (v := ?_) rfl (by kernel_rfl) (by kernel_rfl) (by kernel_rfl) (fun _ _ _ h => h) (Or.inl ⟨by kernel_rfl, ?_⟩) (by assumption) ?_
        rotate_left
        · intro w hSw; (try dsimp only at hSw); (try go_simp); all_goals (with_reducible rfl)
        try simp only [Act.put]
        refine wpAnyH_take (i := 10) (oi := ⟨some 35, _, _, _, _, _⟩) (v := ?_) rfl (by kernel_rfl) (by kernel_rfl) (by kernel_rfl) (fun _ _ _ h => h) (Or.inl ⟨by kernel_rfl, ?_⟩) (by assumption) ?_
        rotate_left
        · intro w hSw; (try dsimp only at hSw); (try go_simp); all_goals (with_reducible rfl)
        try simp only [Act.put]
        refine wpAnyH_take (i := 11) (oi := ⟨some 36, _, _, _, _, _⟩) (v := ?_) rfl (by kernel_rfl) (by kernel_rfl) (by kernel_rfl) (fun _ _ _ h => h) (Or.inl ⟨by kernel_rfl, ?_⟩) (by assumption) ?_
        rotate_left
        · intro w hSw; (try dsimp only at hSw); (try go_simp); all_goals (with_reducible rfl)
        try simp only [Act.put]
        refine wpAnyH_take (i := 12) (oi := ⟨some 37, _, _, _, _, _⟩) (v := ?_) rfl (by kernel_rfl) (by kernel_rfl) (by kernel_rfl) (fun _ _ _ h => h) (Or.inl ⟨by kernel_rfl, ?_⟩) (by assumption) ?_
        rotate_left
        · intro w hSw; (try dsimp only at hSw); (try go_simp); all_goals (with_reducible rfl)
        try simp only [Act.put]
        refine wpAnyH_take (i := 13) (oi := ⟨some 38, _, _, _, _, _⟩) (v := undef) rfl (by kernel_rfl) (by kernel_rfl) (by kernel_rfl) (fun _ _ _ h => h) (Or.inr ⟨by kernel_rfl, rfl⟩) (by assumption) ?_
        try simp only [Act.put]
        refine wpAnyH_take (i := 14) (oi := ⟨some 39, _, _, _, _, _⟩) (v := undef) rfl (by kernel_rfl) (by kernel_rfl) (by kernel_rfl) (fun _ _ _ h => h) (Or.inr ⟨by kernel_rfl, rfl⟩) (by assumption) ?_
        try simp only [Act.put]
        refine wpAnyH_take (i := 15) (oi := ⟨some 40, _, _, _, _, _⟩) (v := ?_) rfl (by kernel_rfl) (by kernel_rfl) (by kernel_rfl) (fun _ _ _ h => h) (Or.inl ⟨by kernel_rfl, ?_⟩) (by assumption) ?_
        rotate_left
        · intro w hSw; (try dsimp only at hSw); (try go_simp); all_goals (with_reducible rfl)
        try simp only [Act.put]
        refine wpAnyH_take (i := 16) (oi := ⟨some 41, _, _, _, _, _⟩) (v := ?_) rfl (by kernel_rfl) (by kernel_rfl) (by kernel_rfl) (fun _ _ _ h => h) (Or.inl ⟨by kernel_rfl, ?_⟩) (by assumption) ?_
        rotate_left
        · intro w hSw; (try dsimp only at hSw); (try go_simp); all_goals (with_reducible rfl)
        try simp only [Act.put]
        refine wpAnyH_take (i := 17) (oi := ⟨some 42, _, _, _, _, _⟩) (v := undef) rfl (by kernel_rfl) (by kernel_rfl) (by kernel_rfl) (fun _ _ _ h => h) (Or.inr ⟨by kernel_rfl, rfl⟩) (by assumption) ?_
        try simp only [Act.put]
        refine wpAnyH_take (i := 18) (oi := ⟨some 43, _, _, _, _, _⟩) (v := undef) rfl (by kernel_rfl) (by kernel_rfl) (by kernel_rfl) (fun _ _ _ h => h) (Or.inr ⟨by kernel_rfl, rfl⟩) (by assumption) ?_
        try simp only [Act.put]
        refine wpAnyH_take (i := 19) (oi := ⟨some 44, _, _, _, _, _⟩) (v := undef) rfl (by kernel_rfl) (by kernel_rfl) (by kernel_rfl) (fun _ _ _ h => h) (Or.inr ⟨by kernel_rfl, rfl⟩) (by assumption) ?_
        try simp only [Act.put]
        refine wpAnyH_take (i := 20) (oi := ⟨some 45, _, _, _, _, _⟩) (v := undef) rfl (by kernel_rfl) (by kernel_rfl) (by kernel_rfl) (fun _ _ _ h => h) (Or.inr ⟨by kernel_rfl, rfl⟩) (by assumption) ?_
        try simp only [Act.put]
        refine wpAnyH_take (i := 21) (oi := ⟨some 46, _, _, _, _, _⟩) (v := undef) rfl (by kernel_rfl) (by kernel_rfl) (by kernel_rfl) (fun _ _ _ h => h) (Or.inr ⟨by kernel_rfl, rfl⟩) (by assumption) ?_
        try simp only [Act.put]
        refine wpAnyH_take (i := 22) (oi := ⟨some 47, _, _, _, _, _⟩) (v := undef) rfl (by kernel_rfl) (by kernel_rfl) (by kernel_rfl) (fun _ _ _ h => h) (Or.inr ⟨by kernel_rfl, rfl⟩) (by assumption) ?_
        try simp only [Act.put]
        refine wpAnyH_take (i := 23) (oi := ⟨some 48, _, _, _, _, _⟩) (v := undef) rfl (by kernel_rfl) (by kernel_rfl) (by kernel_rfl) (fun _ _ _ h => h) (Or.inr ⟨by kernel_rfl, rfl⟩) (by assumption) ?_
        try simp only [Act.put]
        refine wpAnyH_take (i := 24) (oi := ⟨some 49, _, _, _, _, _⟩) (v := undef) rfl (by kernel_rfl) (by kernel_rfl) (by kernel_rfl) (fun _ _ _ h => h) (Or.inr ⟨by kernel_rfl, rfl⟩) (by assumption) ?_
        try simp only [Act.put]
        refine wpAnyH_take (i := 25) (oi := ⟨some 50, _, _, _, _, _⟩) (v := undef) rfl (by kernel_rfl) (by kernel_rfl) (by kernel_rfl) (fun _ _ _ h => h) (Or.inr ⟨by kernel_rfl, rfl⟩) (by assumption) ?_
        try simp only [Act.put]
        refine wpAnyH_take (i := 26) (oi := ⟨some 51, _, _, _, _, _⟩) (v := undef) rfl (by kernel_rfl) (by kernel_rfl) (by kernel_rfl) (fun _ _ _ h => h) (Or.inr ⟨by kernel_rfl, rfl⟩) (by assumption) ?_
        try simp only [Act.put]
        refine wpAnyH_take (i := 27) (oi := ⟨some 52, _, _, _, _, _⟩) (v := undef) rfl (by kernel_rfl) (by kernel_rfl) (by kernel_rfl) (fun _ _ _ h => h) (Or.inr ⟨by kernel_rfl, rfl⟩) (by assumption) ?_
        try simp only [Act.put]
        refine wpAnyH_take (i := 28) (oi := ⟨some 53, _, _, _, _, _⟩) (v := undef) rfl (by kernel_rfl) (by kernel_rfl) (by kernel_rfl) (fun _ _ _ h => h) (Or.inr ⟨by kernel_rfl, rfl⟩) (by assumption) ?_
        try simp only [Act.put]
        refine wpAnyH_take (i := 29) (oi := ⟨some 54, _, _, _, _, _⟩) (v := undef) rfl (by kernel_rfl) (by kernel_rfl) (by kernel_rfl) (fun _ _ _ h => h) (Or.inr ⟨by kernel_rfl, rfl⟩) (by assumption) ?_
        try simp only [Act.put]
        refine wpAnyH_take (i := 30) (oi := ⟨some 55, _, _, _, _, _⟩) (v := ?_) rfl (by kernel_rfl) (by kernel_rfl) (by kernel_rfl) (fun _ _ _ h => h) (Or.inl ⟨by kernel_rfl, ?_⟩) (by assumption) ?_
        rotate_left
        · intro w hSw; (try dsimp only at hSw); (try go_simp); all_goals (with_reducible rfl)
        try simp only [Act.put]
        refine wpAnyH_take (i := 31) (oi := ⟨some 56, _, _, _, _, _⟩) (v := ?_) rfl (by kernel_rfl) (by kernel_rfl) (by kernel_rfl) (fun _ _ _ h => h) (Or.inl ⟨by kernel_rfl, ?_⟩) (by assumption) ?_
        rotate_left
        · intro w hSw; (try dsimp only at hSw); (try go_simp); all_goals (with_reducible rfl)
        try simp only [Act.put]
        refine wpAnyH_take (i := 32) (oi := ⟨some 57, _, _, _, _, _⟩) (v := ?_) rfl (by kernel_rfl) (by kernel_rfl) (by kernel_rfl) (fun _ _ _ h => h) (Or.inl ⟨by kernel_rfl, ?_⟩) (by assumption) ?_
        rotate_left
        · intro w hSw; (try dsimp only at hSw); (try go_simp); all_goals (with_reducible rfl)
        try simp only [Act.put]
        refine wpAnyH_take (i := 33) (oi := ⟨some 58, _, _, _, _, _⟩) (v := ?_) rfl (by kernel_rfl) (by kernel_rfl) (by kernel_rfl) (fun _ _ _ h => h) (Or.inl ⟨by kernel_rfl, ?_⟩) (by assumption) ?_
        rotate_left
        · intro w hSw; (try dsimp only at hSw); (try go_simp); all_goals (with_reducible rfl)
        try simp only [Act.put]
        refine wpAnyH_take (i := 34) (oi := ⟨some 59, _, _, _, _, _⟩) (v := ?_) rfl (by kernel_rfl) (by kernel_rfl) (by kernel_rfl) (fun _ _ _ h => h) (Or.inl ⟨by kernel_rfl, ?_⟩) (by assumption) ?_
        rotate_left
        · intro w hSw; (try dsimp only at hSw); (try go_simp); all_goals (with_reducible rfl)
        try simp only [Act.put]
        refine wpAnyH_take (i := 35) (oi := ⟨some 60, _, _, _, _, _⟩) (v := ?_) rfl (by kernel_rfl) (by kernel_rfl) (by kernel_rfl) (fun _ _ _ h => h) (Or.inl ⟨by kernel_rfl, ?_⟩) (by assumption) ?_
        rotate_left
        · intro w hSw; (try dsimp only at hSw); (try go_simp); all_goals (with_reducible rfl)
        try simp only [Act.put]
        refine wpAnyH_take (i := 36) (oi := ⟨some 61, _, _, _, _, _⟩) (v := ?_) rfl (by kernel_rfl) (by kernel_rfl) (by kernel_rfl) (fun _ _ _ h => h) (Or.inl ⟨by kernel_rfl, ?_⟩) (by assumption) ?_
        rotate_left
        · intro w hSw; (try dsimp only at hSw); (try go_simp); all_goals (with_reducible rfl)
        try simp only [Act.put]
        refine wpAnyH_take (i := 37) (oi := ⟨some 62, _, _, _, _, _⟩) (v := ?_) rfl (by kernel_rfl) (by kernel_rfl) (by kernel_rfl) (fun _ _ _ h => h) (Or.inl ⟨by kernel_rfl, ?_⟩) (by assumption) ?_
        rotate_left
        · intro w hSw; (try dsimp only at hSw); (try go_simp); all_goals (with_reducible rfl)
        try simp only [Act.put]
        refine wpAnyH_take (i := 38) (oi := ⟨some 63, _, _, _, _, _⟩) (v := ?_) rfl (by kernel_rfl) (by kernel_rfl) (by kernel_rfl) (fun _ _ _ h => h) (Or.inl ⟨by kernel_rfl, ?_⟩) (by assumption) ?_
        rotate_left
        · intro w hSw; (try dsimp only at hSw); (try go_simp); all_goals (with_reducible rfl)
        try simp only [Act.put]
        refine wpAnyH_ready (rs := [39]) (by kernel_rfl) (by simp) ?_
        refine AllReadyH.cons rfl (fun K hK => ?_) AllReadyH.nil
        go_simp
        go_wp2_with (go_at_call 61; refine CO.mono ?_; rintro e w1 ⟨rfl, hw1⟩)
        refine hK.out _ _ (⟨hbt hbd hw1, bcl (hbt hbd hw1) hc, bcl (hbt hbd hw1) hxi0, bcl (hbt hbd hw1) hki0⟩) (fun hHeld => ?_)
        clear hK K
        refine wpAnyH_take (i := 40) (oi := ⟨some 65, _, _, _, _, _⟩) (v := ?_) rfl (by kernel_rfl) (by kernel_rfl) (by kernel_rfl) (fun _ _ _ h => h) (Or.inl ⟨by kernel_rfl, ?_⟩) (by assumption) ?_
        rotate_left
        · intro w hSw; (try dsimp only at hSw); (try go_simp); all_goals (with_reducible rfl)
        try simp only [Act.put]
        refine wpAnyH_take (i := 41) (oi := ⟨some 66, _, _, _, _, _⟩) (v := ?_) rfl (by kernel_rfl) (by kernel_rfl) (by kernel_rfl) (fun _ _ _ h => h) (Or.inl ⟨by kernel_rfl, ?_⟩) (by assumption) ?_
        rotate_left
        · intro w hSw; (try dsimp only at hSw); (try go_simp); all_goals (with_reducible rfl)
        try simp only [Act.put]
        refine wpAnyH_done (by kernel_rfl) ?_ _
        simp only [List.setIfInBounds_toArray, List.set_cons_succ, List.set_cons_zero]
        have hb2 := hbt hbd hw1
        clear CO hHeld
        cases qo : o c
        · have HO := Go.Lib.hid qo
          go_wp2
          go_ret
          exact ⟨ret_bool (HS.out.2.2 (by rw [HS.out.2.1, HO.out]; try simp)).symm, hb2⟩
        · have HO := Go.Lib.hid qo
          go_wp2
          go_roundw
          case rel => exact ⟨i + 1, by go_num, by omega, hb2, fun j hj => by
            rcases (show j < i ∨ j = i by omega) with h | rfl
            · exact HS.out.1 j h
            · rw [HS.out.2.1, HO.out]; try (rw [HQ.out]; rfl)⟩
          case measure => simp [intOf]; omega
      · rw [q1, Bool.true_and] at hok
        rcases (show i = 0 ∨ 0 < i by omega) with rfl | hi0
        · rw [show decide (0 < 0) = false from rfl, Bool.false_and, Bool.not_false, Bool.true_and] at hok
          have HS := Go.Lib.hid (And.intro hall (And.intro hok hno))
          clear hall hok hno hx hK hks hkk hcc
          go_wp2
          refine wp_region_held_drew (S := (fun W => Below w.heap.size w W ∧ W.cell? ⟨p, 0, none⟩ = some (.slice (some ⟨g, 0, none⟩) m.length cap) ∧ W.cell? ⟨b, 0, none⟩ = some (.int .i64 (c : Int)) ∧ W.cell? ⟨g, c * 10, none⟩ = some (.int .i64 k))) (by kernel_rfl) (⟨hbd, bcl hbd hc, bcl hbd hxi0, bcl hbd hki0⟩) (fun hHeld => ?_)
          refine wpAnyH_take (i := 0) (oi := ⟨some 25, _, _, _, _, _⟩) (v := ?_) rfl (by kernel_rfl) (by kernel_rfl) (by kernel_rfl) (fun _ _ _ h => h) (Or.inl ⟨by kernel_rfl, ?_⟩) (by assumption) ?_
          rotate_left
          · intro w hSw; (try dsimp only at hSw); (try go_simp); all_goals (with_reducible rfl)
          try simp only [Act.put]
          refine wpAnyH_take (i := 1) (oi := ⟨some 26, _, _, _, _, _⟩) (v := ?_) rfl (by kernel_rfl) (by kernel_rfl) (by kernel_rfl) (fun _ _ _ h => h) (Or.inl ⟨by kernel_rfl, ?_⟩) (by assumption) ?_
          rotate_left
          · intro w hSw; (try dsimp only at hSw); (try go_simp); all_goals (with_reducible rfl)
          try simp only [Act.put]
          refine wpAnyH_take (i := 2) (oi := ⟨some 27, _, _, _, _, _⟩) (v := ?_) rfl (by kernel_rfl) (by kernel_rfl) (by kernel_rfl) (fun _ _ _ h => h) (Or.inl ⟨by kernel_rfl, ?_⟩) (by assumption) ?_
          rotate_left
          · intro w hSw; (try dsimp only at hSw); (try go_simp); all_goals (with_reducible rfl)
          try simp only [Act.put]
          refine wpAnyH_take (i := 3) (oi := ⟨some 28, _, _, _, _, _⟩) (v := ?_) rfl (by kernel_rfl) (by kernel_rfl) (by kernel_rfl) (fun _ _ _ h => h) (Or.inl ⟨by kernel_rfl, ?_⟩) (by assumption) ?_
          rotate_left
          · intro w hSw; (try dsimp only at hSw); (try go_simp); all_goals (with_reducible rfl)
          try simp only [Act.put]
          refine wpAnyH_take (i := 4) (oi := ⟨some 29, _, _, _, _, _⟩) (v := ?_) rfl (by kernel_rfl) (by kernel_rfl) (by kernel_rfl) (fun _ _ _ h => h) (Or.inl ⟨by kernel_rfl, ?_⟩) (by assumption) ?_
          rotate_left
          · intro w hSw; (try dsimp only at hSw); (try go_simp); all_goals (with_reducible rfl)
          try simp only [Act.put]
          refine wpAnyH_take (i := 5) (oi := ⟨some 30, _, _, _, _, _⟩) (v := ?_) rfl (by kernel_rfl) (by kernel_rfl) (by kernel_rfl) (fun _ _ _ h => h) (Or.inl ⟨by kernel_rfl, ?_⟩) (by assumption) ?_
          rotate_left
          · intro w hSw; (try dsimp only at hSw); (try go_simp); all_goals (with_reducible rfl)
          try simp only [Act.put]
          refine wpAnyH_take (i := 6) (oi := ⟨some 31, _, _, _, _, _⟩) (v := ?_) rfl (by kernel_rfl) (by kernel_rfl) (by kernel_rfl) (fun _ _ _ h => h) (Or.inl ⟨by kernel_rfl, ?_⟩) (by assumption) ?_
          rotate_left
          · intro w hSw; (try dsimp only at hSw); (try go_simp); all_goals (with_reducible rfl)
          try simp only [Act.put]
          refine wpAnyH_take (i := 7) (oi := ⟨some 32, _, _, _, _, _⟩) (v := ?_) rfl (by kernel_rfl) (by kernel_rfl) (by kernel_rfl) (fun _ _ _ h => h) (Or.inl ⟨by kernel_rfl, ?_⟩) (by assumption) ?_
          rotate_left
          · intro w hSw; (try dsimp only at hSw); (try go_simp); all_goals (with_reducible rfl)
          try simp only [Act.put]
          refine wpAnyH_take (i := 8) (oi := ⟨some 33, _, _, _, _, _⟩) (v := ?_) rfl (by kernel_rfl) (by kernel_rfl) (by kernel_rfl) (fun _ _ _ h => h) (Or.inl ⟨by kernel_rfl, ?_⟩) (by assumption) ?_
          rotate_left
          · intro w hSw; (try dsimp only at hSw); (try go_simp); all_goals (with_reducible rfl)
          try simp only [Act.put]
          refine wpAnyH_take (i := 9) (oi := ⟨some 34, _, _, _, _, _⟩) (v := ?_) rfl (by kernel_rfl) (by kernel_rfl) (by kernel_rfl) (fun _ _ _ h => h) (Or.inl ⟨by kernel_rfl, ?_⟩) (by assumption) ?_
          rotate_left
          · intro w hSw; (try dsimp only at hSw); (try go_simp); all_goals (with_reducible rfl)
          try simp only [Act.put]
          refine wpAnyH_take (i := 10) (oi := ⟨some 35, _, _, _, _, _⟩) (v := ?_) rfl (by kernel_rfl) (by kernel_rfl) (by kernel_rfl) (fun _ _ _ h => h) (Or.inl ⟨by kernel_rfl, ?_⟩) (by assumption) ?_
          rotate_left
          · intro w hSw; (try dsimp only at hSw); (try go_simp); all_goals (with_reducible rfl)
          try simp only [Act.put]
          refine wpAnyH_take (i := 11) (oi := ⟨some 36, _, _, _, _, _⟩) (v := ?_) rfl (by kernel_rfl) (by kernel_rfl) (by kernel_rfl) (fun _ _ _ h => h) (Or.inl ⟨by kernel_rfl, ?_⟩) (by assumption) ?_
          rotate_left
          · intro w hSw; (try dsimp only at hSw); (try go_simp); all_goals (with_reducible rfl)
          try simp only [Act.put]
          refine wpAnyH_take (i := 12) (oi := ⟨some 37, _, _, _, _, _⟩) (v := ?_) rfl (by kernel_rfl) (by kernel_rfl) (by kernel_rfl) (fun _ _ _ h => h) (Or.inl ⟨by kernel_rfl, ?_⟩) (by assumption) ?_
          rotate_left
          · intro w hSw; (try dsimp only at hSw); (try go_simp); all_goals (with_reducible rfl)
          try simp only [Act.put]
          refine wpAnyH_take (i := 13) (oi := ⟨some 38, _, _, _, _, _⟩) (v := ?_) rfl (by kernel_rfl) (by kernel_rfl) (by kernel_rfl) (fun _ _ _ h => h) (Or.inl ⟨by kernel_rfl, ?_⟩) (by assumption) ?_
          rotate_left
          · intro w hSw; (try dsimp only at hSw); (try go_simp); all_goals (with_reducible rfl)
          try simp only [Act.put]
          refine wpAnyH_take (i := 14) (oi := ⟨some 39, _, _, _, _, _⟩) (v := ?_) rfl (by kernel_rfl) (by kernel_rfl) (by kernel_rfl) (fun _ _ _ h => h) (Or.inl ⟨by kernel_rfl, ?_⟩) (by assumption) ?_
          rotate_left
          · intro w hSw; (try dsimp only at hSw); (try go_simp); all_goals (with_reducible rfl)
          try simp only [Act.put]
          refine wpAnyH_take (i := 15) (oi := ⟨some 40, _, _, _, _, _⟩) (v := ?_) rfl (by kernel_rfl) (by kernel_rfl) (by kernel_rfl) (fun _ _ _ h => h) (Or.inl ⟨by kernel_rfl, ?_⟩) (by assumption) ?_
          rotate_left
          · intro w hSw; (try dsimp only at hSw); (try go_simp); all_goals (with_reducible rfl)
          try simp only [Act.put]
          refine wpAnyH_take (i := 16) (oi := ⟨some 41, _, _, _, _, _⟩) (v := ?_) rfl (by kernel_rfl) (by kernel_rfl) (by kernel_rfl) (fun _ _ _ h => h) (Or.inl ⟨by kernel_rfl, ?_⟩) (by assumption) ?_
          rotate_left
          · intro w hSw; (try dsimp only at hSw); (try go_simp); all_goals (with_reducible rfl)
          try simp only [Act.put]
          refine wpAnyH_take (i := 17) (oi := ⟨some 42, _, _, _, _, _⟩) (v := undef) rfl (by kernel_rfl) (by kernel_rfl) (by kernel_rfl) (fun _ _ _ h => h) (Or.inr ⟨by kernel_rfl, rfl⟩) (by assumption) ?_
          try simp only [Act.put]
          refine wpAnyH_take (i := 18) (oi := ⟨some 43, _, _, _, _, _⟩) (v := undef) rfl (by kernel_rfl) (by kernel_rfl) (by kernel_rfl) (fun _ _ _ h => h) (Or.inr ⟨by kernel_rfl, rfl⟩) (by assumption) ?_
          try simp only [Act.put]
          refine wpAnyH_take (i := 19) (oi := ⟨some 44, _, _, _, _, _⟩) (v := undef) rfl (by kernel_rfl) (by kernel_rfl) (by kernel_rfl) (fun _ _ _ h => h) (Or.inr ⟨by kernel_rfl, rfl⟩) (by assumption) ?_
          try simp only [Act.put]
          refine wpAnyH_take (i := 20) (oi := ⟨some 45, _, _, _, _, _⟩) (v := undef) rfl (by kernel_rfl) (by kernel_rfl) (by kernel_rfl) (fun _ _ _ h => h) (Or.inr ⟨by kernel_rfl, rfl⟩) (by assumption) ?_
          try simp only [Act.put]
          refine wpAnyH_take (i := 21) (oi := ⟨some 46, _, _, _, _, _⟩) (v := undef) rfl (by kernel_rfl) (by kernel_rfl) (by kernel_rfl) (fun _ _ _ h => h) (Or.inr ⟨by kernel_rfl, rfl⟩) (by assumption) ?_
          try simp only [Act.put]
          refine wpAnyH_take (i := 22) (oi := ⟨some 47, _, _, _, _, _⟩) (v := undef) rfl (by kernel_rfl) (by kernel_rfl) (by kernel_rfl) (fun _ _ _ h => h) (Or.inr ⟨by kernel_rfl, rfl⟩) (by assumption) ?_
          try simp only [Act.put]
          refine wpAnyH_take (i := 23) (oi := ⟨some 48, _, _, _, _, _⟩) (v := undef) rfl (by kernel_rfl) (by kernel_rfl) (by kernel_rfl) (fun _ _ _ h => h) (Or.inr ⟨by kernel_rfl, rfl⟩) (by assumption) ?_
          try simp only [Act.put]
          refine wpAnyH_take (i := 24) (oi := ⟨some 49, _, _, _, _, _⟩) (v := undef) rfl (by kernel_rfl) (by kernel_rfl) (by kernel_rfl) (fun _ _ _ h => h) (Or.inr ⟨by kernel_rfl, rfl⟩) (by assumption) ?_
          try simp only [Act.put]
          refine wpAnyH_take (i := 25) (oi := ⟨some 50, _, _, _, _, _⟩) (v := undef) rfl (by kernel_rfl) (by kernel_rfl) (by kernel_rfl) (fun _ _ _ h => h) (Or.inr ⟨by kernel_rfl, rfl⟩) (by assumption) ?_
          try simp only [Act.put]
          refine wpAnyH_take (i := 26) (oi := ⟨some 51, _, _, _, _, _⟩) (v := undef) rfl (by kernel_rfl) (by kernel_rfl) (by kernel_rfl) (fun _ _ _ h => h) (Or.inr ⟨by kernel_rfl, rfl⟩) (by assumption) ?_
          try simp only [Act.put]
          refine wpAnyH_take (i := 27) (oi := ⟨some 52, _, _, _, _, _⟩) (v := undef) rfl (by kernel_rfl) (by kernel_rfl) (by kernel_rfl) (fun _ _ _ h => h) (Or.inr ⟨by kernel_rfl, rfl⟩) (by assumption) ?_
          try simp only [Act.put]
          refine wpAnyH_take (i := 28) (oi := ⟨some 53, _, _, _, _, _⟩) (v := undef) rfl (by kernel_rfl) (by kernel_rfl) (by kernel_rfl) (fun _ _ _ h => h) (Or.inr ⟨by kernel_rfl, rfl⟩) (by assumption) ?_
          try simp only [Act.put]
          refine wpAnyH_take (i := 29) (oi := ⟨some 54, _, _, _, _, _⟩) (v := undef) rfl (by kernel_rfl) (by kernel_rfl) (by kernel_rfl) (fun _ _ _ h => h) (Or.inr ⟨by kernel_rfl, rfl⟩) (by assumption) ?_
          try simp only [Act.put]
          refine wpAnyH_take (i := 30) (oi := ⟨some 55, _, _, _, _, _⟩) (v := ?_) rfl (by kernel_rfl) (by kernel_rfl) (by kernel_rfl) (fun _ _ _ h => h) (Or.inl ⟨by kernel_rfl, ?_⟩) (by assumption) ?_
          rotate_left
          · intro w hSw; (try dsimp only at hSw); (try go_simp); all_goals (with_reducible rfl)
          try simp only [Act.put]
          refine wpAnyH_take (i := 31) (oi := ⟨some 56, _, _, _, _, _⟩) (v := ?_) rfl (by kernel_rfl) (by kernel_rfl) (by kernel_rfl) (fun _ _ _ h => h) (Or.inl ⟨by kernel_rfl, ?_⟩) (by assumption) ?_
          rotate_left
          · intro w hSw; (try dsimp only at hSw); (try go_simp); all_goals (with_reducible rfl)
          try simp only [Act.put]
          refine wpAnyH_take (i := 32) (oi := ⟨some 57, _, _, _, _, _⟩) (v := ?_) rfl (by kernel_rfl) (by kernel_rfl) (by kernel_rfl) (fun _ _ _ h => h) (Or.inl ⟨by kernel_rfl, ?_⟩) (by assumption) ?_
          rotate_left
          · intro w hSw; (try dsimp only at hSw); (try go_simp); all_goals (with_reducible rfl)
          try simp only [Act.put]
          refine wpAnyH_take (i := 33) (oi := ⟨some 58, _, _, _, _, _⟩) (v := ?_) rfl (by kernel_rfl) (by kernel_rfl) (by kernel_rfl) (fun _ _ _ h => h) (Or.inl ⟨by kernel_rfl, ?_⟩) (by assumption) ?_
          rotate_left
          · intro w hSw; (try dsimp only at hSw); (try go_simp); all_goals (with_reducible rfl)
          try simp only [Act.put]
          refine wpAnyH_take (i := 34) (oi := ⟨some 59, _, _, _, _, _⟩) (v := ?_) rfl (by kernel_rfl) (by kernel_rfl) (by kernel_rfl) (fun _ _ _ h => h) (Or.inl ⟨by kernel_rfl, ?_⟩) (by assumption) ?_
          rotate_left
          · intro w hSw; (try dsimp only at hSw); (try go_simp); all_goals (with_reducible rfl)
          try simp only [Act.put]
          refine wpAnyH_take (i := 35) (oi := ⟨some 60, _, _, _, _, _⟩) (v := ?_) rfl (by kernel_rfl) (by kernel_rfl) (by kernel_rfl) (fun _ _ _ h => h) (Or.inl ⟨by kernel_rfl, ?_⟩) (by assumption) ?_
          rotate_left
          · intro w hSw; (try dsimp only at hSw); (try go_simp); all_goals (with_reducible rfl)
          try simp only [Act.put]
          refine wpAnyH_take (i := 36) (oi := ⟨some 61, _, _, _, _, _⟩) (v := ?_) rfl (by kernel_rfl) (by kernel_rfl) (by kernel_rfl) (fun _ _ _ h => h) (Or.inl ⟨by kernel_rfl, ?_⟩) (by assumption) ?_
          rotate_left
          · intro w hSw; (try dsimp only at hSw); (try go_simp); all_goals (with_reducible rfl)
          try simp only [Act.put]
          refine wpAnyH_take (i := 37) (oi := ⟨some 62, _, _, _, _, _⟩) (v := ?_) rfl (by kernel_rfl) (by kernel_rfl) (by kernel_rfl) (fun _ _ _ h => h) (Or.inl ⟨by kernel_rfl, ?_⟩) (by assumption) ?_
          rotate_left
          · intro w hSw; (try dsimp only at hSw); (try go_simp); all_goals (with_reducible rfl)
          try simp only [Act.put]
          refine wpAnyH_take (i := 38) (oi := ⟨some 63, _, _, _, _, _⟩) (v := ?_) rfl (by kernel_rfl) (by kernel_rfl) (by kernel_rfl) (fun _ _ _ h => h) (Or.inl ⟨by kernel_rfl, ?_⟩) (by assumption) ?_
          rotate_left
          · intro w hSw; (try dsimp only at hSw); (try go_simp); all_goals (with_reducible rfl)
          try simp only [Act.put]
          refine wpAnyH_ready (rs := [39]) (by kernel_rfl) (by simp) ?_
          refine AllReadyH.cons rfl (fun K hK => ?_) AllReadyH.nil
          go_simp
          go_wp2_with (go_at_call 61; refine CO.mono ?_; rintro e w1 ⟨rfl, hw1⟩)
          refine hK.out _ _ (⟨hbt hbd hw1, bcl (hbt hbd hw1) hc, bcl (hbt hbd hw1) hxi0, bcl (hbt hbd hw1) hki0⟩) (fun hHeld => ?_)
          clear hK K
          refine wpAnyH_take (i := 40) (oi := ⟨some 65, _, _, _, _, _⟩) (v := ?_) rfl (by kernel_rfl) (by kernel_rfl) (by kernel_rfl) (fun _ _ _ h => h) (Or.inl ⟨by kernel_rfl, ?_⟩) (by assumption) ?_
          rotate_left
          · intro w hSw; (try dsimp only at hSw); (try go_simp); all_goals (with_reducible rfl)
          try simp only [Act.put]
          refine wpAnyH_take (i := 41) (oi := ⟨some 66, _, _, _, _, _⟩) (v := ?_) rfl (by kernel_rfl) (by kernel_rfl) (by kernel_rfl) (fun _ _ _ h => h) (Or.inl ⟨by kernel_rfl, ?_⟩) (by assumption) ?_
          rotate_left
          · intro w hSw; (try dsimp only at hSw); (try go_simp); all_goals (with_reducible rfl)
          try simp only [Act.put]
          refine wpAnyH_done (by kernel_rfl) ?_ _
          simp only [List.setIfInBounds_toArray, List.set_cons_succ, List.set_cons_zero]
          have hb2 := hbt hbd hw1
          clear CO hHeld
          cases qo : o c
          · have HO := Go.Lib.hid qo
            go_wp2
            go_ret
            exact ⟨ret_bool (HS.out.2.2 (by rw [HS.out.2.1, HO.out]; try simp)).symm, hb2⟩
          · have HO := Go.Lib.hid qo
            go_wp2
            go_roundw
            case rel => exact ⟨1, by rfl, by omega, hb2, fun j hj => by
              rcases (show j < 0 ∨ j = 0 by omega) with h | rfl
              · exact HS.out.1 j h
              · rw [HS.out.2.1, HO.out]; try (rw [HQ.out]; rfl)⟩
            case measure => simp [intOf]; omega
        · obtain ⟨i1, hi1⟩ : ∃ i1, i1 = i - 1 := ⟨_, rfl⟩
          have hl1 : i1 < xs.length := by omega
          have hxi1 := hx i1 hl1
          have hci1 := hks _ (List.getElem_mem hl1)
          have hki1 := hK _ hci1
          have hok1 : okK m xs o i = (!((m[xs[i1]]'hci1).kind == 2) && o c) := by
            rw [hok, decide_eq_true hi0, Bool.true_and, ← hi1, List.getD_eq_getElem?_getD (l := xs), List.getElem?_eq_getElem hl1, Option.getD_some, List.getD_eq_getElem?_getD (l := m), List.getElem?_eq_getElem hci1]
            rfl
          generalize hcc1 : xs[i1] = c1 at *
          generalize hkk1 : m[c1].kind = k1 at *
          have HS := Go.Lib.hid (And.intro hall (And.intro hok1 hno))
          have hgt : decide ((i : Int) > 0) = true := decide_eq_true (by omega)
          have hgt2 : decide (0 < (i : Int)) = true := decide_eq_true (by omega)
          have hsub : IntKind.i64.wrap (i1 : Int) = (i1 : Int) := by rw [IntKind.wrap_i64]; omega
          have hsub2 : ((i : Int) - 1) = (i1 : Int) := by omega
          have hcp0 : (0 : Int) ≤ (c1 : Int) := by omega
          have hcp1 : (c1 : Int) < (m.length : Int) := by omega
          have hxw1 := bcl hbw hxi1
          have hkw1 := bcl hbw hki1
          clear hall hok hok1 hno hx hK hks hkk hcc hkk1 hcc1 hi1
          cases q2 : (k1 == 2)
          · have HQ := Go.Lib.hid q2
            go_wp2
            refine wp_region_held_drew (S := (fun W => Below w.heap.size w W ∧ W.cell? ⟨p, 0, none⟩ = some (.slice (some ⟨g, 0, none⟩) m.length cap) ∧ W.cell? ⟨b, i, none⟩ = some (.int .i64 (c : Int)) ∧ W.cell? ⟨g, c * 10, none⟩ = some (.int .i64 k) ∧ W.cell? ⟨b, i1, none⟩ = some (.int .i64 (c1 : Int)) ∧ W.cell? ⟨g, c1 * 10, none⟩ = some (.int .i64 k1))) (by kernel_rfl) (⟨hbd, bcl hbd hc, bcl hbd hxi0, bcl hbd hki0, bcl hbd hxi1, bcl hbd hki1⟩) (fun hHeld => ?_)
            refine wpAnyH_take (i := 0) (oi := ⟨some 25, _, _, _, _, _⟩) (v := ?_) rfl (by kernel_rfl) (by kernel_rfl) (by kernel_rfl) (fun _ _ _ h => h) (Or.inl ⟨by kernel_rfl, ?_⟩) (by assumption) ?_
            rotate_left
            · intro w hSw; (try dsimp only at hSw); (try go_simp); all_goals (with_reducible rfl)
            try simp only [Act.put]
            refine wpAnyH_take (i := 1) (oi := ⟨some 26, _, _, _, _, _⟩) (v := ?_) rfl (by kernel_rfl) (by kernel_rfl) (by kernel_rfl) (fun _ _ _ h => h) (Or.inl ⟨by kernel_rfl, ?_⟩) (by assumption) ?_
            rotate_left
            · intro w hSw; (try dsimp only at hSw); (try go_simp); all_goals (with_reducible rfl)
            try simp only [Act.put]
            refine wpAnyH_take (i := 2) (oi := ⟨some 27, _, _, _, _, _⟩) (v := ?_) rfl (by kernel_rfl) (by kernel_rfl) (by kernel_rfl) (fun _ _ _ h => h) (Or.inl ⟨by kernel_rfl, ?_⟩) (by assumption) ?_
            rotate_left
            · intro w hSw; (try dsimp only at hSw); (try go_simp); all_goals (with_reducible rfl)
            try simp only [Act.put]
            refine wpAnyH_take (i := 3) (oi := ⟨some 28, _, _, _, _, _⟩) (v := ?_) rfl (by kernel_rfl) (by kernel_rfl) (by kernel_rfl) (fun _ _ _ h => h) (Or.inl ⟨by kernel_rfl, ?_⟩) (by assumption) ?_
            rotate_left
            · intro w hSw; (try dsimp only at hSw); (try go_simp); all_goals (with_reducible rfl)
            try simp only [Act.put]
            refine wpAnyH_take (i := 4) (oi := ⟨some 29, _, _, _, _, _⟩) (v := ?_) rfl (by kernel_rfl) (by kernel_rfl) (by kernel_rfl) (fun _ _ _ h => h) (Or.inl ⟨by kernel_rfl, ?_⟩) (by assumption) ?_
            rotate_left
            · intro w hSw; (try dsimp only at hSw); (try go_simp); all_goals (with_reducible rfl)
            try simp only [Act.put]
            refine wpAnyH_take (i := 5) (oi := ⟨some 30, _, _, _, _, _⟩) (v := ?_) rfl (by kernel_rfl) (by kernel_rfl) (by kernel_rfl) (fun _ _ _ h => h) (Or.inl ⟨by kernel_rfl, ?_⟩) (by assumption) ?_
            rotate_left
            · intro w hSw; (try dsimp only at hSw); (try go_simp); all_goals (with_reducible rfl)
            try simp only [Act.put]
            refine wpAnyH_take (i := 6) (oi := ⟨some 31, _, _, _, _, _⟩) (v := ?_) rfl (by kernel_rfl) (by kernel_rfl) (by kernel_rfl) (fun _ _ _ h => h) (Or.inl ⟨by kernel_rfl, ?_⟩) (by assumption) ?_
            rotate_left
            · intro w hSw; (try dsimp only at hSw); (try go_simp); all_goals (with_reducible rfl)
            try simp only [Act.put]
            refine wpAnyH_take (i := 7) (oi := ⟨some 32, _, _, _, _, _⟩) (v := ?_) rfl (by kernel_rfl) (by kernel_rfl) (by kernel_rfl) (fun _ _ _ h => h) (Or.inl ⟨by kernel_rfl, ?_⟩) (by assumption) ?_
            rotate_left
            · intro w hSw; (try dsimp only at hSw); (try go_simp); all_goals (with_reducible rfl)
            try simp only [Act.put]
            refine wpAnyH_take (i := 8) (oi := ⟨some 33, _, _, _, _, _⟩) (v := ?_) rfl (by kernel_rfl) (by kernel_rfl) (by kernel_rfl) (fun _ _ _ h => h) (Or.inl ⟨by kernel_rfl, ?_⟩) (by assumption) ?_
            rotate_left
            · intro w hSw; (try dsimp only at hSw); (try go_simp); all_goals (with_reducible rfl)
            try simp only [Act.put]
            refine wpAnyH_take (i := 9) (oi := ⟨some 34, _, _, _, _, _⟩) (v := ?_) rfl (by kernel_rfl) (by kernel_rfl) (by kernel_rfl) (fun _ _ _ h => h) (Or.inl ⟨by kernel_rfl, ?_⟩) (by assumption) ?_
            rotate_left
            · intro w hSw; (try dsimp only at hSw); (try go_simp); all_goals (with_reducible rfl)
            try simp only [Act.put]
            refine wpAnyH_take (i := 10) (oi := ⟨some 35, _, _, _, _, _⟩) (v := ?_) rfl (by kernel_rfl) (by kernel_rfl) (by kernel_rfl) (fun _ _ _ h => h) (Or.inl ⟨by kernel_rfl, ?_⟩) (by assumption) ?_
            rotate_left
            · intro w hSw; (try dsimp only at hSw); (try go_simp); all_goals (with_reducible rfl)
            try simp only [Act.put]
            refine wpAnyH_take (i := 11) (oi := ⟨some 36, _, _, _, _, _⟩) (v := ?_) rfl (by kernel_rfl) (by kernel_rfl) (by kernel_rfl) (fun _ _ _ h => h) (Or.inl ⟨by kernel_rfl, ?_⟩) (by assumption) ?_
            rotate_left
            · intro w hSw; (try dsimp only at hSw); (try go_simp); all_goals (with_reducible rfl)
            try simp only [Act.put]
            refine wpAnyH_take (i := 12) (oi := ⟨some 37, _, _, _, _, _⟩) (v := ?_) rfl (by kernel_rfl) (by kernel_rfl) (by kernel_rfl) (fun _ _ _ h => h) (Or.inl ⟨by kernel_rfl, ?_⟩) (by assumption) ?_
            rotate_left
            · intro w hSw; (try dsimp only at hSw); (try go_simp); all_goals (with_reducible rfl)
            try simp only [Act.put]
            refine wpAnyH_take (i := 13) (oi := ⟨some 38, _, _, _, _, _⟩) (v := ?_) rfl (by kernel_rfl) (by kernel_rfl) (by kernel_rfl) (fun _ _ _ h => h) (Or.inl ⟨by kernel_rfl, ?_⟩) (by assumption) ?_
            rotate_left
            · intro w hSw; (try dsimp only at hSw); (try go_simp); all_goals (with_reducible rfl)
            try simp only [Act.put]
            refine wpAnyH_take (i := 14) (oi := ⟨some 39, _, _, _, _, _⟩) (v := ?_) rfl (by kernel_rfl) (by kernel_rfl) (by kernel_rfl) (fun _ _ _ h => h) (Or.inl ⟨by kernel_rfl, ?_⟩) (by assumption) ?_
            rotate_left
            · intro w hSw; (try dsimp only at hSw); (try go_simp); all_goals (with_reducible rfl)
            try simp only [Act.put]
            refine wpAnyH_take (i := 15) (oi := ⟨some 40, _, _, _, _, _⟩) (v := ?_) rfl (by kernel_rfl) (by kernel_rfl) (by kernel_rfl) (fun _ _ _ h => h) (Or.inl ⟨by kernel_rfl, ?_⟩) (by assumption) ?_
            rotate_left
            · intro w hSw; (try dsimp only at hSw); (try go_simp); all_goals (with_reducible rfl)
            try simp only [Act.put]
            refine wpAnyH_take (i := 16) (oi := ⟨some 41, _, _, _, _, _⟩) (v := ?_) rfl (by kernel_rfl) (by kernel_rfl) (by kernel_rfl) (fun _ _ _ h => h) (Or.inl ⟨by kernel_rfl, ?_⟩) (by assumption) ?_
            rotate_left
            · intro w hSw; (try dsimp only at hSw); (try go_simp); all_goals (with_reducible rfl)
            try simp only [Act.put]
            refine wpAnyH_take (i := 17) (oi := ⟨some 42, _, _, _, _, _⟩) (v := ?_) rfl (by kernel_rfl) (by kernel_rfl) (by kernel_rfl) (fun _ _ _ h => h) (Or.inl ⟨by kernel_rfl, ?_⟩) (by assumption) ?_
            rotate_left
            · intro w hSw; (try dsimp only at hSw); (try go_simp); all_goals (with_reducible rfl)
            try simp only [Act.put]
            refine wpAnyH_take (i := 18) (oi := ⟨some 43, _, _, _, _, _⟩) (v := ?_) rfl (by kernel_rfl) (by kernel_rfl) (by kernel_rfl) (fun _ _ _ h => h) (Or.inl ⟨by kernel_rfl, ?_⟩) (by assumption) ?_
            rotate_left
            · intro w hSw; (try dsimp only at hSw); (try go_simp); all_goals (with_reducible rfl)
            try simp only [Act.put]
            refine wpAnyH_take (i := 19) (oi := ⟨some 44, _, _, _, _, _⟩) (v := ?_) rfl (by kernel_rfl) (by kernel_rfl) (by kernel_rfl) (fun _ _ _ h => h) (Or.inl ⟨by kernel_rfl, ?_⟩) (by assumption) ?_
            rotate_left
            · intro w hSw; (try dsimp only at hSw); (try go_simp); all_goals (with_reducible rfl)
            try simp only [Act.put]
            refine wpAnyH_take (i := 20) (oi := ⟨some 45, _, _, _, _, _⟩) (v := ?_) rfl (by kernel_rfl) (by kernel_rfl) (by kernel_rfl) (fun _ _ _ h => h) (Or.inl ⟨by kernel_rfl, ?_⟩) (by assumption) ?_
            rotate_left
            · intro w hSw; (try dsimp only at hSw); (try go_simp); all_goals (with_reducible rfl)
            try simp only [Act.put]
            refine wpAnyH_take (i := 21) (oi := ⟨some 46, _, _, _, _, _⟩) (v := ?_) rfl (by kernel_rfl) (by kernel_rfl) (by kernel_rfl) (fun _ _ _ h => h) (Or.inl ⟨by kernel_rfl, ?_⟩) (by assumption) ?_
            rotate_left
            · intro w hSw; (try dsimp only at hSw); (try go_simp); all_goals (with_reducible rfl)
            try simp only [Act.put]
            refine wpAnyH_take (i := 22) (oi := ⟨some 47, _, _, _, _, _⟩) (v := ?_) rfl (by kernel_rfl) (by kernel_rfl) (by kernel_rfl) (fun _ _ _ h => h) (Or.inl ⟨by kernel_rfl, ?_⟩) (by assumption) ?_
            rotate_left
            · intro w hSw; (try dsimp only at hSw); (try go_simp); all_goals (with_reducible rfl)
            try simp only [Act.put]
            refine wpAnyH_take (i := 23) (oi := ⟨some 48, _, _, _, _, _⟩) (v := ?_) rfl (by kernel_rfl) (by kernel_rfl) (by kernel_rfl) (fun _ _ _ h => h) (Or.inl ⟨by kernel_rfl, ?_⟩) (by assumption) ?_
            rotate_left
            · intro w hSw; (try dsimp only at hSw); (try go_simp); all_goals (with_reducible rfl)
            try simp only [Act.put]
            refine wpAnyH_take (i := 24) (oi := ⟨some 49, _, _, _, _, _⟩) (v := ?_) rfl (by kernel_rfl) (by kernel_rfl) (by kernel_rfl) (fun _ _ _ h => h) (Or.inl ⟨by kernel_rfl, ?_⟩) (by assumption) ?_
            rotate_left
            · intro w hSw; (try dsimp only at hSw); (try go_simp); all_goals (with_reducible rfl)
            try simp only [Act.put]
            refine wpAnyH_take (i := 25) (oi := ⟨some 50, _, _, _, _, _⟩) (v := ?_) rfl (by kernel_rfl) (by kernel_rfl) (by kernel_rfl) (fun _ _ _ h => h) (Or.inl ⟨by kernel_rfl, ?_⟩) (by assumption) ?_
            rotate_left
            · intro w hSw; (try dsimp only at hSw); (try go_simp); all_goals (with_reducible rfl)
            try simp only [Act.put]
            refine wpAnyH_take (i := 26) (oi := ⟨some 51, _, _, _, _, _⟩) (v := ?_) rfl (by kernel_rfl) (by kernel_rfl) (by kernel_rfl) (fun _ _ _ h => h) (Or.inl ⟨by kernel_rfl, ?_⟩) (by assumption) ?_
            rotate_left
            · intro w hSw; (try dsimp only at hSw); (try go_simp); all_goals (with_reducible rfl)
            try simp only [Act.put]
            refine wpAnyH_take (i := 27) (oi := ⟨some 52, _, _, _, _, _⟩) (v := ?_) rfl (by kernel_rfl) (by kernel_rfl) (by kernel_rfl) (fun _ _ _ h => h) (Or.inl ⟨by kernel_rfl, ?_⟩) (by assumption) ?_
            rotate_left
            · intro w hSw; (try dsimp only at hSw); (try go_simp); all_goals (with_reducible rfl)
            try simp only [Act.put]
            refine wpAnyH_take (i := 28) (oi := ⟨some 53, _, _, _, _, _⟩) (v := ?_) rfl (by kernel_rfl) (by kernel_rfl) (by kernel_rfl) (fun _ _ _ h => h) (Or.inl ⟨by kernel_rfl, ?_⟩) (by assumption) ?_
            rotate_left
            · intro w hSw; (try dsimp only at hSw); (try go_simp); all_goals (with_reducible rfl)
            try simp only [Act.put]
            refine wpAnyH_take (i := 29) (oi := ⟨some 54, _, _, _, _, _⟩) (v := ?_) rfl (by kernel_rfl) (by kernel_rfl) (by kernel_rfl) (fun _ _ _ h => h) (Or.inl ⟨by kernel_rfl, ?_⟩) (by assumption) ?_
            rotate_left
            · intro w hSw; (try dsimp only at hSw); (try go_simp); all_goals (with_reducible rfl)
            try simp only [Act.put]
            refine wpAnyH_take (i := 30) (oi := ⟨some 55, _, _, _, _, _⟩) (v := ?_) rfl (by kernel_rfl) (by kernel_rfl) (by kernel_rfl) (fun _ _ _ h => h) (Or.inl ⟨by kernel_rfl, ?_⟩) (by assumption) ?_
            rotate_left
            · intro w hSw; (try dsimp only at hSw); (try go_simp); all_goals (with_reducible rfl)
            try simp only [Act.put]
            refine wpAnyH_take (i := 31) (oi := ⟨some 56, _, _, _, _, _⟩) (v := ?_) rfl (by kernel_rfl) (by kernel_rfl) (by kernel_rfl) (fun _ _ _ h => h) (Or.inl ⟨by kernel_rfl, ?_⟩) (by assumption) ?_
            rotate_left
            · intro w hSw; (try dsimp only at hSw); (try go_simp); all_goals (with_reducible rfl)
            try simp only [Act.put]
            refine wpAnyH_take (i := 32) (oi := ⟨some 57, _, _, _, _, _⟩) (v := ?_) rfl (by kernel_rfl) (by kernel_rfl) (by kernel_rfl) (fun _ _ _ h => h) (Or.inl ⟨by kernel_rfl, ?_⟩) (by assumption) ?_
            rotate_left
            · intro w hSw; (try dsimp only at hSw); (try go_simp); all_goals (with_reducible rfl)
            try simp only [Act.put]
            refine wpAnyH_take (i := 33) (oi := ⟨some 58, _, _, _, _, _⟩) (v := ?_) rfl (by kernel_rfl) (by kernel_rfl) (by kernel_rfl) (fun _ _ _ h => h) (Or.inl ⟨by kernel_rfl, ?_⟩) (by assumption) ?_
            rotate_left
            · intro w hSw; (try dsimp only at hSw); (try go_simp); all_goals (with_reducible rfl)
            try simp only [Act.put]
            refine wpAnyH_take (i := 34) (oi := ⟨some 59, _, _, _, _, _⟩) (v := ?_) rfl (by kernel_rfl) (by kernel_rfl) (by kernel_rfl) (fun _ _ _ h => h) (Or.inl ⟨by kernel_rfl, ?_⟩) (by assumption) ?_
            rotate_left
            · intro w hSw; (try dsimp only at hSw); (try go_simp); all_goals (with_reducible rfl)
            try simp only [Act.put]
            refine wpAnyH_take (i := 35) (oi := ⟨some 60, _, _, _, _, _⟩) (v := ?_) rfl (by kernel_rfl) (by kernel_rfl) (by kernel_rfl) (fun _ _ _ h => h) (Or.inl ⟨by kernel_rfl, ?_⟩) (by assumption) ?_
            rotate_left
            · intro w hSw; (try dsimp only at hSw); (try go_simp); all_goals (with_reducible rfl)
            try simp only [Act.put]
            refine wpAnyH_take (i := 36) (oi := ⟨some 61, _, _, _, _, _⟩) (v := ?_) rfl (by kernel_rfl) (by kernel_rfl) (by kernel_rfl) (fun _ _ _ h => h) (Or.inl ⟨by kernel_rfl, ?_⟩) (by assumption) ?_
            rotate_left
            · intro w hSw; (try dsimp only at hSw); (try go_simp); all_goals (with_reducible rfl)
            try simp only [Act.put]
            refine wpAnyH_take (i := 37) (oi := ⟨some 62, _, _, _, _, _⟩) (v := ?_) rfl (by kernel_rfl) (by kernel_rfl) (by kernel_rfl) (fun _ _ _ h => h) (Or.inl ⟨by kernel_rfl, ?_⟩) (by assumption) ?_
            rotate_left
            · intro w hSw; (try dsimp only at hSw); (try go_simp); all_goals (with_reducible rfl)
            try simp only [Act.put]
            refine wpAnyH_take (i := 38) (oi := ⟨some 63, _, _, _, _, _⟩) (v := ?_) rfl (by kernel_rfl) (by kernel_rfl) (by kernel_rfl) (fun _ _ _ h => h) (Or.inl ⟨by kernel_rfl, ?_⟩) (by assumption) ?_
            rotate_left
            · intro w hSw; (try dsimp only at hSw); (try go_simp); all_goals (with_reducible rfl)
            try simp only [Act.put]
            refine wpAnyH_ready (rs := [39]) (by kernel_rfl) (by simp) ?_
            refine AllReadyH.cons rfl (fun K hK => ?_) AllReadyH.nil
            go_simp
            go_wp2_with (go_at_call 61; refine CO.mono ?_; rintro e w1 ⟨rfl, hw1⟩)
            refine hK.out _ _ (⟨hbt hbd hw1, bcl (hbt hbd hw1) hc, bcl (hbt hbd hw1) hxi0, bcl (hbt hbd hw1) hki0, bcl (hbt hbd hw1) hxi1, bcl (hbt hbd hw1) hki1⟩) (fun hHeld => ?_)
            clear hK K
            refine wpAnyH_take (i := 40) (oi := ⟨some 65, _, _, _, _, _⟩) (v := ?_) rfl (by kernel_rfl) (by kernel_rfl) (by kernel_rfl) (fun _ _ _ h => h) (Or.inl ⟨by kernel_rfl, ?_⟩) (by assumption) ?_
            rotate_left
            · intro w hSw; (try dsimp only at hSw); (try go_simp); all_goals (with_reducible rfl)
            try simp only [Act.put]
            refine wpAnyH_take (i := 41) (oi := ⟨some 66, _, _, _, _, _⟩) (v := ?_) rfl (by kernel_rfl) (by kernel_rfl) (by kernel_rfl) (fun _ _ _ h => h) (Or.inl ⟨by kernel_rfl, ?_⟩) (by assumption) ?_
            rotate_left
            · intro w hSw; (try dsimp only at hSw); (try go_simp); all_goals (with_reducible rfl)
            try simp only [Act.put]
            refine wpAnyH_done (by kernel_rfl) ?_ _
            simp only [List.setIfInBounds_toArray, List.set_cons_succ, List.set_cons_zero]
            have hb2 := hbt hbd hw1
            clear CO hHeld
            cases qo : o c
            · have HO := Go.Lib.hid qo
              go_wp2
              go_ret
              exact ⟨ret_bool (HS.out.2.2 (by rw [HS.out.2.1, HO.out]; try simp)).symm, hb2⟩
            · have HO := Go.Lib.hid qo
              go_wp2
              go_roundw
              case rel => exact ⟨i + 1, by go_num, by omega, hb2, fun j hj => by
                rcases (show j < i ∨ j = i by omega) with h | rfl
                · exact HS.out.1 j h
                · rw [HS.out.2.1, HO.out]; try (rw [HQ.out]; rfl)⟩
              case measure => simp [intOf]; omega
          · clear CO
            go_wp2
            go_quiet (fail)
            go_wp2
            go_ret
            exact ⟨ret_bool (HS.out.2.2 (by rw [HS.out.2.1, q2]; rfl)).symm, below_drewN hbw _⟩
    · obtain rfl : i = xs.length := by omega
      have hall := Go.Lib.hid hall
      go_wp2
      go_ret
      exact ⟨ret_bool (by rw [kidsO, eq_comm, List.all_eq_true]; intro j hj; exact hall.out j (List.mem_range.1 hj)), hbw⟩
end Go.Proofs.YthfdiinfeljeeaaGreatDoor
/- The reference: a node and all that is in it. -/
namespace Go.Proofs.YthfdiinfeljeeaaGreatDoor
open Go.RowKit
theorem bodyB_depth {k s : Int} {n d : ByteArray} {al : List A4} {b : Bool} {depth : Int} {kf kt : Bool} (h : depth ≤ 200) : bodyB k s n d al b depth kf kt = bodyB k s n d al b 0 kf kt := by
  unfold bodyB
  rw [if_neg (show ¬ 200 < depth by omega), if_neg (show ¬ (200 : Int) < 0 by decide)]
theorem bodyB_deep {k s : Int} {n d : ByteArray} {al : List A4} {b : Bool} {depth : Int} {kf kt : Bool} (h : 200 < depth) : bodyB k s n d al b depth kf kt = false := by
  unfold bodyB
  rw [if_pos h]
theorem gO_get {m : List On} {i : Nat} (h : i < m.length) : gO m i = m[i] := gO_of h
theorem kidsO_eq (m : List On) (xs : List Nat) (o : Nat → Bool) : kidsO m xs o = kidsV (vO m) xs o := by
  unfold kidsO kidsV
  rw [Bool.eq_iff_iff, List.all_eq_true, List.all_eq_true]
  have e : ∀ i ∈ List.range xs.length, okK m xs o i = (adjV (vO m) xs i && o (xs.getD i 0)) := by
    intro i hi
    have hi := List.mem_range.1 hi
    rw [okK, adjV, List.getElem?_eq_getElem hi, List.getD_eq_getElem?_getD (l := xs) (i := i), List.getElem?_eq_getElem hi]
    rfl
  exact ⟨fun h i hi => by rw [← e i hi]; exact h i hi, fun h i hi => by rw [e i hi]; exact h i hi⟩
/-- What the walks ask of the reference's arena. -/
structure Fit (m : List On) : Prop where
  al : ∀ i (h : i < m.length), m[i].al.length ≤ 1024
  tx : ∀ i (h : i < m.length), ∀ s ∈ txtA m[i].al, s.size ≤ 1048576
  data : ∀ i (h : i < m.length), m[i].data.size ≤ 1048576
  ks : ∀ i (h : i < m.length), ∀ c ∈ m[i].ks, c < m.length
  kl : ∀ i (h : i < m.length), m[i].ks.length ≤ 1000000
theorem rone61 (B p g cap : Nat) (m : List On) (hF : Fit m) : ∀ (f : Nat), f ≤ 300 → ∀ (id : Nat) (block : Bool) (w : World), Or w B p g cap m → id < m.length →
    Calls Tryz.prog 61 #[.pointer (some ⟨p, 0, none⟩), .int .i64 id, .bool block, .int .i64 (201 - (f : Int))] w fun e w' => e = .returned (.bool (oneV (vO m) (ksO m) f id block)) ∧ Below w.heap.size w w' := by
  intro f
  induction f with
  | zero =>
    intro hf id block w hO hid
    have := one61 B p g cap m id block (201 - ((0 : Nat) : Int)) w hO hid false false (hF.al id hid) (hF.tx id hid) (hF.data id hid) (by omega) (fun h => by omega) (fun h => by omega)
    rw [bodyB_deep (by omega)] at this
    exact this
  | succ f ih =>
    intro hf id block w hO hid
    have K := fun (b : Bool) (W : World) (hW : Below w.heap.size w W) => kids33 B p g cap m id b (201 - (f : Int)) W (hO.below hW) hid (fun c => oneV (vO m) (ksO m) f c b) (hF.ks id hid) (hF.kl id hid)
      (fun c hc V hV => ih (by omega) c b V ((hO.below hW).below hV) (hF.ks id hid c hc))
    have := one61 B p g cap m id block (201 - ((f + 1 : Nat) : Int)) w hO hid (kidsO m m[id].ks fun c => oneV (vO m) (ksO m) f c false) (kidsO m m[id].ks fun c => oneV (vO m) (ksO m) f c true) (hF.al id hid) (hF.tx id hid) (hF.data id hid) (by omega)
      (fun _ W hW => by rw [show (201 - ((f + 1 : Nat) : Int) + 1) = 201 - (f : Int) by omega]; exact K false W hW)
      (fun _ W hW => by rw [show (201 - ((f + 1 : Nat) : Int) + 1) = 201 - (f : Int) by omega]; exact K true W hW)
    refine this.mono ?_
    rintro e w1 ⟨rfl, hw⟩
    refine ⟨?_, hw⟩
    rw [bodyB_depth (by omega), kidsO_eq, kidsO_eq, oneV, vO, ksO, gO_get hid]
theorem rkids33 (B p g cap : Nat) (m : List On) (hF : Fit m) (f : Nat) (hf : f ≤ 300) (id : Nat) (block : Bool) (w : World) (hO : Or w B p g cap m) (hid : id < m.length) :
    Calls Tryz.prog 33 #[.pointer (some ⟨p, 0, none⟩), .int .i64 id, .bool block, .int .i64 (201 - (f : Int))] w fun e w' => e = .returned (.bool (kidsV (vO m) (ksO m id) fun c => oneV (vO m) (ksO m) f c block)) ∧ Below w.heap.size w w' := by
  have := kids33 B p g cap m id block (201 - (f : Int)) w hO hid (fun c => oneV (vO m) (ksO m) f c block) (hF.ks id hid) (hF.kl id hid) (fun c hc V hV => rone61 B p g cap m hF f hf c block V (hO.below hV) (hF.ks id hid c hc))
  rw [kidsO_eq] at this
  rw [ksO, gO_get hid]
  exact this
end Go.Proofs.YthfdiinfeljeeaaGreatDoor
