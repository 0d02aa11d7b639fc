/- The walk of the law that each byte of an encoding of single bytes is one code point. Printed by gen11.py. -/
import Derived.Test.YtmfifaigphnbmaaD10
import Derived.Deep.QuietTactic
namespace Go.Proofs.Ytmfifaigphnbmaa
open Go.RowKit
theorem bytes_all (p : UInt8 → Bool) (h : (List.range 256).all (fun n => p (UInt8.ofNat n)) = true) (c : UInt8) : p c = true := by
  have := List.all_eq_true.1 h c.toNat (by simp [List.mem_range]; exact c.toNat_lt)
  simpa using this
/-- Where a code point stands in a list. -/
def place (l : List Int) (x : Int) : Nat := l.findIdx (· == x)
theorem upW_inj (a b : UInt8) : one upW (a.toNat : Int) = one upW (b.toNat : Int) ↔ a = b := by
  constructor
  · intro h
    have hp := bytes_all (fun c => place ((List.range 256).map fun n : Nat => one upW (n : Int)) (one upW (c.toNat : Int)) == c.toNat) (by decide +kernel)
    have ha := hp a
    have hb := hp b
    simp only [beq_iff_eq] at ha hb
    rw [h, hb] at ha
    exact (UInt8.toNat_inj.1 ha).symm
  · rintro rfl
    rfl
theorem upL_inj (a b : UInt8) : one upL (a.toNat : Int) = one upL (b.toNat : Int) ↔ a = b := by
  constructor
  · intro h
    have hp := bytes_all (fun c => place ((List.range 256).map fun n : Nat => one upL (n : Int)) (one upL (c.toNat : Int)) == c.toNat) (by decide +kernel)
    have ha := hp a
    have hb := hp b
    simp only [beq_iff_eq] at ha hb
    rw [h, hb] at ha
    exact (UInt8.toNat_inj.1 ha).symm
  · rintro rfl
    rfl
theorem upC_inj (a b : UInt8) : one upC (a.toNat : Int) = one upC (b.toNat : Int) ↔ a = b := by
  constructor
  · intro h
    have hp := bytes_all (fun c => place ((List.range 256).map fun n : Nat => one upC (n : Int)) (one upC (c.toNat : Int)) == c.toNat) (by decide +kernel)
    have ha := hp a
    have hb := hp b
    simp only [beq_iff_eq] at ha hb
    rw [h, hb] at ha
    exact (UInt8.toNat_inj.1 ha).symm
  · rintro rfl
    rfl
theorem upU_inj (a b : UInt8) : one upU (a.toNat : Int) = one upU (b.toNat : Int) ↔ a = b := by
  constructor
  · intro h
    have hp := bytes_all (fun c => place ((List.range 256).map fun n : Nat => one upU (n : Int)) (one upU (c.toNat : Int)) == c.toNat) (by decide +kernel)
    have ha := hp a
    have hb := hp b
    simp only [beq_iff_eq] at ha hb
    rw [h, hb] at ha
    exact (UInt8.toNat_inj.1 ha).symm
  · rintro rfl
    rfl
theorem own_two {w : World} {base : Nat} {v : Value} {X Y : Int} (h : w.ownsRow base 21 1 v [X, Y].length ([X, Y].map (Value.int .i32))) : ∃ g c, v = .slice (some ⟨g, 0, none⟩) 2 c ∧ w.cell? ⟨g, 0, none⟩ = some (.int .i32 X) ∧ w.cell? ⟨g, 1, none⟩ = some (.int .i32 Y) := by
  obtain ⟨g, c, rfl⟩ := ownsRow_succ h
  obtain ⟨_, hr⟩ := own_read h
  obtain ⟨a0, h0, c0⟩ := hr 0 (.int .i32 X) rfl
  obtain ⟨a1, h1, c1⟩ := hr 1 (.int .i32 Y) rfl
  cases h0
  cases h1
  exact ⟨g, c, rfl, c0, c1⟩
set_option maxRecDepth 100000 in
set_option maxHeartbeats 2000000 in
theorem singles6_any (e a b : UInt8) (X Y : Int) (w : World) (hA : (128 : Int) ≤ (a.toNat : Int) ∨ X = (a.toNat : Int)) (hE : (X == Y) = ((a.toNat : Int) == (b.toNat : Int)))
    (F : ∀ (W : World) (oa : Option Addr), RdB W oa [a, b] → Calls Try.prog 13 #[.int .i64 (3 + (e.toNat : Int) % 4), .slice oa 2 2] W fun e' w' => ∃ v, e' = .returned (.tuple #[v, .int .i64 0]) ∧ w'.ownsRow W.heap.size 21 1 v [X, Y].length ([X, Y].map (Value.int .i32)) ∧ Below W.heap.size W w') :
    Calls Try.prog 6 #[.int .u8 e.toNat, .int .u8 a.toNat, .int .u8 b.toNat] w fun e w' => e = .returned (.bool true) ∧ Below w.heap.size w w' := by
  have ha := a.toNat_lt
  have he := e.toNat_lt
  have hR : RdB (w.alloc (.cells #[.int .u8 a.toNat, .int .u8 b.toNat] 5)) (some ⟨w.heap.size, 0, none⟩) [a, b] := fun j hj => by
    refine ⟨_, rfl, ?_⟩
    match j, hj with
    | 0, _ => exact blk_cells (at_new w (.cells #[.int .u8 a.toNat, .int .u8 b.toNat] 5) _ rfl) 0
    | 1, _ => exact blk_cells (at_new w (.cells #[.int .u8 a.toNat, .int .u8 b.toNat] 5) _ rfl) 1
  by_cases h128 : (128 : Int) ≤ (a.toNat : Int)
  · clear hA
    go_enter Try.func6, Try.ntmps6
    go_wp2_with (go_at_call 13; (with_reducible refine (F _ _ hR).mono ?_); rintro e w1 ⟨v1, rfl, ho1, hb1⟩; obtain ⟨g, c, rfl, c0, c1⟩ := own_two ho1)
    go_quiet (fail)
    go_wp2
    go_ret
    exact ⟨rfl, bdr (btr (bal (Below.refl _ _) _) hb1) _⟩
  · have hXA : (X == (a.toNat : Int)) = true := by rw [beq_iff_eq]; omega
    have hwr : IntKind.i32.wrap (a.toNat : Int) = (a.toNat : Int) := by simp [IntKind.wrap, IntKind.bits, IntKind.signed]; omega
    have h127 : ((128 : Int) ≤ (a.toNat : Int)) = False := eq_false h128
    clear hA h128
    go_enter Try.func6, Try.ntmps6
    go_wp2_with (go_at_call 13; (with_reducible refine (F _ _ hR).mono ?_); rintro e w1 ⟨v1, rfl, ho1, hb1⟩; obtain ⟨g, c, rfl, c0, c1⟩ := own_two ho1)
    go_quiet (fail)
    go_wp2
    go_ret
    exact ⟨rfl, bdr (btr (bal (Below.refl _ _) _) hb1) _⟩
theorem singles6 (e a b : UInt8) (w : World) : Calls Try.prog 6 #[.int .u8 e.toNat, .int .u8 a.toNat, .int .u8 b.toNat] w fun e w' => e = .returned (.bool true) ∧ Below w.heap.size w w' := by
  have hA : ∀ up : Int → Int, (128 : Int) ≤ (a.toNat : Int) ∨ one up (a.toNat : Int) = (a.toNat : Int) := fun up => by
    unfold one
    split
    · exact .inr rfl
    · exact .inl (by omega)
  have hE : ∀ up : Int → Int, (one up (a.toNat : Int) = one up (b.toNat : Int) ↔ a = b) → (one up (a.toNat : Int) == one up (b.toNat : Int)) = ((a.toNat : Int) == (b.toNat : Int)) := fun up h => by
    rw [Bool.eq_iff_iff, beq_iff_eq, beq_iff_eq, h, ← UInt8.toNat_inj]
    omega
  rcases (show (e.toNat : Int) % 4 = 0 ∨ (e.toNat : Int) % 4 = 1 ∨ (e.toNat : Int) % 4 = 2 ∨ (e.toNat : Int) % 4 = 3 by omega) with he | he | he | he
  · exact singles6_any e a b _ _ w (hA upW) (hE upW (upW_inj a b)) (by rw [he]; exact fun W oa hR => text13_3 oa 2 2 [a, b] W rfl hR (by simp))
  · exact singles6_any e a b _ _ w (hA upL) (hE upL (upL_inj a b)) (by rw [he]; exact fun W oa hR => text13_4 oa 2 2 [a, b] W rfl hR (by simp))
  · exact singles6_any e a b _ _ w (hA upC) (hE upC (upC_inj a b)) (by rw [he]; exact fun W oa hR => text13_5 oa 2 2 [a, b] W rfl hR (by simp))
  · exact singles6_any e a b _ _ w (hA upU) (hE upU (upU_inj a b)) (by rw [he]; exact fun W oa hR => text13_6 oa 2 2 [a, b] W rfl hR (by simp))

end Go.Proofs.Ytmfifaigphnbmaa
