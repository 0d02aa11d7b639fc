/- Single operations by an equation of their own: for tables of constants, and for variables that hold structs or arrays. -/
import Derived.Test.YtcmhfcnjfhcpdaaDoorKitA
import Derived.Laws.Rows
import Derived.Laws.Tables
import Derived.Laws.CopyRow
namespace Go.Proofs.YtcmhfcnjfhcpdaaDoor
open Go.RowKit

section
variable {P : Program} {ops : Array Oper} {rest : List Oper} {o : Oper} {a : Act} {w : World} {Q : Exit → Act → World → Prop}
/-- A guard for an arm of the walk: the operation that stands next is this one. -/
theorem at_op (o : Oper) (h : wpList P ops Q (o :: rest) a w) : wpList P ops Q (o :: rest) a w := h
/-- An operation whose run is known gives its value. -/
theorem step_value (hg : o.guard = none) (v : Value) (w' : World) (h : (execOp a.eval o).run P w = .ok (.value v) w') (hn : wpList P ops Q rest (a.put o.dst v) w') : wpList P ops Q (o :: rest) a w :=
  wpList_plain hg fun K hK => by
    unfold Oper.wp
    rw [h]
    exact hK _ _ hn
theorem step_skip (hg : o.guard = none) (w' : World) (h : (execOp a.eval o).run P w = .ok .skip w') (hn : wpList P ops Q rest (a.put o.dst undef) w') : wpList P ops Q (o :: rest) a w :=
  wpList_plain hg fun K hK => by
    unfold Oper.wp
    rw [h]
    exact hK _ _ hn
theorem step_build (hg : o.guard = none) (t : TypeId) (parts : Array (Nat × Operand)) (ho : o.op = .build t parts) (cells : Array Value) (hb : P.built t (parts.map fun (i, x) => (i, a.eval x)).toList = some cells)
    (hn : wpList P ops Q rest (a.put o.dst (.agg cells)) w) : wpList P ops Q (o :: rest) a w :=
  step_value hg _ w (by unfold execOp; simp only [ho, Sem.run_bind, run_build w t _ cells hb, Result.andThen_ok, Sem.run_pure]) hn
theorem step_alloc (hg : o.guard = none) (t : TypeId) (ho : o.op = .alloc t) (z : Array Value) (hz : ((P.info? t).bind (·.zero)).map (·.cells) = some z)
    (hn : wpList P ops Q rest (a.put o.dst (.pointer (some ⟨w.heap.size, 0, none⟩))) (w.alloc (.cells z t))) : wpList P ops Q (o :: rest) a w :=
  step_value hg _ _ (by
    obtain ⟨v, hv, rfl⟩ := Option.map_eq_some_iff.1 hz
    obtain ⟨i, hi, hz⟩ := Option.bind_eq_some_iff.1 hv
    unfold execOp
    simp [ho, Instr.alloc, zeroValue, typeInfo, hi, hz, newVar, newRow]) hn

theorem setRow_alloc (w : World) (z vs : Array Value) (e : TypeId) (fr : Nat × Nat) : (w.alloc (.cells z e fr)).setRow w.heap.size vs = w.alloc (.cells vs e fr) := by
  unfold World.setRow
  show ({ w with heap := (w.heap.push _).modify _ _ } : World) = { w with heap := w.heap.push _ }
  congr 1
  apply Array.ext
  · simp
  · intro i h1 h2
    simp only [Array.getElem_modify, Array.getElem_push]
    simp at h1
    by_cases hi : i < w.heap.size
    · rw [if_neg (by omega)]; simp [hi]
    · rw [if_pos (by omega)]; simp [hi]
theorem run_storeAt_row (g : Nat) (t e : TypeId) (cur vs : Array Value) (w : World) (hg : w.heap[g]? = some (.cells cur e (0, 0))) (hi : (P.info? t).map (·.size) = some vs.size) (hc : cur.size = vs.size) (h1 : ∀ v ∈ vs.toList, v.oneCell' = true) :
    (Instr.storeAt t (.pointer (some ⟨g, 0, none⟩)) (.agg vs)).run P w = .ok () (w.setRow g vs) := by
  obtain ⟨i, hi, hs⟩ := Option.map_eq_some_iff.1 hi
  have h := run_storeCells_at (P := P) g 0 e vs.toList 0 cur w hg (by simp [hc]) h1
  simp only [Nat.zero_add, Nat.add_zero, List.take_zero, List.nil_append] at h
  rw [List.drop_of_length_le (by simp [hc])] at h
  simp [Instr.storeAt, Instr.sureAddr, storeVar, sizeOf, typeInfo, hi, hs, Value.cells]
  simpa using h
/-- A variable of the call's own, just laid, is written whole. -/
theorem step_store_new (hg : o.guard = none) (t : TypeId) (x y : Operand) (ho : o.op = .store t x y) (z vs : Array Value) (hx : a.eval x = .pointer (some ⟨w.heap.size, 0, none⟩)) (hy : a.eval y = .agg vs)
    (hi : (P.info? t).map (·.size) = some vs.size) (hc : z.size = vs.size) (h1 : ∀ v ∈ vs.toList, v.oneCell' = true)
    (hn : wpList P ops Q rest (a.put o.dst undef) (w.alloc (.cells vs t))) : wpList P ops Q (o :: rest) a (w.alloc (.cells z t)) :=
  step_skip hg _ (by
    unfold execOp
    simp only [ho, hx, hy, Sem.run_bind, run_storeAt_row w.heap.size t t z vs (w.alloc (.cells z t)) (heap_alloc_new _ _) hi hc h1, Result.andThen_ok, Sem.run_pure, setRow_alloc]) hn
end
theorem set_blk {w : World} {b i : Nat} {cs : Array Value} {t : TypeId} (h : w.heap[b]? = some (.cells cs t (0, 0))) (v : Value) : (w.setCell ⟨b, i, none⟩ v).heap[b]? = some (.cells (cs.setIfInBounds i v) t (0, 0)) :=
  heap_setCell_same w b i cs t v h
theorem set_blk_ne {w : World} {b i k : Nat} {x : Obj} (h : w.heap[k]? = some x) (hk : k ≠ b) (v : Value) : (w.setCell ⟨b, i, none⟩ v).heap[k]? = some x :=
  (heap_setCell_other w ⟨b, i, none⟩ k v hk).trans h
theorem blk_free {w : World} {b : Nat} {cs : Array Value} {t : TypeId} (h : w.heap[b]? = some (.cells cs t (0, 0))) : ∀ j, w.frozen? ⟨b, j, none⟩ = false := fun j => frozen_of_row w b j cs t h
end Go.Proofs.YtcmhfcnjfhcpdaaDoor
