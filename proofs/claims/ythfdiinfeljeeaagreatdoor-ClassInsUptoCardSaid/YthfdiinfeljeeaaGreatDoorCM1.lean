/- Texts of one seat, merged: lemmas and contracts that the law leans on. -/
import Derived.WalkKit
import Derived.WalkSpells
import Derived.WalkLawsBesides
import Derived.Lib.ConvBytes
import Derived.Laws.BytesArg
import Derived.Lib.Hide
import Derived.Outline
import Derived.Laws.Rows
import Derived.Laws.Tables
import Derived.Laws.CopyRow
import Derived.OwnWalk
import Derived.Deep.AppendLies
import Derived.Deep.Draws
import Derived.Below
import Derived.Laws.OwnMore
import Derived.Test.YthfdiinfeljeeaaGreatDoorProg
import Derived.BigCall
import Derived.Laws.MakeOwn
import Derived.Deep.RegionHeld3
import Derived.RegionTactic
import Derived.RegionCalls
import Derived.Deep.RegionLaw
import Derived.LoopTactic
import Derived.Lib.Strings
import Derived.RangeFuncFrom
import Derived.RangeFuncNested
import Derived.RangeFuncBound
import Derived.RangeFuncCalls
import Derived.RangeFuncLeaves
import Derived.RangeFuncBox
import Derived.Shelf.Abstract
import Derived.Shelf.RegionOpen
import Derived.OwnWalkIn
import Derived.TacticsInMore
import Derived.LoopNIn
import Derived.LoopIn
import Derived.Maps.AppendAt
/- Words and lemmas on bytes in memory that this seat's walks use: a row of bytes that the call itself made, read, written and turned back into a string. -/
namespace Go.Proofs.YthfdiinfeljeeaaGreatDoor
open Go.RowKit

/-- A string of bytes. -/
def mkS (l : List UInt8) : ByteArray := ⟨l.toArray⟩
theorem mkS_data (l : List UInt8) : (mkS l).data.toList = l := rfl
theorem mkS_self (s : ByteArray) : mkS s.data.toList = s := rfl
theorem mkS_size (l : List UInt8) : (mkS l).size = l.length := rfl
theorem mkS_inj {a b : List UInt8} (h : mkS a = mkS b) : a = b := by
  have := congrArg (fun s => s.data.toList) h
  simpa [mkS] using this
theorem dlen (s : ByteArray) : s.data.toList.length = s.size := by rw [Array.length_toList]; rfl

theorem cell_alloc {w : World} {a : Addr} {v : Value} (h : w.cell? a = some v) (o : Obj) : (w.alloc o).cell? a = some v := by
  rw [World.cell?_alloc_lt _ _ _ (World.block_lt_of_cell? w a h)]; exact h
/-- A cell that was there is there. -/
theorem bcl {w w1 : World} (hb : Below w.heap.size w w1) {a : Addr} {v : Value} (hc : w.cell? a = some v) : w1.cell? a = some v := (hb.cell (World.block_lt_of_cell? w a hc)).trans hc
theorem btr {w w1 w2 : World} (h : Below w.heap.size w w1) (k : Below w1.heap.size w1 w2) : Below w.heap.size w w2 := h.trans (k.mono h.size)
theorem bal {w w1 : World} (h : Below w.heap.size w w1) (o : Obj) : Below w.heap.size w (w1.alloc o) := h.alloc h.size o
theorem ret_bool {a b : Bool} (h : a = b) : Ending.returned (.bool a) = .returned (.bool b) := by rw [h]
theorem ret_int {k : IntKind} {a b : Int} (h : a = b) : Ending.returned (.int k a) = .returned (.int k b) := by rw [h]
theorem ret_str {a b : ByteArray} (h : a = b) : Ending.returned (.string a) = .returned (.string b) := by rw [h]

theorem at_new (w : World) (o : Obj) (n : Nat) (hn : n = w.heap.size) : (w.alloc o).heap[n]? = some o := by
  subst hn
  show (w.heap.push o)[w.heap.size]? = some o
  simp
theorem at_old {w : World} {n : Nat} {x : Obj} (h : w.heap[n]? = some x) (o : Obj) : (w.alloc o).heap[n]? = some x := by
  have hl := (Array.getElem?_eq_some_iff.1 h).1
  show (w.heap.push o)[n]? = some x
  rw [Array.getElem?_push, if_neg (by omega)]
  exact h
theorem bblk {w w1 : World} (hb : Below w.heap.size w w1) {n : Nat} {x : Obj} (h : w.heap[n]? = some x) : w1.heap[n]? = some x :=
  (hb.block n (Array.getElem?_eq_some_iff.1 h).1).trans h
theorem blk_lt {w : World} {n : Nat} {x : Obj} (h : w.heap[n]? = some x) : n < w.heap.size := (Array.getElem?_eq_some_iff.1 h).1
/-- All cells of a block, as one rule. -/
theorem blk_cells {w : World} {b : Nat} {vs : Array Value} {e : TypeId} {fr : Nat × Nat} (h : w.heap[b]? = some (.cells vs e fr)) : ∀ j, w.cell? ⟨b, j, none⟩ = vs[j]? := by
  intro j
  simp [World.cell?, h]
theorem cast_beq (a b : Nat) : ((a : Int) == (b : Int)) = decide (a = b) := by
  rw [Bool.eq_iff_iff, beq_iff_eq, decide_eq_true_iff]; omega

/-- Bytes as cells. -/
def u8s (l : List UInt8) : List Value := l.map fun b => Value.int .u8 b.toNat
theorem u8s_length (l : List UInt8) : (u8s l).length = l.length := by simp [u8s]

/-- Block g is a row of bytes (of element type e), z behind them. -/
structure BRow (w : World) (g e : Nat) (l : List UInt8) (z : List Value) (fr : Nat × Nat) : Prop where
  blk : w.heap[g]? = some (.cells (u8s l ++ z).toArray e fr)
  fr : fr = (0, 0) ∨ l.length ≤ fr.1

theorem BRow.lt {w : World} {g e : Nat} {l : List UInt8} {z : List Value} {fr : Nat × Nat} (h : BRow w g e l z fr) : g < w.heap.size := (Array.getElem?_eq_some_iff.1 h.blk).1
theorem BRow.cell {w : World} {g e : Nat} {l : List UInt8} {z : List Value} {fr : Nat × Nat} (h : BRow w g e l z fr) {k : Nat} (hk : k < l.length) :
    w.cell? ⟨g, k, none⟩ = some (.int .u8 (l[k]).toNat) := by
  simp [World.cell?, h.blk, u8s, List.getElem?_append, hk]
theorem BRow.frozen {w : World} {g e : Nat} {l : List UInt8} {z : List Value} {fr : Nat × Nat} (h : BRow w g e l z fr) {k : Nat} (hk : k < l.length) :
    w.frozen? ⟨g, k, none⟩ = false := by
  have := h.fr
  obtain ⟨lo, hi⟩ := fr
  simp [World.frozen?, h.blk]
  simp at this
  intro; omega
theorem BRow.set {w : World} {g e : Nat} {l : List UInt8} {z : List Value} {fr : Nat × Nat} (h : BRow w g e l z fr) {k : Nat} (hk : k < l.length) (b : UInt8) {n : Int} (hn : n = b.toNat) :
    BRow (w.setCell ⟨g, k, none⟩ (.int .u8 n)) g e (l.set k b) z fr := by
  subst hn
  refine ⟨?_, by simpa using h.fr⟩
  have hb := h.blk
  simp only [World.setCell, Array.getElem?_modify, if_true, hb, Option.map_some]
  simp [u8s, List.setIfInBounds_toArray, hk, List.map_set]
theorem BRow.keep {w w' : World} {g e : Nat} {l : List UInt8} {z : List Value} {fr : Nat × Nat} (h : BRow w g e l z fr) (hb : w'.heap[g]? = w.heap[g]?) : BRow w' g e l z fr :=
  ⟨hb.trans h.blk, h.fr⟩
theorem BRow.below {w w' : World} {g e : Nat} {l : List UInt8} {z : List Value} {fr : Nat × Nat} (h : BRow w g e l z fr) (hb : Below w.heap.size w w') : BRow w' g e l z fr :=
  h.keep (hb.block g h.lt)

theorem BRow.conv (w : World) (e : Nat) (s : ByteArray) : BRow (Go.Lib.bytesWorld w e s) w.heap.size e s.data.toList (List.replicate (grownCap w s.size 0 e - s.size) (.int .u8 0)) ((Go.Lib.bytesCells w e s).size, (Go.Lib.bytesCells w e s).size + 1) := by
  refine ⟨?_, .inr ?_⟩
  · rw [Go.Lib.bytesWorld_at_new]
    congr 2
    apply Array.ext'
    simp [Go.Lib.bytesCells, u8s]
  · simp [Go.Lib.bytesCells]
theorem conv_below (w : World) (e : Nat) (s : ByteArray) : Below w.heap.size w (Go.Lib.bytesWorld w e s) :=
  ⟨rfl, rfl, rfl, by rw [Go.Lib.bytesWorld_size]; omega, fun i hi => Go.Lib.bytesWorld_at_old w e s i hi⟩
theorem strOfNums_u8 (l : List UInt8) : strOfNums (l.map fun b => (b.toNat : Int)) = mkS l := by
  simp only [strOfNums, mkS, List.map_map]
  congr 2
  conv => rhs; rw [← List.map_id l]
  apply List.map_congr_left
  intro a _
  simp
theorem BRow.back {P : Program} {w : World} {g e : Nat} {l : List UInt8} {z : List Value} {fr : Nat × Nat} (h : BRow w g e l z fr) (src e' cap n : Nat) (hn : n = l.length)
    (hs : P.underlying src = some (.slice e')) (he : P.underlying e' = some (.int .u8)) (dst : Nat) (hd : P.underlying dst = some .string) :
    (convert src dst (.slice (some ⟨g, 0, none⟩) n cap)).run P w = .ok (.string (mkS l)) w := by
  subst hn
  rw [← strOfNums_u8]
  refine run_convert_bytes_arg w src e' hs he g 0 l.length cap (l.map fun b => (b.toNat : Int)) (by simp) (fun i hi => ?_) dst hd
  rw [Nat.zero_add, h.cell hi]
  simp [List.getD_eq_getElem?_getD, hi]

/-- The first k bytes turned by f, the others as they were. -/
def mapTo (f : UInt8 → UInt8) (l : List UInt8) (k : Nat) : List UInt8 := (l.take k).map f ++ l.drop k
theorem mapTo_length (f : UInt8 → UInt8) (l : List UInt8) (k : Nat) : (mapTo f l k).length = l.length := by simp [mapTo]; omega
theorem mapTo_zero (f : UInt8 → UInt8) (l : List UInt8) : mapTo f l 0 = l := rfl
theorem mapTo_full (f : UInt8 → UInt8) (l : List UInt8) (k : Nat) (h : l.length ≤ k) : mapTo f l k = l.map f := by simp [mapTo, List.take_of_length_le h, List.drop_of_length_le h]
theorem mapTo_get (f : UInt8 → UInt8) (l : List UInt8) (k : Nat) (h : k < l.length) : (mapTo f l k)[k]'(by rw [mapTo_length]; exact h) = l[k] := by
  simp [mapTo, Nat.min_eq_left (Nat.le_of_lt h)]
theorem mapTo_set (f : UInt8 → UInt8) (l : List UInt8) (k : Nat) (h : k < l.length) : (mapTo f l k).set k (f l[k]) = mapTo f l (k + 1) := by
  simp only [mapTo]
  rw [List.set_append_right _ _ (by simp; omega), List.take_succ_eq_append_getElem h, List.drop_eq_getElem_cons h]
  simp only [List.length_map, List.length_take, Nat.min_eq_left (Nat.le_of_lt h), Nat.sub_self, List.set_cons_zero, List.map_append, List.map_cons, List.map_nil, List.append_assoc, List.cons_append, List.nil_append]
theorem mapTo_same (f : UInt8 → UInt8) (l : List UInt8) (k : Nat) (h : k < l.length) (hf : f l[k] = l[k]) : mapTo f l k = mapTo f l (k + 1) := by
  simp only [mapTo, List.take_succ_eq_append_getElem h, List.drop_eq_getElem_cons h, List.map_append, List.map_cons, List.map_nil, List.append_assoc, List.cons_append, List.nil_append, hf]

/-- a to z for A to Z. -/
def lowB (c : UInt8) : UInt8 := if 65 ≤ c ∧ c ≤ 90 then c + 32 else c
/-- A to Z for a to z. -/
def larB (c : UInt8) : UInt8 := if 97 ≤ c ∧ c ≤ 122 then c - 32 else c
theorem lowB_yes {c : UInt8} (h1 : (65 : Int) ≤ c.toNat) (h2 : (c.toNat : Int) ≤ 90) : ((c.toNat : Int) + 32) = (lowB c).toNat := by
  have h : 65 ≤ c ∧ c ≤ 90 := by simp [UInt8.le_iff_toNat_le]; omega
  rw [lowB, if_pos h, UInt8.toNat_add]
  simp; omega
theorem lowB_no {c : UInt8} (h : ¬ ((65 : Int) ≤ c.toNat ∧ (c.toNat : Int) ≤ 90)) : lowB c = c := by
  rw [lowB, if_neg]
  simp [UInt8.le_iff_toNat_le]
  intro h1
  omega
theorem larB_yes {c : UInt8} (h1 : (97 : Int) ≤ c.toNat) (h2 : (c.toNat : Int) ≤ 122) : ((c.toNat : Int) - 32) = (larB c).toNat := by
  have h : 97 ≤ c ∧ c ≤ 122 := by simp [UInt8.le_iff_toNat_le]; omega
  rw [larB, if_pos h, UInt8.toNat_sub]
  simp; omega
theorem larB_no {c : UInt8} (h : ¬ ((97 : Int) ≤ c.toNat ∧ (c.toNat : Int) ≤ 122)) : larB c = c := by
  rw [larB, if_neg]
  simp [UInt8.le_iff_toNat_le]
  intro h1
  omega
theorem lowB_cases (p : UInt8 → Bool) (h : (List.range 256).all (fun n => p (UInt8.ofNat n)) = true) (c : UInt8) : p c = true := by
  have := List.all_eq_true.1 h c.toNat (by simp [List.mem_range]; exact c.toNat_lt)
  simpa using this
/-- A round of a loop that turns bytes in place: a byte is written, or left. -/
theorem BRow.turn {f : UInt8 → UInt8} {w : World} {g e : Nat} {l : List UInt8} {z : List Value} {fr : Nat × Nat} {k : Nat} (h : BRow w g e (mapTo f l k) z fr) (hk : k < l.length) {n : Int} (hn : n = (f l[k]).toNat) :
    BRow (w.setCell ⟨g, k, none⟩ (.int .u8 n)) g e (mapTo f l (k + 1)) z fr := by
  have := h.set (k := k) (by rw [mapTo_length]; exact hk) (f l[k]) hn
  rwa [mapTo_set f l k hk] at this
theorem BRow.leave {f : UInt8 → UInt8} {w : World} {g e : Nat} {l : List UInt8} {z : List Value} {fr : Nat × Nat} {k : Nat} (h : BRow w g e (mapTo f l k) z fr) (hk : k < l.length) (hf : f l[k] = l[k]) :
    BRow w g e (mapTo f l (k + 1)) z fr := by rwa [mapTo_same f l k hk hf] at h
theorem lowB_lowB (c : UInt8) : lowB (lowB c) = lowB c := by
  have := lowB_cases (fun c => lowB (lowB c) == lowB c) (by decide +kernel) c
  simpa using this
theorem lowB_larB (c : UInt8) : lowB (larB c) = lowB c := by
  have := lowB_cases (fun c => lowB (larB c) == lowB c) (by decide +kernel) c
  simpa using this
def low (l : List UInt8) : List UInt8 := l.map lowB
def lar (l : List UInt8) : List UInt8 := l.map larB
theorem low_low (l : List UInt8) : low (low l) = low l := by simp [low, lowB_lowB]
theorem low_lar (l : List UInt8) : low (lar l) = low l := by simp [low, lar, lowB_larB]
theorem low_length (l : List UInt8) : (low l).length = l.length := by simp [low]
theorem lar_length (l : List UInt8) : (lar l).length = l.length := by simp [lar]

end Go.Proofs.YthfdiinfeljeeaaGreatDoor
/- Single operations by an equation of their own: for tables of constants, and for variables that hold structs or arrays. -/
namespace Go.Proofs.YthfdiinfeljeeaaGreatDoor
open Go.RowKit

section
variable {P : Program} {ops : Array Oper} {rest : List Oper} {o : Oper} {a : Act} {w : World} {Q : Exit → Act → World → Prop}
/-- A guard for an arm of the walk: the operation that stands next is this one. -/
theorem at_op (o : Oper) (h : wpList P ops Q (o :: rest) a w) : wpList P ops Q (o :: rest) a w := h
/-- An operation whose run is known gives its value. -/
theorem step_value (hg : o.guard = none) (v : Value) (w' : World) (h : (execOp a.eval o).run P w = .ok (.value v) w') (hn : wpList P ops Q rest (a.put o.dst v) w') : wpList P ops Q (o :: rest) a w :=
  wpList_plain hg fun K hK => by
    unfold Oper.wp
    rw [h]
    exact hK _ _ hn
theorem step_skip (hg : o.guard = none) (w' : World) (h : (execOp a.eval o).run P w = .ok .skip w') (hn : wpList P ops Q rest (a.put o.dst undef) w') : wpList P ops Q (o :: rest) a w :=
  wpList_plain hg fun K hK => by
    unfold Oper.wp
    rw [h]
    exact hK _ _ hn
theorem step_build (hg : o.guard = none) (t : TypeId) (parts : Array (Nat × Operand)) (ho : o.op = .build t parts) (cells : Array Value) (hb : P.built t (parts.map fun (i, x) => (i, a.eval x)).toList = some cells)
    (hn : wpList P ops Q rest (a.put o.dst (.agg cells)) w) : wpList P ops Q (o :: rest) a w :=
  step_value hg _ w (by unfold execOp; simp only [ho, Sem.run_bind, run_build w t _ cells hb, Result.andThen_ok, Sem.run_pure]) hn
theorem step_alloc (hg : o.guard = none) (t : TypeId) (ho : o.op = .alloc t) (z : Array Value) (hz : ((P.info? t).bind (·.zero)).map (·.cells) = some z)
    (hn : wpList P ops Q rest (a.put o.dst (.pointer (some ⟨w.heap.size, 0, none⟩))) (w.alloc (.cells z t))) : wpList P ops Q (o :: rest) a w :=
  step_value hg _ _ (by
    obtain ⟨v, hv, rfl⟩ := Option.map_eq_some_iff.1 hz
    obtain ⟨i, hi, hz⟩ := Option.bind_eq_some_iff.1 hv
    unfold execOp
    simp [ho, Instr.alloc, zeroValue, typeInfo, hi, hz, newVar, newRow]) hn

theorem setRow_alloc (w : World) (z vs : Array Value) (e : TypeId) (fr : Nat × Nat) : (w.alloc (.cells z e fr)).setRow w.heap.size vs = w.alloc (.cells vs e fr) := by
  unfold World.setRow
  show ({ w with heap := (w.heap.push _).modify _ _ } : World) = { w with heap := w.heap.push _ }
  congr 1
  apply Array.ext
  · simp
  · intro i h1 h2
    simp only [Array.getElem_modify, Array.getElem_push]
    simp at h1
    by_cases hi : i < w.heap.size
    · rw [if_neg (by omega)]; simp [hi]
    · rw [if_pos (by omega)]; simp [hi]
theorem run_storeAt_row (g : Nat) (t e : TypeId) (cur vs : Array Value) (w : World) (hg : w.heap[g]? = some (.cells cur e (0, 0))) (hi : (P.info? t).map (·.size) = some vs.size) (hc : cur.size = vs.size) (h1 : ∀ v ∈ vs.toList, v.oneCell' = true) :
    (Instr.storeAt t (.pointer (some ⟨g, 0, none⟩)) (.agg vs)).run P w = .ok () (w.setRow g vs) := by
  obtain ⟨i, hi, hs⟩ := Option.map_eq_some_iff.1 hi
  have h := run_storeCells_at (P := P) g 0 e vs.toList 0 cur w hg (by simp [hc]) h1
  simp only [Nat.zero_add, Nat.add_zero, List.take_zero, List.nil_append] at h
  rw [List.drop_of_length_le (by simp [hc])] at h
  simp [Instr.storeAt, Instr.sureAddr, storeVar, sizeOf, typeInfo, hi, hs, Value.cells]
  simpa using h
/-- A variable of the call's own, just laid, is written whole. -/
theorem step_store_new (hg : o.guard = none) (t : TypeId) (x y : Operand) (ho : o.op = .store t x y) (z vs : Array Value) (hx : a.eval x = .pointer (some ⟨w.heap.size, 0, none⟩)) (hy : a.eval y = .agg vs)
    (hi : (P.info? t).map (·.size) = some vs.size) (hc : z.size = vs.size) (h1 : ∀ v ∈ vs.toList, v.oneCell' = true)
    (hn : wpList P ops Q rest (a.put o.dst undef) (w.alloc (.cells vs t))) : wpList P ops Q (o :: rest) a (w.alloc (.cells z t)) :=
  step_skip hg _ (by
    unfold execOp
    simp only [ho, hx, hy, Sem.run_bind, run_storeAt_row w.heap.size t t z vs (w.alloc (.cells z t)) (heap_alloc_new _ _) hi hc h1, Result.andThen_ok, Sem.run_pure, setRow_alloc]) hn
end
theorem set_blk {w : World} {b i : Nat} {cs : Array Value} {t : TypeId} (h : w.heap[b]? = some (.cells cs t (0, 0))) (v : Value) : (w.setCell ⟨b, i, none⟩ v).heap[b]? = some (.cells (cs.setIfInBounds i v) t (0, 0)) :=
  heap_setCell_same w b i cs t v h
theorem set_blk_ne {w : World} {b i k : Nat} {x : Obj} (h : w.heap[k]? = some x) (hk : k ≠ b) (v : Value) : (w.setCell ⟨b, i, none⟩ v).heap[k]? = some x :=
  (heap_setCell_other w ⟨b, i, none⟩ k v hk).trans h
theorem blk_free {w : World} {b : Nat} {cs : Array Value} {t : TypeId} (h : w.heap[b]? = some (.cells cs t (0, 0))) : ∀ j, w.frozen? ⟨b, j, none⟩ = false := fun j => frozen_of_row w b j cs t h
end Go.Proofs.YthfdiinfeljeeaaGreatDoor
/- Slices of the call's own that grow by append; slices that are read. -/
namespace Go.Proofs.YthfdiinfeljeeaaGreatDoor
open Go.RowKit

theorem own_below {w w1 : World} {base e size n : Nat} {v : Value} {xs : List Value} (h : w.ownsRow base e size v n xs) (hb : Below w.heap.size w w1) : w1.ownsRow base e size v n xs := by
  refine ⟨h.1, h.2.imp id ?_⟩
  rintro ⟨g, cap, cur, hv, hg, hh, r⟩
  exact ⟨g, cap, cur, hv, hg, bblk hb hh, r⟩
theorem own_setRow {w : World} {base e size n g : Nat} {v : Value} {xs : List Value} (h : w.ownsRow base e size v n xs) (hg : ∀ k, v.ownBlock = some k → k ≠ g) (cs : Array Value) : (w.setRow g cs).ownsRow base e size v n xs := by
  refine ⟨h.1, h.2.imp id ?_⟩
  rintro ⟨g', cap, cur, hv, hg', hh, r⟩
  exact ⟨g', cap, cur, hv, hg', by rw [setRow_other w g g' cs (hg g' (by simp [hv, Value.ownBlock]))]; exact hh, r⟩
theorem own_lt {w : World} {base e size n : Nat} {v : Value} {xs : List Value} (h : w.ownsRow base e size v n xs) (k : Nat) (hk : v.ownBlock = some k) : k < w.heap.size := by
  rcases h.2 with ⟨rfl, _⟩ | ⟨g, cap, cur, rfl, _, hh, _⟩
  · simp [Value.ownBlock] at hk
  · have : g = k := by simpa [Value.ownBlock] using hk
    subst this
    exact (Array.getElem?_eq_some_iff.1 hh).1
theorem own_base {w : World} {base e size n : Nat} {v : Value} {xs : List Value} (h : w.ownsRow base e size v n xs) (k : Nat) (hk : v.ownBlock = some k) : base ≤ k := by
  rcases h.2 with ⟨rfl, _⟩ | ⟨g, cap, cur, rfl, hb, _⟩
  · simp [Value.ownBlock] at hk
  · have : g = k := by simpa [Value.ownBlock] using hk
    omega
theorem own_slice {w : World} {base e size n : Nat} {v : Value} {xs : List Value} (h : w.ownsRow base e size v n xs) : ∃ oa cap, v = .slice oa n cap := by
  rcases h.2 with ⟨rfl, rfl⟩ | ⟨g, cap, cur, rfl, _⟩
  · exact ⟨none, 0, rfl⟩
  · exact ⟨_, cap, rfl⟩
theorem own_form {w : World} {base e size n c : Nat} {oa : Option Addr} {xs : List Value} (h : w.ownsRow base e size (.slice oa n c) n xs) (hn : 0 < n) : ∃ g, oa = some ⟨g, 0, none⟩ ∧ base ≤ g := by
  rcases h.2 with ⟨_, h0⟩ | ⟨g, cap, cur, hv, hb, _⟩
  · omega
  · simp only [Value.slice.injEq] at hv
    exact ⟨g, hv.1, hb⟩
theorem own_empty (W : World) (base e size g : Nat) (hg : g = W.heap.size) (hb : base ≤ g) : (W.alloc (.cells #[] e)).ownsRow base e size (.slice (some ⟨g, 0, none⟩) 0 0) 0 [] := by
  refine ⟨by simp, .inr ⟨g, 0, #[], rfl, hb, at_new _ _ _ hg, Nat.le_refl _, by simp [maxLen], by simp, by simp⟩⟩
theorem bdr {B : Nat} {w w1 : World} (h : Below B w w1) (n : Nat) : Below B w (w1.drewN n) := ⟨h.os, h.tape, h.output, h.size, h.block⟩
theorem own_nil (W : World) (base e size : Nat) : W.ownsRow base e size (.slice none 0 0) 0 [] := ⟨by simp, .inl ⟨rfl, rfl⟩⟩
theorem setRow_below {B : Nat} {w0 w : World} (h : Below B w0 w) {g : Nat} (hg : B ≤ g) (cs : Array Value) : Below B w0 (w.setRow g cs) :=
  h.trans ⟨rfl, rfl, rfl, by simp, fun k hk => setRow_other w g k cs (by omega)⟩
theorem own_grown {w0 w w1 : World} {B : Nat} {v : Value} (h : Below B w0 w) (hg : w.grownBy w1 v.ownBlock) (hB : B ≤ w.heap.size) (hr : ∀ k, v.ownBlock = some k → B ≤ k) : Below B w0 w1 := h.grown hg hB hr

section
variable {P : Program} {ops : Array Oper} {rest : List Oper} {o : Oper} {a : Act} {Q : Exit → Act → World → Prop}
/-- 'out = append(out, x)', out nil or a row of the call's own, x just boxed. -/
theorem step_append {w0 W : World} (hgd : o.guard = none) (base : Nat) (s x : Operand) (t e : TypeId) (z : Value) (size bytes : Nat)
    (ho : o.op = .call { callee := .builtin .append, args := #[s, x], argTypes := #[t, t] })
    (ht : P.underlying t = some (.slice e)) (hinfo : (P.info? e).map (fun i => (i.zero, i.size, i.bytes)) = some (some z, size, bytes)) (hz : z.cells.size = size) (hs0 : 0 < size) (hb0 : 0 < bytes)
    (v : Value) (n m : Nat) (xs : List Value) (cs : Array Value) (hs : a.eval s = v) (hx : a.eval x = .slice (some ⟨m, 0, none⟩) 1 1) (hm : m = W.heap.size) (hcs : cs.size = size) (h1 : ∀ u ∈ cs.toList, u.oneCell' = true)
    (HO : W.ownsRow base e size v n xs) (HB : Below base w0 W) (hbase : base ≤ W.heap.size) (hl : (n + 1) * bytes ≤ 140737488355328)
    (h : ∀ v1 w1, w1.ownsRow base e size v1 (n + 1) (xs ++ cs.toList) → Below base w0 w1 → wpList P ops Q rest (a.put o.dst v1) w1) :
    wpList P ops Q (o :: rest) a (W.alloc (.cells cs e)) := by
  subst hm
  obtain ⟨i0, hi, hzz⟩ := Option.map_eq_some_iff.1 hinfo
  simp only [Prod.mk.injEq] at hzz
  obtain ⟨hz0, hz1, hz2⟩ := hzz
  have hlen : n + 1 ≤ 140737488355328 := Nat.le_trans (Nat.le_mul_of_pos_right _ hb0) hl
  refine wpList_append_own (w := W.alloc (.cells cs e)) hgd s x t ho base e i0 z size bytes ht hi hz0 hz1 hz2 hz hs0 v n xs hs (HO.alloc _) ⟨W.heap.size, 0, none⟩ 1 1 cs.toList hx (by simp [hcs])
    (World.news_of_block (cs := cs) (t := e) (fr := (0, 0)) (heap_alloc_new W _)) h1 (by simp only [maxLen]; omega) hl (by simp; omega) ?_
  intro v1 w1 hown hg _
  exact h v1 w1 hown ((HB.alloc hbase _).grown hg (by simp; omega) (own_base HO))
/-- 'append(out, xs...)', out nil or a row of the call's own, xs a slice that is read, nil let in. -/
theorem step_append_slice {w0 W : World} (hgd : o.guard = none) (base : Nat) (s x : Operand) (t e : TypeId) (z : Value) (size bytes : Nat)
    (ho : o.op = .call { callee := .builtin .append, args := #[s, x], argTypes := #[t, t] })
    (ht : P.underlying t = some (.slice e)) (hinfo : (P.info? e).map (fun i => (i.zero, i.size, i.bytes)) = some (some z, size, bytes)) (hz : z.cells.size = size) (hs0 : 0 < size) (hb0 : 0 < bytes)
    (v : Value) (n m c : Nat) (oa : Option Addr) (xs news : List Value) (hs : a.eval s = v) (hx : a.eval x = .slice oa m c) (hnl : news.length = m * size)
    (hrd : ∀ j u, news[j]? = some u → ∃ ad, oa = some ad ∧ W.cell? (ad.add j) = some u) (h1 : ∀ u ∈ news, u.oneCell' = true)
    (HO : W.ownsRow base e size v n xs) (HB : Below base w0 W) (hbase : base ≤ W.heap.size) (hl : (n + m) * bytes ≤ 140737488355328)
    (h : ∀ v1 w1, w1.ownsRow base e size v1 (n + m) (xs ++ news) → Below base w0 w1 → wpList P ops Q rest (a.put o.dst v1) w1) :
    wpList P ops Q (o :: rest) a W := by
  obtain ⟨i0, hi, hzz⟩ := Option.map_eq_some_iff.1 hinfo
  simp only [Prod.mk.injEq] at hzz
  obtain ⟨hz0, hz1, hz2⟩ := hzz
  have hlen : n + m ≤ 140737488355328 := Nat.le_trans (Nat.le_mul_of_pos_right _ hb0) hl
  rcases oa with _ | ad
  · have hnews : news = [] := by
      cases news with
      | nil => rfl
      | cons u r => obtain ⟨ad, had, _⟩ := hrd 0 u rfl; cases had
    subst hnews
    obtain rfl : m = 0 := by
      rcases Nat.eq_zero_or_pos m with h0 | h0
      · exact h0
      · have := Nat.mul_pos h0 hs0; simp at hnl; omega
    refine step_value hgd v W ?_ (h v W (by simpa using HO) HB)
    unfold execOp
    simp only [ho, resolve, invoke, builtin, Sem.run_bind, Sem.run_pure, Result.andThen_ok, List.map_toArray, List.map_cons, List.map_nil, hs, hx]
    rcases HO.2 with ⟨rfl, hn⟩ | ⟨g, cap, cur, rfl, _, _, hnc, _⟩
    · subst hn; simp [Builtin.append_, run_underlying ht, sizeOf, typeInfo, hi, Builtin.lenOf, Builtin.firstCells]
    · simp [Builtin.append_, run_underlying ht, sizeOf, typeInfo, hi, Builtin.lenOf, Builtin.firstCells, hnc, storeCells]
  · refine wpList_append_own (w := W) hgd s x t ho base e i0 z size bytes ht hi hz0 hz1 hz2 hz hs0 v n xs hs HO ad m c news hx hnl
      (fun j u hu => by obtain ⟨ad', h', hc⟩ := hrd j u hu; injection h' with h'; subst h'; exact hc) h1 (by simp only [maxLen]; omega) hl hbase ?_
    intro v1 w1 hown hg _
    exact h v1 w1 hown (HB.grown hg hbase (own_base HO))
/-- A struct or array variable, known whole, is written whole. -/
theorem step_store_row {W : World} (hgd : o.guard = none) (t : TypeId) (x y : Operand) (ho : o.op = .store t x y) (g e : Nat) (cur vs : Array Value) (hx : a.eval x = .pointer (some ⟨g, 0, none⟩)) (hy : a.eval y = .agg vs)
    (hg : W.heap[g]? = some (.cells cur e (0, 0))) (hi : (P.info? t).map (·.size) = some vs.size) (hc : cur.size = vs.size) (h1 : ∀ v ∈ vs.toList, v.oneCell' = true)
    (hn : wpList P ops Q rest (a.put o.dst undef) (W.setRow g vs)) : wpList P ops Q (o :: rest) a W :=
  step_skip hgd _ (by
    unfold execOp
    simp only [ho, hx, hy, Sem.run_bind, run_storeAt_row g t e cur vs W hg hi hc h1, Result.andThen_ok, Sem.run_pure]) hn
end
end Go.Proofs.YthfdiinfeljeeaaGreatDoor
/- An arena in memory: its nodes as records; what a call may turn. -/
namespace Go.Proofs.YthfdiinfeljeeaaGreatDoor
open Go.RowKit
structure A4 where
  sp : Int
  pre : ByteArray
  nm : ByteArray
  va : ByteArray
deriving DecidableEq
abbrev A4.c (x : A4) : Array Value := #[.int .i64 x.sp, .string x.pre, .string x.nm, .string x.va]
def cellsA (L : List A4) : List Value := L.flatMap fun x => x.c.toList
theorem cellsA_length (L : List A4) : (cellsA L).length = L.length * 4 := by
  induction L with
  | nil => rfl
  | cons x L ih => simp only [cellsA, List.flatMap_cons, List.length_append, List.length_cons] at ih ⊢; rw [ih]; simp; omega
/-- A node as it lies in memory. -/
structure Nd where
  kind : Int
  space : Int
  name : ByteArray
  al : List A4
  aa : Option Addr
  ac : Nat
  data : ByteArray
  sys : ByteArray
  up : Int
  fst : Int
  lst : Int
  prv : Int
  nxt : Int
  inn : Int
  host : Int
def Nd.arr (n : Nd) : Array Value := #[.int .i64 n.kind, .int .i64 n.space, .string n.name, .slice n.aa n.al.length n.ac, .string n.data, .string n.sys, .int .i64 n.up, .int .i64 n.fst, .int .i64 n.lst, .int .i64 n.prv, .int .i64 n.nxt, .int .i64 n.inn, .int .i64 n.host]
def Nd.cells (n : Nd) : List Value := n.arr.toList
theorem Nd.len (n : Nd) : n.cells.length = 13 := rfl
def flat (l : List Nd) : List Value := l.flatMap Nd.cells
theorem flat_len (l : List Nd) : (flat l).length = l.length * 13 := by
  induction l with
  | nil => rfl
  | cons x l ih => simp only [flat, List.flatMap_cons, List.length_append, List.length_cons, Nd.len] at ih ⊢; omega
theorem flat_snoc (l : List Nd) (n : Nd) : flat (l ++ [n]) = flat l ++ n.cells := by simp [flat]
theorem flat_get : ∀ (l : List Nd) (i j : Nat) (hi : i < l.length), j < 13 → (flat l)[i * 13 + j]? = (l[i]).cells[j]?
  | [], i, j, hi, _ => by simp at hi
  | x :: l, 0, j, _, hj => by
    rw [show flat (x :: l) = x.cells ++ flat l from rfl, List.getElem?_append_left (by rw [Nd.len]; omega)]
    simp
  | x :: l, i + 1, j, hi, hj => by
    rw [show flat (x :: l) = x.cells ++ flat l from rfl, List.getElem?_append_right (by rw [Nd.len]; omega), Nd.len, show (i + 1) * 13 + j - 13 = i * 13 + j by omega, flat_get l i j (by simpa using hi) hj]
    rfl
theorem flat_set : ∀ (l : List Nd) (i j : Nat) (v : Value) (n : Nd) (hi : i < l.length), j < 13 → n.cells = (l[i]).cells.set j v → (flat l).set (i * 13 + j) v = flat (l.set i n)
  | [], i, j, _, _, hi, _, _ => by simp at hi
  | x :: l, 0, j, v, n, _, hj, h => by
    rw [show flat (x :: l) = x.cells ++ flat l from rfl, List.set_append_left _ _ (by rw [Nd.len]; omega)]
    rw [show flat ((x :: l).set 0 n) = n.cells ++ flat l from rfl, h]
    simp
  | x :: l, i + 1, j, v, n, hi, hj, h => by
    rw [show flat (x :: l) = x.cells ++ flat l from rfl, List.set_append_right _ _ (by rw [Nd.len]; omega), Nd.len, show (i + 1) * 13 + j - 13 = i * 13 + j by omega, flat_set l i j v n (by simpa using hi) hj h]
    rfl
/-- What a call may turn: no block below B, none but of some types, and what is new. -/
structure Fr (B : Nat) (T : List Nat) (w w' : World) : Prop where
  os : w'.os = w.os
  tape : w'.tape = w.tape
  output : w'.output = w.output
  size : w.heap.size ≤ w'.heap.size
  low : ∀ k, k < B → w'.heap[k]? = w.heap[k]?
  keep : ∀ k, k < w.heap.size → (∀ cs t fr, w.heap[k]? = some (.cells cs t fr) → t ∉ T) → w'.heap[k]? = w.heap[k]?
section
variable {B : Nat} {T T' : List Nat} {a b c w w' : World}
theorem Fr.refl (B : Nat) (T : List Nat) (w : World) : Fr B T w w := ⟨rfl, rfl, rfl, Nat.le_refl _, fun _ _ => rfl, fun _ _ _ => rfl⟩
theorem Fr.trans (h : Fr B T a b) (k : Fr B T b c) : Fr B T a c :=
  ⟨k.os.trans h.os, k.tape.trans h.tape, k.output.trans h.output, Nat.le_trans h.size k.size, fun i hi => (k.low i hi).trans (h.low i hi), fun i hi ht => by
    have e := h.keep i hi ht
    exact (k.keep i (Nat.lt_of_lt_of_le hi h.size) (fun cs t fr he => ht cs t fr (e ▸ he))).trans e⟩
theorem Fr.mono (h : Fr B T w w') (hT : ∀ t ∈ T, t ∈ T') : Fr B T' w w' :=
  ⟨h.os, h.tape, h.output, h.size, h.low, fun i hi ht => h.keep i hi fun cs t fr he hm => ht cs t fr he (hT t hm)⟩
theorem Fr.of_below (hB : B ≤ w.heap.size) (h : Below w.heap.size w w') : Fr B T w w' :=
  ⟨h.os, h.tape, h.output, h.size, fun k hk => h.block k (by omega), fun k hk _ => h.block k hk⟩
theorem Fr.below (h : Fr B T w w') : Below B w w' := ⟨h.os, h.tape, h.output, h.size, h.low⟩
theorem Fr.drewN (h : Fr B T w w') (n : Nat) : Fr B T w (w'.drewN n) := h.trans ⟨rfl, rfl, rfl, Nat.le_refl _, fun _ _ => rfl, fun _ _ _ => rfl⟩
theorem Fr.alloc (h : Fr B T w w') (hB : B ≤ w.heap.size) (o : Obj) : Fr B T w (w'.alloc o) :=
  h.trans (Fr.of_below (Nat.le_trans hB h.size) ((Below.refl _ _).alloc (Nat.le_refl _) o))
theorem Fr.set {g i : Nat} {cs : Array Value} {t : Nat} {fr : Nat × Nat} (h : Fr B T w w') (hg : w'.heap[g]? = some (.cells cs t fr)) (ht : t ∈ T) (hB : B ≤ g) (v : Value) : Fr B T w (w'.setCell ⟨g, i, none⟩ v) :=
  h.trans ⟨rfl, rfl, rfl, by simp [World.setCell], fun k hk => Below.heap_setCell _ _ _ _ (by show k ≠ g; omega), fun k _ hk => Below.heap_setCell _ _ _ _ (by
    show k ≠ g
    rintro rfl
    exact hk _ _ _ hg ht)⟩
theorem Fr.new_set {g i : Nat} (h : Fr B T w w') (hg : w.heap.size ≤ g) (hB : B ≤ w.heap.size) (v : Value) : Fr B T w (w'.setCell ⟨g, i, none⟩ v) :=
  ⟨h.os, h.tape, h.output, by simpa [World.setCell] using h.size, fun k hk => (Below.heap_setCell _ _ _ _ (by show k ≠ g; omega)).trans (h.low k hk), fun k hk ht => (Below.heap_setCell _ _ _ _ (by show k ≠ g; omega)).trans (h.keep k hk ht)⟩
theorem Fr.grown {row : Option Nat} (h : Fr B T w w') (hg : w'.grownBy a row) (hr : ∀ g, row = some g → B ≤ g ∧ (w.heap.size ≤ g ∨ ∃ cs t fr, w'.heap[g]? = some (.cells cs t fr) ∧ t ∈ T)) (hB : B ≤ w.heap.size) : Fr B T w a := by
  refine ⟨hg.os.trans h.os, hg.tape.trans h.tape, hg.output.trans h.output, Nat.le_trans h.size hg.size, fun k hk => ?_, fun k hk ht => ?_⟩
  · refine (hg.block k (by have := h.size; omega) (fun e => ?_)).trans (h.low k hk)
    have := (hr k e.symm).1
    omega
  · refine (hg.block k (Nat.lt_of_lt_of_le hk h.size) (fun e => ?_)).trans (h.keep k hk ht)
    rcases (hr k e.symm).2 with h1 | ⟨cs, t, fr, h1, h2⟩
    · omega
    · have e2 := h.keep k hk ht
      exact ht cs t fr (e2 ▸ h1) h2
theorem Fr.blk {g : Nat} {cs : Array Value} {t : Nat} {fr : Nat × Nat} (h : Fr B T w w') (hg : w.heap[g]? = some (.cells cs t fr)) (ht : t ∉ T) : w'.heap[g]? = some (.cells cs t fr) := by
  refine (h.keep g (blk_lt hg) fun cs' t' fr' he => ?_).trans hg
  rw [hg] at he
  injection he with he
  injection he with _ e _
  exact e ▸ ht
end
/-- The attributes of a node lie in a block of their own. -/
def AtA (w : World) (n : Nd) : Prop := (n.aa = none ∧ n.al = [] ∧ n.ac = 0) ∨ ∃ b, n.aa = some ⟨b, 0, none⟩ ∧ n.ac = n.al.length ∧ w.heap[b]? = some (.cells (cellsA n.al).toArray 80 (0, 0))
/-- An arena of nodes. -/
structure Ar (w : World) (B p : Nat) (l : List Nd) : Prop where
  ex : ∃ g cap, w.heap[p]? = some (.cells #[.slice (some ⟨g, 0, none⟩) l.length cap] 78 (0, 0)) ∧ w.ownsRow B 74 13 (.slice (some ⟨g, 0, none⟩) l.length cap) l.length (flat l)
  at_ : ∀ n ∈ l, AtA w n
  pos : 0 < l.length
  base : B ≤ p
theorem own_blk {w : World} {B e size n g c : Nat} {xs : List Value} (h : w.ownsRow B e size (.slice (some ⟨g, 0, none⟩) n c) n xs) : ∃ cs, w.heap[g]? = some (.cells cs e (0, 0)) := by
  rcases h.2 with ⟨h', _⟩ | ⟨g', cap, cur, h', _, hg, _⟩
  · cases h'
  · injection h' with h1 _ _
    injection h1 with h1
    injection h1 with h1 _ _
    subst h1
    exact ⟨cur, hg⟩
theorem AtA.fr {w w' : World} {n : Nd} {B : Nat} {T : List Nat} (h : AtA w n) (hf : Fr B T w w') (hT : 80 ∉ T) : AtA w' n := by
  rcases h with h | ⟨b, h1, h2, h3⟩
  · exact .inl h
  · exact .inr ⟨b, h1, h2, hf.blk h3 hT⟩
theorem own_fr {w w' : World} {B B' e size n : Nat} {v : Value} {xs : List Value} {T : List Nat} (h : w.ownsRow B e size v n xs) (hf : Fr B' T w w') (hT : e ∉ T) : w'.ownsRow B e size v n xs := by
  refine ⟨h.1, ?_⟩
  rcases h.2 with hn | ⟨g, cap, cur, rfl, hb, hg, rest⟩
  · exact .inl hn
  · exact .inr ⟨g, cap, cur, rfl, hb, hf.blk hg hT, rest⟩
/-- An arena is kept by what turns no arena. -/
theorem Ar.fr {w w' : World} {B B' p : Nat} {l : List Nd} {T : List Nat} (h : Ar w B p l) (hf : Fr B' T w w') (h1 : 74 ∉ T) (h2 : 78 ∉ T) (h3 : 80 ∉ T) : Ar w' B p l := by
  obtain ⟨g, cap, hp, ho⟩ := h.ex
  exact ⟨⟨g, cap, hf.blk hp h2, own_fr ho hf h1⟩, fun n hn => (h.at_ n hn).fr hf h3, h.pos, h.base⟩
theorem Ar.below {w w' : World} {B p : Nat} {l : List Nd} (h : Ar w B p l) (hb : Below w.heap.size w w') : Ar w' B p l :=
  h.fr (T := []) (Fr.of_below (Nat.le_refl _) hb) (by simp) (by simp) (by simp)
end Go.Proofs.YthfdiinfeljeeaaGreatDoor
/- Small functions of an arena: is there none, is there such a node, how many; a blank node; attributes of one's own. -/
namespace Go.Proofs.YthfdiinfeljeeaaGreatDoor
open Go.RowKit
section
variable {w : World} {B p : Nat} {l : List Nd}
theorem Ar.cell (h : Ar w B p l) : ∃ g cap, w.cell? ⟨p, 0, none⟩ = some (.slice (some ⟨g, 0, none⟩) l.length cap) := by
  obtain ⟨g, cap, hp, _⟩ := h.ex
  exact ⟨g, cap, blk_cells hp 0⟩
end
theorem none35 (B p : Nat) (l : List Nd) (w : World) (h : Ar w B p l) : Calls Tryz.prog 35 #[.pointer (some ⟨p, 0, none⟩)] w fun e w' => e = .returned (.bool false) ∧ w = w' := by
  obtain ⟨g, cap, hc⟩ := h.cell
  have hp := h.pos
  have h0 : ((l.length : Int) == 0) = false := by rw [beq_eq_false_iff_ne]; omega
  go_enter Tryz.func35, Tryz.ntmps35
  go_wp2
  go_ret
  exact ⟨rfl, rfl⟩
theorem has42 (B p : Nat) (l : List Nd) (i : Int) (w : World) (h : Ar w B p l) : Calls Tryz.prog 42 #[.pointer (some ⟨p, 0, none⟩), .int .i64 i] w fun e w' => e = .returned (.bool (decide (0 ≤ i ∧ i < l.length))) ∧ w = w' := by
  obtain ⟨g, cap, hc⟩ := h.cell
  by_cases h0 : 0 ≤ i
  · have h0b : decide (i ≥ 0) = true := decide_eq_true h0
    have HE := Go.Lib.hid (show decide (0 ≤ i ∧ i < l.length) = decide (i < (l.length : Int)) by simp [h0])
    clear h0
    go_enter Tryz.func42, Tryz.ntmps42
    go_wp2
    go_ret
    exact ⟨ret_bool HE.out.symm, rfl⟩
  · have h0b : decide (i ≥ 0) = false := decide_eq_false h0
    have HE := Go.Lib.hid (show decide (0 ≤ i ∧ i < l.length) = false by simp [h0])
    clear h0
    go_enter Tryz.func42, Tryz.ntmps42
    go_wp2
    go_ret
    exact ⟨ret_bool HE.out.symm, rfl⟩
theorem len20 (B p : Nat) (l : List Nd) (w : World) (h : Ar w B p l) : Calls Tryz.prog 20 #[.pointer (some ⟨p, 0, none⟩)] w fun e w' => e = .returned (.int .i64 l.length) ∧ w = w' := by
  obtain ⟨g, cap, hc⟩ := h.cell
  go_enter Tryz.func20, Tryz.ntmps20
  go_wp2_with (go_at_call 35; refine (none35 B p l _ h).mono ?_; rintro e w1 ⟨rfl, rfl⟩)
  go_ret
  exact ⟨rfl, rfl⟩
def parB (k : Int) : Bool := k == 0 || k == 1 || k == 5
theorem parent43 (k : Int) (w : World) : Calls Tryz.prog 43 #[.int .i64 k] w fun e w' => e = .returned (.bool (parB k)) ∧ w = w' := by
  unfold parB
  generalize h0 : (k == 0) = b0
  generalize h1 : (k == 1) = b1
  generalize h5 : (k == 5) = b5
  rcases b0 with _ | _ <;> rcases b1 with _ | _
  all_goals
    go_enter Tryz.func43, Tryz.ntmps43
    go_wp2
    go_ret
    exact ⟨rfl, rfl⟩
/-- A node without links. -/
def blankN (n : Nd) : Nd := { n with up := -1, fst := -1, lst := -1, prv := -1, nxt := -1, inn := -1, host := -1 }
set_option maxRecDepth 100000 in
theorem blank34 (n : Nd) (w : World) : Calls Tryz.prog 34 #[.agg #[.int .i64 n.kind, .int .i64 n.space, .string n.name, .slice n.aa n.al.length n.ac, .string n.data, .string n.sys, .int .i64 n.up, .int .i64 n.fst, .int .i64 n.lst, .int .i64 n.prv, .int .i64 n.nxt, .int .i64 n.inn]] w
    fun e w' => e = .returned (.agg (blankN n).arr) ∧ Below w.heap.size w w' := by
  go_enter Tryz.func34, Tryz.ntmps34
  go_wp2
  exact bodyPost_ret (results_cell_row rfl _ _ (w.heap.size + 1) 74 (blankN n).arr (0, 0) _ rfl (at_new _ _ _ (by simp)) Tryz.underlying74 rfl (by kernel_rfl)) rfl ⟨rfl, bal (bal (Below.refl _ _) _) _⟩
/-- The attributes L lie at a slice's place. -/
def RdN (w : World) (oa : Option Addr) (L : List A4) : Prop := ∀ j u, (cellsA L)[j]? = some u → ∃ ad, oa = some ad ∧ w.cell? (ad.add j) = some u
theorem RdN.below {w w1 : World} {oa : Option Addr} {L : List A4} (h : RdN w oa L) (hb : Below w.heap.size w w1) : RdN w1 oa L := fun j u hu => by
  obtain ⟨ad, h1, h2⟩ := h j u hu
  exact ⟨ad, h1, bcl hb h2⟩
theorem oneAs (L : List A4) : ∀ u ∈ cellsA L, u.oneCell' = true := fun u hu => by
  unfold cellsA at hu
  obtain ⟨x, _, hx⟩ := List.mem_flatMap.1 hu
  simp at hx
  rcases hx with rfl | rfl | rfl | rfl <;> rfl
section
variable {P : Program} {ops : Array Oper} {rest : List Oper} {o : Oper} {a : Act} {Q : Exit → Act → World → Prop}
theorem run_copy_rows (w : World) (dT sT ty elem : TypeId) (sz g n dCap : Nat) (oa : Option Addr) (sCap : Nat) (cur : Array Value) (t : TypeId) (cs : List Value)
    (hu : P.underlying dT = some (.slice elem)) (hs : (P.info? elem).map (·.size) = some sz)
    (hg : w.heap[g]? = some (.cells cur t (0, 0))) (hn : cs.length = n * sz)
    (hsrc : ∀ j v, cs[j]? = some v → ∃ ad, oa = some ad ∧ w.cell? (ad.add j) = some v) (hfit : cs.length ≤ cur.size) (h1 : ∀ v ∈ cs, v.oneCell' = true) :
    (Builtin.copy_ #[dT, sT] ty #[.slice (some ⟨g, 0, none⟩) n dCap, .slice oa n sCap]).run P w =
      .ok (goInt n) (w.setRow g (cs ++ cur.toList.drop cs.length).toArray) := by
  have hst := run_storeCells_at P g 0 t cs 0 cur w hg (by simpa using hfit) h1
  simp only [Nat.add_zero, Nat.zero_add, List.take_zero, List.nil_append] at hst
  cases hq : P.info? elem with
  | none => simp [hq] at hs
  | some i =>
    have hi : i.size = sz := by simpa [hq] using hs
    have hf : (Builtin.firstCells sz n (.slice oa n sCap)).run P w = .ok cs.toArray w := by
      cases oa with
      | some ad =>
        exact run_firstCells_some (P := P) w sz n ad n sCap cs hn fun j v hv => by
          obtain ⟨ad', e, hc⟩ := hsrc j v hv
          injection e with e
          subst e
          exact hc
      | none =>
        have : cs = [] := by
          cases cs with
          | nil => rfl
          | cons u r => obtain ⟨ad, e, _⟩ := hsrc 0 u rfl; cases e
        subst this
        exact run_firstCells_none (P := P) w sz n n sCap
    simp [Builtin.copy_, run_underlying hu, Builtin.lenOf, sizeOf, typeInfo, hq, hi, hf, hst]
theorem wpList_copy_new {W0 : World} (hgd : o.guard = none) (d s : Operand) (dT elem : TypeId) (ho : o.op = .call { callee := .builtin .copy, args := #[d, s], argTypes := #[dT, dT] }) (sz : Nat) (cs : List Value) (n : Nat) (oa : Option Addr) (dc c : Nat) (z : Array Value)
    (hu : P.underlying dT = some (.slice elem)) (hs : (P.info? elem).map (·.size) = some sz)
    (hd : a.eval d = .slice (some ⟨W0.heap.size, 0, none⟩) n dc) (hsv : a.eval s = .slice oa n c) (hz : z.size = n * sz) (hl : cs.length = n * sz)
    (hr : ∀ j v, cs[j]? = some v → ∃ ad, oa = some ad ∧ (W0.alloc (.cells z elem)).cell? (ad.add j) = some v) (h1 : ∀ v ∈ cs, v.oneCell' = true)
    (h : wpList P ops Q rest (a.put o.dst (goInt n)) (W0.alloc (.cells cs.toArray elem))) : wpList P ops Q (o :: rest) a (W0.alloc (.cells z elem)) := by
  refine wpList_plain hgd fun K hK => ?_
  have hrun := run_copy_rows (P := P) (W0.alloc (.cells z elem)) dT dT o.type elem sz W0.heap.size n dc oa c z elem cs hu hs (at_new _ _ _ rfl) hl hr (by omega) h1
  rw [show (cs ++ z.toList.drop cs.length).toArray = cs.toArray by rw [List.drop_of_length_le (by simp; omega), List.append_nil], setRow_alloc] at hrun
  unfold Oper.wp
  simp only [execOp, ho, resolve, invoke, builtin, Sem.run_bind, Sem.run_pure, Result.andThen_ok, List.map_toArray, List.map_cons, List.map_nil, hd, hsv, hrun]
  exact hK _ _ h
end
theorem Tryz.info80 : (Tryz.prog.info? 80).map (fun i => (i.zero, i.size, i.bytes)) = some (some (.agg #[.int .i64 0, .string ⟨#[]⟩, .string ⟨#[]⟩, .string ⟨#[]⟩]), 4, 56) := by kernel_rfl
set_option maxRecDepth 100000 in
theorem own37 (oa : Option Addr) (c : Nat) (L : List A4) (w : World) (hR : RdN w oa L) (hm : L.length * 56 ≤ 140737488351232) :
    Calls Tryz.prog 37 #[.slice oa L.length c] w fun e w' => e = .returned (.slice (some ⟨w.heap.size, 0, none⟩) L.length L.length) ∧ w.alloc (.cells (cellsA L).toArray 80) = w' := by
  obtain ⟨i0, hi, hz0, hz1, hz2⟩ := info_parts Tryz.info80
  have hmk : (Instr.makeSlice 22 (.int .i64 L.length) (.int .i64 L.length)).run Tryz.prog w = .ok (.slice (some ⟨w.heap.size, 0, none⟩) L.length L.length) (w.alloc (.cells (madeCells #[.int .i64 0, .string ⟨#[]⟩, .string ⟨#[]⟩, .string ⟨#[]⟩] (L.length * 4)) 80)) := by
    have h := run_make (P := Tryz.prog) w 22 80 i0 _ Tryz.underlying22 hi hz0 .i64 .i64 L.length L.length (by omega) (by omega) (by rw [hz2]; omega) (by omega)
    rw [h, hz1]
    simp [Value.cells]
  have hsz : (madeCells #[.int .i64 0, .string ⟨#[]⟩, .string ⟨#[]⟩, .string ⟨#[]⟩] (L.length * 4)).size = L.length * 4 := by simp [madeCells]
  have HSZ := Go.Lib.hid hsz
  clear hsz hi hz0 hz1 hz2
  go_enter Tryz.func37, Tryz.ntmps37
  go_wp2_with (refine wpList_copy_new (o := ⟨some 9, _, _, _, _, _⟩) rfl (.tmp 7) (.tmp 8) 22 80 rfl 4 (cellsA L) L.length oa L.length c _ Tryz.underlying22 (by kernel_rfl) rfl rfl HSZ.out (cellsA_length L) (hR.below (bal (Below.refl _ _) _)) (oneAs L) ?_)
  go_ret
  exact ⟨rfl, rfl⟩
end Go.Proofs.YthfdiinfeljeeaaGreatDoor
/- A node is added to an arena. -/
namespace Go.Proofs.YthfdiinfeljeeaaGreatDoor
open Go.RowKit
theorem Tryz.info74 : (Tryz.prog.info? 74).map (fun i => (i.zero, i.size, i.bytes)) = some (some (.agg #[.int .i64 0, .int .i64 0, .string ⟨#[]⟩, .slice none 0 0, .string ⟨#[]⟩, .string ⟨#[]⟩, .int .i64 0, .int .i64 0, .int .i64 0, .int .i64 0, .int .i64 0, .int .i64 0, .int .i64 0]), 13, 144) := by kernel_rfl
theorem Nd.one (n : Nd) : ∀ u ∈ n.cells, u.oneCell' = true := fun u hu => by
  simp [Nd.cells, Nd.arr] at hu
  rcases hu with rfl | rfl | rfl | rfl | rfl | rfl | rfl | rfl | rfl | rfl | rfl | rfl | rfl <;> rfl
section
variable {ops : Array Oper} {o : Oper} {a : Act} {K : Act → World → Prop} {Q : Exit → Act → World → Prop} {E : Prop}
theorem at_dst (k : Nat) {X Y : Prop} (_h : o.dst = some k) (hx : if Region.wanted o (yielded ops a.tmps) = true then X else Y) : if Region.wanted o (yielded ops a.tmps) = true then X else Y := hx
theorem step_push {W : World} (hgd : o.guard = none) (s x : Operand) (ho : o.op = .call { callee := .builtin .append, args := #[s, x], argTypes := #[76, 76] })
    (n : Nd) (l : List Nd) (B g cap : Nat) (hs : a.eval s = .slice (some ⟨g, 0, none⟩) l.length cap) (hx : a.eval x = .slice (some ⟨W.heap.size, 0, none⟩) 1 1)
    (HO : W.ownsRow B 74 13 (.slice (some ⟨g, 0, none⟩) l.length cap) l.length (flat l)) (hB : B ≤ W.heap.size) (hl : l.length ≤ 1000000)
    (h : ∀ g' cap' w', w'.ownsRow B 74 13 (.slice (some ⟨g', 0, none⟩) (l.length + 1) cap') (l.length + 1) (flat (l ++ [n])) → Fr B [74] W w' → K (a.put o.dst (.slice (some ⟨g', 0, none⟩) (l.length + 1) cap')) w') :
    if Region.wanted o (yielded ops a.tmps) = true then Oper.wp Tryz.prog o a (W.alloc (.cells n.arr 74)) K Q else E := by
  obtain ⟨i0, hi, hz0, hz1, hz2⟩ := info_parts Tryz.info74
  refine step_append_lies _ hgd s x 76 ho B 74 i0 _ 13 144 Tryz.underlying76 hi hz0 hz1 hz2 rfl (by omega) _ l.length (flat l) hs (HO.alloc _) ⟨W.heap.size, 0, none⟩ 1 1 n.cells hx rfl
    (World.news_of_block (cs := n.arr) (t := 74) (fr := (0, 0)) (heap_alloc_new W _)) n.one (by omega) (by simp only [maxLen]; omega) (by omega) (by simp; omega) (W.heap.size + 1) (by simp) ?_
  intro g' cap' w' hown hg hat hlt
  refine h g' cap' w' (by rw [flat_snoc]; exact hown) ?_
  refine ((Fr.refl B [74] W).alloc hB _).grown hg (fun k hk => ?_) hB
  obtain rfl : k = g := by simpa [Value.ownBlock] using hk.symm
  obtain ⟨cs, hcs⟩ := own_blk HO
  exact ⟨own_base HO k rfl, .inr ⟨cs, 74, (0, 0), at_old hcs _, by simp⟩⟩
end
/-- The texts S lie at a slice's place. -/
def RdS (w : World) (oa : Option Addr) (S : List ByteArray) : Prop := ∀ j (h : j < S.length), ∃ b off, oa = some ⟨b, off, none⟩ ∧ w.cell? ⟨b, off + j, none⟩ = some (.string S[j])
theorem RdS.below {w w1 : World} {oa : Option Addr} {S : List ByteArray} (h : RdS w oa S) (hb : Below w.heap.size w w1) : RdS w1 oa S := fun j hj => by
  obtain ⟨b, off, h1, h2⟩ := h j hj
  exact ⟨b, off, h1, bcl hb h2⟩
/-- A node's value, without its host. -/
def Nd.val (n : Nd) : Value := .agg #[.int .i64 n.kind, .int .i64 n.space, .string n.name, .slice n.aa n.al.length n.ac, .string n.data, .string n.sys, .int .i64 n.up, .int .i64 n.fst, .int .i64 n.lst, .int .i64 n.prv, .int .i64 n.nxt, .int .i64 n.inn]
theorem Ar.pushed {W1 w3 : World} {B p g2 cap2 : Nat} {l : List Nd} {n : Nd} {x : Value} (hA : Ar W1 B p l) (hn : AtA W1 n) (hf : Fr B [74, 78] W1 w3) (hp3 : w3.heap[p]? = some (.cells #[x] 78 (0, 0)))
    (hown : w3.ownsRow B 74 13 (.slice (some ⟨g2, 0, none⟩) (l.length + 1) cap2) (l.length + 1) (flat (l ++ [blankN n]))) :
    Ar (w3.setCell ⟨p, 0, none⟩ (.slice (some ⟨g2, 0, none⟩) (l.length + 1) cap2)) B p (l ++ [blankN n]) ∧ Fr B [74, 78] W1 (w3.setCell ⟨p, 0, none⟩ (.slice (some ⟨g2, 0, none⟩) (l.length + 1) cap2)) := by
  have hs : Fr B [78] w3 (w3.setCell ⟨p, 0, none⟩ (.slice (some ⟨g2, 0, none⟩) (l.length + 1) cap2)) := (Fr.refl B [78] w3).set hp3 (by decide) hA.base _
  have hF : Fr B [74, 78] W1 (w3.setCell ⟨p, 0, none⟩ (.slice (some ⟨g2, 0, none⟩) (l.length + 1) cap2)) := hf.trans (hs.mono (by simp))
  refine ⟨⟨⟨g2, cap2, ?_, ?_⟩, fun m hm => ?_, by simp, hA.base⟩, hF⟩
  · rw [List.length_append]
    exact set_blk hp3 _
  · rw [List.length_append]
    exact own_fr hown hs (by decide)
  · rcases List.mem_append.1 hm with h | h
    · exact (hA.at_ m h).fr hF (by decide)
    · obtain rfl : m = blankN n := by simpa using h
      exact AtA.fr (n := blankN n) (show AtA W1 (blankN n) from hn) hF (by decide)
set_option maxHeartbeats 4000000 in
set_option maxRecDepth 100000 in
theorem add36 (B p : Nat) (l : List Nd) (n : Nd) (oa : Option Addr) (c : Nat) (S : List ByteArray) (w : World) (h : Ar w B p l) (hB : B ≤ w.heap.size) (hl : l.length < 32768) (hn : AtA w n) (hS : RdS w oa S) (hsz : ∀ s ∈ S, s.size ≤ 1048576) (hSl : S.length ≤ 100000) :
    Calls Tryz.prog 36 #[.pointer (some ⟨p, 0, none⟩), n.val, .slice oa S.length c] w
    fun e w' => e = .returned (.tuple #[.int .i64 l.length, .int .i64 0]) ∧ Ar w' B p (l ++ [blankN n]) ∧ Fr B [74, 78] w w' := by
  unfold Nd.val
  have hA1 := h.below (bal (Below.refl _ _) (.cells #[.int .i64 n.kind, .int .i64 n.space, .string n.name, .slice n.aa n.al.length n.ac, .string n.data, .string n.sys, .int .i64 n.up, .int .i64 n.fst, .int .i64 n.lst, .int .i64 n.prv, .int .i64 n.nxt, .int .i64 n.inn] 52))
  have hn1 := at_new w (.cells #[.int .i64 n.kind, .int .i64 n.space, .string n.name, .slice n.aa n.al.length n.ac, .string n.data, .string n.sys, .int .i64 n.up, .int .i64 n.fst, .int .i64 n.lst, .int .i64 n.prv, .int .i64 n.nxt, .int .i64 n.inn] 52) _ rfl
  have hS1 := hS.below (bal (Below.refl _ _) (.cells #[.int .i64 n.kind, .int .i64 n.space, .string n.name, .slice n.aa n.al.length n.ac, .string n.data, .string n.sys, .int .i64 n.up, .int .i64 n.fst, .int .i64 n.lst, .int .i64 n.prv, .int .i64 n.nxt, .int .i64 n.inn] 52))
  have hf1 : Fr B [74, 78] w (w.alloc (.cells #[.int .i64 n.kind, .int .i64 n.space, .string n.name, .slice n.aa n.al.length n.ac, .string n.data, .string n.sys, .int .i64 n.up, .int .i64 n.fst, .int .i64 n.lst, .int .i64 n.prv, .int .i64 n.nxt, .int .i64 n.inn] 52)) := (Fr.refl _ _ _).alloc hB _
  have hB1 : B ≤ (w.alloc (.cells #[.int .i64 n.kind, .int .i64 n.space, .string n.name, .slice n.aa n.al.length n.ac, .string n.data, .string n.sys, .int .i64 n.up, .int .i64 n.fst, .int .i64 n.lst, .int .i64 n.prv, .int .i64 n.nxt, .int .i64 n.inn] 52)).heap.size := by simp; omega
  have hat1 : AtA (w.alloc (.cells #[.int .i64 n.kind, .int .i64 n.space, .string n.name, .slice n.aa n.al.length n.ac, .string n.data, .string n.sys, .int .i64 n.up, .int .i64 n.fst, .int .i64 n.lst, .int .i64 n.prv, .int .i64 n.nxt, .int .i64 n.inn] 52)) n := hn.fr hf1 (by decide)
  go_enter Tryz.func36, Tryz.ntmps36
  go_wp2_with fail
  generalize w.alloc (.cells #[.int .i64 n.kind, .int .i64 n.space, .string n.name, .slice n.aa n.al.length n.ac, .string n.data, .string n.sys, .int .i64 n.up, .int .i64 n.fst, .int .i64 n.lst, .int .i64 n.prv, .int .i64 n.nxt, .int .i64 n.inn] 52) = W1 at *
  obtain ⟨nb, hnb⟩ : ∃ nb, nb = w.heap.size := ⟨_, rfl⟩
  rw [← hnb] at hn1 ⊢
  clear hnb hn hS h
  refine (none35 B p l _ hA1).mono ?_
  rintro e w1 ⟨rfl, rfl⟩
  go_wp2_with fail
  go_loop [14] (fun v14 => ∃ k : Nat, v14 = .int .i64 k ∧ k ≤ S.length) (fun v14 => S.length - (intOf v14).toNat)
  case atStart => exact ⟨0, rfl, Nat.zero_le _⟩
  case round =>
    obtain ⟨k, rfl, hk⟩ := hrel
    by_cases hlt : k < S.length
    · obtain ⟨b, off, rfl, hc⟩ := hS1 k hlt
      have hs := hsz S[k] (List.getElem_mem hlt)
      generalize S[k] = s at *
      go_wp2
      go_round
      case rel => exact ⟨k + 1, by go_num, by omega⟩
      case measure => simp [intOf]; omega
    · obtain rfl : k = S.length := by omega
      clear hlt hk hS1 hsz
      obtain ⟨g, cap, hp, ho⟩ := hA1.ex
      have hpc := blk_cells hp 0
      have hnc := blk_cells hn1
      have hll : decide ((l.length : Int) ≥ 32768) = false := decide_eq_false (by omega)
      have hlp := blk_lt hp
      have hln := blk_lt hn1
      go_wp2_with fail
      have k0 := hnc 0
      have k1 := hnc 1
      have k2 := hnc 2
      have k3 := hnc 3
      have k4 := hnc 4
      have k5 := hnc 5
      have k6 := hnc 6
      have k7 := hnc 7
      have k8 := hnc 8
      have k9 := hnc 9
      have k10 := hnc 10
      have k11 := hnc 11
      clear hnc
      go_region_law
        (first
          | (go_simp; go_at_call 34; refine (blank34 n _).mono ?_; rintro e w2 ⟨rfl, hbk⟩; dsimp only [blankN, Nd.arr]; have hb2 : Below W1.heap.size W1 w2 := ⟨hbk.os, hbk.tape, hbk.output, hbk.size, hbk.block⟩; have rp := bcl hb2 hpc; have lp2 : p < w2.heap.size := Nat.lt_of_lt_of_le hlp hb2.size; have ln2 : nb < w2.heap.size := Nat.lt_of_lt_of_le hln hb2.size; have r0 : w2.cell? ⟨nb, 0, none⟩ = some (.int .i64 n.kind) := bcl hb2 k0; have r1 : w2.cell? ⟨nb, 1, none⟩ = some (.int .i64 n.space) := bcl hb2 k1; have r2 : w2.cell? ⟨nb, 2, none⟩ = some (.string n.name) := bcl hb2 k2; have r3 : w2.cell? ⟨nb, 3, none⟩ = some (.slice n.aa n.al.length n.ac) := bcl hb2 k3; have r4 : w2.cell? ⟨nb, 4, none⟩ = some (.string n.data) := bcl hb2 k4; have r5 : w2.cell? ⟨nb, 5, none⟩ = some (.string n.sys) := bcl hb2 k5; have r6 : w2.cell? ⟨nb, 6, none⟩ = some (.int .i64 n.up) := bcl hb2 k6; have r7 : w2.cell? ⟨nb, 7, none⟩ = some (.int .i64 n.fst) := bcl hb2 k7; have r8 : w2.cell? ⟨nb, 8, none⟩ = some (.int .i64 n.lst) := bcl hb2 k8; have r9 : w2.cell? ⟨nb, 9, none⟩ = some (.int .i64 n.prv) := bcl hb2 k9; have r10 : w2.cell? ⟨nb, 10, none⟩ = some (.int .i64 n.nxt) := bcl hb2 k10; have r11 : w2.cell? ⟨nb, 11, none⟩ = some (.int .i64 n.inn) := bcl hb2 k11; have ho2 := own_below ho hb2; have hB2 : B ≤ w2.heap.size := Nat.le_trans hB1 hb2.size)
          | (refine at_dst 36 rfl ?_; refine step_push rfl (.tmp 32) (.tmp 35) rfl (blankN n) l B g cap (by rfl) (by rfl) ho2 hB2 (by omega) ?_; intro g2 cap2 w3 hown3 hf3; have hp3 := hf3.blk (bblk hb2 hp) (by decide); have hc3 := blk_cells hp3 0; have hz3 := blk_free hp3 0; have hq := blk_cells (hf3.blk (bblk hb2 hn1) (by decide)); have q0 : w3.cell? ⟨nb, 0, none⟩ = some (.int .i64 n.kind) := hq 0; have q1 : w3.cell? ⟨nb, 1, none⟩ = some (.int .i64 n.space) := hq 1; have q2 : w3.cell? ⟨nb, 2, none⟩ = some (.string n.name) := hq 2; have q3 : w3.cell? ⟨nb, 3, none⟩ = some (.slice n.aa n.al.length n.ac) := hq 3; have q4 : w3.cell? ⟨nb, 4, none⟩ = some (.string n.data) := hq 4; have q5 : w3.cell? ⟨nb, 5, none⟩ = some (.string n.sys) := hq 5; have q6 : w3.cell? ⟨nb, 6, none⟩ = some (.int .i64 n.up) := hq 6; have q7 : w3.cell? ⟨nb, 7, none⟩ = some (.int .i64 n.fst) := hq 7; have q8 : w3.cell? ⟨nb, 8, none⟩ = some (.int .i64 n.lst) := hq 8; have q9 : w3.cell? ⟨nb, 9, none⟩ = some (.int .i64 n.prv) := hq 9; have q10 : w3.cell? ⟨nb, 10, none⟩ = some (.int .i64 n.nxt) := hq 10; have q11 : w3.cell? ⟨nb, 11, none⟩ = some (.int .i64 n.inn) := hq 11; clear hq))
      all_goals
        obtain ⟨hR, hF⟩ := Ar.pushed hA1 hat1 ((Fr.of_below hB1 hb2).trans (hf3.mono (by simp))) hp3 hown3
        have HR := Go.Lib.hid hR
        have HF := Go.Lib.hid (hf1.trans hF)
        clear hR hF hown3 hf3 ho2 hb2 hbk hat1 hA1 hf1 hp ho hn1
        go_wp2
        go_ret2
        exact ⟨rfl, HR.out, HF.out⟩
end Go.Proofs.YthfdiinfeljeeaaGreatDoor
/- Texts, comments, fragments. -/
namespace Go.Proofs.YthfdiinfeljeeaaGreatDoor
open Go.RowKit
def kindN (k : Int) (s : ByteArray) : Nd := ⟨k, 0, ⟨#[]⟩, [], none, 0, s, ⟨#[]⟩, 0, 0, 0, 0, 0, 0, 0⟩
theorem kind_at (k : Int) (s : ByteArray) (w : World) : AtA w (kindN k s) := .inl ⟨rfl, rfl, rfl⟩
theorem rdS_one (w : World) (s : ByteArray) : RdS (w.alloc (.cells #[.string s] 9)) (some ⟨w.heap.size, 0, none⟩) [s] := fun j hj => by
  obtain rfl : j = 0 := by simpa using hj
  exact ⟨_, 0, rfl, blk_cells (at_new w _ _ rfl) 0⟩
set_option maxRecDepth 100000 in
theorem text16 (B p : Nat) (l : List Nd) (s : ByteArray) (w : World) (h : Ar w B p l) (hB : B ≤ w.heap.size) (hl : l.length < 32768) (hs : s.size ≤ 1048576) :
    Calls Tryz.prog 16 #[.pointer (some ⟨p, 0, none⟩), .string s] w
    fun e w' => e = .returned (.tuple #[.int .i64 l.length, .int .i64 0]) ∧ Ar w' B p (l ++ [blankN (kindN 2 s)]) ∧ Fr B [74, 78] w w' := by
  have hf : Fr B [74, 78] w (w.alloc (.cells #[.string s] 9)) := (Fr.refl _ _ _).alloc hB _
  have hA := h.below (bal (Below.refl _ _) (.cells #[.string s] 9))
  have hB1 : B ≤ (w.alloc (.cells #[.string s] 9)).heap.size := by simp; omega
  have A := add36 B p l (kindN 2 s) _ 1 [s] _ hA hB1 hl (kind_at _ _ _) (rdS_one w s) (by simpa using hs) (by simp)
  go_enter Tryz.func16, Tryz.ntmps16
  go_wp2_with fail
  refine A.mono ?_
  rintro e w1 ⟨rfl, hr, hf1⟩
  go_wp2
  go_ret2
  exact ⟨rfl, hr, hf.trans hf1⟩
set_option maxRecDepth 100000 in
theorem comment18 (B p : Nat) (l : List Nd) (s : ByteArray) (w : World) (h : Ar w B p l) (hB : B ≤ w.heap.size) (hl : l.length < 32768) (hs : s.size ≤ 1048576) :
    Calls Tryz.prog 18 #[.pointer (some ⟨p, 0, none⟩), .string s] w
    fun e w' => e = .returned (.tuple #[.int .i64 l.length, .int .i64 0]) ∧ Ar w' B p (l ++ [blankN (kindN 3 s)]) ∧ Fr B [74, 78] w w' := by
  have hf : Fr B [74, 78] w (w.alloc (.cells #[.string s] 9)) := (Fr.refl _ _ _).alloc hB _
  have hA := h.below (bal (Below.refl _ _) (.cells #[.string s] 9))
  have hB1 : B ≤ (w.alloc (.cells #[.string s] 9)).heap.size := by simp; omega
  have A := add36 B p l (kindN 3 s) _ 1 [s] _ hA hB1 hl (kind_at _ _ _) (rdS_one w s) (by simpa using hs) (by simp)
  go_enter Tryz.func18, Tryz.ntmps18
  go_wp2_with fail
  refine A.mono ?_
  rintro e w1 ⟨rfl, hr, hf1⟩
  go_wp2
  go_ret2
  exact ⟨rfl, hr, hf.trans hf1⟩
set_option maxRecDepth 100000 in
theorem fragment38 (B p : Nat) (l : List Nd) (w : World) (h : Ar w B p l) (hB : B ≤ w.heap.size) (hl : l.length < 32768) :
    Calls Tryz.prog 38 #[.pointer (some ⟨p, 0, none⟩)] w
    fun e w' => e = .returned (.tuple #[.int .i64 l.length, .int .i64 0]) ∧ Ar w' B p (l ++ [blankN (kindN 5 ⟨#[]⟩)]) ∧ Fr B [74, 78] w w' := by
  have A := add36 B p l (kindN 5 ⟨#[]⟩) none 0 [] w h hB hl (kind_at _ _ _) (fun j hj => by simp at hj) (by simp) (by simp)
  go_enter Tryz.func38, Tryz.ntmps38
  go_wp2_with fail
  refine A.mono ?_
  rintro e w1 ⟨rfl, hr, hf1⟩
  go_wp2
  go_ret2
  exact ⟨rfl, hr, hf1⟩
end Go.Proofs.YthfdiinfeljeeaaGreatDoor
/- Lemmas on strings as the walk spells them: comparisons, beginnings. -/
namespace Go.Proofs.YthfdiinfeljeeaaGreatDoor
open Go.RowKit

theorem tl (s : ByteArray) : s.toList = s.data.toList := ByteArray.toList_eq s
theorem tl_mkS (l : List UInt8) : (mkS l).toList = l := by rw [tl]; rfl
theorem extract_tl (s : ByteArray) (a b : Nat) : (s.extract a b).toList = (s.data.toList.drop a).take (b - a) := by
  rw [tl]
  simp [ByteArray.data_extract]
theorem take_beq (id p : List UInt8) (_h : p.length ≤ id.length) : (id.take p.length == p) = p.isPrefixOf id := by
  rw [Bool.eq_iff_iff, beq_iff_eq, List.isPrefixOf_iff_prefix, List.prefix_iff_eq_take]
  exact eq_comm
/-- The walk's 's[:n] == p'. -/
theorem cut_beq (s : ByteArray) (p : List UInt8) (n : Nat) (hn : n = p.length) (h : n ≤ s.size) : ((s.extract 0 n).toList == p) = p.isPrefixOf s.data.toList := by
  subst hn
  rw [extract_tl, List.drop_zero, Nat.sub_zero, take_beq _ _ (by rw [dlen]; exact h)]
theorem prefix_len {p l : List UInt8} (h : p.isPrefixOf l = true) : p.length ≤ l.length := (List.isPrefixOf_iff_prefix.1 h).length_le
theorem not_prefix {p l : List UInt8} (h : ¬ p.length ≤ l.length) : p.isPrefixOf l = false := by
  cases e : p.isPrefixOf l with
  | false => rfl
  | true => exact absurd (prefix_len e) h
end Go.Proofs.YthfdiinfeljeeaaGreatDoor
/- A new element: its texts, its attributes. -/
namespace Go.Proofs.YthfdiinfeljeeaaGreatDoor
open Go.RowKit
section
variable {P : Program} {ops : Array Oper} {rest : List Oper} {o : Oper} {a : Act} {Q : Exit → Act → World → Prop}
/-- 'out = append(out, x, y, ..)', out nil or a row of the call's own, what is appended just boxed. -/
theorem step_append_many {w0 W : World} (hgd : o.guard = none) (base : Nat) (s x : Operand) (t e : TypeId) (z : Value) (size bytes : Nat)
    (ho : o.op = .call { callee := .builtin .append, args := #[s, x], argTypes := #[t, t] })
    (ht : P.underlying t = some (.slice e)) (hinfo : (P.info? e).map (fun i => (i.zero, i.size, i.bytes)) = some (some z, size, bytes)) (hz : z.cells.size = size) (hs0 : 0 < size) (hb0 : 0 < bytes)
    (v : Value) (n m k : Nat) (xs : List Value) (cs : Array Value) (hs : a.eval s = v) (hx : a.eval x = .slice (some ⟨m, 0, none⟩) k k) (hm : m = W.heap.size) (hcs : cs.size = k * size) (h1 : ∀ u ∈ cs.toList, u.oneCell' = true)
    (HO : W.ownsRow base e size v n xs) (HB : Below base w0 W) (hbase : base ≤ W.heap.size) (hl : (n + k) * bytes ≤ 140737488355328)
    (h : ∀ v1 w1, w1.ownsRow base e size v1 (n + k) (xs ++ cs.toList) → Below base w0 w1 → wpList P ops Q rest (a.put o.dst v1) w1) :
    wpList P ops Q (o :: rest) a (W.alloc (.cells cs e)) := by
  subst hm
  obtain ⟨i0, hi, hzz⟩ := Option.map_eq_some_iff.1 hinfo
  simp only [Prod.mk.injEq] at hzz
  obtain ⟨hz0, hz1, hz2⟩ := hzz
  have hlen : n + k ≤ 140737488355328 := Nat.le_trans (Nat.le_mul_of_pos_right _ hb0) hl
  refine wpList_append_own (w := W.alloc (.cells cs e)) hgd s x t ho base e i0 z size bytes ht hi hz0 hz1 hz2 hz hs0 v n xs hs (HO.alloc _) ⟨W.heap.size, 0, none⟩ k k cs.toList hx (by simp [hcs])
    (World.news_of_block (cs := cs) (t := e) (fr := (0, 0)) (heap_alloc_new W _)) h1 (by simp only [maxLen]; omega) hl (by simp; omega) ?_
  intro v1 w1 hown hg _
  exact h v1 w1 hown ((HB.alloc hbase _).grown hg (by simp; omega) (own_base HO))
end
theorem Tryz.info9 : (Tryz.prog.info? 9).map (fun i => (i.zero, i.size, i.bytes)) = some (some (.string ⟨#[]⟩), 1, 16) := by kernel_rfl
/-- The attributes L lie at a slice's place. -/
def RdA (w : World) (oa : Option Addr) (L : List A4) : Prop :=
  L ≠ [] → ∃ b off, oa = some ⟨b, off, none⟩ ∧ ∀ k (h : k < L.length), w.cell? ⟨b, off + k * 4, none⟩ = some (.int .i64 L[k].sp) ∧ w.cell? ⟨b, off + k * 4 + 1, none⟩ = some (.string L[k].pre) ∧
    w.cell? ⟨b, off + k * 4 + 2, none⟩ = some (.string L[k].nm) ∧ w.cell? ⟨b, off + k * 4 + 3, none⟩ = some (.string L[k].va)
theorem RdA.below {w w1 : World} {oa : Option Addr} {L : List A4} (h : RdA w oa L) (hb : Below w.heap.size w w1) : RdA w1 oa L := fun hne => by
  obtain ⟨b, off, ho, hc⟩ := h hne
  exact ⟨b, off, ho, fun k hk => ⟨bcl hb (hc k hk).1, bcl hb (hc k hk).2.1, bcl hb (hc k hk).2.2.1, bcl hb (hc k hk).2.2.2⟩⟩
theorem cellsA_at (L : List A4) (k j : Nat) (hk : k < L.length) (hj : j < 4) : (cellsA L)[k * 4 + j]? = L[k].c[j]? := by
  induction L generalizing k with
  | nil => simp at hk
  | cons x L ih =>
    have hx : x.c.toList.length = 4 := rfl
    cases k with
    | zero =>
      simp only [cellsA, List.flatMap_cons, Nat.zero_mul, Nat.zero_add, List.getElem_cons_zero]
      rw [List.getElem?_append_left (by omega)]
      simp
    | succ k =>
      simp only [cellsA, List.flatMap_cons, List.getElem_cons_succ]
      rw [List.getElem?_append_right (by simp; omega), show (k + 1) * 4 + j - x.c.toList.length = k * 4 + j from by simp; omega]
      exact ih k (by simpa using hk)
theorem addr_add (b off j : Nat) : (⟨b, off, none⟩ : Addr).add j = ⟨b, off + j, none⟩ := by
  unfold Addr.add
  split <;> simp_all
theorem RdA.news {w : World} {oa : Option Addr} {L : List A4} (h : RdA w oa L) : RdN w oa L := by
  intro j u hu
  have hj : j < L.length * 4 := by rw [← cellsA_length]; exact (List.getElem?_eq_some_iff.1 hu).1
  obtain ⟨b, off, rfl, hc⟩ := h (by rintro rfl; simp at hj)
  refine ⟨_, rfl, ?_⟩
  have hk : j / 4 < L.length := by omega
  have e : j = j / 4 * 4 + j % 4 := by omega
  obtain ⟨c0, c1, c2, c3⟩ := hc (j / 4) hk
  have hat := cellsA_at L (j / 4) (j % 4) hk (by omega)
  rw [← e, hu] at hat
  rw [addr_add]
  rcases (show j % 4 = 0 ∨ j % 4 = 1 ∨ j % 4 = 2 ∨ j % 4 = 3 by omega) with h4 | h4 | h4 | h4
  all_goals
    rw [h4] at hat e
    have ej : off + j = off + j / 4 * 4 + j % 4 := by omega
    rw [ej, h4, hat]
    first | exact c0 | exact c1 | exact c2 | exact c3
def strs (S : List ByteArray) : List Value := S.map Value.string
/-- The texts of some attributes. -/
def txtA (L : List A4) : List ByteArray := L.flatMap fun x => [x.pre, x.nm, x.va]
theorem txt_len (L : List A4) : (txtA L).length = 3 * L.length := by
  induction L with
  | nil => rfl
  | cons x L ih => simp only [txtA, List.flatMap_cons, List.length_append, List.length_cons, List.length_nil] at ih ⊢; omega
theorem txt_snoc (name : ByteArray) (L : List A4) (k : Nat) (h : k < L.length) : strs (name :: txtA (L.take k)) ++ (#[Value.string L[k].pre, .string L[k].nm, .string L[k].va] : Array Value).toList = strs (name :: txtA (L.take (k + 1))) := by
  unfold strs txtA
  rw [List.take_succ_eq_append_getElem h, List.flatMap_append, ← List.cons_append, List.map_append]
  rfl
theorem rdS_own {w : World} {B n c : Nat} {oa : Option Addr} {S : List ByteArray} (h : w.ownsRow B 9 1 (.slice oa n c) n (strs S)) : RdS w oa S ∧ n = S.length := by
  have hn : n = S.length := by have := h.1; simp [strs] at this; omega
  refine ⟨fun j hj => ?_, hn⟩
  rcases h.2 with ⟨hv, h0⟩ | ⟨g, cap, cur, hv, _⟩
  · omega
  · injection hv with e1 e2 e3
    subst e1
    have hc := h.cellAt j (by omega)
    exact ⟨g, 0, rfl, by rw [Nat.zero_add, hc]; simp [strs, hj]⟩
/-- An element that is made. -/
def elN (sp : Int) (name : ByteArray) (L : List A4) (b : Nat) : Nd := ⟨1, sp, name, L, some ⟨b, 0, none⟩, L.length, ⟨#[]⟩, ⟨#[]⟩, 0, 0, 0, 0, 0, 0, 0⟩
def tmplW : List UInt8 := [116, 101, 109, 112, 108, 97, 116, 101]
/-- The arena behind a new element. -/
def elemL (t : Bool) (n : Nd) (l : List Nd) : List Nd := if t = true then l ++ [{ blankN n with inn := l.length + 1 }] ++ [{ blankN (kindN 5 ⟨#[]⟩) with host := l.length }] else l ++ [blankN n]
set_option maxHeartbeats 4000000 in
set_option maxRecDepth 100000 in
theorem element12 (B p : Nat) (l : List Nd) (name : ByteArray) (oa : Option Addr) (c : Nat) (L : List A4) (w : World) (h : Ar w B p l) (hB : B ≤ w.heap.size) (hl : l.length + 1 < 32767) (hL : L.length ≤ 1024) (hR : RdA w oa L) (hn : name.size ≤ 1048576)
    (hsz : ∀ s ∈ txtA L, s.size ≤ 1048576) (ht : (name.data.toList == tmplW) = false) :
    Calls Tryz.prog 12 #[.pointer (some ⟨p, 0, none⟩), .int .i64 0, .string name, .slice oa L.length c] w
    fun e w' => ∃ b, e = .returned (.tuple #[.int .i64 l.length, .int .i64 0]) ∧ Ar w' B p (elemL false (elN 0 name L b) l) ∧ Fr B [74, 78] w w' := by
  have HT : (name.toList == [116, 101, 109, 112, 108, 97, 116, 101]) = false := by rw [tl]; exact ht
  clear ht
  go_enter Tryz.func12, Tryz.ntmps12
  go_wp2_with (go_at_call 35; refine (none35 B p l _ h).mono ?_; rintro e w1 ⟨rfl, rfl⟩)
  go_loopw [10, 36] (fun v10 v36 wr => ∃ k : Nat, k ≤ L.length ∧ v36 = .int .i64 k ∧ Below w.heap.size w wr ∧ wr.ownsRow w.heap.size 9 1 v10 (1 + 3 * k) (strs (name :: txtA (L.take k)))) (fun _ v36 _ => L.length - (intOf v36).toNat)
  case atStart => exact ⟨0, Nat.zero_le _, rfl, bal (Below.refl _ _) _, by simpa [strs, txtA] using World.ownsRow_lit (base := w.heap.size) (e := 9) (size := 1) w #[.string name] 1 (Nat.le_refl _) (by decide) rfl⟩
  case round =>
    obtain ⟨k, hk, rfl, hB1, hown⟩ := hrel
    by_cases hlt : k < L.length
    · obtain ⟨b, off, rfl, hc⟩ := (hR.below hB1) (by rintro rfl; simp at hlt)
      obtain ⟨c0, c1, c2, c3⟩ := hc k hlt
      have HST := Go.Lib.hid (txt_snoc name L k hlt)
      have hbs := hB1.size
      have hl3 : (1 + 3 * k + 3) * 16 ≤ 140737488355328 := by omega
      obtain ⟨x, hx⟩ : ∃ x, x = L[k] := ⟨_, rfl⟩
      rw [← hx] at c0 c1 c2 c3 HST
      clear hx hc
      go_wp2_with (at_builtin; refine step_append_many (w0 := w) rfl w.heap.size (.tmp 40) (.tmp 47) 39 9 (.string ⟨#[]⟩) 1 16 rfl Tryz.underlying39 Tryz.info9 rfl (by decide) (by decide) u10 (1 + 3 * k) _ 3 (strs (name :: txtA (L.take k))) #[.string x.pre, .string x.nm, .string x.va] rfl rfl (by simp) rfl (by simp [Value.oneCell']) (hown.alloc _) (bal hB1 _) (by simp; omega) hl3 ?_; intro v2 w2 hown2 hB2)
      go_roundw
      case rel => exact ⟨k + 1, by omega, by go_num, hB2, by rw [← HST.out, show 1 + 3 * (k + 1) = 1 + 3 * k + 3 by omega]; exact hown2⟩
      case measure => simp [intOf]; omega
    · obtain rfl : k = L.length := by omega
      rw [List.take_of_length_le (Nat.le_refl _)] at hown
      obtain ⟨ot, ct, rfl⟩ := own_slice hown
      obtain ⟨hrs, hrl⟩ := rdS_own hown
      have hAr := h.fr (Fr.of_below (T := []) (Nat.le_refl _) hB1) (by simp) (by simp) (by simp)
      have hRN := (hR.below hB1).news
      have hf1 : Fr B [74, 78] w wr := Fr.of_below hB hB1
      have hO := own37 oa c L wr hRN (by omega)
      have hb2 := bal (Below.refl wr.heap.size wr) (.cells (cellsA L).toArray 80)
      have hAt : AtA (wr.alloc (.cells (cellsA L).toArray 80)) (elN 0 name L wr.heap.size) := .inr ⟨wr.heap.size, rfl, rfl, at_new _ _ _ rfl⟩
      have hB2 : B ≤ (wr.alloc (.cells (cellsA L).toArray 80)).heap.size := by have := hB1.size; simp; omega
      have A := add36 B p l (elN 0 name L wr.heap.size) ot ct (name :: txtA L) _ (hAr.below hb2) hB2 (by omega) hAt (hrs.below hb2) (by
        intro s hs
        rcases List.mem_cons.1 hs with rfl | hs
        · exact hn
        · exact hsz s hs) (by rw [← hrl]; omega)
      rw [← hrl] at A
      have hf2 : Fr B [74, 78] w (wr.alloc (.cells (cellsA L).toArray 80)) := hf1.alloc hB _
      have hnb : wr.heap.size = wr.heap.size := rfl
      clear hrs hown hrl hb2 hAt hRN hnb hR hsz hf1 hB1 hk hlt
      go_wp2_with fail
      refine hO.mono ?_
      rintro e w2 ⟨rfl, rfl⟩
      clear hO
      go_wp2_with fail
      refine A.mono ?_
      rintro e w3 ⟨rfl, hr3, hf3⟩
      go_wp2
      go_ret2
      exact ⟨_, rfl, hr3, hf2.trans hf3⟩
end Go.Proofs.YthfdiinfeljeeaaGreatDoor
/- An arena whose row is known by its block; cells of a node; stores into one. -/
namespace Go.Proofs.YthfdiinfeljeeaaGreatDoor
open Go.RowKit
structure ArO (w : World) (B p g cap : Nat) (l : List Nd) : Prop where
  row : w.heap[p]? = some (.cells #[.slice (some ⟨g, 0, none⟩) l.length cap] 78 (0, 0))
  own : w.ownsRow B 74 13 (.slice (some ⟨g, 0, none⟩) l.length cap) l.length (flat l)
  at_ : ∀ n ∈ l, AtA w n
  pos : 0 < l.length
  base : B ≤ p
section
variable {w w' : World} {B p g cap : Nat} {l : List Nd}
theorem Ar.open_ (h : Ar w B p l) : ∃ g cap, ArO w B p g cap l := by
  obtain ⟨g, cap, h1, h2⟩ := h.ex
  exact ⟨g, cap, h1, h2, h.at_, h.pos, h.base⟩
theorem ArO.shut (h : ArO w B p g cap l) : Ar w B p l := ⟨⟨g, cap, h.row, h.own⟩, h.at_, h.pos, h.base⟩
theorem ArO.cell (h : ArO w B p g cap l) : w.cell? ⟨p, 0, none⟩ = some (.slice (some ⟨g, 0, none⟩) l.length cap) := blk_cells h.row 0
theorem ArO.frozen (h : ArO w B p g cap l) : w.frozen? ⟨p, 0, none⟩ = false := blk_free h.row 0
theorem ArO.at (h : ArO w B p g cap l) (i j : Nat) (hi : i < l.length) (hj : j < 13) : w.cell? ⟨g, i * 13 + j, none⟩ = (l[i]).cells[j]? := by
  rw [h.own.cellAt _ (by omega)]
  exact flat_get l i j hi hj
theorem ArO.free (h : ArO w B p g cap l) (k : Nat) : w.frozen? ⟨g, k, none⟩ = false := h.own.frozenAt k
theorem ArO.fr {B' : Nat} {T : List Nat} (h : ArO w B p g cap l) (hf : Fr B' T w w') (h1 : 74 ∉ T) (h2 : 78 ∉ T) (h3 : 80 ∉ T) : ArO w' B p g cap l :=
  ⟨hf.blk h.row h2, own_fr h.own hf h1, fun n hn => (h.at_ n hn).fr hf h3, h.pos, h.base⟩
theorem ArO.below (h : ArO w B p g cap l) (hb : Below w.heap.size w w') : ArO w' B p g cap l :=
  h.fr (T := []) (Fr.of_below (Nat.le_refl _) hb) (by simp) (by simp) (by simp)
theorem ArO.drewN (h : ArO w B p g cap l) (n : Nat) : ArO (w.drewN n) B p g cap l := h.below ⟨rfl, rfl, rfl, Nat.le_refl _, fun _ _ => rfl⟩
theorem ArO.gfr (h : ArO w B p g cap l) (k : Nat) (v : Value) : Fr B [74] w (w.setCell ⟨g, k, none⟩ v) := by
  obtain ⟨cs, hcs⟩ := own_blk h.own
  exact (Fr.refl _ _ _).set hcs (by simp) (own_base h.own g rfl) v
/-- A cell of a node is stored. -/
theorem ArO.set (h : ArO w B p g cap l) (i j : Nat) (v : Value) (n : Nd) (hi : i < l.length) (hj : j < 13) (hn : n.cells = (l[i]).cells.set j v) (ha : n.aa = (l[i]).aa ∧ n.al = (l[i]).al ∧ n.ac = (l[i]).ac) :
    ArO (w.setCell ⟨g, i * 13 + j, none⟩ v) B p g cap (l.set i n) ∧ Fr B [74, 78] w (w.setCell ⟨g, i * 13 + j, none⟩ v) := by
  have hf := h.gfr (i * 13 + j) v
  have hs := (h.own.stored (i * 13 + j) v).1
  rw [flat_set l i j v n hi hj hn] at hs
  refine ⟨⟨?_, ?_, fun m hm => ?_, by simpa using h.pos, h.base⟩, hf.mono (by simp)⟩
  · rw [List.length_set]
    exact hf.blk h.row (by decide)
  · rw [List.length_set]
    exact hs
  · rcases List.mem_or_eq_of_mem_set hm with hm | rfl
    · exact (h.at_ m hm).fr hf (by decide)
    · have h0 := (h.at_ _ (List.getElem_mem hi)).fr hf (by decide)
      unfold AtA at h0 ⊢
      rw [ha.1, ha.2.1, ha.2.2]
      exact h0
end
end Go.Proofs.YthfdiinfeljeeaaGreatDoor
/- Two children become neighbours; is a node above another one? -/
namespace Go.Proofs.YthfdiinfeljeeaaGreatDoor
open Go.RowKit
/-- The arena behind a join: left's next (or up's first) is right, right's prev (or up's last) is left; -1: an end of the list. -/
def joinL (l : List Nd) (up left right : Int) : List Nd :=
  let l1 := if left = -1 then l.modify up.toNat (fun n => { n with fst := right }) else l.modify left.toNat (fun n => { n with nxt := right })
  if right = -1 then l1.modify up.toNat (fun n => { n with lst := left }) else l1.modify right.toNat (fun n => { n with prv := left })
theorem ArO.mod {w : World} {B p g cap : Nat} {l : List Nd} (h : ArO w B p g cap l) (i j : Nat) (v : Value) (f : Nd → Nd) (hi : i < l.length) (hj : j < 13) (hf : ∀ n, (f n).cells = n.cells.set j v ∧ (f n).aa = n.aa ∧ (f n).al = n.al ∧ (f n).ac = n.ac) :
    ArO (w.setCell ⟨g, i * 13 + j, none⟩ v) B p g cap (l.modify i f) ∧ Fr B [74, 78] w (w.setCell ⟨g, i * 13 + j, none⟩ v) := by
  have e : l.modify i f = l.set i (f l[i]) := by
    apply List.ext_getElem?
    intro k
    rw [List.getElem?_modify, List.getElem?_set]
    by_cases hk : i = k
    · subst hk; simp [hi]
    · simp [hk]
  rw [e]
  exact h.set i j v (f l[i]) hi hj (hf _).1 (hf _).2
set_option maxRecDepth 100000 in
theorem join45 (B p g cap : Nat) (l : List Nd) (up : Nat) (left right : Int) (w : World) (h : ArO w B p g cap l) (hu : up < l.length) (hl : left = -1 ∨ (0 ≤ left ∧ left < l.length)) (hr : right = -1 ∨ (0 ≤ right ∧ right < l.length)) :
    Calls Tryz.prog 45 #[.pointer (some ⟨p, 0, none⟩), .int .i64 up, .int .i64 left, .int .i64 right] w
    fun e w' => e = .returned (.tuple #[]) ∧ ArO w' B p g cap (joinL l up left right) ∧ Fr B [74, 78] w w' := by
  have hc := h.cell
  have u0 : (0 : Int) ≤ up := by omega
  have u1 : (up : Int) < l.length := by omega
  rcases hl with rfl | ⟨hl0, hl1⟩
  · rcases hr with rfl | ⟨hr0, hr1⟩
    · have x1 := h.at up 7 (by omega) (by omega)
      rw [show (l[up]'(by omega)).cells[7]? = some _ from rfl] at x1
      have y1 := h.free (up * 13 + 7)
      obtain ⟨hO1, hF1⟩ := h.mod up 7 (.int .i64 (-1)) (fun n => { n with fst := -1 }) (by omega) (by omega) (fun n => ⟨rfl, rfl, rfl, rfl⟩)
      have z1 := hO1.cell
      rw [List.length_modify] at z1
      have x2 := hO1.at up 8 (by rw [List.length_modify]; omega) (by omega)
      rw [show ((l.modify up (fun n => { n with fst := -1 }))[up]'(by rw [List.length_modify]; omega)).cells[8]? = some _ from rfl] at x2
      have y2 := hO1.free (up * 13 + 8)
      obtain ⟨hO2, hF2⟩ := hO1.mod up 8 (.int .i64 (-1)) (fun n => { n with lst := -1 }) (by rw [List.length_modify]; omega) (by omega) (fun n => ⟨rfl, rfl, rfl, rfl⟩)
      have HR := Go.Lib.hid (show ArO _ B p g cap (joinL l up (-1) (-1)) from by unfold joinL; dsimp only; simp only [if_true]; simp only [Int.toNat_natCast]; exact hO2)
      have HF := Go.Lib.hid (hF1.trans hF2)
      clear hO1 hO2 hF1 hF2
      go_enter Tryz.func45, Tryz.ntmps45
      go_wp2
      go_end0
      exact ⟨rfl, HR.out, HF.out⟩
    · obtain ⟨b, rfl⟩ : ∃ b : Nat, right = b := ⟨right.toNat, by omega⟩
      have lb : ((b : Int) == -1) = false := by rw [beq_eq_false_iff_ne]; omega
      have x1 := h.at up 7 (by omega) (by omega)
      rw [show (l[up]'(by omega)).cells[7]? = some _ from rfl] at x1
      have y1 := h.free (up * 13 + 7)
      obtain ⟨hO1, hF1⟩ := h.mod up 7 (.int .i64 b) (fun n => { n with fst := (b : Int) }) (by omega) (by omega) (fun n => ⟨rfl, rfl, rfl, rfl⟩)
      have z1 := hO1.cell
      rw [List.length_modify] at z1
      have x2 := hO1.at b 9 (by rw [List.length_modify]; omega) (by omega)
      rw [show ((l.modify up (fun n => { n with fst := (b : Int) }))[b]'(by rw [List.length_modify]; omega)).cells[9]? = some _ from rfl] at x2
      have y2 := hO1.free (b * 13 + 9)
      obtain ⟨hO2, hF2⟩ := hO1.mod b 9 (.int .i64 (-1)) (fun n => { n with prv := -1 }) (by rw [List.length_modify]; omega) (by omega) (fun n => ⟨rfl, rfl, rfl, rfl⟩)
      have HR := Go.Lib.hid (show ArO _ B p g cap (joinL l up (-1) (b : Int)) from by unfold joinL; dsimp only; rw [if_neg (show ¬ (b : Int) = -1 by omega)]; simp only [if_true]; simp only [Int.toNat_natCast]; exact hO2)
      have HF := Go.Lib.hid (hF1.trans hF2)
      clear hO1 hO2 hF1 hF2
      go_enter Tryz.func45, Tryz.ntmps45
      go_wp2
      go_end0
      exact ⟨rfl, HR.out, HF.out⟩
  · obtain ⟨a, rfl⟩ : ∃ a : Nat, left = a := ⟨left.toNat, by omega⟩
    have la : ((a : Int) == -1) = false := by rw [beq_eq_false_iff_ne]; omega
    rcases hr with rfl | ⟨hr0, hr1⟩
    · have x1 := h.at a 10 (by omega) (by omega)
      rw [show (l[a]'(by omega)).cells[10]? = some _ from rfl] at x1
      have y1 := h.free (a * 13 + 10)
      obtain ⟨hO1, hF1⟩ := h.mod a 10 (.int .i64 (-1)) (fun n => { n with nxt := -1 }) (by omega) (by omega) (fun n => ⟨rfl, rfl, rfl, rfl⟩)
      have z1 := hO1.cell
      rw [List.length_modify] at z1
      have x2 := hO1.at up 8 (by rw [List.length_modify]; omega) (by omega)
      rw [show ((l.modify a (fun n => { n with nxt := -1 }))[up]'(by rw [List.length_modify]; omega)).cells[8]? = some _ from rfl] at x2
      have y2 := hO1.free (up * 13 + 8)
      obtain ⟨hO2, hF2⟩ := hO1.mod up 8 (.int .i64 a) (fun n => { n with lst := (a : Int) }) (by rw [List.length_modify]; omega) (by omega) (fun n => ⟨rfl, rfl, rfl, rfl⟩)
      have HR := Go.Lib.hid (show ArO _ B p g cap (joinL l up (a : Int) (-1)) from by unfold joinL; dsimp only; rw [if_neg (show ¬ (a : Int) = -1 by omega)]; simp only [if_true]; simp only [Int.toNat_natCast]; exact hO2)
      have HF := Go.Lib.hid (hF1.trans hF2)
      clear hO1 hO2 hF1 hF2
      go_enter Tryz.func45, Tryz.ntmps45
      go_wp2
      go_end0
      exact ⟨rfl, HR.out, HF.out⟩
    · obtain ⟨b, rfl⟩ : ∃ b : Nat, right = b := ⟨right.toNat, by omega⟩
      have lb : ((b : Int) == -1) = false := by rw [beq_eq_false_iff_ne]; omega
      have x1 := h.at a 10 (by omega) (by omega)
      rw [show (l[a]'(by omega)).cells[10]? = some _ from rfl] at x1
      have y1 := h.free (a * 13 + 10)
      obtain ⟨hO1, hF1⟩ := h.mod a 10 (.int .i64 b) (fun n => { n with nxt := (b : Int) }) (by omega) (by omega) (fun n => ⟨rfl, rfl, rfl, rfl⟩)
      have z1 := hO1.cell
      rw [List.length_modify] at z1
      have x2 := hO1.at b 9 (by rw [List.length_modify]; omega) (by omega)
      rw [show ((l.modify a (fun n => { n with nxt := (b : Int) }))[b]'(by rw [List.length_modify]; omega)).cells[9]? = some _ from rfl] at x2
      have y2 := hO1.free (b * 13 + 9)
      obtain ⟨hO2, hF2⟩ := hO1.mod b 9 (.int .i64 a) (fun n => { n with prv := (a : Int) }) (by rw [List.length_modify]; omega) (by omega) (fun n => ⟨rfl, rfl, rfl, rfl⟩)
      have HR := Go.Lib.hid (show ArO _ B p g cap (joinL l up (a : Int) (b : Int)) from by unfold joinL; dsimp only; rw [if_neg (show ¬ (a : Int) = -1 by omega)]; rw [if_neg (show ¬ (b : Int) = -1 by omega)]; simp only [Int.toNat_natCast]; exact hO2)
      have HF := Go.Lib.hid (hF1.trans hF2)
      clear hO1 hO2 hF1 hF2
      go_enter Tryz.func45, Tryz.ntmps45
      go_wp2
      go_end0
      exact ⟨rfl, HR.out, HF.out⟩
end Go.Proofs.YthfdiinfeljeeaaGreatDoor
/- Is a node above another one? -/
namespace Go.Proofs.YthfdiinfeljeeaaGreatDoor
open Go.RowKit
/-- One step up: the parent, or of a fragment its template. -/
def upI (l : List Nd) (i : Nat) : Int := match l[i]? with
  | some n => if n.up = -1 then n.host else n.up
  | none => -1
def aboveL (l : List Nd) : Nat → Int → Int → Bool
  | 0, _, _ => false
  | f + 1, i, o => if i = o then true else if i = -1 then false else aboveL l f (upI l i.toNat) o
/-- No node is above itself: there is a rank. -/
def Ranked (l : List Nd) (rk : Nat → Nat) : Prop := ∀ i, i < l.length → upI l i = -1 ∨ ∃ j : Nat, upI l i = j ∧ j < l.length ∧ rk j < rk i
def rkI (rk : Nat → Nat) (v : Value) : Nat := match v with
  | .int _ n => if n < 0 then 0 else rk n.toNat + 1
  | _ => 0
set_option maxHeartbeats 2000000 in
set_option maxRecDepth 100000 in
theorem above44 (B p g cap : Nat) (l : List Nd) (rk : Nat → Nat) (i o f : Nat) (w : World) (h : ArO w B p g cap l) (hU : Ranked l rk) (hi : i < l.length) (ho : o < l.length) (hf : rk i + 1 < f) :
    Calls Tryz.prog 44 #[.pointer (some ⟨p, 0, none⟩), .int .i64 i, .int .i64 o] w fun e w' => e = .returned (.bool (aboveL l f i o)) ∧ Below w.heap.size w w' := by
  have hi1 : decide (0 ≤ (i : Int) ∧ (i : Int) < l.length) = true := decide_eq_true ⟨by omega, by omega⟩
  have ho1 : decide (0 ≤ (o : Int) ∧ (o : Int) < l.length) = true := decide_eq_true ⟨by omega, by omega⟩
  have H1 := fun W (hW : ArO W B p g cap l) => has42 B p l i W hW.shut
  have H2 := fun W (hW : ArO W B p g cap l) => has42 B p l o W hW.shut
  rw [hi1] at H1
  rw [ho1] at H2
  clear hi1 ho1
  have HU := Go.Lib.hid hU
  clear hU
  go_enter Tryz.func44, Tryz.ntmps44
  go_wp2_with fail
  refine (none35 B p l _ h.shut).mono ?_
  rintro e w1 ⟨rfl, rfl⟩
  go_wp2_with fail
  refine (H1 _ h).mono ?_
  rintro e w1 ⟨rfl, rfl⟩
  go_wp2_with fail
  refine (H2 _ h).mono ?_
  rintro e w1 ⟨rfl, rfl⟩
  clear H1 H2
  go_wp2_with fail
  go_loopw [1] (fun v1 wr => ∃ (x : Int) (f' : Nat), v1 = .int .i64 x ∧ (x = -1 ∨ ∃ j : Nat, x = j ∧ j < l.length ∧ rk j + 1 < f') ∧ 0 < f' ∧ Go.RowKit.Hid (aboveL l f' x o = aboveL l f i o) ∧ Below w.heap.size w wr) (fun v1 _ => rkI rk v1)
  case atStart => exact ⟨i, f, rfl, .inr ⟨i, rfl, hi, hf⟩, by omega, rfl, Below.refl _ _⟩
  case round =>
    obtain ⟨x, f', rfl, hx, hf', hfx, hb⟩ := hrel
    obtain ⟨f', rfl⟩ : ∃ m, f' = m + 1 := ⟨f' - 1, by omega⟩
    by_cases hxo : x = o
    · subst hxo
      have HR := Go.Lib.hid (show aboveL l f i o = true by rw [← hfx.out, aboveL, if_pos rfl])
      go_wp2
      go_ret
      exact ⟨ret_bool HR.out.symm, hb⟩
    · have hne : (x == (o : Int)) = false := by rw [beq_eq_false_iff_ne]; exact hxo
      have hne2 : (x != (o : Int)) = true := by rw [bne, hne]; rfl
      rcases hx with rfl | ⟨j, rfl, hj, hjf⟩
      · have HR := Go.Lib.hid (show aboveL l f i o = false by rw [← hfx.out, aboveL, if_neg hxo, if_pos rfl])
        clear hxo
        go_wp2
        go_ret
        exact ⟨ret_bool HR.out.symm, hb⟩
      · have hA := h.below hb
        have hc := hA.cell
        have k0 := hA.at j 0 hj (by omega)
        have k1 := hA.at j 1 hj (by omega)
        have k2 := hA.at j 2 hj (by omega)
        have k3 := hA.at j 3 hj (by omega)
        have k4 := hA.at j 4 hj (by omega)
        have k5 := hA.at j 5 hj (by omega)
        have k6 := hA.at j 6 hj (by omega)
        have k7 := hA.at j 7 hj (by omega)
        have k8 := hA.at j 8 hj (by omega)
        have k9 := hA.at j 9 hj (by omega)
        have k10 := hA.at j 10 hj (by omega)
        have k11 := hA.at j 11 hj (by omega)
        have k12 := hA.at j 12 hj (by omega)
        rw [Nat.add_zero] at k0
        have hup : upI l j = if (l[j]).up = -1 then (l[j]).host else (l[j]).up := by rw [upI, List.getElem?_eq_getElem hj]
        have hst : aboveL l f' (upI l j) o = aboveL l f i o := by rw [← hfx.out, aboveL, if_neg hxo, if_neg (by omega)]; rfl
        have hnx := HU.out j hj
        rw [hup] at hst hnx
        clear hup hxo
        obtain ⟨n, hn⟩ : ∃ n, n = l[j] := ⟨_, rfl⟩
        rw [← hn] at hst hnx k0 k1 k2 k3 k4 k5 k6 k7 k8 k9 k10 k11 k12
        clear hn
        have HS := Go.Lib.hid hst
        have j0 : (0 : Int) ≤ j := by omega
        have j1 : (j : Int) < l.length := by omega
        have jn : ((j : Int) != -1) = true := by rw [bne, beq_eq_false_iff_ne.2 (by omega)]; rfl
        clear hst
        rw [show n.cells[0]? = some (.int .i64 n.kind) from rfl] at k0
        rw [show n.cells[1]? = some (.int .i64 n.space) from rfl] at k1
        rw [show n.cells[2]? = some (.string n.name) from rfl] at k2
        rw [show n.cells[3]? = some (.slice n.aa n.al.length n.ac) from rfl] at k3
        rw [show n.cells[4]? = some (.string n.data) from rfl] at k4
        rw [show n.cells[5]? = some (.string n.sys) from rfl] at k5
        rw [show n.cells[6]? = some (.int .i64 n.up) from rfl] at k6
        rw [show n.cells[7]? = some (.int .i64 n.fst) from rfl] at k7
        rw [show n.cells[8]? = some (.int .i64 n.lst) from rfl] at k8
        rw [show n.cells[9]? = some (.int .i64 n.prv) from rfl] at k9
        rw [show n.cells[10]? = some (.int .i64 n.nxt) from rfl] at k10
        rw [show n.cells[11]? = some (.int .i64 n.inn) from rfl] at k11
        rw [show n.cells[12]? = some (.int .i64 n.host) from rfl] at k12
        by_cases hu : n.up = -1
        · rw [if_pos hu] at hnx
          have HS2 := Go.Lib.hid (show aboveL l f' n.host o = aboveL l f i o by rw [← HS.out, if_pos hu])
          rw [hu] at k6
          clear hu
          go_wp2
          have hb2 := bal hb (.cells #[.int .i64 n.kind, .int .i64 n.space, .string n.name, .slice n.aa n.al.length n.ac, .string n.data, .string n.sys, .int .i64 (-1), .int .i64 n.fst, .int .i64 n.lst, .int .i64 n.prv, .int .i64 n.nxt, .int .i64 n.inn, .int .i64 n.host] 74)
          go_roundw
          case rel =>
            refine ⟨n.host, f', rfl, ?_, by omega, HS2, hb2⟩
            rcases hnx with h1 | ⟨j', h1, h2, h3⟩
            · exact .inl h1
            · exact .inr ⟨j', h1, h2, by omega⟩
          case measure =>
            rcases hnx with h1 | ⟨j', h1, h2, h3⟩
            · rw [h1]; simp only [rkI]; rw [if_pos (by omega), if_neg (by omega)]; omega
            · rw [h1]; simp only [rkI]; rw [if_neg (by omega), if_neg (by omega)]; simp only [Int.toNat_natCast]; omega
        · rw [if_neg hu] at hnx
          have HS2 := Go.Lib.hid (show aboveL l f' n.up o = aboveL l f i o by rw [← HS.out, if_neg hu])
          have hub : (n.up == -1) = false := by rw [beq_eq_false_iff_ne]; exact hu
          clear hu
          go_wp2
          have hb2 := bal hb (.cells #[.int .i64 n.kind, .int .i64 n.space, .string n.name, .slice n.aa n.al.length n.ac, .string n.data, .string n.sys, .int .i64 n.up, .int .i64 n.fst, .int .i64 n.lst, .int .i64 n.prv, .int .i64 n.nxt, .int .i64 n.inn, .int .i64 n.host] 74)
          go_roundw
          case rel =>
            refine ⟨n.up, f', rfl, ?_, by omega, HS2, hb2⟩
            rcases hnx with h1 | ⟨j', h1, h2, h3⟩
            · exact .inl h1
            · exact .inr ⟨j', h1, h2, by omega⟩
          case measure =>
            rcases hnx with h1 | ⟨j', h1, h2, h3⟩
            · rw [h1]; simp only [rkI]; rw [if_pos (by omega), if_neg (by omega)]; omega
            · rw [h1]; simp only [rkI]; rw [if_neg (by omega), if_neg (by omega)]; simp only [Int.toNat_natCast]; omega
end Go.Proofs.YthfdiinfeljeeaaGreatDoor
/- A node becomes the last child of another one. -/
namespace Go.Proofs.YthfdiinfeljeeaaGreatDoor
open Go.RowKit
def nd0 : Nd := kindN 0 ⟨#[]⟩
/-- What a link answers, and the arena behind it. -/
def linkR (l : List Nd) (f : Nat) (up id : Int) : Int × List Nd :=
  if ¬ (0 ≤ up ∧ up < l.length) ∨ ¬ (0 ≤ id ∧ id < l.length) then (6, l)
  else if parB (l.getD up.toNat nd0).kind = false ∨ (l.getD id.toNat nd0).kind = 0 ∨ (l.getD id.toNat nd0).kind = 5 then (10, l)
  else if (l.getD id.toNat nd0).up ≠ -1 ∨ aboveL l f up id = true then (11, l)
  else (0, joinL (joinL (l.modify id.toNat fun n => { n with up := up, prv := (l.getD up.toNat nd0).lst, nxt := -1 }) up (l.getD up.toNat nd0).lst id) up id (-1))
theorem joinL_len (l : List Nd) (a b c : Int) : (joinL l a b c).length = l.length := by
  unfold joinL
  dsimp only
  split <;> split <;> simp
theorem getD_of {l : List Nd} {i : Nat} (h : i < l.length) : l.getD i nd0 = l[i] := by
  rw [List.getD_eq_getElem?_getD, List.getElem?_eq_getElem h]
  rfl
set_option maxHeartbeats 4000000 in
set_option maxRecDepth 100000 in
theorem link14 (B p g cap : Nat) (l : List Nd) (rk : Nat → Nat) (f : Nat) (up id : Int) (w : World) (h : ArO w B p g cap l) (hB : B ≤ w.heap.size) (hU : Ranked l rk) (hf : ∀ i, i < l.length → rk i + 1 < f) (hlst : ∀ i (hi : i < l.length), (l[i]).lst = -1 ∨ (0 ≤ (l[i]).lst ∧ (l[i]).lst < l.length)) :
    Calls Tryz.prog 14 #[.pointer (some ⟨p, 0, none⟩), .int .i64 up, .int .i64 id, .int .i64 (-1)] w fun e w' => e = .returned (.int .i64 (linkR l f up id).1) ∧ ArO w' B p g cap (linkR l f up id).2 ∧ Fr B [74, 78] w w' := by
  have HU := Go.Lib.hid (⟨hU, hf, hlst⟩ : Ranked l rk ∧ (∀ i, i < l.length → rk i + 1 < f) ∧ ∀ i (hi : i < l.length), (l[i]).lst = -1 ∨ (0 ≤ (l[i]).lst ∧ (l[i]).lst < l.length))
  clear hU hf hlst
  have h35 := none35 B p l w h.shut
  have h42u := has42 B p l up w h.shut
  have h42i := has42 B p l id w h.shut
  by_cases hu : 0 ≤ up ∧ up < l.length
  · rw [decide_eq_true hu] at h42u
    by_cases hi : 0 ≤ id ∧ id < l.length
    · rw [decide_eq_true hi] at h42i
      obtain ⟨u, rfl⟩ : ∃ u : Nat, up = u := ⟨up.toNat, by omega⟩
      obtain ⟨i, rfl⟩ : ∃ i : Nat, id = i := ⟨id.toNat, by omega⟩
      have hu' : u < l.length := by omega
      have hi' : i < l.length := by omega
      have HE := Go.Lib.hid (show linkR l f u i = _ by unfold linkR; rw [if_neg (fun h => h.elim (fun h => h hu) (fun h => h hi))])
      simp only [Int.toNat_natCast] at HE
      rw [getD_of hu', getD_of hi'] at HE
      have hc := h.cell
      have ku := h.at u 0 hu' (by omega)
      have ki := h.at i 0 hi' (by omega)
      have ki6 := h.at i 6 hi' (by omega)
      have ku8 := h.at u 8 hu' (by omega)
      rw [Nat.add_zero] at ku ki
      rw [show (l[u]).cells[0]? = some (.int .i64 (l[u]).kind) from rfl] at ku
      rw [show (l[i]).cells[0]? = some (.int .i64 (l[i]).kind) from rfl] at ki
      rw [show (l[i]).cells[6]? = some (.int .i64 (l[i]).up) from rfl] at ki6
      rw [show (l[u]).cells[8]? = some (.int .i64 (l[u]).lst) from rfl] at ku8
      have P := parent43 (l[u]).kind
      have u0 : (0 : Int) ≤ u := by omega
      have u1 : (u : Int) < l.length := by omega
      have i0 : (0 : Int) ≤ i := by omega
      have i1 : (i : Int) < l.length := by omega
      by_cases hk : parB (l[u]).kind = false ∨ (l[i]).kind = 0 ∨ (l[i]).kind = 5
      · have HE2 := Go.Lib.hid (HE.out.trans (if_pos hk))
        clear hu hi
        cases hp : parB (l[u]).kind with
        | false =>
          rw [hp] at P
          clear hk hp
          go_enter Tryz.func14, Tryz.ntmps14
          go_wp2_with (first
            | (go_at_call 35; refine h35.mono ?_; rintro e w1 ⟨rfl, rfl⟩)
            | (go_at_call 42; (with_reducible refine h42u.mono ?_); rintro e w1 ⟨rfl, rfl⟩)
            | (go_at_call 42; (with_reducible refine h42i.mono ?_); rintro e w1 ⟨rfl, rfl⟩)
            | (go_at_call 43; refine (P _).mono ?_; rintro e w1 ⟨rfl, rfl⟩))
          go_ret
          exact ⟨by rw [HE2.out]; rfl, by rw [HE2.out]; exact h, Fr.refl _ _ _⟩
        | true =>
          rw [hp] at P
          rcases hk with hk | hk | hk
          · rw [hp] at hk; cases hk
          · have q0 : ((l[i]).kind == 0) = true := by rw [hk]; rfl
            clear hk hp
            go_enter Tryz.func14, Tryz.ntmps14
            go_wp2_with (first
              | (go_at_call 35; refine h35.mono ?_; rintro e w1 ⟨rfl, rfl⟩)
              | (go_at_call 42; (with_reducible refine h42u.mono ?_); rintro e w1 ⟨rfl, rfl⟩)
              | (go_at_call 42; (with_reducible refine h42i.mono ?_); rintro e w1 ⟨rfl, rfl⟩)
              | (go_at_call 43; refine (P _).mono ?_; rintro e w1 ⟨rfl, rfl⟩))
            go_ret
            exact ⟨by rw [HE2.out]; rfl, by rw [HE2.out]; exact h, Fr.refl _ _ _⟩
          · have q0 : ((l[i]).kind == 0) = false := by rw [hk]; rfl
            have q5 : ((l[i]).kind == 5) = true := by rw [hk]; rfl
            clear hk hp
            go_enter Tryz.func14, Tryz.ntmps14
            go_wp2_with (first
              | (go_at_call 35; refine h35.mono ?_; rintro e w1 ⟨rfl, rfl⟩)
              | (go_at_call 42; (with_reducible refine h42u.mono ?_); rintro e w1 ⟨rfl, rfl⟩)
              | (go_at_call 42; (with_reducible refine h42i.mono ?_); rintro e w1 ⟨rfl, rfl⟩)
              | (go_at_call 43; refine (P _).mono ?_; rintro e w1 ⟨rfl, rfl⟩))
            go_ret
            exact ⟨by rw [HE2.out]; rfl, by rw [HE2.out]; exact h, Fr.refl _ _ _⟩
      · have HE2 := Go.Lib.hid (HE.out.trans (if_neg hk))
        clear hu hi
        cases hp : parB (l[u]).kind with
        | false => exact absurd (.inl hp) hk
        | true =>
          rw [hp] at P
          have q0 : ((l[i]).kind == 0) = false := by rw [beq_eq_false_iff_ne]; exact fun e => hk (.inr (.inl e))
          have q5 : ((l[i]).kind == 5) = false := by rw [beq_eq_false_iff_ne]; exact fun e => hk (.inr (.inr e))
          clear hk hp
          have A := above44 B p g cap l rk u i f w h HU.out.1 hu' hi' (HU.out.2.1 u hu')
          by_cases hup : (l[i]).up = -1
          · rw [hup] at ki6
            cases hab : aboveL l f u i with
            | true =>
              rw [hab] at A
              have HE3 := Go.Lib.hid (HE2.out.trans (if_pos (.inr hab)))
              clear hup hab
              go_enter Tryz.func14, Tryz.ntmps14
              go_wp2_with (first
                | (go_at_call 35; refine h35.mono ?_; rintro e w1 ⟨rfl, rfl⟩)
                | (go_at_call 42; (with_reducible refine h42u.mono ?_); rintro e w1 ⟨rfl, rfl⟩)
                | (go_at_call 42; (with_reducible refine h42i.mono ?_); rintro e w1 ⟨rfl, rfl⟩)
                | (go_at_call 43; refine (P _).mono ?_; rintro e w1 ⟨rfl, rfl⟩)
                | (go_at_call 44; refine A.mono ?_; rintro e w2 ⟨rfl, hb2⟩))
              go_ret
              exact ⟨by rw [HE3.out]; rfl, by rw [HE3.out]; exact h.below hb2, Fr.of_below hB hb2⟩
            | false =>
              rw [hab] at A
              have HE3 := Go.Lib.hid (HE2.out.trans (if_neg (fun h => h.elim (fun h => h hup) (fun h => by rw [hab] at h; cases h))))
              clear hup hab
              go_enter Tryz.func14, Tryz.ntmps14
              go_wp2_with (first
                | (go_at_call 35; refine h35.mono ?_; rintro e w1 ⟨rfl, rfl⟩)
                | (go_at_call 42; (with_reducible refine h42u.mono ?_); rintro e w1 ⟨rfl, rfl⟩)
                | (go_at_call 42; (with_reducible refine h42i.mono ?_); rintro e w1 ⟨rfl, rfl⟩)
                | (go_at_call 43; refine (P _).mono ?_; rintro e w1 ⟨rfl, rfl⟩))
              refine A.mono ?_
              rintro e w2 ⟨rfl, hb2⟩
              have hA := h.below hb2
              have hF0 : Fr B [74, 78] w w2 := Fr.of_below hB hb2
              have hpv := HU.out.2.2 u hu'
              have ku8' := hA.at u 8 hu' (by omega)
              rw [show (l[u]).cells[8]? = some (.int .i64 (l[u]).lst) from rfl] at ku8'
              obtain ⟨pr, hpr⟩ : ∃ pr, pr = (l[u]).lst := ⟨_, rfl⟩
              rw [← hpr] at hpv HE3 ku8'
              clear h h35 h42u h42i P A q0 q5 ku ki ki6 ku8 hc hb2 hpr
              have hc := hA.cell
              have x6 := hA.at i 6 hi' (by omega)
              rw [show (l[i]).cells[6]? = some (.int .i64 (l[i]).up) from rfl] at x6
              have y6 := hA.free (i * 13 + 6)
              obtain ⟨hO1, hF1⟩ := hA.mod i 6 (.int .i64 (u : Int)) (fun n => { n with up := u }) hi' (by omega) (fun n => ⟨rfl, rfl, rfl, rfl⟩)
              have x9 := hO1.at i 9 (by rw [List.length_modify]; exact hi') (by omega)
              rw [show ((l.modify i (fun n => { n with up := (u : Int) }))[i]'(by rw [List.length_modify]; exact hi')).cells[9]? = some (.int .i64 _) from rfl] at x9
              have y9 := hO1.free (i * 13 + 9)
              obtain ⟨hO2, hF2⟩ := hO1.mod i 9 (.int .i64 pr) (fun n => { n with prv := pr }) (by rw [List.length_modify]; exact hi') (by omega) (fun n => ⟨rfl, rfl, rfl, rfl⟩)
              have x10 := hO2.at i 10 (by rw [List.length_modify, List.length_modify]; exact hi') (by omega)
              rw [show (((l.modify i (fun n => { n with up := (u : Int) })).modify i (fun n => { n with prv := pr }))[i]'(by rw [List.length_modify, List.length_modify]; exact hi')).cells[10]? = some (.int .i64 _) from rfl] at x10
              have y10 := hO2.free (i * 13 + 10)
              obtain ⟨hO3, hF3⟩ := hO2.mod i 10 (.int .i64 (-1)) (fun n => { n with nxt := -1 }) (by rw [List.length_modify, List.length_modify]; exact hi') (by omega) (fun n => ⟨rfl, rfl, rfl, rfl⟩)
              rw [List.modify_modify_eq, List.modify_modify_eq] at hO3
              have hF := hF0.trans (hF1.trans (hF2.trans hF3))
              have hl3 : (l.modify i fun n => { n with up := (u : Int), prv := pr, nxt := -1 }).length = l.length := List.length_modify ..
              have J := join45 B p g cap (l.modify i fun n => { n with up := (u : Int), prv := pr, nxt := -1 }) u pr i _ hO3 (by omega) (by omega) (by omega)
              clear hO1 hO2 hO3 hF0 hF1 hF2 hF3 hpv
              go_wp2_with fail
              refine J.mono ?_
              rintro e w3 ⟨rfl, hO4, hF4⟩
              have hl4 := joinL_len (l.modify i fun n => { n with up := (u : Int), prv := pr, nxt := -1 }) u pr i
              have J2 := join45 B p g cap _ u i (-1) _ hO4 (by omega) (by omega) (by omega)
              clear J
              go_wp2_with fail
              refine J2.mono ?_
              rintro e w4 ⟨rfl, hO5, hF5⟩
              clear J2 hl3 hl4
              go_wp2
              go_ret
              exact ⟨by rw [HE3.out]; rfl, by rw [HE3.out]; exact hO5, (hF.trans hF4).trans hF5⟩
          · have HE3 := Go.Lib.hid (HE2.out.trans (if_pos (.inl hup)))
            have qu : ((l[i]).up != -1) = true := by rw [bne, beq_eq_false_iff_ne.2 hup]; rfl
            clear hup A
            go_enter Tryz.func14, Tryz.ntmps14
            go_wp2_with (first
              | (go_at_call 35; refine h35.mono ?_; rintro e w1 ⟨rfl, rfl⟩)
              | (go_at_call 42; (with_reducible refine h42u.mono ?_); rintro e w1 ⟨rfl, rfl⟩)
              | (go_at_call 42; (with_reducible refine h42i.mono ?_); rintro e w1 ⟨rfl, rfl⟩)
              | (go_at_call 43; refine (P _).mono ?_; rintro e w1 ⟨rfl, rfl⟩))
            go_ret
            exact ⟨by rw [HE3.out]; rfl, by rw [HE3.out]; exact h, Fr.refl _ _ _⟩
    · rw [decide_eq_false hi] at h42i
      have HE2 := Go.Lib.hid (show linkR l f up id = (6, l) by unfold linkR; rw [if_pos (.inr hi)])
      clear hu hi
      go_enter Tryz.func14, Tryz.ntmps14
      go_wp2_with (first
        | (go_at_call 35; refine h35.mono ?_; rintro e w1 ⟨rfl, rfl⟩)
        | (go_at_call 42; (with_reducible refine h42u.mono ?_); rintro e w1 ⟨rfl, rfl⟩)
        | (go_at_call 42; (with_reducible refine h42i.mono ?_); rintro e w1 ⟨rfl, rfl⟩))
      go_ret
      exact ⟨by rw [HE2.out]; rfl, by rw [HE2.out]; exact h, Fr.refl _ _ _⟩
  · rw [decide_eq_false hu] at h42u
    have HE2 := Go.Lib.hid (show linkR l f up id = (6, l) by unfold linkR; rw [if_pos (.inl hu)])
    clear hu
    go_enter Tryz.func14, Tryz.ntmps14
    go_wp2_with (first
      | (go_at_call 35; refine h35.mono ?_; rintro e w1 ⟨rfl, rfl⟩)
      | (go_at_call 42; (with_reducible refine h42u.mono ?_); rintro e w1 ⟨rfl, rfl⟩))
    go_ret
    exact ⟨by rw [HE2.out]; rfl, by rw [HE2.out]; exact h, Fr.refl _ _ _⟩
end Go.Proofs.YthfdiinfeljeeaaGreatDoor
/- A new arena; what there is to say of a node. -/
namespace Go.Proofs.YthfdiinfeljeeaaGreatDoor
open Go.RowKit
theorem results_cell_and {P : Program} {fn : Func} {p u : Tmp} {ty : TypeId} (h : fn.results = #[.cell p ty, .tmp u]) (tmps : Array Value) (w : World) (g : Nat) (t : TypeId) (cs : Array Value) (fr : Nat × Nat) (d : TypeDesc)
    (hp : tmps.getD p undef = .pointer (some ⟨g, 0, none⟩)) (hg : w.heap[g]? = some (.cells cs t fr))
    (hu : P.underlying ty = some d) (hd : (match d with | .struct _ | .array _ _ => true | _ => false) = true) (hi : (P.info? ty).map (·.size) = some cs.size) :
    (results fn tmps).run P w = .ok (.tuple #[.agg cs, tmps.getD u undef]) w := by
  rw [results_cell_tmp h, hp]
  simp only [asAddr, Sem.run_pure, Result.andThen_ok, run_loadVar_row w g t ty cs fr d hg hu hd hi]
set_option maxRecDepth 100000 in
theorem new10 (B : Nat) (w : World) (hB : B ≤ w.heap.size) : Calls Tryz.prog 10 #[] w fun e w' => ∃ p, e = .returned (.pointer (some ⟨p, 0, none⟩)) ∧ Ar w' B p [blankN (kindN 0 ⟨#[]⟩)] ∧ w.heap.size ≤ p ∧ Below w.heap.size w w' := by
  have P := blank34 (kindN 0 ⟨#[]⟩) w
  go_enter Tryz.func10, Tryz.ntmps10
  go_wp2_with fail
  refine P.mono ?_
  rintro e w1 ⟨rfl, hb1⟩
  have hs := hb1.size
  dsimp only [blankN, kindN, Nd.arr]
  go_wp2
  go_ret
  have hown := World.ownsRow_lit (base := B) (e := 74) (size := 13) w1 (blankN (kindN 0 ⟨#[]⟩)).arr 1 (by omega) (by decide) rfl
  refine ⟨w1.heap.size + 1, rfl, ⟨⟨w1.heap.size, 1, at_new _ _ _ (by simp), ?_⟩, fun n hn => ?_, by simp, by omega⟩, by omega, bal (bal hb1 _) _⟩
  · have h2 := hown.alloc (.cells #[.slice (some ⟨w1.heap.size, 0, none⟩) 1 1] 78)
    exact h2
  · obtain rfl : n = blankN (kindN 0 ⟨#[]⟩) := by simpa using hn
    exact .inl ⟨rfl, rfl, rfl⟩
/-- A node's value, its attributes in a block of their own. -/
def Nd.look (n : Nd) (b : Nat) : Array Value := #[.int .i64 n.kind, .int .i64 n.space, .string n.name, .slice (some ⟨b, 0, none⟩) n.al.length n.al.length, .string n.data, .string n.sys, .int .i64 n.up, .int .i64 n.fst, .int .i64 n.lst, .int .i64 n.prv, .int .i64 n.nxt, .int .i64 n.inn]
theorem AtA.rdN {w : World} {n : Nd} (h : AtA w n) : RdN w n.aa n.al := fun j u hu => by
  rcases h with ⟨_, h2, _⟩ | ⟨b, h1, _, h3⟩
  · rw [h2] at hu; simp [cellsA] at hu
  · refine ⟨_, h1, ?_⟩
    rw [addr_add, Nat.zero_add, blk_cells h3 j]
    simpa using hu
theorem fill12 (w3 : World) (r t : Nat) (x v0 v1 v2 v3 v4 v5 v6 v7 v8 v9 v10 v11 z0 z1 z2 z3 z4 z5 z6 z7 z8 z9 z10 z11 : Value) (h : w3.heap[r]? = some (.cells #[z0, z1, z2, z3, z4, z5, z6, z7, z8, z9, z10, z11] t (0, 0))) :
    ((((((((((((((w3.setCell ⟨r + 1, 3, none⟩ x).setCell ⟨r, 0, none⟩ v0).setCell ⟨r, 1, none⟩ v1).setCell ⟨r, 2, none⟩ v2).setCell ⟨r, 3, none⟩ v3).setCell ⟨r, 4, none⟩ v4).setCell ⟨r, 5, none⟩ v5).setCell ⟨r, 6, none⟩ v6).setCell ⟨r, 7, none⟩ v7).setCell ⟨r, 8, none⟩ v8).setCell ⟨r, 9, none⟩ v9).setCell ⟨r, 10, none⟩ v10).setCell ⟨r, 11, none⟩ v11)).heap[r]? = some (.cells #[v0, v1, v2, v3, v4, v5, v6, v7, v8, v9, v10, v11] t (0, 0)) ∧ (∀ k y, k ≠ r → k ≠ r + 1 → w3.heap[k]? = some y → ((((((((((((((w3.setCell ⟨r + 1, 3, none⟩ x).setCell ⟨r, 0, none⟩ v0).setCell ⟨r, 1, none⟩ v1).setCell ⟨r, 2, none⟩ v2).setCell ⟨r, 3, none⟩ v3).setCell ⟨r, 4, none⟩ v4).setCell ⟨r, 5, none⟩ v5).setCell ⟨r, 6, none⟩ v6).setCell ⟨r, 7, none⟩ v7).setCell ⟨r, 8, none⟩ v8).setCell ⟨r, 9, none⟩ v9).setCell ⟨r, 10, none⟩ v10).setCell ⟨r, 11, none⟩ v11)).heap[k]? = some y) ∧
    (∀ B w0, B ≤ r → Below B w0 w3 → Below B w0 (((((((((((((w3.setCell ⟨r + 1, 3, none⟩ x).setCell ⟨r, 0, none⟩ v0).setCell ⟨r, 1, none⟩ v1).setCell ⟨r, 2, none⟩ v2).setCell ⟨r, 3, none⟩ v3).setCell ⟨r, 4, none⟩ v4).setCell ⟨r, 5, none⟩ v5).setCell ⟨r, 6, none⟩ v6).setCell ⟨r, 7, none⟩ v7).setCell ⟨r, 8, none⟩ v8).setCell ⟨r, 9, none⟩ v9).setCell ⟨r, 10, none⟩ v10).setCell ⟨r, 11, none⟩ v11)) := by
  refine ⟨?_, fun k y h1 h2 hy => set_blk_ne (set_blk_ne (set_blk_ne (set_blk_ne (set_blk_ne (set_blk_ne (set_blk_ne (set_blk_ne (set_blk_ne (set_blk_ne (set_blk_ne (set_blk_ne (set_blk_ne hy h2 x) h1 v0) h1 v1) h1 v2) h1 v3) h1 v4) h1 v5) h1 v6) h1 v7) h1 v8) h1 v9) h1 v10) h1 v11, fun B w0 hB hb => ((((((((((((hb.setCell (p := ⟨r + 1, 3, none⟩) (Nat.le_succ_of_le hB) x).setCell (p := ⟨r, 0, none⟩) hB v0).setCell (p := ⟨r, 1, none⟩) hB v1).setCell (p := ⟨r, 2, none⟩) hB v2).setCell (p := ⟨r, 3, none⟩) hB v3).setCell (p := ⟨r, 4, none⟩) hB v4).setCell (p := ⟨r, 5, none⟩) hB v5).setCell (p := ⟨r, 6, none⟩) hB v6).setCell (p := ⟨r, 7, none⟩) hB v7).setCell (p := ⟨r, 8, none⟩) hB v8).setCell (p := ⟨r, 9, none⟩) hB v9).setCell (p := ⟨r, 10, none⟩) hB v10).setCell (p := ⟨r, 11, none⟩) hB v11⟩
  have hf := set_blk (i := 11) (set_blk (i := 10) (set_blk (i := 9) (set_blk (i := 8) (set_blk (i := 7) (set_blk (i := 6) (set_blk (i := 5) (set_blk (i := 4) (set_blk (i := 3) (set_blk (i := 2) (set_blk (i := 1) (set_blk (i := 0) (set_blk_ne (b := r + 1) (i := 3) h (by omega) x) v0) v1) v2) v3) v4) v5) v6) v7) v8) v9) v10) v11
  simpa only [List.setIfInBounds_toArray, List.set_cons_zero, List.set_cons_succ] using hf
def NodePost (n : Nd) (w : World) (e : Ending) (w' : World) : Prop := ∃ b, e = .returned (.tuple #[.agg (n.look b), .int .i64 0]) ∧ w'.heap[b]? = some (.cells (cellsA n.al).toArray 80 (0, 0)) ∧ w.heap.size ≤ b ∧ Below w.heap.size w w'
set_option maxHeartbeats 2000000 in
set_option maxRecDepth 100000 in
theorem node21 (B p g cap : Nat) (l : List Nd) (i : Nat) (w : World) (h : ArO w B p g cap l) (hi : i < l.length) (hal : (l[i]).al.length ≤ 1024) : Calls Tryz.prog 21 #[.pointer (some ⟨p, 0, none⟩), .int .i64 i] w (NodePost (l[i]) w) := by
  have hb0 : Below w.heap.size w (w.alloc (.cells #[.int .i64 0, .int .i64 0, .string ⟨#[]⟩, .slice none 0 0, .string ⟨#[]⟩, .string ⟨#[]⟩, .int .i64 0, .int .i64 0, .int .i64 0, .int .i64 0, .int .i64 0, .int .i64 0] 52)) := bal (Below.refl _ _) _
  have hz := at_new w (.cells #[.int .i64 0, .int .i64 0, .string ⟨#[]⟩, .slice none 0 0, .string ⟨#[]⟩, .string ⟨#[]⟩, .int .i64 0, .int .i64 0, .int .i64 0, .int .i64 0, .int .i64 0, .int .i64 0] 52) _ rfl
  have hsz : (w.alloc (.cells #[.int .i64 0, .int .i64 0, .string ⟨#[]⟩, .slice none 0 0, .string ⟨#[]⟩, .string ⟨#[]⟩, .int .i64 0, .int .i64 0, .int .i64 0, .int .i64 0, .int .i64 0, .int .i64 0] 52)).heap.size = w.heap.size + 1 := by simp
  have hi1 : decide (0 ≤ (i : Int) ∧ (i : Int) < l.length) = true := decide_eq_true ⟨by omega, by omega⟩
  go_enter Tryz.func21, Tryz.ntmps21
  go_wp2_with fail
  generalize w.alloc (.cells #[.int .i64 0, .int .i64 0, .string ⟨#[]⟩, .slice none 0 0, .string ⟨#[]⟩, .string ⟨#[]⟩, .int .i64 0, .int .i64 0, .int .i64 0, .int .i64 0, .int .i64 0, .int .i64 0] 52) = W1 at *
  have h := h.below hb0
  refine (none35 B p l _ h.shut).mono ?_
  rintro e w1 ⟨rfl, rfl⟩
  go_wp2_with fail
  refine (has42 B p l i _ h.shut).mono ?_
  rw [hi1]
  rintro e w1 ⟨rfl, rfl⟩
  have hc := h.cell
  have k0 := h.at i 0 hi (by omega)
  have k1 := h.at i 1 hi (by omega)
  have k2 := h.at i 2 hi (by omega)
  have k3 := h.at i 3 hi (by omega)
  have k4 := h.at i 4 hi (by omega)
  have k5 := h.at i 5 hi (by omega)
  have k6 := h.at i 6 hi (by omega)
  have k7 := h.at i 7 hi (by omega)
  have k8 := h.at i 8 hi (by omega)
  have k9 := h.at i 9 hi (by omega)
  have k10 := h.at i 10 hi (by omega)
  have k11 := h.at i 11 hi (by omega)
  rw [Nat.add_zero] at k0
  have hat := (h.at_ _ (List.getElem_mem hi)).rdN
  obtain ⟨n, hn⟩ : ∃ n, n = l[i] := ⟨_, rfl⟩
  rw [← hn] at hal hat k0 k1 k2 k3 k4 k5 k6 k7 k8 k9 k10 k11
  have HN := Go.Lib.hid hn
  clear hn
  rw [show n.cells[0]? = some (.int .i64 n.kind) from rfl] at k0
  rw [show n.cells[1]? = some (.int .i64 n.space) from rfl] at k1
  rw [show n.cells[2]? = some (.string n.name) from rfl] at k2
  rw [show n.cells[3]? = some (.slice n.aa n.al.length n.ac) from rfl] at k3
  rw [show n.cells[4]? = some (.string n.data) from rfl] at k4
  rw [show n.cells[5]? = some (.string n.sys) from rfl] at k5
  rw [show n.cells[6]? = some (.int .i64 n.up) from rfl] at k6
  rw [show n.cells[7]? = some (.int .i64 n.fst) from rfl] at k7
  rw [show n.cells[8]? = some (.int .i64 n.lst) from rfl] at k8
  rw [show n.cells[9]? = some (.int .i64 n.prv) from rfl] at k9
  rw [show n.cells[10]? = some (.int .i64 n.nxt) from rfl] at k10
  rw [show n.cells[11]? = some (.int .i64 n.inn) from rfl] at k11
  have i0 : (0 : Int) ≤ i := by omega
  have i1 : (i : Int) < l.length := by omega
  go_wp2_with fail
  have hz2 := at_old hz (.cells #[.int .i64 n.kind, .int .i64 n.space, .string n.name, .slice n.aa n.al.length n.ac, .string n.data, .string n.sys, .int .i64 n.up, .int .i64 n.fst, .int .i64 n.lst, .int .i64 n.prv, .int .i64 n.nxt, .int .i64 n.inn] 52)
  have hn2 := at_new W1 (.cells #[.int .i64 n.kind, .int .i64 n.space, .string n.name, .slice n.aa n.al.length n.ac, .string n.data, .string n.sys, .int .i64 n.up, .int .i64 n.fst, .int .i64 n.lst, .int .i64 n.prv, .int .i64 n.nxt, .int .i64 n.inn] 52) (w.heap.size + 1) hsz.symm
  have hs2 : (W1.alloc (.cells #[.int .i64 n.kind, .int .i64 n.space, .string n.name, .slice n.aa n.al.length n.ac, .string n.data, .string n.sys, .int .i64 n.up, .int .i64 n.fst, .int .i64 n.lst, .int .i64 n.prv, .int .i64 n.nxt, .int .i64 n.inn] 52)).heap.size = w.heap.size + 2 := by simp [hsz]
  have hb2 := bal hb0 (.cells #[.int .i64 n.kind, .int .i64 n.space, .string n.name, .slice n.aa n.al.length n.ac, .string n.data, .string n.sys, .int .i64 n.up, .int .i64 n.fst, .int .i64 n.lst, .int .i64 n.prv, .int .i64 n.nxt, .int .i64 n.inn] 52)
  have O := own37 n.aa n.ac n.al (W1.alloc (.cells #[.int .i64 n.kind, .int .i64 n.space, .string n.name, .slice n.aa n.al.length n.ac, .string n.data, .string n.sys, .int .i64 n.up, .int .i64 n.fst, .int .i64 n.lst, .int .i64 n.prv, .int .i64 n.nxt, .int .i64 n.inn] 52)) (hat.below (bal (Below.refl _ _) _)) (by omega)
  rw [hs2] at O
  clear hz hat k0 k1 k2 k3 k4 k5 k6 k7 k8 k9 k10 k11 hc h
  generalize W1.alloc (.cells #[.int .i64 n.kind, .int .i64 n.space, .string n.name, .slice n.aa n.al.length n.ac, .string n.data, .string n.sys, .int .i64 n.up, .int .i64 n.fst, .int .i64 n.lst, .int .i64 n.prv, .int .i64 n.nxt, .int .i64 n.inn] 52) = W2 at *
  refine O.mono ?_
  rintro e w3 ⟨rfl, hw3⟩
  have hz3 := at_old hz2 (.cells (cellsA n.al).toArray 80)
  have hn3 := at_old hn2 (.cells (cellsA n.al).toArray 80)
  have ha3 := at_new W2 (.cells (cellsA n.al).toArray 80) (w.heap.size + 2) hs2.symm
  have hb3 := bal hb2 (.cells (cellsA n.al).toArray 80)
  rw [hw3] at hz3 hn3 ha3 hb3
  clear hz2 hn2 hs2 hb2 O hw3 hsz hb0
  have cz := blk_cells hz3
  have cn := blk_cells hn3
  have fz := blk_free hz3
  have fn := blk_free hn3
  go_wp2
  obtain ⟨f1, f2, f3⟩ := fill12 w3 w.heap.size 52 (.slice (some ⟨w.heap.size + 2, 0, none⟩) n.al.length n.al.length) (.int .i64 n.kind) (.int .i64 n.space) (.string n.name) (.slice (some ⟨w.heap.size + 2, 0, none⟩) n.al.length n.al.length) (.string n.data) (.string n.sys) (.int .i64 n.up) (.int .i64 n.fst) (.int .i64 n.lst) (.int .i64 n.prv) (.int .i64 n.nxt) (.int .i64 n.inn) _ _ _ _ _ _ _ _ _ _ _ _ hz3
  have f2 := f2 _ _ (by omega) (by omega) ha3
  have f3 := f3 _ _ (Nat.le_refl _) hb3
  have HN' := HN.out
  subst HN'
  exact bodyPost_ret (results_cell_and rfl _ _ w.heap.size 52 _ (0, 0) _ rfl f1 Tryz.underlying52 rfl (by kernel_rfl)) rfl ⟨w.heap.size + 2, rfl, f2, by omega, f3⟩
end Go.Proofs.YthfdiinfeljeeaaGreatDoor
/- A node's children, gone over. -/
namespace Go.Proofs.YthfdiinfeljeeaaGreatDoor
open Go.RowKit Go.Shelf
attribute [local go_sem] Oper.semAt_some
/-- Children by their links: from c on. -/
def Chain (l : List Nd) : Int → List Nat → Prop
  | c, [] => c = -1
  | c, x :: r => c = x ∧ ∃ h : x < l.length, Chain l (l[x]).nxt r
theorem chain_unique (l : List Nd) : ∀ (xs ys : List Nat) (c : Int), Chain l c xs → Chain l c ys → xs = ys
  | [], [], _, _, _ => rfl
  | [], y :: ys, c, h1, h2 => by
    have a : c = -1 := h1
    have b := h2.1
    omega
  | x :: xs, [], c, h1, h2 => by
    have a := h1.1
    have b : c = -1 := h2
    omega
  | x :: xs, y :: ys, c, ⟨a, hx, h1⟩, ⟨b, hy, h2⟩ => by
    obtain rfl : x = y := by omega
    rw [chain_unique l xs ys _ h1 h2]
open Classical in
noncomputable def leftN (l : List Nd) (v : Value) : Nat := match v with
  | .int _ c => if h : ∃ xs, Chain l c xs then (Classical.choose h).length else 0
  | _ => 0
theorem leftN_eq {l : List Nd} {c : Int} {k : IntKind} {xs : List Nat} (h : Chain l c xs) : leftN l (.int k c) = xs.length := by
  have hx : ∃ xs, Chain l c xs := ⟨xs, h⟩
  unfold leftN
  dsimp only
  rw [dif_pos hx, chain_unique l _ _ c (Classical.choose_spec hx) h]
/-- What lies below a place is kept, but one block. -/
def KpX (n lb : Nat) (W W' : World) : Prop := ∀ k, k < n → k ≠ lb → W'.heap[k]? = W.heap[k]?
theorem KpX.trans {n lb : Nat} {a b c : World} (h : KpX n lb a b) (k : KpX n lb b c) : KpX n lb a c := fun i hi hn => (k i hi hn).trans (h i hi hn)
theorem KpX.put {n lb : Nat} (W : World) (l : Nat) (o' : Obj) (hl : n ≤ l) : KpX n lb W (W.putObj l o') := fun k hk _ => World.putObj_heap_other (by omega)
theorem KpX.aro {w w' : World} {n lb B p g cap : Nat} {l : List Nd} (h : ArO w B p g cap l) (hk : KpX n lb w w') (hp : p < n ∧ p ≠ lb) (hg : g < n ∧ g ≠ lb) (hat : ∀ m ∈ l, ∀ b, m.aa = some ⟨b, 0, none⟩ → b < n ∧ b ≠ lb) : ArO w' B p g cap l := by
  refine ⟨(hk p hp.1 hp.2).trans h.row, ?_, fun m hm => ?_, h.pos, h.base⟩
  · refine ⟨h.own.1, ?_⟩
    rcases h.own.2 with hn | ⟨g', cap', cur, hv, hb, hh, rest⟩
    · exact .inl hn
    · have e : g' = g := by injection hv with h1; injection h1 with h1; injection h1 with h1; exact h1.symm
      subst e
      exact .inr ⟨g', cap', cur, hv, hb, (hk g' hg.1 hg.2).trans hh, rest⟩
  · rcases h.at_ m hm with h1 | ⟨b, h1, h2, h3⟩
    · exact .inl h1
    · obtain ⟨x1, x2⟩ := hat m hm b h1
      exact .inr ⟨b, h1, h2, (hk b x1 x2).trans h3⟩
set_option maxRecDepth 100000 in
set_option maxHeartbeats 4000000 in
theorem children69 (F : Fence) (n : Nat) (h69 : F.fn 69) (hro : F.round = none) (hn : 1 ≤ n) (B p g cap : Nat) (l : List Nd) (i : Nat) (hi : i < l.length) (xs : List Nat) (b1 b2 n₀ lb ly : Nat)
    (J Jx : List Nat → World → Prop)
    (hY : ∀ (pre : List Nat) (x : Nat) (W : World), J pre W → pre.length < xs.length → YieldAt F (n - 1) Tryz.prog ly #[.int .i64 (x : Int)] W fun e W' =>
      (e = .returned (.bool true) ∧ J (pre ++ [x]) W' ∧ KpX n₀ lb W W') ∨ (e = .returned (.bool false) ∧ Jx (pre ++ [x]) W'))
    (hJd : ∀ pre W, J pre W → J pre W.drew)
    (W : World) (h : ArO W B p g cap l) (hk1 : W.heap[b1]? = some (.cells #[.pointer (some ⟨p, 0, none⟩)] 24 (0, 0))) (hk2 : W.heap[b2]? = some (.cells #[.int .i64 (i : Int)] 3 (0, 0)))
    (hb1 : b1 < n₀ ∧ b1 ≠ lb) (hp : p < n₀ ∧ p ≠ lb) (hg : g < n₀ ∧ g ≠ lb) (hat : ∀ m ∈ l, ∀ b, m.aa = some ⟨b, 0, none⟩ → b < n₀ ∧ b ≠ lb)
    (hch : Chain l (l[i]).fst xs) (h0 : J [] W) :
    CallsIn F n Tryz.prog 69 #[.func (.yield ly) #[] #[], .pointer (some ⟨b1, 0, none⟩), .pointer (some ⟨b2, 0, none⟩)] W fun e W' => (∃ v, e = .returned v) ∧ ((∃ ys, ys = xs ∧ J ys W') ∨ (∃ pre, pre <+: xs ∧ Jx pre W')) := by
  have c1 := blk_cells hk1 0
  have c2 := blk_cells hk2 0
  have cp := h.cell
  have k7 := h.at i 7 hi (by omega)
  rw [show (l[i]).cells[7]? = some (.int .i64 (l[i]).fst) from rfl] at k7
  have i0 : (0 : Int) ≤ i := by omega
  have i1 : (i : Int) < l.length := by omega
  obtain ⟨c, hc⟩ : ∃ c, c = (l[i]).fst := ⟨_, rfl⟩
  rw [← hc] at k7 hch
  clear hc
  refine callsIn_of_wp Tryz.func69 rfl h69 ?_ hro
  simp only [Tryz.ntmps69, List.size_toArray, List.length_cons, List.length_nil, Nat.reduceAdd, Nat.reduceSub, Array.replicate_succ, Array.replicate_zero, List.push_toArray, List.append_toArray, List.nil_append, List.cons_append]
  gi_wp2
  gi_region
  all_goals
    have hJ1 := hJd [] W h0
    have hW1 : KpX n₀ lb W W.drew := fun _ _ _ => rfl
    generalize W.drew = W1 at *
    gi_wp2
    gi_loopw [4] (fun v4 wr => ∃ (pre rest : List Nat) (d : Int), v4 = .int .i64 d ∧ xs = pre ++ rest ∧ Chain l d rest ∧ KpX n₀ lb W wr ∧ J pre wr)
      (fun v4 _ => leftN l v4)
    case atStart => exact ⟨[], xs, c, rfl, rfl, hch, hW1, hJ1⟩
    case round =>
      obtain ⟨pre, rest, d, rfl, hx, hl, hkp, hJs⟩ := hrel
      cases rest with
      | nil =>
        obtain rfl : d = -1 := hl
        have HJ := Go.Lib.hid (show J xs wr by rw [hx, List.append_nil]; exact hJs)
        clear hJs hx
        gi_wp2
        refine ⟨fun _ h => (by cases h), ?_⟩
        gi_wp2
        go_end0
        exact ⟨⟨_, rfl⟩, .inl ⟨xs, rfl, HJ.out⟩⟩
      | cons x rest =>
        obtain ⟨rfl, hxl, hr⟩ := hl
        obtain ⟨fn, tmps, assign, body, hy, hR⟩ := hY pre x wr hJs (by rw [hx]; simp)
        have hne : ((x : Int) != -1) = true := by rw [bne, beq_eq_false_iff_ne.2 (by omega)]; rfl
        have HX := Go.Lib.hid hx
        clear hx
        gi_wp2
        refine hR.mono ?_
        rintro e W3 (⟨rfl, hJ3, hk3⟩ | ⟨rfl, hJx3⟩)
        · have hkp3 := hkp.trans hk3
          have hA3 := hkp3.aro h hp hg hat
          have d1 := blk_cells ((hkp3 b1 hb1.1 hb1.2).trans hk1) 0
          have dp := hA3.cell
          have d10 := hA3.at x 10 hxl (by omega)
          rw [show (l[x]).cells[10]? = some (.int .i64 (l[x]).nxt) from rfl] at d10
          have j0 : (0 : Int) ≤ x := by omega
          have j1 : (x : Int) < l.length := by omega
          gi_wp2
          go_roundw
          case rel => exact ⟨pre ++ [x], rest, (l[x]).nxt, rfl, by rw [HX.out]; simp, hr, hkp3, hJ3⟩
          case measure => rw [leftN_eq hr, leftN_eq (xs := x :: rest) ⟨rfl, hxl, hr⟩]; simp
        · gi_wp2
          go_end0
          exact ⟨⟨_, rfl⟩, .inr ⟨pre ++ [x], ⟨rest, by rw [HX.out]; simp⟩, hJx3⟩⟩
end Go.Proofs.YthfdiinfeljeeaaGreatDoor
/- A node's children, as a list. -/
namespace Go.Proofs.YthfdiinfeljeeaaGreatDoor
open Go.RowKit Go.Shelf
attribute [local go_sem] Oper.semAt_some
theorem children53 (p : Nat) (i : Int) (w : World) : Calls Tryz.prog 53 #[.pointer (some ⟨p, 0, none⟩), .int .i64 i] w fun e w' =>
    e = .returned (.func (.func 69) #[] #[.pointer (some ⟨w.heap.size, 0, none⟩), .pointer (some ⟨w.heap.size + 1, 0, none⟩)]) ∧ (w.alloc (.cells #[.pointer (some ⟨p, 0, none⟩)] 24)).alloc (.cells #[.int .i64 i] 3) = w' := by
  go_enter Tryz.func53, Tryz.ntmps53
  go_wp2
  go_ret
  exact ⟨rfl, rfl⟩
theorem Tryz.info3 : (Tryz.prog.info? 3).map (fun i => (i.zero, i.size, i.bytes)) = some (some (.int .i64 0), 1, 8) := by kernel_rfl
def ints (xs : List Nat) : List Value := xs.map fun (x : Nat) => Value.int .i64 (x : Int)
theorem own_mono {w : World} {base base' e size n : Nat} {v : Value} {xs : List Value} (h : w.ownsRow base e size v n xs) (hb : base' ≤ base) : w.ownsRow base' e size v n xs :=
  ⟨h.1, h.2.imp id fun ⟨g, cap, cur, hv, hg, r⟩ => ⟨g, cap, cur, hv, Nat.le_trans hb hg, r⟩⟩
theorem appendedX {W w1 : World} {n1 lb k m : Nat} {v v' : Value} {xs ys : List Value} {tmp : Obj} (hv : Boxed W lb 57 v) (hrow : W.ownsRow n1 3 1 v k xs) (hl : lb ≤ n1) (hn1 : n1 ≤ W.heap.size) (hown' : w1.ownsRow n1 3 1 v' m ys) (hgrow : (W.alloc tmp).grownBy w1 v.ownBlock) :
    Boxed w1 lb 57 v ∧ Boxed (w1.setCell ⟨lb, 0, none⟩ v') lb 57 v' ∧ (w1.setCell ⟨lb, 0, none⟩ v').ownsRow n1 3 1 v' m ys ∧ KeepsOthers W (w1.setCell ⟨lb, 0, none⟩ v') ∧ KpX n1 lb W (w1.setCell ⟨lb, 0, none⟩ v') ∧ Below lb W (w1.setCell ⟨lb, 0, none⟩ v') := by
  obtain ⟨h1, h2, _, h4, h5⟩ := hv.appended (by decide) (own_mono hrow hl) (by have := hv.lt; omega) (Nat.le_refl _) (own_mono hown' hl) hgrow
  refine ⟨h1, h2, hown'.kept (grownBy_setCell' w1 lb v') (.inr (h1.not_row (by decide) hown').symm), h4, fun i hi hn => ?_, h5⟩
  refine (Below.heap_setCell _ _ _ _ hn).trans ((hgrow.block i (by simp; omega) (fun e => ?_)).trans (Below.heap_alloc W _ i (by omega)))
  have := (hrow.lt i e.symm).1
  omega
set_option maxRecDepth 100000 in
set_option maxHeartbeats 4000000 in
theorem kids25 (B p g cap : Nat) (l : List Nd) (i : Nat) (xs : List Nat) (w : World) (h : ArO w B p g cap l) (hi : i < l.length) (hch : Chain l (l[i]).fst xs) (hxl : xs.length ≤ 1000000) :
    Calls Tryz.prog 25 #[.pointer (some ⟨p, 0, none⟩), .int .i64 (i : Int)] w fun e w' => ∃ v, e = .returned v ∧ w'.ownsRow w.heap.size 3 1 v xs.length (ints xs) ∧ Below w.heap.size w w' := by
  have hi1 : decide (0 ≤ (i : Int) ∧ (i : Int) < l.length) = true := decide_eq_true ⟨by omega, by omega⟩
  have H1 := has42 B p l i w h.shut
  rw [hi1] at H1
  have h35 := none35 B p l w h.shut
  have hb0 := bal (Below.refl w.heap.size w) (.cells #[.slice none 0 0] 57)
  refine (callsIn_wide (n := 6)).1 ?_
  refine callsIn_of_wp_marks Tryz.func25 rfl trivial ?_ rfl
  simp only [Tryz.ntmps25, List.size_toArray, List.length_cons, List.length_nil, Nat.reduceAdd, Nat.reduceSub, Array.replicate_succ, Array.replicate_zero, List.push_toArray, List.append_toArray, List.nil_append, List.cons_append]
  gi_wp2_with (first
    | (refine ⟨trivial, ?_⟩; gi_at_call 35; refine (callsIn_wide.2 h35).mono ?_; rintro e w1 ⟨rfl, rfl⟩)
    | (refine ⟨trivial, ?_⟩; gi_at_call 42; refine (callsIn_wide.2 H1).mono ?_; rintro e w1 ⟨rfl, rfl⟩)
    | (refine ⟨trivial, ?_⟩; gi_at_call 53; refine (callsIn_wide.2 (children53 p i _)).mono ?_; rintro e w1 ⟨rfl, rfl⟩))
  have hsz0 : (((w.alloc (.cells #[.slice none 0 0] 57)).alloc (.cells #[.pointer (some ⟨p, 0, none⟩)] 24)).alloc (.cells #[.int .i64 (i : Int)] 3)).heap.size = w.heap.size + 3 := by simp
  have hB0 : Below w.heap.size w (((w.alloc (.cells #[.slice none 0 0] 57)).alloc (.cells #[.pointer (some ⟨p, 0, none⟩)] 24)).alloc (.cells #[.int .i64 (i : Int)] 3)) := bal (bal hb0 _) _
  have q0 : Boxed (((w.alloc (.cells #[.slice none 0 0] 57)).alloc (.cells #[.pointer (some ⟨p, 0, none⟩)] 24)).alloc (.cells #[.int .i64 (i : Int)] 3)) w.heap.size 57 (.slice none 0 0) := ((Boxed.new w 57 _).alloc _).alloc _
  have q1 : (((w.alloc (.cells #[.slice none 0 0] 57)).alloc (.cells #[.pointer (some ⟨p, 0, none⟩)] 24)).alloc (.cells #[.int .i64 (i : Int)] 3)).heap[w.heap.size + 1]? = some (.cells #[.pointer (some ⟨p, 0, none⟩)] 24 (0, 0)) := at_old (at_new _ _ _ (by simp)) _
  have q2 : (((w.alloc (.cells #[.slice none 0 0] 57)).alloc (.cells #[.pointer (some ⟨p, 0, none⟩)] 24)).alloc (.cells #[.int .i64 (i : Int)] 3)).heap[w.heap.size + 1 + 1]? = some (.cells #[.int .i64 (i : Int)] 3 (0, 0)) := at_new _ _ _ (by simp)
  generalize (((w.alloc (.cells #[.slice none 0 0] 57)).alloc (.cells #[.pointer (some ⟨p, 0, none⟩)] 24)).alloc (.cells #[.int .i64 (i : Int)] 3)) = W0 at *
  have hA0 := h.below hB0
  have lp := blk_lt h.row
  obtain ⟨gcs, hgcs⟩ := own_blk h.own
  have lg := blk_lt hgcs
  have hat : ∀ m ∈ l, ∀ b, m.aa = some ⟨b, 0, none⟩ → b < w.heap.size + 3 ∧ b ≠ w.heap.size := fun m hm b hb => by
    rcases h.at_ m hm with ⟨h1, _⟩ | ⟨b', h1, _, h3⟩
    · rw [h1] at hb; cases hb
    · rw [h1] at hb
      injection hb with hb
      injection hb with hb
      have := blk_lt h3
      omega
  have hstops : SeqStopsK Fence.wide (6 - 1) Tryz.prog 69 #[.pointer (some ⟨w.heap.size + 1, 0, none⟩), .pointer (some ⟨w.heap.size + 1 + 1, 0, none⟩)] (fun x : Nat => #[Value.int .i64 (x : Int)]) (KpX (w.heap.size + 3) w.heap.size) (fun ys => ys = xs) (fun pre => pre <+: xs) xs.length W0 := fun ly J Jx W hW hJ _ hY h0 =>
    children69 Fence.wide 5 trivial rfl (by decide) B p g cap l i hi xs (w.heap.size + 1) (w.heap.size + 1 + 1) (w.heap.size + 3) w.heap.size ly J Jx hY (fun pre W hj => hJ pre W W.drew none hj ⟨rfl, rfl, rfl, Nat.le_refl _, fun _ _ _ => rfl⟩ (fun r e => by cases e)) W (hA0.below hW) (bblk hW q1) (bblk hW q2) ⟨by omega, by omega⟩ ⟨by omega, by omega⟩ ⟨by omega, by omega⟩ hat hch h0
  obtain ⟨i0, hi0, hz0, hz1, hz2⟩ := info_parts Tryz.info3
  clear H1 h35 hb0 hi1 hA0 hgcs hch
  refine wpIn_rangeFunc_ownF rfl (by decide) (gf := 69) (lb := #[.pointer (some ⟨w.heap.size + 1, 0, none⟩), .pointer (some ⟨w.heap.size + 1 + 1, 0, none⟩)]) rfl trivial (enters_of Tryz.func69 (by kernel_rfl) rfl) hstops (fun h k => h.trans k) (fun W l o o' hl _ _ _ => KpX.put W l o' (by omega)) (Below.refl _ _) (fun _ => rfl)
    (fun pre W => (∃ v, Boxed W w.heap.size 57 v ∧ W.ownsRow (w.heap.size + 3) 3 1 v pre.length (ints pre) ∧ True) ∧ Below w.heap.size W0 W)
    (fun _ _ _ => False)
    (OwnFrom.and (Own.from (holdsRow_own (w.heap.size + 3) w.heap.size 57 3 1 (fun pre => pre.length) (fun pre => ints pre) (fun _ _ => True)) _) (ownFrom_below (by omega) (by omega)))
    (fun _ _ _ _ _ hs _ _ => hs)
    ⟨⟨.slice none 0 0, q0, World.ownsRow_nil _ _ _ _, trivial⟩, Below.refl _ _⟩
    (fun x => { tmps := #[.pointer (some ⟨p, 0, none⟩), .int .i64 (i : Int), undef, undef, .slice none 0 0, .pointer (some ⟨w.heap.size, 0, none⟩), .int .i64 (x : Int), .pointer (some ⟨p, 0, none⟩), .bool false, .bool false, .pointer (some ⟨p, 0, none⟩), .int .i64 (i : Int), .bool true, .bool false, .bool false, .pointer (some ⟨p, 0, none⟩), .int .i64 (i : Int), .func (.func 69) #[] #[.pointer (some ⟨w.heap.size + 1, 0, none⟩), .pointer (some ⟨w.heap.size + 1 + 1, 0, none⟩)], .int .i64 (x : Int), undef, undef, undef, undef, undef], defers := [] }) ?assign ?body ?done ?stop
  case assign =>
    intro l x W K hK
    gi_wp2
    exact hK
  case body =>
    rintro l pre x W ⟨⟨v, hv, hrow, -⟩, hB⟩ hlen
    have hc := hv.cell
    have hf := hv.frozen
    have hn1 : w.heap.size + 3 ≤ W.heap.size := by have := hB.size; omega
    gi_wp2_with (gi_at_builtin; refine wpListIn_append_own _ rfl _ _ 57 rfl (w.heap.size + 3) 3 i0 (.int .i64 0) 1 8 Tryz.underlying57 hi0 hz0 hz1 hz2 rfl (by decide) _ _ _ rfl (hrow.alloc _) ⟨W.heap.size, 0, none⟩ 1 1 [.int .i64 x] rfl rfl (cell_one_new _ _ _) (by simp [Value.oneCell']) (by unfold maxLen; omega) (by omega) (by simp; omega) ?_; intro v' w3 hown' hgrow _; obtain ⟨g', cap', rfl⟩ := ownsRow_succ hown'; obtain ⟨hv1, hv2, hr2, hk2, hkx, hb2⟩ := appendedX hv hrow (by omega) hn1 hown' hgrow; have hc1 := hv1.cell; have hf1 := hv1.frozen)
    exact ⟨hk2, hkx, ⟨⟨_, hv2, by simpa [ints] using hr2, trivial⟩, hB.trans hb2⟩⟩
  case done =>
    rintro D ys W hD rfl ⟨⟨v, hv, hrow, -⟩, hB⟩ hK
    have hc := hv.cell
    gi_wp2
    refine ⟨by simp, .inl ⟨_, _, rfl, run_takeDeferred hK, ?_⟩⟩
    exact ⟨_, results_tmp rfl _ _ _, _, rfl, own_mono (ownsRow_putObj hrow _ hK rfl) (by omega), (hB0.trans hB).trans (belowK_b (w := W0) (by omega) _ _ _ _ (by omega) hK rfl rfl)⟩
  case stop =>
    rintro D c pre W _ _ h _
    exact h.elim
end Go.Proofs.YthfdiinfeljeeaaGreatDoor
/- No such node; a bare element. -/
namespace Go.Proofs.YthfdiinfeljeeaaGreatDoor
open Go.RowKit
def zeroV : Array Value := #[.int .i64 0, .int .i64 0, .string ⟨#[]⟩, .slice none 0 0, .string ⟨#[]⟩, .string ⟨#[]⟩, .int .i64 0, .int .i64 0, .int .i64 0, .int .i64 0, .int .i64 0, .int .i64 0]
set_option maxHeartbeats 2000000 in
set_option maxRecDepth 100000 in
theorem node21_none (B p g cap : Nat) (l : List Nd) (i : Int) (w : World) (h : ArO w B p g cap l) (hi : ¬ (0 ≤ i ∧ i < l.length)) : Calls Tryz.prog 21 #[.pointer (some ⟨p, 0, none⟩), .int .i64 i] w
    fun e w' => e = .returned (.tuple #[.agg zeroV, .int .i64 6]) ∧ Below w.heap.size w w' := by
  have hA := h.below (bal (Below.refl _ _) (.cells #[.int .i64 0, .int .i64 0, .string ⟨#[]⟩, .slice none 0 0, .string ⟨#[]⟩, .string ⟨#[]⟩, .int .i64 0, .int .i64 0, .int .i64 0, .int .i64 0, .int .i64 0, .int .i64 0] 52))
  have hb := bal (Below.refl w.heap.size w) (.cells #[.int .i64 0, .int .i64 0, .string ⟨#[]⟩, .slice none 0 0, .string ⟨#[]⟩, .string ⟨#[]⟩, .int .i64 0, .int .i64 0, .int .i64 0, .int .i64 0, .int .i64 0, .int .i64 0] 52)
  have H1 := none35 B p l _ hA.shut
  have H2 := has42 B p l i _ hA.shut
  rw [decide_eq_false hi] at H2
  clear hi
  go_enter Tryz.func21, Tryz.ntmps21
  go_wp2_with (first
    | (go_at_call 35; refine H1.mono ?_; rintro e w1 ⟨rfl, rfl⟩)
    | (go_at_call 42; refine H2.mono ?_; rintro e w1 ⟨rfl, rfl⟩))
  exact bodyPost_ret (results_cell_and rfl _ _ w.heap.size 52 _ (0, 0) _ rfl (at_new _ _ _ rfl) Tryz.underlying52 rfl (by kernel_rfl)) rfl ⟨rfl, hb⟩
set_option maxHeartbeats 2000000 in
set_option maxRecDepth 100000 in
theorem bare26 (n : Nd) (b : Nat) (name : ByteArray) (w : World) : Calls Tryz.prog 26 #[.agg (n.look b), .string name] w
    fun e w' => e = .returned (.bool (n.kind == 1 && n.space == 0 && (n.name.toList == name.toList) && ((n.al.length : Int) == 0))) ∧ Below w.heap.size w w' := by
  unfold Nd.look
  generalize h0 : (n.kind == 1) = b0
  generalize h1 : (n.space == 0) = b1
  generalize h2 : (n.name.toList == name.toList) = b2
  rcases b0 with _ | _ <;> rcases b1 with _ | _ <;> rcases b2 with _ | _
  all_goals
    go_enter Tryz.func26, Tryz.ntmps26
    go_wp2
    go_ret
    exact ⟨rfl, bal (Below.refl _ _) _⟩
end Go.Proofs.YthfdiinfeljeeaaGreatDoor
/- The one child of a node, as an iterator. -/
namespace Go.Proofs.YthfdiinfeljeeaaGreatDoor
open Go.RowKit
set_option maxRecDepth 100000 in
theorem only24 (p b : Nat) (n : Nd) (w : World) : Calls Tryz.prog 24 #[.pointer (some ⟨p, 0, none⟩), .agg (n.look b)] w fun e w' =>
    e = .returned (.func (.func 52) #[] #[.pointer (some ⟨w.heap.size + 1, 0, none⟩), .pointer (some ⟨w.heap.size, 0, none⟩)]) ∧ (w.alloc (.cells #[.pointer (some ⟨p, 0, none⟩)] 24)).alloc (.cells (n.look b) 52) = w' := by
  unfold Nd.look
  go_enter Tryz.func24, Tryz.ntmps24
  go_wp2
  go_ret
  exact ⟨rfl, rfl⟩
end Go.Proofs.YthfdiinfeljeeaaGreatDoor
/- Plain: the children of each node as lists, and what a link does to them. -/
namespace Go.Proofs.YthfdiinfeljeeaaGreatDoor
set_option linter.unusedSimpArgs false
abbrev gN (l : List Nd) (i : Nat) : Nd := l.getD i nd0
theorem gN_modify (l : List Nd) (k j : Nat) (f : Nd → Nd) : gN (l.modify k f) j = if k = j ∧ j < l.length then f (gN l j) else gN l j := by
  unfold gN
  rw [List.getD_eq_getElem?_getD, List.getD_eq_getElem?_getD, List.getElem?_modify]
  by_cases hj : j < l.length
  · rw [List.getElem?_eq_getElem hj]
    by_cases hk : k = j <;> simp [hk, hj]
  · rw [List.getElem?_eq_none (by omega)]
    simp [hj]
def nx (xs : List Nat) (k : Nat) : Int := match xs[k]? with
  | some c => c
  | none => -1
def pv (xs : List Nat) (k : Nat) : Int := if k = 0 then -1 else nx xs (k - 1)
theorem nx_snoc (xs : List Nat) (i k : Nat) : nx (xs ++ [i]) k = if k < xs.length then nx xs k else if k = xs.length then (i : Int) else -1 := by
  unfold nx
  by_cases h : k < xs.length
  · rw [if_pos h, List.getElem?_append_left h]
  · rw [if_neg h, List.getElem?_append_right (by omega)]
    by_cases h2 : k = xs.length
    · subst h2; simp
    · rw [if_neg h2, List.getElem?_eq_none (by simp; omega)]
theorem nx_end (xs : List Nat) (k : Nat) (h : xs.length ≤ k) : nx xs k = -1 := by
  unfold nx
  rw [List.getElem?_eq_none h]
theorem nx_get (xs : List Nat) (k : Nat) (h : k < xs.length) : nx xs k = (xs[k] : Nat) := by
  unfold nx
  rw [List.getElem?_eq_getElem h]
/-- Each node's children are a list, linked both ways. -/
structure Good (l : List Nd) (ks : Nat → List Nat) : Prop where
  nod : ∀ i, i < l.length → (ks i).Nodup
  mem : ∀ i, i < l.length → ∀ c ∈ ks i, c < l.length ∧ (gN l c).up = (i : Int)
  fst : ∀ i, i < l.length → (gN l i).fst = nx (ks i) 0
  lst : ∀ i, i < l.length → (gN l i).lst = pv (ks i) (ks i).length
  nxt : ∀ i, i < l.length → ∀ k (h : k < (ks i).length), (gN l (ks i)[k]).nxt = nx (ks i) (k + 1)
  prv : ∀ i, i < l.length → ∀ k (h : k < (ks i).length), (gN l (ks i)[k]).prv = pv (ks i) k
theorem Good.chain {l : List Nd} {ks : Nat → List Nat} (h : Good l ks) (i : Nat) (hi : i < l.length) : Chain l (gN l i).fst (ks i) := by
  rw [h.fst i hi]
  have key : ∀ (n k : Nat), n + k = (ks i).length → Chain l (nx (ks i) k) ((ks i).drop k) := by
    intro n
    induction n with
    | zero =>
      intro k hk
      rw [List.drop_of_length_le (by omega), nx_end _ _ (by omega)]
      rfl
    | succ n ih =>
      intro k hk
      have hk' : k < (ks i).length := by omega
      have hm := h.mem i hi _ (List.getElem_mem hk')
      rw [List.drop_eq_getElem_cons hk', nx_get _ _ hk']
      refine ⟨rfl, hm.1, ?_⟩
      have hn := h.nxt i hi k hk'
      have e : gN l (ks i)[k] = l[(ks i)[k]]'hm.1 := getD_of hm.1
      rw [e] at hn
      rw [hn]
      exact ih (k + 1) (by omega)
  have := key (ks i).length 0 (by omega)
  rwa [List.drop_zero] at this
/-- The arena behind a link that is made. -/
def linkL (l : List Nd) (u i : Nat) : List Nd := joinL (joinL (l.modify i fun n => { n with up := u, prv := (gN l u).lst, nxt := -1 }) u (gN l u).lst i) u i (-1)
theorem linkL_len (l : List Nd) (u i : Nat) : (linkL l u i).length = l.length := by
  unfold linkL
  rw [joinL_len, joinL_len, List.length_modify]
theorem linkL_get (l : List Nd) (u i : Nat) (hui : u ≠ i) (hi : i < l.length) (hu : u < l.length) (hp : (gN l u).lst = -1 ∨ ∃ p : Nat, (gN l u).lst = p ∧ p ≠ i ∧ p < l.length) (j : Nat) (hj : j < l.length) :
    gN (linkL l u i) j = { gN l j with
      up := if j = i then (u : Int) else (gN l j).up
      prv := if j = i then (gN l u).lst else (gN l j).prv
      nxt := if j = i then -1 else if (gN l u).lst = (j : Int) then (i : Int) else (gN l j).nxt
      fst := if (gN l u).lst = -1 ∧ j = u then (i : Int) else (gN l j).fst
      lst := if j = u then (i : Int) else (gN l j).lst } := by
  unfold linkL joinL
  dsimp only
  rcases hp with hp | ⟨p, hp, hpi, hpl⟩
  · rw [hp]
    rw [if_pos rfl, if_neg (show ¬ ((i : Int) = -1) by omega), if_neg (show ¬ ((i : Int) = -1) by omega), if_pos rfl]
    simp only [Int.toNat_natCast, gN_modify, List.length_modify]
    by_cases h1 : j = i
    · subst h1
      simp [hj, hui, Ne.symm hui, hp]
    · by_cases h2 : j = u
      · subst h2
        simp [hj, hui, Ne.symm hui, h1, Ne.symm h1]
      · simp [hj, h1, h2, Ne.symm h1, Ne.symm h2]
  · rw [hp]
    rw [if_neg (show ¬ ((p : Int) = -1) by omega), if_neg (show ¬ ((i : Int) = -1) by omega), if_neg (show ¬ ((i : Int) = -1) by omega), if_pos rfl]
    simp only [Int.toNat_natCast, gN_modify, List.length_modify]
    by_cases h1 : j = i
    · subst h1
      simp [hj, hui, Ne.symm hui, hp, hpi]
    · by_cases h2 : j = u
      · subst h2
        by_cases h3 : p = j
        · subst h3
          simp [hj, hui, Ne.symm hui, h1, Ne.symm h1]
        · have h4 : ¬ ((p : Int) = (j : Int)) := by omega
          have h5 : ¬ ((p : Int) = -1) := by omega
          simp [hj, hui, Ne.symm hui, h1, Ne.symm h1, h3, h4, h5]
      · by_cases h3 : p = j
        · subst h3
          simp [hj, h1, h2, Ne.symm h1, Ne.symm h2]
        · have h4 : ¬ ((p : Int) = (j : Int)) := by omega
          have h5 : ¬ ((p : Int) = -1) := by omega
          simp [hj, h1, h2, Ne.symm h1, Ne.symm h2, h3, h4, h5]
end Go.Proofs.YthfdiinfeljeeaaGreatDoor
