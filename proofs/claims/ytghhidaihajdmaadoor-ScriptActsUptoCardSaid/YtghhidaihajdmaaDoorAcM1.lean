/- Texts of one seat, merged: lemmas and contracts that the law leans on. -/
import Derived.WalkKit
import Derived.WalkSpells
import Derived.WalkLawsBesides
import Derived.Lib.ConvBytes
import Derived.Laws.BytesArg
import Derived.Lib.Hide
import Derived.Outline
import Derived.Laws.Rows
import Derived.Laws.Tables
import Derived.Laws.CopyRow
import Derived.OwnWalk
import Derived.Deep.AppendLies
import Derived.Deep.Draws
import Derived.Shelf.Strings.Builder1
import Derived.Shelf.Strings.Builder2
import Derived.Shelf.Strings.OnBuilder
import Derived.Shelf.Small.Strs
import Derived.Shelf.Small.Wraps
import Derived.Shelf.Strings.BuilderF
import Derived.Shelf.Strings.BuilderK
import Derived.Shelf.Strconv.Atoi
import Derived.Shelf.Strconv.Itoa0
import Derived.Shelf.Strconv.Itoa1
import Derived.Shelf.LaysM
import Derived.Shelf.Strconv.Itoa2
import Derived.Shelf.Strconv.Itoa3
import Derived.Shelf.Strconv.AtoiErrFast
import Derived.Shelf.Strconv.ParseIntEmpty
import Derived.Shelf.Strconv.AtoiFail
import Derived.Shelf.Strconv.Clone
import Derived.Shelf.Strconv.SyntaxError
import Derived.Shelf.LaysC
import Derived.Shelf.Strconv.ToError
import Derived.Shelf.Strconv.Lower
import Derived.Shelf.Strconv.ParseUint10
import Derived.Shelf.Strconv.ParseUint10Empty
import Derived.Shelf.Strconv.ParseUint10Any
import Derived.Shelf.Strconv.ParseInt10
import Derived.Shelf.Strconv.AtoiLong
import Derived.Shelf.Strconv.AtoiInnerAll
import Derived.Shelf.Strconv.RangeError
import Derived.Shelf.Strconv.ToErrorRange
import Derived.Shelf.Strconv.AtoiAll
import Derived.Shelf.Strconv.ErrVarAll
import Derived.Shelf.Strings.Search1
import Derived.Shelf.Strings.Search2
import Derived.Shelf.Strings.Search3
import Derived.Shelf.Strings.Count
import Derived.Shelf.Strings.Shaped
import Derived.Shelf.Strings.Prefix
import Derived.Shelf.Strings.Split
import Derived.Shelf.Strings.Fields
import Derived.Shelf.Strings.SplitShaped
import Derived.Shelf.Unicode.Latin
import Derived.Shelf.Unicode.Decode
import Derived.Shelf.Strings.RuneCount
import Derived.Shelf.Strings.Explode
import Derived.Shelf.Unicode.DecodeSlow
import Derived.Shelf.Unicode.Is16White
import Derived.Shelf.Unicode.IsSpaceAny
import Derived.Shelf.Unicode.Is16WhiteD
import Derived.Shelf.Unicode.IsSpaceAnyD
import Derived.Shelf.Strings.FieldsAny
import Derived.Shelf.Strings.FieldsFuncAny
import Derived.Shelf.Unicode.Is16Any
import Derived.Shelf.Unicode.Is32Any
import Derived.Shelf.Unicode.ExclAny
import Derived.Test.YtghhidaihajdmaaDoorProg
import Derived.BigCall
import Derived.Lib.AppendIntMem
import Derived.Test.YtghhidaihajdmaaDoorRows
import Derived.ProofKit
import Derived.OpenShut
import Derived.ShutString
import Derived.ChangeOld
import Derived.Below
import Derived.Carry
import Derived.SizedLaws
import Derived.Lib.SmallJoins
import Derived.ChangeSlices
import Derived.Deep.RegionLaw
import Derived.Deep.LoopGhost
import Derived.Deep.RegionHeld
import Derived.Lib.Strings
import Derived.Lib.AtoiTie
import Derived.Lib.AtoiAllCases
import Derived.Lib.SplitLaws
import Derived.Lib.IndexBytes
/- Words and lemmas on bytes in memory that this seat's walks use: a row of bytes that the call itself made, read, written and turned back into a string. -/
namespace Go.Proofs.YtghhidaihajdmaaDoor
open Go.RowKit

/-- A string of bytes. -/
def mkS (l : List UInt8) : ByteArray := ⟨l.toArray⟩
theorem mkS_data (l : List UInt8) : (mkS l).data.toList = l := rfl
theorem mkS_self (s : ByteArray) : mkS s.data.toList = s := rfl
theorem mkS_size (l : List UInt8) : (mkS l).size = l.length := rfl
theorem mkS_inj {a b : List UInt8} (h : mkS a = mkS b) : a = b := by
  have := congrArg (fun s => s.data.toList) h
  simpa [mkS] using this
theorem dlen (s : ByteArray) : s.data.toList.length = s.size := by rw [Array.length_toList]; rfl

theorem cell_alloc {w : World} {a : Addr} {v : Value} (h : w.cell? a = some v) (o : Obj) : (w.alloc o).cell? a = some v := by
  rw [World.cell?_alloc_lt _ _ _ (World.block_lt_of_cell? w a h)]; exact h
/-- A cell that was there is there. -/
theorem bcl {w w1 : World} (hb : Below w.heap.size w w1) {a : Addr} {v : Value} (hc : w.cell? a = some v) : w1.cell? a = some v := (hb.cell (World.block_lt_of_cell? w a hc)).trans hc
theorem btr {w w1 w2 : World} (h : Below w.heap.size w w1) (k : Below w1.heap.size w1 w2) : Below w.heap.size w w2 := h.trans (k.mono h.size)
theorem bal {w w1 : World} (h : Below w.heap.size w w1) (o : Obj) : Below w.heap.size w (w1.alloc o) := h.alloc h.size o
theorem ret_bool {a b : Bool} (h : a = b) : Ending.returned (.bool a) = .returned (.bool b) := by rw [h]
theorem ret_int {k : IntKind} {a b : Int} (h : a = b) : Ending.returned (.int k a) = .returned (.int k b) := by rw [h]
theorem ret_str {a b : ByteArray} (h : a = b) : Ending.returned (.string a) = .returned (.string b) := by rw [h]

theorem at_new (w : World) (o : Obj) (n : Nat) (hn : n = w.heap.size) : (w.alloc o).heap[n]? = some o := by
  subst hn
  show (w.heap.push o)[w.heap.size]? = some o
  simp
theorem at_old {w : World} {n : Nat} {x : Obj} (h : w.heap[n]? = some x) (o : Obj) : (w.alloc o).heap[n]? = some x := by
  have hl := (Array.getElem?_eq_some_iff.1 h).1
  show (w.heap.push o)[n]? = some x
  rw [Array.getElem?_push, if_neg (by omega)]
  exact h
theorem bblk {w w1 : World} (hb : Below w.heap.size w w1) {n : Nat} {x : Obj} (h : w.heap[n]? = some x) : w1.heap[n]? = some x :=
  (hb.block n (Array.getElem?_eq_some_iff.1 h).1).trans h
theorem blk_lt {w : World} {n : Nat} {x : Obj} (h : w.heap[n]? = some x) : n < w.heap.size := (Array.getElem?_eq_some_iff.1 h).1
/-- All cells of a block, as one rule. -/
theorem blk_cells {w : World} {b : Nat} {vs : Array Value} {e : TypeId} {fr : Nat × Nat} (h : w.heap[b]? = some (.cells vs e fr)) : ∀ j, w.cell? ⟨b, j, none⟩ = vs[j]? := by
  intro j
  simp [World.cell?, h]
theorem cast_beq (a b : Nat) : ((a : Int) == (b : Int)) = decide (a = b) := by
  rw [Bool.eq_iff_iff, beq_iff_eq, decide_eq_true_iff]; omega

/-- Bytes as cells. -/
def u8s (l : List UInt8) : List Value := l.map fun b => Value.int .u8 b.toNat
theorem u8s_length (l : List UInt8) : (u8s l).length = l.length := by simp [u8s]

/-- Block g is a row of bytes (of element type e), z behind them. -/
structure BRow (w : World) (g e : Nat) (l : List UInt8) (z : List Value) (fr : Nat × Nat) : Prop where
  blk : w.heap[g]? = some (.cells (u8s l ++ z).toArray e fr)
  fr : fr = (0, 0) ∨ l.length ≤ fr.1

theorem BRow.lt {w : World} {g e : Nat} {l : List UInt8} {z : List Value} {fr : Nat × Nat} (h : BRow w g e l z fr) : g < w.heap.size := (Array.getElem?_eq_some_iff.1 h.blk).1
theorem BRow.cell {w : World} {g e : Nat} {l : List UInt8} {z : List Value} {fr : Nat × Nat} (h : BRow w g e l z fr) {k : Nat} (hk : k < l.length) :
    w.cell? ⟨g, k, none⟩ = some (.int .u8 (l[k]).toNat) := by
  simp [World.cell?, h.blk, u8s, List.getElem?_append, hk]
theorem BRow.frozen {w : World} {g e : Nat} {l : List UInt8} {z : List Value} {fr : Nat × Nat} (h : BRow w g e l z fr) {k : Nat} (hk : k < l.length) :
    w.frozen? ⟨g, k, none⟩ = false := by
  have := h.fr
  obtain ⟨lo, hi⟩ := fr
  simp [World.frozen?, h.blk]
  simp at this
  intro; omega
theorem BRow.set {w : World} {g e : Nat} {l : List UInt8} {z : List Value} {fr : Nat × Nat} (h : BRow w g e l z fr) {k : Nat} (hk : k < l.length) (b : UInt8) {n : Int} (hn : n = b.toNat) :
    BRow (w.setCell ⟨g, k, none⟩ (.int .u8 n)) g e (l.set k b) z fr := by
  subst hn
  refine ⟨?_, by simpa using h.fr⟩
  have hb := h.blk
  simp only [World.setCell, Array.getElem?_modify, if_true, hb, Option.map_some]
  simp [u8s, List.setIfInBounds_toArray, hk, List.map_set]
theorem BRow.keep {w w' : World} {g e : Nat} {l : List UInt8} {z : List Value} {fr : Nat × Nat} (h : BRow w g e l z fr) (hb : w'.heap[g]? = w.heap[g]?) : BRow w' g e l z fr :=
  ⟨hb.trans h.blk, h.fr⟩
theorem BRow.below {w w' : World} {g e : Nat} {l : List UInt8} {z : List Value} {fr : Nat × Nat} (h : BRow w g e l z fr) (hb : Below w.heap.size w w') : BRow w' g e l z fr :=
  h.keep (hb.block g h.lt)

theorem BRow.conv (w : World) (e : Nat) (s : ByteArray) : BRow (Go.Lib.bytesWorld w e s) w.heap.size e s.data.toList (List.replicate (grownCap w s.size 0 e - s.size) (.int .u8 0)) ((Go.Lib.bytesCells w e s).size, (Go.Lib.bytesCells w e s).size + 1) := by
  refine ⟨?_, .inr ?_⟩
  · rw [Go.Lib.bytesWorld_at_new]
    congr 2
    apply Array.ext'
    simp [Go.Lib.bytesCells, u8s]
  · simp [Go.Lib.bytesCells]
theorem conv_below (w : World) (e : Nat) (s : ByteArray) : Below w.heap.size w (Go.Lib.bytesWorld w e s) :=
  ⟨rfl, rfl, rfl, by rw [Go.Lib.bytesWorld_size]; omega, fun i hi => Go.Lib.bytesWorld_at_old w e s i hi⟩
theorem strOfNums_u8 (l : List UInt8) : strOfNums (l.map fun b => (b.toNat : Int)) = mkS l := by
  simp only [strOfNums, mkS, List.map_map]
  congr 2
  conv => rhs; rw [← List.map_id l]
  apply List.map_congr_left
  intro a _
  simp
theorem BRow.back {P : Program} {w : World} {g e : Nat} {l : List UInt8} {z : List Value} {fr : Nat × Nat} (h : BRow w g e l z fr) (src e' cap n : Nat) (hn : n = l.length)
    (hs : P.underlying src = some (.slice e')) (he : P.underlying e' = some (.int .u8)) (dst : Nat) (hd : P.underlying dst = some .string) :
    (convert src dst (.slice (some ⟨g, 0, none⟩) n cap)).run P w = .ok (.string (mkS l)) w := by
  subst hn
  rw [← strOfNums_u8]
  refine run_convert_bytes_arg w src e' hs he g 0 l.length cap (l.map fun b => (b.toNat : Int)) (by simp) (fun i hi => ?_) dst hd
  rw [Nat.zero_add, h.cell hi]
  simp [List.getD_eq_getElem?_getD, hi]

/-- The first k bytes turned by f, the others as they were. -/
def mapTo (f : UInt8 → UInt8) (l : List UInt8) (k : Nat) : List UInt8 := (l.take k).map f ++ l.drop k
theorem mapTo_length (f : UInt8 → UInt8) (l : List UInt8) (k : Nat) : (mapTo f l k).length = l.length := by simp [mapTo]; omega
theorem mapTo_zero (f : UInt8 → UInt8) (l : List UInt8) : mapTo f l 0 = l := rfl
theorem mapTo_full (f : UInt8 → UInt8) (l : List UInt8) (k : Nat) (h : l.length ≤ k) : mapTo f l k = l.map f := by simp [mapTo, List.take_of_length_le h, List.drop_of_length_le h]
theorem mapTo_get (f : UInt8 → UInt8) (l : List UInt8) (k : Nat) (h : k < l.length) : (mapTo f l k)[k]'(by rw [mapTo_length]; exact h) = l[k] := by
  simp [mapTo, Nat.min_eq_left (Nat.le_of_lt h)]
theorem mapTo_set (f : UInt8 → UInt8) (l : List UInt8) (k : Nat) (h : k < l.length) : (mapTo f l k).set k (f l[k]) = mapTo f l (k + 1) := by
  simp only [mapTo]
  rw [List.set_append_right _ _ (by simp; omega), List.take_succ_eq_append_getElem h, List.drop_eq_getElem_cons h]
  simp only [List.length_map, List.length_take, Nat.min_eq_left (Nat.le_of_lt h), Nat.sub_self, List.set_cons_zero, List.map_append, List.map_cons, List.map_nil, List.append_assoc, List.cons_append, List.nil_append]
theorem mapTo_same (f : UInt8 → UInt8) (l : List UInt8) (k : Nat) (h : k < l.length) (hf : f l[k] = l[k]) : mapTo f l k = mapTo f l (k + 1) := by
  simp only [mapTo, List.take_succ_eq_append_getElem h, List.drop_eq_getElem_cons h, List.map_append, List.map_cons, List.map_nil, List.append_assoc, List.cons_append, List.nil_append, hf]

/-- a to z for A to Z. -/
def lowB (c : UInt8) : UInt8 := if 65 ≤ c ∧ c ≤ 90 then c + 32 else c
/-- A to Z for a to z. -/
def larB (c : UInt8) : UInt8 := if 97 ≤ c ∧ c ≤ 122 then c - 32 else c
theorem lowB_yes {c : UInt8} (h1 : (65 : Int) ≤ c.toNat) (h2 : (c.toNat : Int) ≤ 90) : ((c.toNat : Int) + 32) = (lowB c).toNat := by
  have h : 65 ≤ c ∧ c ≤ 90 := by simp [UInt8.le_iff_toNat_le]; omega
  rw [lowB, if_pos h, UInt8.toNat_add]
  simp; omega
theorem lowB_no {c : UInt8} (h : ¬ ((65 : Int) ≤ c.toNat ∧ (c.toNat : Int) ≤ 90)) : lowB c = c := by
  rw [lowB, if_neg]
  simp [UInt8.le_iff_toNat_le]
  intro h1
  omega
theorem larB_yes {c : UInt8} (h1 : (97 : Int) ≤ c.toNat) (h2 : (c.toNat : Int) ≤ 122) : ((c.toNat : Int) - 32) = (larB c).toNat := by
  have h : 97 ≤ c ∧ c ≤ 122 := by simp [UInt8.le_iff_toNat_le]; omega
  rw [larB, if_pos h, UInt8.toNat_sub]
  simp; omega
theorem larB_no {c : UInt8} (h : ¬ ((97 : Int) ≤ c.toNat ∧ (c.toNat : Int) ≤ 122)) : larB c = c := by
  rw [larB, if_neg]
  simp [UInt8.le_iff_toNat_le]
  intro h1
  omega
theorem lowB_cases (p : UInt8 → Bool) (h : (List.range 256).all (fun n => p (UInt8.ofNat n)) = true) (c : UInt8) : p c = true := by
  have := List.all_eq_true.1 h c.toNat (by simp [List.mem_range]; exact c.toNat_lt)
  simpa using this
/-- A round of a loop that turns bytes in place: a byte is written, or left. -/
theorem BRow.turn {f : UInt8 → UInt8} {w : World} {g e : Nat} {l : List UInt8} {z : List Value} {fr : Nat × Nat} {k : Nat} (h : BRow w g e (mapTo f l k) z fr) (hk : k < l.length) {n : Int} (hn : n = (f l[k]).toNat) :
    BRow (w.setCell ⟨g, k, none⟩ (.int .u8 n)) g e (mapTo f l (k + 1)) z fr := by
  have := h.set (k := k) (by rw [mapTo_length]; exact hk) (f l[k]) hn
  rwa [mapTo_set f l k hk] at this
theorem BRow.leave {f : UInt8 → UInt8} {w : World} {g e : Nat} {l : List UInt8} {z : List Value} {fr : Nat × Nat} {k : Nat} (h : BRow w g e (mapTo f l k) z fr) (hk : k < l.length) (hf : f l[k] = l[k]) :
    BRow w g e (mapTo f l (k + 1)) z fr := by rwa [mapTo_same f l k hk hf] at h
theorem lowB_lowB (c : UInt8) : lowB (lowB c) = lowB c := by
  have := lowB_cases (fun c => lowB (lowB c) == lowB c) (by decide +kernel) c
  simpa using this
theorem lowB_larB (c : UInt8) : lowB (larB c) = lowB c := by
  have := lowB_cases (fun c => lowB (larB c) == lowB c) (by decide +kernel) c
  simpa using this
def low (l : List UInt8) : List UInt8 := l.map lowB
def lar (l : List UInt8) : List UInt8 := l.map larB
theorem low_low (l : List UInt8) : low (low l) = low l := by simp [low, lowB_lowB]
theorem low_lar (l : List UInt8) : low (lar l) = low l := by simp [low, lar, lowB_larB]
theorem low_length (l : List UInt8) : (low l).length = l.length := by simp [low]
theorem lar_length (l : List UInt8) : (lar l).length = l.length := by simp [lar]

end Go.Proofs.YtghhidaihajdmaaDoor
/- Single operations by an equation of their own: for tables of constants, and for variables that hold structs or arrays. -/
namespace Go.Proofs.YtghhidaihajdmaaDoor
open Go.RowKit

section
variable {P : Program} {ops : Array Oper} {rest : List Oper} {o : Oper} {a : Act} {w : World} {Q : Exit → Act → World → Prop}
/-- A guard for an arm of the walk: the operation that stands next is this one. -/
theorem at_op (o : Oper) (h : wpList P ops Q (o :: rest) a w) : wpList P ops Q (o :: rest) a w := h
/-- An operation whose run is known gives its value. -/
theorem step_value (hg : o.guard = none) (v : Value) (w' : World) (h : (execOp a.eval o).run P w = .ok (.value v) w') (hn : wpList P ops Q rest (a.put o.dst v) w') : wpList P ops Q (o :: rest) a w :=
  wpList_plain hg fun K hK => by
    unfold Oper.wp
    rw [h]
    exact hK _ _ hn
theorem step_skip (hg : o.guard = none) (w' : World) (h : (execOp a.eval o).run P w = .ok .skip w') (hn : wpList P ops Q rest (a.put o.dst undef) w') : wpList P ops Q (o :: rest) a w :=
  wpList_plain hg fun K hK => by
    unfold Oper.wp
    rw [h]
    exact hK _ _ hn
theorem step_build (hg : o.guard = none) (t : TypeId) (parts : Array (Nat × Operand)) (ho : o.op = .build t parts) (cells : Array Value) (hb : P.built t (parts.map fun (i, x) => (i, a.eval x)).toList = some cells)
    (hn : wpList P ops Q rest (a.put o.dst (.agg cells)) w) : wpList P ops Q (o :: rest) a w :=
  step_value hg _ w (by unfold execOp; simp only [ho, Sem.run_bind, run_build w t _ cells hb, Result.andThen_ok, Sem.run_pure]) hn
theorem step_alloc (hg : o.guard = none) (t : TypeId) (ho : o.op = .alloc t) (z : Array Value) (hz : ((P.info? t).bind (·.zero)).map (·.cells) = some z)
    (hn : wpList P ops Q rest (a.put o.dst (.pointer (some ⟨w.heap.size, 0, none⟩))) (w.alloc (.cells z t))) : wpList P ops Q (o :: rest) a w :=
  step_value hg _ _ (by
    obtain ⟨v, hv, rfl⟩ := Option.map_eq_some_iff.1 hz
    obtain ⟨i, hi, hz⟩ := Option.bind_eq_some_iff.1 hv
    unfold execOp
    simp [ho, Instr.alloc, zeroValue, typeInfo, hi, hz, newVar, newRow]) hn

theorem setRow_alloc (w : World) (z vs : Array Value) (e : TypeId) (fr : Nat × Nat) : (w.alloc (.cells z e fr)).setRow w.heap.size vs = w.alloc (.cells vs e fr) := by
  unfold World.setRow
  show ({ w with heap := (w.heap.push _).modify _ _ } : World) = { w with heap := w.heap.push _ }
  congr 1
  apply Array.ext
  · simp
  · intro i h1 h2
    simp only [Array.getElem_modify, Array.getElem_push]
    simp at h1
    by_cases hi : i < w.heap.size
    · rw [if_neg (by omega)]; simp [hi]
    · rw [if_pos (by omega)]; simp [hi]
theorem run_storeAt_row (g : Nat) (t e : TypeId) (cur vs : Array Value) (w : World) (hg : w.heap[g]? = some (.cells cur e (0, 0))) (hi : (P.info? t).map (·.size) = some vs.size) (hc : cur.size = vs.size) (h1 : ∀ v ∈ vs.toList, v.oneCell' = true) :
    (Instr.storeAt t (.pointer (some ⟨g, 0, none⟩)) (.agg vs)).run P w = .ok () (w.setRow g vs) := by
  obtain ⟨i, hi, hs⟩ := Option.map_eq_some_iff.1 hi
  have h := run_storeCells_at (P := P) g 0 e vs.toList 0 cur w hg (by simp [hc]) h1
  simp only [Nat.zero_add, Nat.add_zero, List.take_zero, List.nil_append] at h
  rw [List.drop_of_length_le (by simp [hc])] at h
  simp [Instr.storeAt, Instr.sureAddr, storeVar, sizeOf, typeInfo, hi, hs, Value.cells]
  simpa using h
/-- A variable of the call's own, just laid, is written whole. -/
theorem step_store_new (hg : o.guard = none) (t : TypeId) (x y : Operand) (ho : o.op = .store t x y) (z vs : Array Value) (hx : a.eval x = .pointer (some ⟨w.heap.size, 0, none⟩)) (hy : a.eval y = .agg vs)
    (hi : (P.info? t).map (·.size) = some vs.size) (hc : z.size = vs.size) (h1 : ∀ v ∈ vs.toList, v.oneCell' = true)
    (hn : wpList P ops Q rest (a.put o.dst undef) (w.alloc (.cells vs t))) : wpList P ops Q (o :: rest) a (w.alloc (.cells z t)) :=
  step_skip hg _ (by
    unfold execOp
    simp only [ho, hx, hy, Sem.run_bind, run_storeAt_row w.heap.size t t z vs (w.alloc (.cells z t)) (heap_alloc_new _ _) hi hc h1, Result.andThen_ok, Sem.run_pure, setRow_alloc]) hn
end
theorem set_blk {w : World} {b i : Nat} {cs : Array Value} {t : TypeId} (h : w.heap[b]? = some (.cells cs t (0, 0))) (v : Value) : (w.setCell ⟨b, i, none⟩ v).heap[b]? = some (.cells (cs.setIfInBounds i v) t (0, 0)) :=
  heap_setCell_same w b i cs t v h
theorem set_blk_ne {w : World} {b i k : Nat} {x : Obj} (h : w.heap[k]? = some x) (hk : k ≠ b) (v : Value) : (w.setCell ⟨b, i, none⟩ v).heap[k]? = some x :=
  (heap_setCell_other w ⟨b, i, none⟩ k v hk).trans h
theorem blk_free {w : World} {b : Nat} {cs : Array Value} {t : TypeId} (h : w.heap[b]? = some (.cells cs t (0, 0))) : ∀ j, w.frozen? ⟨b, j, none⟩ = false := fun j => frozen_of_row w b j cs t h
end Go.Proofs.YtghhidaihajdmaaDoor
/- Slices of the call's own that grow by append; slices that are read. -/
namespace Go.Proofs.YtghhidaihajdmaaDoor
open Go.RowKit

theorem own_below {w w1 : World} {base e size n : Nat} {v : Value} {xs : List Value} (h : w.ownsRow base e size v n xs) (hb : Below w.heap.size w w1) : w1.ownsRow base e size v n xs := by
  refine ⟨h.1, h.2.imp id ?_⟩
  rintro ⟨g, cap, cur, hv, hg, hh, r⟩
  exact ⟨g, cap, cur, hv, hg, bblk hb hh, r⟩
theorem own_setRow {w : World} {base e size n g : Nat} {v : Value} {xs : List Value} (h : w.ownsRow base e size v n xs) (hg : ∀ k, v.ownBlock = some k → k ≠ g) (cs : Array Value) : (w.setRow g cs).ownsRow base e size v n xs := by
  refine ⟨h.1, h.2.imp id ?_⟩
  rintro ⟨g', cap, cur, hv, hg', hh, r⟩
  exact ⟨g', cap, cur, hv, hg', by rw [setRow_other w g g' cs (hg g' (by simp [hv, Value.ownBlock]))]; exact hh, r⟩
theorem own_lt {w : World} {base e size n : Nat} {v : Value} {xs : List Value} (h : w.ownsRow base e size v n xs) (k : Nat) (hk : v.ownBlock = some k) : k < w.heap.size := by
  rcases h.2 with ⟨rfl, _⟩ | ⟨g, cap, cur, rfl, _, hh, _⟩
  · simp [Value.ownBlock] at hk
  · have : g = k := by simpa [Value.ownBlock] using hk
    subst this
    exact (Array.getElem?_eq_some_iff.1 hh).1
theorem own_base {w : World} {base e size n : Nat} {v : Value} {xs : List Value} (h : w.ownsRow base e size v n xs) (k : Nat) (hk : v.ownBlock = some k) : base ≤ k := by
  rcases h.2 with ⟨rfl, _⟩ | ⟨g, cap, cur, rfl, hb, _⟩
  · simp [Value.ownBlock] at hk
  · have : g = k := by simpa [Value.ownBlock] using hk
    omega
theorem own_slice {w : World} {base e size n : Nat} {v : Value} {xs : List Value} (h : w.ownsRow base e size v n xs) : ∃ oa cap, v = .slice oa n cap := by
  rcases h.2 with ⟨rfl, rfl⟩ | ⟨g, cap, cur, rfl, _⟩
  · exact ⟨none, 0, rfl⟩
  · exact ⟨_, cap, rfl⟩
theorem own_form {w : World} {base e size n c : Nat} {oa : Option Addr} {xs : List Value} (h : w.ownsRow base e size (.slice oa n c) n xs) (hn : 0 < n) : ∃ g, oa = some ⟨g, 0, none⟩ ∧ base ≤ g := by
  rcases h.2 with ⟨_, h0⟩ | ⟨g, cap, cur, hv, hb, _⟩
  · omega
  · simp only [Value.slice.injEq] at hv
    exact ⟨g, hv.1, hb⟩
theorem own_empty (W : World) (base e size g : Nat) (hg : g = W.heap.size) (hb : base ≤ g) : (W.alloc (.cells #[] e)).ownsRow base e size (.slice (some ⟨g, 0, none⟩) 0 0) 0 [] := by
  refine ⟨by simp, .inr ⟨g, 0, #[], rfl, hb, at_new _ _ _ hg, Nat.le_refl _, by simp [maxLen], by simp, by simp⟩⟩
theorem bdr {B : Nat} {w w1 : World} (h : Below B w w1) (n : Nat) : Below B w (w1.drewN n) := ⟨h.os, h.tape, h.output, h.size, h.block⟩
theorem own_nil (W : World) (base e size : Nat) : W.ownsRow base e size (.slice none 0 0) 0 [] := ⟨by simp, .inl ⟨rfl, rfl⟩⟩
theorem setRow_below {B : Nat} {w0 w : World} (h : Below B w0 w) {g : Nat} (hg : B ≤ g) (cs : Array Value) : Below B w0 (w.setRow g cs) :=
  h.trans ⟨rfl, rfl, rfl, by simp, fun k hk => setRow_other w g k cs (by omega)⟩
theorem own_grown {w0 w w1 : World} {B : Nat} {v : Value} (h : Below B w0 w) (hg : w.grownBy w1 v.ownBlock) (hB : B ≤ w.heap.size) (hr : ∀ k, v.ownBlock = some k → B ≤ k) : Below B w0 w1 := h.grown hg hB hr

section
variable {P : Program} {ops : Array Oper} {rest : List Oper} {o : Oper} {a : Act} {Q : Exit → Act → World → Prop}
/-- 'out = append(out, x)', out nil or a row of the call's own, x just boxed. -/
theorem step_append {w0 W : World} (hgd : o.guard = none) (base : Nat) (s x : Operand) (t e : TypeId) (z : Value) (size bytes : Nat)
    (ho : o.op = .call { callee := .builtin .append, args := #[s, x], argTypes := #[t, t] })
    (ht : P.underlying t = some (.slice e)) (hinfo : (P.info? e).map (fun i => (i.zero, i.size, i.bytes)) = some (some z, size, bytes)) (hz : z.cells.size = size) (hs0 : 0 < size) (hb0 : 0 < bytes)
    (v : Value) (n m : Nat) (xs : List Value) (cs : Array Value) (hs : a.eval s = v) (hx : a.eval x = .slice (some ⟨m, 0, none⟩) 1 1) (hm : m = W.heap.size) (hcs : cs.size = size) (h1 : ∀ u ∈ cs.toList, u.oneCell' = true)
    (HO : W.ownsRow base e size v n xs) (HB : Below base w0 W) (hbase : base ≤ W.heap.size) (hl : (n + 1) * bytes ≤ 140737488355328)
    (h : ∀ v1 w1, w1.ownsRow base e size v1 (n + 1) (xs ++ cs.toList) → Below base w0 w1 → wpList P ops Q rest (a.put o.dst v1) w1) :
    wpList P ops Q (o :: rest) a (W.alloc (.cells cs e)) := by
  subst hm
  obtain ⟨i0, hi, hzz⟩ := Option.map_eq_some_iff.1 hinfo
  simp only [Prod.mk.injEq] at hzz
  obtain ⟨hz0, hz1, hz2⟩ := hzz
  have hlen : n + 1 ≤ 140737488355328 := Nat.le_trans (Nat.le_mul_of_pos_right _ hb0) hl
  refine wpList_append_own (w := W.alloc (.cells cs e)) hgd s x t ho base e i0 z size bytes ht hi hz0 hz1 hz2 hz hs0 v n xs hs (HO.alloc _) ⟨W.heap.size, 0, none⟩ 1 1 cs.toList hx (by simp [hcs])
    (World.news_of_block (cs := cs) (t := e) (fr := (0, 0)) (heap_alloc_new W _)) h1 (by simp only [maxLen]; omega) hl (by simp; omega) ?_
  intro v1 w1 hown hg _
  exact h v1 w1 hown ((HB.alloc hbase _).grown hg (by simp; omega) (own_base HO))
/-- 'append(out, xs...)', out nil or a row of the call's own, xs a slice that is read, nil let in. -/
theorem step_append_slice {w0 W : World} (hgd : o.guard = none) (base : Nat) (s x : Operand) (t e : TypeId) (z : Value) (size bytes : Nat)
    (ho : o.op = .call { callee := .builtin .append, args := #[s, x], argTypes := #[t, t] })
    (ht : P.underlying t = some (.slice e)) (hinfo : (P.info? e).map (fun i => (i.zero, i.size, i.bytes)) = some (some z, size, bytes)) (hz : z.cells.size = size) (hs0 : 0 < size) (hb0 : 0 < bytes)
    (v : Value) (n m c : Nat) (oa : Option Addr) (xs news : List Value) (hs : a.eval s = v) (hx : a.eval x = .slice oa m c) (hnl : news.length = m * size)
    (hrd : ∀ j u, news[j]? = some u → ∃ ad, oa = some ad ∧ W.cell? (ad.add j) = some u) (h1 : ∀ u ∈ news, u.oneCell' = true)
    (HO : W.ownsRow base e size v n xs) (HB : Below base w0 W) (hbase : base ≤ W.heap.size) (hl : (n + m) * bytes ≤ 140737488355328)
    (h : ∀ v1 w1, w1.ownsRow base e size v1 (n + m) (xs ++ news) → Below base w0 w1 → wpList P ops Q rest (a.put o.dst v1) w1) :
    wpList P ops Q (o :: rest) a W := by
  obtain ⟨i0, hi, hzz⟩ := Option.map_eq_some_iff.1 hinfo
  simp only [Prod.mk.injEq] at hzz
  obtain ⟨hz0, hz1, hz2⟩ := hzz
  have hlen : n + m ≤ 140737488355328 := Nat.le_trans (Nat.le_mul_of_pos_right _ hb0) hl
  rcases oa with _ | ad
  · have hnews : news = [] := by
      cases news with
      | nil => rfl
      | cons u r => obtain ⟨ad, had, _⟩ := hrd 0 u rfl; cases had
    subst hnews
    obtain rfl : m = 0 := by
      rcases Nat.eq_zero_or_pos m with h0 | h0
      · exact h0
      · have := Nat.mul_pos h0 hs0; simp at hnl; omega
    refine step_value hgd v W ?_ (h v W (by simpa using HO) HB)
    unfold execOp
    simp only [ho, resolve, invoke, builtin, Sem.run_bind, Sem.run_pure, Result.andThen_ok, List.map_toArray, List.map_cons, List.map_nil, hs, hx]
    rcases HO.2 with ⟨rfl, hn⟩ | ⟨g, cap, cur, rfl, _, _, hnc, _⟩
    · subst hn; simp [Builtin.append_, run_underlying ht, sizeOf, typeInfo, hi, Builtin.lenOf, Builtin.firstCells]
    · simp [Builtin.append_, run_underlying ht, sizeOf, typeInfo, hi, Builtin.lenOf, Builtin.firstCells, hnc, storeCells]
  · refine wpList_append_own (w := W) hgd s x t ho base e i0 z size bytes ht hi hz0 hz1 hz2 hz hs0 v n xs hs HO ad m c news hx hnl
      (fun j u hu => by obtain ⟨ad', h', hc⟩ := hrd j u hu; injection h' with h'; subst h'; exact hc) h1 (by simp only [maxLen]; omega) hl hbase ?_
    intro v1 w1 hown hg _
    exact h v1 w1 hown (HB.grown hg hbase (own_base HO))
/-- A struct or array variable, known whole, is written whole. -/
theorem step_store_row {W : World} (hgd : o.guard = none) (t : TypeId) (x y : Operand) (ho : o.op = .store t x y) (g e : Nat) (cur vs : Array Value) (hx : a.eval x = .pointer (some ⟨g, 0, none⟩)) (hy : a.eval y = .agg vs)
    (hg : W.heap[g]? = some (.cells cur e (0, 0))) (hi : (P.info? t).map (·.size) = some vs.size) (hc : cur.size = vs.size) (h1 : ∀ v ∈ vs.toList, v.oneCell' = true)
    (hn : wpList P ops Q rest (a.put o.dst undef) (W.setRow g vs)) : wpList P ops Q (o :: rest) a W :=
  step_skip hgd _ (by
    unfold execOp
    simp only [ho, hx, hy, Sem.run_bind, run_storeAt_row g t e cur vs W hg hi hc h1, Result.andThen_ok, Sem.run_pure]) hn
end
end Go.Proofs.YtghhidaihajdmaaDoor
/- The library contracts that this seat leans on, each one application of a theorem of the shelf. -/
namespace Go.Proofs
open Go.Shelf
def Tryd.lays169_ren : Go.Shelf.Ren := ⟨fun | 169 => 30 | n => n, fun | 70 => 69 | 9 => 9 | 0 => 0 | 72 => 71 | 37 => 37 | 127 => 87 | 3 => 3 | 5 => 5 | n => n, fun | n => n⟩
theorem Tryd.lays169 : Go.Proofs.Lays.n169 Tryd.prog Tryd.lays169_ren := {
  mixed := by kernel_rfl
  f169 := Tryd.func30.trans (congrArg some (by kernel_rfl))
  t0 := Tryd.underlying0
  a0 := Tryd.isAgg0
  z0 := Tryd.sizeOf0
  v0 := Tryd.zeroValue0
  t3 := Tryd.underlying3
  a3 := Tryd.isAgg3
  z3 := Tryd.sizeOf3
  v3 := Tryd.zeroValue3
  t9 := Tryd.underlying9
  a9 := Tryd.isAgg9
  z9 := Tryd.sizeOf9
  v9 := Tryd.zeroValue9
  t37 := Tryd.underlying37
  a37 := Tryd.isAgg37
  z37 := Tryd.sizeOf37
  v37 := Tryd.zeroValue37
  t70 := Tryd.underlying69
  a70 := Tryd.isAgg69
  z70 := Tryd.sizeOf69
  v70 := Tryd.zeroValue69
  t72 := Tryd.underlying71
  a72 := Tryd.isAgg71
  z72 := Tryd.sizeOf71
  v72 := Tryd.zeroValue71
  t127 := Tryd.underlying87
  a127 := Tryd.isAgg87
  z127 := Tryd.sizeOf87
  v127 := Tryd.zeroValue87 }
theorem Tryd.Builder_Extra_169 : Builder.Extra Tryd.prog Tryd.lays169_ren := {
  sizeBuilder := by kernel_rfl
  liesBuilder := by kernel_rfl
  t5 := Tryd.underlying5
  a5 := Tryd.isAgg5
  z5 := Tryd.sizeOf5
  v5 := Tryd.zeroValue5
  infoByte := by kernel_rfl
  cellsByte := by kernel_rfl
  sizeByte := by kernel_rfl
  neB5 := by decide }
open Go.RowKit in
/-- (*strings.Builder).String: "String returns the accumulated string.": WHATEVER THE BUILDER HOLDS. (LAID: no walk: one application.) -/
theorem Tryd.Builder_String_any (B b : Nat) (l : List UInt8) (w : World) (h : Lib.IsBuilder 71 5 B b (Lib.byteCells l) w) (hBw : B ≤ w.heap.size) :
    Calls Tryd.prog 30 #[.pointer (some ⟨b, 0, none⟩)] w fun e w' => e = .returned (.string ⟨l.toArray⟩) ∧ Below B w w' := Any.Builder_String_any Tryd.lays169 Tryd.Builder_Extra_169 B b l w h hBw
def Tryd.lays156_ren : Go.Shelf.Ren := ⟨fun | 156 => 15 | 165 => 28 | 166 => 29 | 169 => 30 | 240 => 41 | 241 => 42 | 276 => 53 | 277 => 54 | n => n, fun | 31 => 43 | 9 => 9 | 3 => 3 | 4 => 4 | 0 => 0 | 20 => 20 | 72 => 71 | 76 => 75 | 70 => 69 | 37 => 37 | 75 => 74 | 127 => 87 | 164 => 107 | 5 => 5 | 80 => 66 | n => n, fun | n => n⟩
theorem Tryd.lays156 : Go.Proofs.Lays.n156 Tryd.prog Tryd.lays156_ren := {
  mixed := by kernel_rfl
  f156 := Tryd.func15.trans (congrArg some (by kernel_rfl))
  f165 := Tryd.func28.trans (congrArg some (by kernel_rfl))
  f166 := Tryd.func29.trans (congrArg some (by kernel_rfl))
  f169 := Tryd.func30.trans (congrArg some (by kernel_rfl))
  f240 := Tryd.func41.trans (congrArg some (by kernel_rfl))
  f241 := Tryd.func42.trans (congrArg some (by kernel_rfl))
  f276 := Tryd.func53.trans (congrArg some (by kernel_rfl))
  f277 := Tryd.func54.trans (congrArg some (by kernel_rfl))
  t0 := Tryd.underlying0
  a0 := Tryd.isAgg0
  z0 := Tryd.sizeOf0
  v0 := Tryd.zeroValue0
  t3 := Tryd.underlying3
  a3 := Tryd.isAgg3
  z3 := Tryd.sizeOf3
  v3 := Tryd.zeroValue3
  t4 := Tryd.underlying4
  a4 := Tryd.isAgg4
  z4 := Tryd.sizeOf4
  v4 := Tryd.zeroValue4
  t9 := Tryd.underlying9
  a9 := Tryd.isAgg9
  z9 := Tryd.sizeOf9
  v9 := Tryd.zeroValue9
  t20 := Tryd.underlying20
  a20 := Tryd.isAgg20
  z20 := Tryd.sizeOf20
  v20 := Tryd.zeroValue20
  t31 := Tryd.underlying43
  a31 := Tryd.isAgg43
  z31 := Tryd.sizeOf43
  v31 := Tryd.zeroValue43
  t37 := Tryd.underlying37
  a37 := Tryd.isAgg37
  z37 := Tryd.sizeOf37
  v37 := Tryd.zeroValue37
  t70 := Tryd.underlying69
  a70 := Tryd.isAgg69
  z70 := Tryd.sizeOf69
  v70 := Tryd.zeroValue69
  t72 := Tryd.underlying71
  a72 := Tryd.isAgg71
  z72 := Tryd.sizeOf71
  v72 := Tryd.zeroValue71
  t75 := Tryd.underlying74
  a75 := Tryd.isAgg74
  z75 := Tryd.sizeOf74
  v75 := Tryd.zeroValue74
  t76 := Tryd.underlying75
  a76 := Tryd.isAgg75
  z76 := Tryd.sizeOf75
  v76 := Tryd.zeroValue75
  t127 := Tryd.underlying87
  a127 := Tryd.isAgg87
  z127 := Tryd.sizeOf87
  v127 := Tryd.zeroValue87
  t164 := Tryd.underlying107
  a164 := Tryd.isAgg107
  z164 := Tryd.sizeOf107
  v164 := Tryd.zeroValue107 }
theorem Tryd.Builder_Extra_156 : Builder.Extra Tryd.prog Tryd.lays156_ren := {
  sizeBuilder := by kernel_rfl
  liesBuilder := by kernel_rfl
  t5 := Tryd.underlying5
  a5 := Tryd.isAgg5
  z5 := Tryd.sizeOf5
  v5 := Tryd.zeroValue5
  infoByte := by kernel_rfl
  cellsByte := by kernel_rfl
  sizeByte := by kernel_rfl
  neB5 := by decide }
open Go.RowKit in
/-- strings.Join: "Join concatenates the elements of its first argument to create a single string. The separator string sep is placed between elements in the resulting string.": HOWEVER MANY ELEMENTS. Below the heap's end the world is as it was. (LAID: no walk: one application.) -/
theorem Tryd.strings_Join (bk o c : Nat) (xs : List ByteArray) (sep : ByteArray) (w : World) (hcells : ∀ (j : Nat) x, xs[j]? = some x → w.cell? ⟨bk, o + j, none⟩ = some (.string x)) (hbk : bk < w.heap.size) (hN : xs.length ≤ 140737488355328) (hcap : xs.length ≤ c) (hlen : (Lib.join (xs.map (·.data.toList)) sep.data.toList).length ≤ 140737488355328) :
    Calls Tryd.prog 15 #[.slice (some ⟨bk, o, none⟩) xs.length c, .string sep] w fun e w' => e = .returned (.string ⟨(Lib.join (xs.map (·.data.toList)) sep.data.toList).toArray⟩) ∧ Below w.heap.size w w' := Any.strings_Join Tryd.lays156 Tryd.Builder_Extra_156 bk o c xs sep w hcells hbk hN hcap hlen
def Tryd.lays137_ren : Go.Shelf.Ren := ⟨fun | 137 => 46 | 217 => 59 | 266 => 74 | n => n, fun | 9 => 9 | 5 => 5 | 3 => 3 | n => n, fun | n => n⟩
theorem Tryd.lays137 : Go.Proofs.Lays.n137 Tryd.prog Tryd.lays137_ren := {
  mixed := by kernel_rfl
  f137 := Tryd.func46.trans (congrArg some (by kernel_rfl))
  f217 := Tryd.func59.trans (congrArg some (by kernel_rfl))
  f266 := Tryd.func74.trans (congrArg some (by kernel_rfl))
  t3 := Tryd.underlying3
  a3 := Tryd.isAgg3
  z3 := Tryd.sizeOf3
  v3 := Tryd.zeroValue3
  t5 := Tryd.underlying5
  a5 := Tryd.isAgg5
  z5 := Tryd.sizeOf5
  v5 := Tryd.zeroValue5
  t9 := Tryd.underlying9
  a9 := Tryd.isAgg9
  z9 := Tryd.sizeOf9
  v9 := Tryd.zeroValue9 }
open Go.RowKit in
/-- strings.IndexByte: "IndexByte returns the index of the first instance of c in s, or -1 if c is not present in s.": IT RETURNS 'Lib.indexByte s c'; the world is as it was. (LAID: no walk: one application.) -/
theorem Tryd.strings_IndexByte (s : ByteArray) (c : Int) (w : World) :
    Calls Tryd.prog 46 #[.string s, .int .u8 c] w fun e w' => e = .returned (.int .i64 (Lib.indexByte s.data.toList c.toNat.toUInt8)) ∧ w' = w := Any.strings_IndexByte Tryd.lays137 s c w
def Tryd.lays103_ren : Go.Shelf.Ren := ⟨fun | 103 => 45 | 210 => 58 | 206 => 73 | n => n, fun | 9 => 9 | 4 => 4 | 24 => 49 | 3 => 3 | n => n, fun | n => n⟩
theorem Tryd.lays103 : Go.Proofs.Lays.n103 Tryd.prog Tryd.lays103_ren := {
  mixed := by kernel_rfl
  f103 := Tryd.func45.trans (congrArg some (by kernel_rfl))
  f206 := Tryd.func73.trans (congrArg some (by kernel_rfl))
  f210 := Tryd.func58.trans (congrArg some (by kernel_rfl))
  t3 := Tryd.underlying3
  a3 := Tryd.isAgg3
  z3 := Tryd.sizeOf3
  v3 := Tryd.zeroValue3
  t4 := Tryd.underlying4
  a4 := Tryd.isAgg4
  z4 := Tryd.sizeOf4
  v4 := Tryd.zeroValue4
  t9 := Tryd.underlying9
  a9 := Tryd.isAgg9
  z9 := Tryd.sizeOf9
  v9 := Tryd.zeroValue9
  t24 := Tryd.underlying49
  a24 := Tryd.isAgg49
  z24 := Tryd.sizeOf49
  v24 := Tryd.zeroValue49 }
open Go.RowKit in
/-- strings.CutPrefix: "CutPrefix returns s without the provided leading prefix string and reports whether it found the prefix. If s doesn't start with prefix, CutPrefix returns s, false. If prefix is the empty string, CutPrefix returns s, true.": IT RETURNS '(Lib.trimPrefix s p, Lib.hasPrefix s p)'; the world is as it was. (LAID: no walk: one application.) -/
theorem Tryd.strings_CutPrefix (s p : ByteArray) (w : World) :
    Calls Tryd.prog 45 #[.string s, .string p] w fun e w' => e = .returned (.tuple #[.string ⟨(Lib.trimPrefix s.data.toList p.data.toList).toArray⟩, .bool (Lib.hasPrefix s.data.toList p.data.toList)]) ∧ w' = w := Any.strings_CutPrefix Tryd.lays103 s p w
def Tryd.lays172_ren : Go.Shelf.Ren := ⟨fun | 172 => 47 | 244 => 60 | 245 => 61 | 247 => 75 | 279 => 76 | 280 => 77 | 281 => 78 | 282 => 79 | 287 => 86 | 316 => 87 | 171 => 14 | 205 => 88 | 321 => 90 | 322 => 91 | 243 => 27 | 246 => 40 | 283 => 49 | 284 => 50 | 285 => 51 | 286 => 52 | 129 => 65 | 317 => 64 | 318 => 66 | 319 => 67 | 320 => 68 | 337 => 80 | 338 => 81 | n => n, fun | 9 => 9 | 3 => 3 | 75 => 74 | 76 => 75 | 4 => 4 | 5 => 5 | 167 => 134 | 37 => 37 | 0 => 0 | 85 => 135 | 2 => 2 | 168 => 137 | 53 => 102 | 175 => 143 | 46 => 78 | 210 => 146 | 127 => 87 | 145 => 158 | 143 => 156 | 21 => 21 | 171 => 101 | 173 => 105 | 212 => 126 | 51 => 98 | 20 => 20 | 213 => 127 | 232 => 148 | 233 => 149 | 80 => 66 | n => n, fun | 15 => 4 | 16 => 5 | 17 => 2 | 18 => 6 | 19 => 7 | n => n⟩
theorem Tryd.lays172 : Go.Proofs.Lays.n172 Tryd.prog Tryd.lays172_ren := {
  mixed := by kernel_rfl
  f129 := Tryd.func65.trans (congrArg some (by kernel_rfl))
  f171 := Tryd.func14.trans (congrArg some (by kernel_rfl))
  f172 := Tryd.func47.trans (congrArg some (by kernel_rfl))
  f205 := Tryd.func88.trans (congrArg some (by kernel_rfl))
  f243 := Tryd.func27.trans (congrArg some (by kernel_rfl))
  f244 := Tryd.func60.trans (congrArg some (by kernel_rfl))
  f245 := Tryd.func61.trans (congrArg some (by kernel_rfl))
  f246 := Tryd.func40.trans (congrArg some (by kernel_rfl))
  f247 := Tryd.func75.trans (congrArg some (by kernel_rfl))
  f279 := Tryd.func76.trans (congrArg some (by kernel_rfl))
  f280 := Tryd.func77.trans (congrArg some (by kernel_rfl))
  f281 := Tryd.func78.trans (congrArg some (by kernel_rfl))
  f282 := Tryd.func79.trans (congrArg some (by kernel_rfl))
  f283 := Tryd.func49.trans (congrArg some (by kernel_rfl))
  f284 := Tryd.func50.trans (congrArg some (by kernel_rfl))
  f285 := Tryd.func51.trans (congrArg some (by kernel_rfl))
  f286 := Tryd.func52.trans (congrArg some (by kernel_rfl))
  f287 := Tryd.func86.trans (congrArg some (by kernel_rfl))
  f316 := Tryd.func87.trans (congrArg some (by kernel_rfl))
  f317 := Tryd.func64.trans (congrArg some (by kernel_rfl))
  f318 := Tryd.func66.trans (congrArg some (by kernel_rfl))
  f319 := Tryd.func67.trans (congrArg some (by kernel_rfl))
  f320 := Tryd.func68.trans (congrArg some (by kernel_rfl))
  f321 := Tryd.func90.trans (congrArg some (by kernel_rfl))
  f322 := Tryd.func91.trans (congrArg some (by kernel_rfl))
  f337 := Tryd.func80.trans (congrArg some (by kernel_rfl))
  f338 := Tryd.func81.trans (congrArg some (by kernel_rfl))
  t0 := Tryd.underlying0
  a0 := Tryd.isAgg0
  z0 := Tryd.sizeOf0
  v0 := Tryd.zeroValue0
  t2 := Tryd.underlying2
  a2 := Tryd.isAgg2
  z2 := Tryd.sizeOf2
  v2 := Tryd.zeroValue2
  t3 := Tryd.underlying3
  a3 := Tryd.isAgg3
  z3 := Tryd.sizeOf3
  v3 := Tryd.zeroValue3
  t4 := Tryd.underlying4
  a4 := Tryd.isAgg4
  z4 := Tryd.sizeOf4
  v4 := Tryd.zeroValue4
  t5 := Tryd.underlying5
  a5 := Tryd.isAgg5
  z5 := Tryd.sizeOf5
  v5 := Tryd.zeroValue5
  t9 := Tryd.underlying9
  a9 := Tryd.isAgg9
  z9 := Tryd.sizeOf9
  v9 := Tryd.zeroValue9
  t20 := Tryd.underlying20
  a20 := Tryd.isAgg20
  z20 := Tryd.sizeOf20
  v20 := Tryd.zeroValue20
  t21 := Tryd.underlying21
  a21 := Tryd.isAgg21
  z21 := Tryd.sizeOf21
  v21 := Tryd.zeroValue21
  t37 := Tryd.underlying37
  a37 := Tryd.isAgg37
  z37 := Tryd.sizeOf37
  v37 := Tryd.zeroValue37
  t46 := Tryd.underlying78
  a46 := Tryd.isAgg78
  z46 := Tryd.sizeOf78
  v46 := Tryd.zeroValue78
  t51 := Tryd.underlying98
  a51 := Tryd.isAgg98
  z51 := Tryd.sizeOf98
  v51 := Tryd.zeroValue98
  t53 := Tryd.underlying102
  a53 := Tryd.isAgg102
  z53 := Tryd.sizeOf102
  v53 := Tryd.zeroValue102
  t75 := Tryd.underlying74
  a75 := Tryd.isAgg74
  z75 := Tryd.sizeOf74
  v75 := Tryd.zeroValue74
  t76 := Tryd.underlying75
  a76 := Tryd.isAgg75
  z76 := Tryd.sizeOf75
  v76 := Tryd.zeroValue75
  t85 := Tryd.underlying135
  a85 := Tryd.isAgg135
  z85 := Tryd.sizeOf135
  v85 := Tryd.zeroValue135
  t127 := Tryd.underlying87
  a127 := Tryd.isAgg87
  z127 := Tryd.sizeOf87
  v127 := Tryd.zeroValue87
  t143 := Tryd.underlying156
  a143 := Tryd.isAgg156
  z143 := Tryd.sizeOf156
  v143 := Tryd.zeroValue156
  t145 := Tryd.underlying158
  a145 := Tryd.isAgg158
  z145 := Tryd.sizeOf158
  v145 := Tryd.zeroValue158
  t167 := Tryd.underlying134
  a167 := Tryd.isAgg134
  z167 := Tryd.sizeOf134
  v167 := Tryd.zeroValue134
  t168 := Tryd.underlying137
  a168 := Tryd.isAgg137
  z168 := Tryd.sizeOf137
  v168 := Tryd.zeroValue137
  t171 := Tryd.underlying101
  a171 := Tryd.isAgg101
  z171 := Tryd.sizeOf101
  v171 := Tryd.zeroValue101
  t173 := Tryd.underlying105
  a173 := Tryd.isAgg105
  z173 := Tryd.sizeOf105
  v173 := Tryd.zeroValue105
  t175 := Tryd.underlying143
  a175 := Tryd.isAgg143
  z175 := Tryd.sizeOf143
  v175 := Tryd.zeroValue143
  t210 := Tryd.underlying146
  a210 := Tryd.isAgg146
  z210 := Tryd.sizeOf146
  v210 := Tryd.zeroValue146
  t212 := Tryd.underlying126
  a212 := Tryd.isAgg126
  z212 := Tryd.sizeOf126
  v212 := Tryd.zeroValue126
  t213 := Tryd.underlying127
  a213 := Tryd.isAgg127
  z213 := Tryd.sizeOf127
  t232 := Tryd.underlying148
  a232 := Tryd.isAgg148
  z232 := Tryd.sizeOf148
  v232 := Tryd.zeroValue148
  t233 := Tryd.underlying149
  a233 := Tryd.isAgg149
  z233 := Tryd.sizeOf149
  v233 := Tryd.zeroValue149
  g15 := by kernel_rfl
  g16 := by kernel_rfl
  g17 := by kernel_rfl
  g18 := by kernel_rfl
  g19 := by kernel_rfl }
open Go.RowKit in
/-- strconv.Atoi: "Atoi is equivalent to ParseInt(s, 10, 0), converted to type int.": AT A DECIMAL NUMERAL OF AT MOST 18 BYTES: its value, and a nil error. The world behind the call: the one new row that the library's '[]byte(s)' lays. (LAID: no walk: one application.) -/
theorem Tryd.strconv_Atoi (s : ByteArray) (n : Int) (hl : s.size ≤ 18) (h : Lib.atoi s.data.toList = some n) (w : World) :
    Calls Tryd.prog 47 #[.string s] w fun e w' => e = .returned (.tuple #[.int .i64 n, .nilIface]) ∧ ∃ t, w' = Lib.bytesWorld w 5 t := Any.strconv_Atoi Tryd.lays172 s n hl h w
def Tryd.laysM171_ren : Go.Shelf.Ren := ⟨fun | 171 => 14 | 243 => 27 | 246 => 40 | 283 => 49 | 284 => 50 | 285 => 51 | 286 => 52 | 129 => 65 | 317 => 64 | 318 => 66 | 319 => 67 | 320 => 68 | 337 => 80 | 338 => 81 | n => n, fun | 3 => 3 | 9 => 9 | 2 => 2 | 4 => 4 | 171 => 101 | 0 => 0 | 53 => 102 | 37 => 37 | 5 => 5 | 173 => 105 | 212 => 126 | 51 => 98 | 20 => 20 | 213 => 127 | 46 => 78 | 232 => 148 | 233 => 149 | n => n, fun | 17 => 2 | 18 => 6 | 19 => 7 | n => n⟩
theorem Tryd.laysM171 : Go.Proofs.LaysM.n171 Tryd.prog Tryd.laysM171_ren := {
  mixed := by kernel_rfl
  f129 := Tryd.func65.trans (congrArg some (by kernel_rfl))
  f171 := Tryd.func14.trans (congrArg some (by kernel_rfl))
  f243 := Tryd.func27.trans (congrArg some (by kernel_rfl))
  f246 := Tryd.func40.trans (congrArg some (by kernel_rfl))
  f283 := Tryd.func49.trans (congrArg some (by kernel_rfl))
  f284 := Tryd.func50.trans (congrArg some (by kernel_rfl))
  f285 := Tryd.func51.trans (congrArg some (by kernel_rfl))
  f286 := Tryd.func52.trans (congrArg some (by kernel_rfl))
  f317 := Tryd.func64.trans (congrArg some (by kernel_rfl))
  f318 := Tryd.func66.trans (congrArg some (by kernel_rfl))
  f319 := Tryd.func67.trans (congrArg some (by kernel_rfl))
  f320 := Tryd.func68.trans (congrArg some (by kernel_rfl))
  f337 := Tryd.func80.trans (congrArg some (by kernel_rfl))
  f338 := Tryd.func81.trans (congrArg some (by kernel_rfl))
  t0 := Tryd.underlying0
  a0 := Tryd.isAgg0
  z0 := Tryd.sizeOf0
  v0 := Tryd.zeroValue0
  t2 := Tryd.underlying2
  a2 := Tryd.isAgg2
  z2 := Tryd.sizeOf2
  v2 := Tryd.zeroValue2
  t3 := Tryd.underlying3
  a3 := Tryd.isAgg3
  z3 := Tryd.sizeOf3
  v3 := Tryd.zeroValue3
  t4 := Tryd.underlying4
  a4 := Tryd.isAgg4
  z4 := Tryd.sizeOf4
  v4 := Tryd.zeroValue4
  t5 := Tryd.underlying5
  a5 := Tryd.isAgg5
  z5 := Tryd.sizeOf5
  v5 := Tryd.zeroValue5
  t9 := Tryd.underlying9
  a9 := Tryd.isAgg9
  z9 := Tryd.sizeOf9
  v9 := Tryd.zeroValue9
  t20 := Tryd.underlying20
  a20 := Tryd.isAgg20
  z20 := Tryd.sizeOf20
  v20 := Tryd.zeroValue20
  t37 := Tryd.underlying37
  a37 := Tryd.isAgg37
  z37 := Tryd.sizeOf37
  v37 := Tryd.zeroValue37
  t46 := Tryd.underlying78
  a46 := Tryd.isAgg78
  z46 := Tryd.sizeOf78
  v46 := Tryd.zeroValue78
  t51 := Tryd.underlying98
  a51 := Tryd.isAgg98
  z51 := Tryd.sizeOf98
  v51 := Tryd.zeroValue98
  t53 := Tryd.underlying102
  a53 := Tryd.isAgg102
  z53 := Tryd.sizeOf102
  v53 := Tryd.zeroValue102
  t171 := Tryd.underlying101
  a171 := Tryd.isAgg101
  z171 := Tryd.sizeOf101
  v171 := Tryd.zeroValue101
  t173 := Tryd.underlying105
  a173 := Tryd.isAgg105
  z173 := Tryd.sizeOf105
  v173 := Tryd.zeroValue105
  t212 := Tryd.underlying126
  a212 := Tryd.isAgg126
  z212 := Tryd.sizeOf126
  v212 := Tryd.zeroValue126
  t213 := Tryd.underlying127
  a213 := Tryd.isAgg127
  z213 := Tryd.sizeOf127
  t232 := Tryd.underlying148
  a232 := Tryd.isAgg148
  z232 := Tryd.sizeOf148
  v232 := Tryd.zeroValue148
  t233 := Tryd.underlying149
  a233 := Tryd.isAgg149
  z233 := Tryd.sizeOf149
  v233 := Tryd.zeroValue149
  g17 := by kernel_rfl
  g18 := by kernel_rfl
  g19 := by kernel_rfl
  i0 := by kernel_rfl
  i2 := by kernel_rfl
  i3 := by kernel_rfl
  i4 := by kernel_rfl
  i5 := by kernel_rfl
  i9 := by kernel_rfl
  i20 := by kernel_rfl
  i37 := by kernel_rfl
  i46 := by kernel_rfl
  i51 := by kernel_rfl
  i53 := by kernel_rfl
  i171 := by kernel_rfl
  i173 := by kernel_rfl
  i212 := by kernel_rfl
  i232 := by kernel_rfl
  i233 := by kernel_rfl
  m17 := by kernel_rfl
  m18 := by kernel_rfl
  m19 := by kernel_rfl }
open Go.RowKit Go.Sort Go.Lib in
/-- strconv.Itoa: "Itoa is equivalent to FormatInt(int64(i), 10).": i's DECIMAL NUMERAL ('Lib.itoa': a '-' where i is negative, then the digits), FOR EVERY int. The world behind the call: the world before it, new blocks behind the heap (the library's 'var a [24]byte'), draws. (LAID: no walk: one application.) -/
theorem Tryd.strconv_Itoa (n : Int) (h0 : -9223372036854775808 ≤ n) (h1 : n ≤ 9223372036854775807) (w : World) (htab : Lib.TabIs Tryd.prog w "internal/strconv.uint64pow10" .u64 Lib.pow10Tab) :
    Calls Tryd.prog 14 #[.int .i64 n] w fun e w' => e = .returned (.string ⟨(Lib.itoa n).toArray⟩) ∧ ∃ k os, w' = grow (w.drewN k) os := Any.strconv_Itoa Tryd.laysM171 n h0 h1 w htab
def Tryd.laysC172_ren : Go.Shelf.Ren := ⟨fun | 172 => 47 | 244 => 60 | 245 => 61 | 247 => 75 | 279 => 76 | 280 => 77 | 281 => 78 | 282 => 79 | 287 => 86 | 316 => 87 | 171 => 14 | 205 => 88 | 321 => 90 | 322 => 91 | 243 => 27 | 246 => 40 | 283 => 49 | 284 => 50 | 285 => 51 | 286 => 52 | 129 => 65 | 317 => 64 | 318 => 66 | 319 => 67 | 320 => 68 | 337 => 80 | 338 => 81 | n => n, fun | 9 => 9 | 3 => 3 | 75 => 74 | 76 => 75 | 4 => 4 | 5 => 5 | 167 => 134 | 37 => 37 | 0 => 0 | 85 => 135 | 2 => 2 | 168 => 137 | 53 => 102 | 175 => 143 | 46 => 78 | 210 => 146 | 127 => 87 | 145 => 158 | 143 => 156 | 21 => 21 | 171 => 101 | 173 => 105 | 212 => 126 | 51 => 98 | 20 => 20 | 213 => 127 | 232 => 148 | 233 => 149 | 80 => 66 | n => n, fun | 15 => 4 | 16 => 5 | 17 => 2 | 18 => 6 | 19 => 7 | n => n⟩
theorem Tryd.laysC172 : Go.Proofs.LaysC.n172 Tryd.prog Tryd.laysC172_ren := {
  mixed := by kernel_rfl
  f129 := Tryd.func65.trans (congrArg some (by kernel_rfl))
  f171 := Tryd.func14.trans (congrArg some (by kernel_rfl))
  f172 := Tryd.func47.trans (congrArg some (by kernel_rfl))
  f205 := Tryd.func88.trans (congrArg some (by kernel_rfl))
  f243 := Tryd.func27.trans (congrArg some (by kernel_rfl))
  f244 := Tryd.func60.trans (congrArg some (by kernel_rfl))
  f245 := Tryd.func61.trans (congrArg some (by kernel_rfl))
  f246 := Tryd.func40.trans (congrArg some (by kernel_rfl))
  f247 := Tryd.func75.trans (congrArg some (by kernel_rfl))
  f279 := Tryd.func76.trans (congrArg some (by kernel_rfl))
  f280 := Tryd.func77.trans (congrArg some (by kernel_rfl))
  f281 := Tryd.func78.trans (congrArg some (by kernel_rfl))
  f282 := Tryd.func79.trans (congrArg some (by kernel_rfl))
  f283 := Tryd.func49.trans (congrArg some (by kernel_rfl))
  f284 := Tryd.func50.trans (congrArg some (by kernel_rfl))
  f285 := Tryd.func51.trans (congrArg some (by kernel_rfl))
  f286 := Tryd.func52.trans (congrArg some (by kernel_rfl))
  f287 := Tryd.func86.trans (congrArg some (by kernel_rfl))
  f316 := Tryd.func87.trans (congrArg some (by kernel_rfl))
  f317 := Tryd.func64.trans (congrArg some (by kernel_rfl))
  f318 := Tryd.func66.trans (congrArg some (by kernel_rfl))
  f319 := Tryd.func67.trans (congrArg some (by kernel_rfl))
  f320 := Tryd.func68.trans (congrArg some (by kernel_rfl))
  f321 := Tryd.func90.trans (congrArg some (by kernel_rfl))
  f322 := Tryd.func91.trans (congrArg some (by kernel_rfl))
  f337 := Tryd.func80.trans (congrArg some (by kernel_rfl))
  f338 := Tryd.func81.trans (congrArg some (by kernel_rfl))
  t0 := Tryd.underlying0
  a0 := Tryd.isAgg0
  z0 := Tryd.sizeOf0
  v0 := Tryd.zeroValue0
  t2 := Tryd.underlying2
  a2 := Tryd.isAgg2
  z2 := Tryd.sizeOf2
  v2 := Tryd.zeroValue2
  t3 := Tryd.underlying3
  a3 := Tryd.isAgg3
  z3 := Tryd.sizeOf3
  v3 := Tryd.zeroValue3
  t4 := Tryd.underlying4
  a4 := Tryd.isAgg4
  z4 := Tryd.sizeOf4
  v4 := Tryd.zeroValue4
  t5 := Tryd.underlying5
  a5 := Tryd.isAgg5
  z5 := Tryd.sizeOf5
  v5 := Tryd.zeroValue5
  t9 := Tryd.underlying9
  a9 := Tryd.isAgg9
  z9 := Tryd.sizeOf9
  v9 := Tryd.zeroValue9
  t20 := Tryd.underlying20
  a20 := Tryd.isAgg20
  z20 := Tryd.sizeOf20
  v20 := Tryd.zeroValue20
  t21 := Tryd.underlying21
  a21 := Tryd.isAgg21
  z21 := Tryd.sizeOf21
  v21 := Tryd.zeroValue21
  t37 := Tryd.underlying37
  a37 := Tryd.isAgg37
  z37 := Tryd.sizeOf37
  v37 := Tryd.zeroValue37
  t46 := Tryd.underlying78
  a46 := Tryd.isAgg78
  z46 := Tryd.sizeOf78
  v46 := Tryd.zeroValue78
  t51 := Tryd.underlying98
  a51 := Tryd.isAgg98
  z51 := Tryd.sizeOf98
  v51 := Tryd.zeroValue98
  t53 := Tryd.underlying102
  a53 := Tryd.isAgg102
  z53 := Tryd.sizeOf102
  v53 := Tryd.zeroValue102
  t75 := Tryd.underlying74
  a75 := Tryd.isAgg74
  z75 := Tryd.sizeOf74
  v75 := Tryd.zeroValue74
  t76 := Tryd.underlying75
  a76 := Tryd.isAgg75
  z76 := Tryd.sizeOf75
  v76 := Tryd.zeroValue75
  t85 := Tryd.underlying135
  a85 := Tryd.isAgg135
  z85 := Tryd.sizeOf135
  v85 := Tryd.zeroValue135
  t127 := Tryd.underlying87
  a127 := Tryd.isAgg87
  z127 := Tryd.sizeOf87
  v127 := Tryd.zeroValue87
  t143 := Tryd.underlying156
  a143 := Tryd.isAgg156
  z143 := Tryd.sizeOf156
  v143 := Tryd.zeroValue156
  t145 := Tryd.underlying158
  a145 := Tryd.isAgg158
  z145 := Tryd.sizeOf158
  v145 := Tryd.zeroValue158
  t167 := Tryd.underlying134
  a167 := Tryd.isAgg134
  z167 := Tryd.sizeOf134
  v167 := Tryd.zeroValue134
  t168 := Tryd.underlying137
  a168 := Tryd.isAgg137
  z168 := Tryd.sizeOf137
  v168 := Tryd.zeroValue137
  t171 := Tryd.underlying101
  a171 := Tryd.isAgg101
  z171 := Tryd.sizeOf101
  v171 := Tryd.zeroValue101
  t173 := Tryd.underlying105
  a173 := Tryd.isAgg105
  z173 := Tryd.sizeOf105
  v173 := Tryd.zeroValue105
  t175 := Tryd.underlying143
  a175 := Tryd.isAgg143
  z175 := Tryd.sizeOf143
  v175 := Tryd.zeroValue143
  t210 := Tryd.underlying146
  a210 := Tryd.isAgg146
  z210 := Tryd.sizeOf146
  v210 := Tryd.zeroValue146
  t212 := Tryd.underlying126
  a212 := Tryd.isAgg126
  z212 := Tryd.sizeOf126
  v212 := Tryd.zeroValue126
  t213 := Tryd.underlying127
  a213 := Tryd.isAgg127
  z213 := Tryd.sizeOf127
  t232 := Tryd.underlying148
  a232 := Tryd.isAgg148
  z232 := Tryd.sizeOf148
  v232 := Tryd.zeroValue148
  t233 := Tryd.underlying149
  a233 := Tryd.isAgg149
  z233 := Tryd.sizeOf149
  v233 := Tryd.zeroValue149
  g15 := by kernel_rfl
  g16 := by kernel_rfl
  g17 := by kernel_rfl
  g18 := by kernel_rfl
  g19 := by kernel_rfl
  t80 := Tryd.underlying66
  a80 := Tryd.isAgg66
  z80 := Tryd.sizeOf66
  v80 := Tryd.zeroValue66
  i0 := by kernel_rfl
  i2 := by kernel_rfl
  i3 := by kernel_rfl
  i4 := by kernel_rfl
  i5 := by kernel_rfl
  i9 := by kernel_rfl
  i20 := by kernel_rfl
  i21 := by kernel_rfl
  i37 := by kernel_rfl
  i46 := by kernel_rfl
  i51 := by kernel_rfl
  i53 := by kernel_rfl
  i75 := by kernel_rfl
  i76 := by kernel_rfl
  i80 := by kernel_rfl
  i85 := by kernel_rfl
  i127 := by kernel_rfl
  i143 := by kernel_rfl
  i145 := by kernel_rfl
  i167 := by kernel_rfl
  i168 := by kernel_rfl
  i171 := by kernel_rfl
  i173 := by kernel_rfl
  i175 := by kernel_rfl
  i210 := by kernel_rfl
  i212 := by kernel_rfl
  i232 := by kernel_rfl
  i233 := by kernel_rfl
  m15 := by kernel_rfl
  m16 := by kernel_rfl
  m17 := by kernel_rfl
  m18 := by kernel_rfl
  m19 := by kernel_rfl
  c0 := by kernel_rfl
  c2 := by kernel_rfl
  c3 := by kernel_rfl
  c4 := by kernel_rfl
  c5 := by kernel_rfl
  c9 := by kernel_rfl
  c20 := by kernel_rfl
  c21 := by kernel_rfl
  c37 := by kernel_rfl
  c46 := by kernel_rfl
  c51 := by kernel_rfl
  c53 := by kernel_rfl
  c75 := by kernel_rfl
  c76 := by kernel_rfl
  c80 := by kernel_rfl
  c85 := by kernel_rfl
  c127 := by kernel_rfl
  c143 := by kernel_rfl
  c145 := by kernel_rfl
  c167 := by kernel_rfl
  c168 := by kernel_rfl
  c171 := by kernel_rfl
  c173 := by kernel_rfl
  c175 := by kernel_rfl
  c210 := by kernel_rfl
  c212 := by kernel_rfl
  c213 := by kernel_rfl
  c232 := by kernel_rfl
  c233 := by kernel_rfl }
open Go.RowKit in
/-- strconv.Atoi, AT EVERY STRING THAT SPELLS AN int ('Lib.atoiAll .. = .ok v'; of whatever length: leading zeros count): v, AND NO ERROR. The world: as it was, or with the one new row that '[]byte(..)' lays. (LAID: no walk: one application.) -/
theorem Tryd.strconv_Atoi_ok (s : ByteArray) (hmax : s.size ≤ 9223372036854775806) (v : Int) (h : Lib.atoiAll s.data.toList = .ok v) (w : World) :
    Calls Tryd.prog 47 #[.string s] w fun e w' => e = .returned (.tuple #[.int .i64 v, .nilIface]) ∧ (w' = w ∨ ∃ t, w' = Lib.bytesWorld w 5 t) := Any.strconv_Atoi_ok Tryd.laysC172 s hmax v h w
def Tryd.lays146_ren : Go.Shelf.Ren := ⟨fun | 146 => 33 | 221 => 43 | 268 => 55 | 138 => 56 | 143 => 57 | 195 => 69 | 197 => 70 | 218 => 71 | 219 => 72 | 260 => 82 | 217 => 59 | 225 => 83 | 224 => 84 | 267 => 85 | 266 => 74 | 314 => 89 | n => n, fun | 9 => 9 | 31 => 43 | 3 => 3 | 4 => 4 | 0 => 0 | 105 => 131 | 21 => 21 | 5 => 5 | 46 => 78 | 119 => 83 | 139 => 152 | 138 => 151 | 146 => 153 | 51 => 98 | n => n, fun | 1 => 3 | 3 => 8 | 4 => 9 | n => n⟩
theorem Tryd.lays146 : Go.Proofs.Lays.n146 Tryd.prog Tryd.lays146_ren := {
  mixed := by kernel_rfl
  f138 := Tryd.func56.trans (congrArg some (by kernel_rfl))
  f143 := Tryd.func57.trans (congrArg some (by kernel_rfl))
  f146 := Tryd.func33.trans (congrArg some (by kernel_rfl))
  f195 := Tryd.func69.trans (congrArg some (by kernel_rfl))
  f197 := Tryd.func70.trans (congrArg some (by kernel_rfl))
  f217 := Tryd.func59.trans (congrArg some (by kernel_rfl))
  f218 := Tryd.func71.trans (congrArg some (by kernel_rfl))
  f219 := Tryd.func72.trans (congrArg some (by kernel_rfl))
  f221 := Tryd.func43.trans (congrArg some (by kernel_rfl))
  f224 := Tryd.func84.trans (congrArg some (by kernel_rfl))
  f225 := Tryd.func83.trans (congrArg some (by kernel_rfl))
  f260 := Tryd.func82.trans (congrArg some (by kernel_rfl))
  f266 := Tryd.func74.trans (congrArg some (by kernel_rfl))
  f267 := Tryd.func85.trans (congrArg some (by kernel_rfl))
  f268 := Tryd.func55.trans (congrArg some (by kernel_rfl))
  f314 := Tryd.func89.trans (congrArg some (by kernel_rfl))
  t0 := Tryd.underlying0
  a0 := Tryd.isAgg0
  z0 := Tryd.sizeOf0
  v0 := Tryd.zeroValue0
  t3 := Tryd.underlying3
  a3 := Tryd.isAgg3
  z3 := Tryd.sizeOf3
  v3 := Tryd.zeroValue3
  t4 := Tryd.underlying4
  a4 := Tryd.isAgg4
  z4 := Tryd.sizeOf4
  v4 := Tryd.zeroValue4
  t5 := Tryd.underlying5
  a5 := Tryd.isAgg5
  z5 := Tryd.sizeOf5
  v5 := Tryd.zeroValue5
  t9 := Tryd.underlying9
  a9 := Tryd.isAgg9
  z9 := Tryd.sizeOf9
  v9 := Tryd.zeroValue9
  t21 := Tryd.underlying21
  a21 := Tryd.isAgg21
  z21 := Tryd.sizeOf21
  v21 := Tryd.zeroValue21
  t31 := Tryd.underlying43
  a31 := Tryd.isAgg43
  z31 := Tryd.sizeOf43
  v31 := Tryd.zeroValue43
  t46 := Tryd.underlying78
  a46 := Tryd.isAgg78
  z46 := Tryd.sizeOf78
  v46 := Tryd.zeroValue78
  t51 := Tryd.underlying98
  a51 := Tryd.isAgg98
  z51 := Tryd.sizeOf98
  v51 := Tryd.zeroValue98
  t105 := Tryd.underlying131
  a105 := Tryd.isAgg131
  z105 := Tryd.sizeOf131
  v105 := Tryd.zeroValue131
  t119 := Tryd.underlying83
  a119 := Tryd.isAgg83
  z119 := Tryd.sizeOf83
  t138 := Tryd.underlying151
  a138 := Tryd.isAgg151
  z138 := Tryd.sizeOf151
  v138 := Tryd.zeroValue151
  t139 := Tryd.underlying152
  a139 := Tryd.isAgg152
  z139 := Tryd.sizeOf152
  v139 := Tryd.zeroValue152
  t146 := Tryd.underlying153
  a146 := Tryd.isAgg153
  z146 := Tryd.sizeOf153
  v146 := Tryd.zeroValue153
  g1 := by kernel_rfl
  g3 := by kernel_rfl
  g4 := by kernel_rfl }
open Go.RowKit Go.Lib in
/-- strings.Split. (LAID: no walk: one application.) -/
theorem Tryd.strings_Split (s sep : ByteArray) (m : Int) (w : World) (hs : s.size < 4294967281) (hm : w.cell? ⟨3, 0, none⟩ = some (.int .i64 m)) (h1 : 1 ≤ sep.size) :
    Calls Tryd.prog 33 #[.string s, .string sep] w fun e w' =>
      e = .returned (.slice (some ⟨w.heap.size, 0, none⟩) (Lib.countB s sep + 1) (Lib.countB s sep + 1)) ∧ w' = w.alloc (.cells ((Lib.splitB sep 0 (Lib.countB s sep) s).map Value.string).toArray 9) := Any.strings_Split Tryd.lays146 (by kernel_rfl) s sep m w hs hm h1
def Tryd.laysM157_ren : Go.Shelf.Ren := ⟨fun | 157 => 26 | 229 => 38 | 199 => 39 | 261 => 48 | 311 => 62 | 312 => 63 | n => n, fun | 9 => 9 | 31 => 43 | 3 => 3 | 5 => 5 | 4 => 4 | 119 => 83 | 0 => 0 | 40 => 85 | 152 => 95 | 21 => 21 | 154 => 97 | 51 => 98 | 141 => 100 | 196 => 116 | 193 => 113 | 198 => 119 | 49 => 117 | 194 => 114 | 201 => 122 | 226 => 140 | 46 => 78 | 227 => 141 | n => n, fun | 0 => 0 | 6 => 1 | n => n⟩
theorem Tryd.laysM157 : Go.Proofs.LaysM.n157 Tryd.prog Tryd.laysM157_ren := {
  mixed := by kernel_rfl
  f157 := Tryd.func26.trans (congrArg some (by kernel_rfl))
  f199 := Tryd.func39.trans (congrArg some (by kernel_rfl))
  f229 := Tryd.func38.trans (congrArg some (by kernel_rfl))
  f261 := Tryd.func48.trans (congrArg some (by kernel_rfl))
  f311 := Tryd.func62.trans (congrArg some (by kernel_rfl))
  f312 := Tryd.func63.trans (congrArg some (by kernel_rfl))
  t0 := Tryd.underlying0
  a0 := Tryd.isAgg0
  z0 := Tryd.sizeOf0
  v0 := Tryd.zeroValue0
  t3 := Tryd.underlying3
  a3 := Tryd.isAgg3
  z3 := Tryd.sizeOf3
  v3 := Tryd.zeroValue3
  t4 := Tryd.underlying4
  a4 := Tryd.isAgg4
  z4 := Tryd.sizeOf4
  v4 := Tryd.zeroValue4
  t5 := Tryd.underlying5
  a5 := Tryd.isAgg5
  z5 := Tryd.sizeOf5
  v5 := Tryd.zeroValue5
  t9 := Tryd.underlying9
  a9 := Tryd.isAgg9
  z9 := Tryd.sizeOf9
  v9 := Tryd.zeroValue9
  t21 := Tryd.underlying21
  a21 := Tryd.isAgg21
  z21 := Tryd.sizeOf21
  v21 := Tryd.zeroValue21
  t31 := Tryd.underlying43
  a31 := Tryd.isAgg43
  z31 := Tryd.sizeOf43
  v31 := Tryd.zeroValue43
  t40 := Tryd.underlying85
  a40 := Tryd.isAgg85
  z40 := Tryd.sizeOf85
  v40 := Tryd.zeroValue85
  t46 := Tryd.underlying78
  a46 := Tryd.isAgg78
  z46 := Tryd.sizeOf78
  v46 := Tryd.zeroValue78
  t49 := Tryd.underlying117
  a49 := Tryd.isAgg117
  z49 := Tryd.sizeOf117
  v49 := Tryd.zeroValue117
  t51 := Tryd.underlying98
  a51 := Tryd.isAgg98
  z51 := Tryd.sizeOf98
  v51 := Tryd.zeroValue98
  t119 := Tryd.underlying83
  a119 := Tryd.isAgg83
  z119 := Tryd.sizeOf83
  t141 := Tryd.underlying100
  a141 := Tryd.isAgg100
  z141 := Tryd.sizeOf100
  v141 := Tryd.zeroValue100
  t152 := Tryd.underlying95
  a152 := Tryd.isAgg95
  z152 := Tryd.sizeOf95
  v152 := Tryd.zeroValue95
  t154 := Tryd.underlying97
  a154 := Tryd.isAgg97
  z154 := Tryd.sizeOf97
  v154 := Tryd.zeroValue97
  t193 := Tryd.underlying113
  a193 := Tryd.isAgg113
  z193 := Tryd.sizeOf113
  v193 := Tryd.zeroValue113
  t194 := Tryd.underlying114
  a194 := Tryd.isAgg114
  z194 := Tryd.sizeOf114
  v194 := Tryd.zeroValue114
  t196 := Tryd.underlying116
  a196 := Tryd.isAgg116
  z196 := Tryd.sizeOf116
  v196 := Tryd.zeroValue116
  t198 := Tryd.underlying119
  a198 := Tryd.isAgg119
  z198 := Tryd.sizeOf119
  v198 := Tryd.zeroValue119
  t201 := Tryd.underlying122
  a201 := Tryd.isAgg122
  z201 := Tryd.sizeOf122
  v201 := Tryd.zeroValue122
  t226 := Tryd.underlying140
  a226 := Tryd.isAgg140
  z226 := Tryd.sizeOf140
  v226 := Tryd.zeroValue140
  t227 := Tryd.underlying141
  a227 := Tryd.isAgg141
  z227 := Tryd.sizeOf141
  v227 := Tryd.zeroValue141
  g0 := by kernel_rfl
  g6 := by kernel_rfl
  i0 := by kernel_rfl
  i3 := by kernel_rfl
  i4 := by kernel_rfl
  i5 := by kernel_rfl
  i9 := by kernel_rfl
  i21 := by kernel_rfl
  i31 := by kernel_rfl
  i40 := by kernel_rfl
  i46 := by kernel_rfl
  i49 := by kernel_rfl
  i51 := by kernel_rfl
  i141 := by kernel_rfl
  i152 := by kernel_rfl
  i154 := by kernel_rfl
  i193 := by kernel_rfl
  i194 := by kernel_rfl
  i196 := by kernel_rfl
  i198 := by kernel_rfl
  i201 := by kernel_rfl
  i226 := by kernel_rfl
  i227 := by kernel_rfl
  m0 := by kernel_rfl
  m6 := by kernel_rfl }
open Go.RowKit Go.Lib in
/-- strings.Fields on ASCII bytes. (The table: 'Lib.TabIs', as strings.TrimSpace's contract asks it.) (LAID: no walk: one application.) -/
theorem Tryd.strings_Fields_laid (s : ByteArray) (w : World) (hs : s.size < 4294967281) (hascii : ∀ (j : Nat) b, s.data.toList[j]? = some b → b.toNat < 128) (htab : Lib.TabIs Tryd.prog w "strings.asciiSpace" .u8 Lib.asciiSpaceTab) :
    Calls Tryd.prog 26 #[.string s] w fun e w' =>
      e = .returned (.slice (some ⟨w.heap.size, 0, none⟩) (Lib.fields s.data.toList).length (Lib.fields s.data.toList).length) ∧ w' = w.alloc (.cells ((Lib.fields s.data.toList).map fun l => Value.string ⟨l.toArray⟩).toArray 9) := Any.strings_Fields_laid Tryd.laysM157 s w hs hascii htab
def Tryd.lays167_ren : Go.Shelf.Ren := ⟨fun | 167 => 31 | 240 => 41 | 276 => 53 | n => n, fun | 0 => 0 | 4 => 4 | 5 => 5 | 9 => 9 | 20 => 20 | 37 => 37 | 70 => 69 | 72 => 71 | 75 => 74 | 80 => 66 | 164 => 107 | n => n, fun | n => n⟩
theorem Tryd.lays167 : Go.Proofs.Lays.n167 Tryd.prog Tryd.lays167_ren := {
  mixed := by kernel_rfl
  f167 := Tryd.func31.trans (congrArg some (by kernel_rfl))
  f240 := Tryd.func41.trans (congrArg some (by kernel_rfl))
  f276 := Tryd.func53.trans (congrArg some (by kernel_rfl))
  t0 := Tryd.underlying0
  a0 := Tryd.isAgg0
  z0 := Tryd.sizeOf0
  v0 := Tryd.zeroValue0
  t4 := Tryd.underlying4
  a4 := Tryd.isAgg4
  z4 := Tryd.sizeOf4
  v4 := Tryd.zeroValue4
  t5 := Tryd.underlying5
  a5 := Tryd.isAgg5
  z5 := Tryd.sizeOf5
  v5 := Tryd.zeroValue5
  t9 := Tryd.underlying9
  a9 := Tryd.isAgg9
  z9 := Tryd.sizeOf9
  v9 := Tryd.zeroValue9
  t20 := Tryd.underlying20
  a20 := Tryd.isAgg20
  z20 := Tryd.sizeOf20
  v20 := Tryd.zeroValue20
  t37 := Tryd.underlying37
  a37 := Tryd.isAgg37
  z37 := Tryd.sizeOf37
  v37 := Tryd.zeroValue37
  t70 := Tryd.underlying69
  a70 := Tryd.isAgg69
  z70 := Tryd.sizeOf69
  v70 := Tryd.zeroValue69
  t72 := Tryd.underlying71
  a72 := Tryd.isAgg71
  z72 := Tryd.sizeOf71
  v72 := Tryd.zeroValue71
  t75 := Tryd.underlying74
  a75 := Tryd.isAgg74
  z75 := Tryd.sizeOf74
  v75 := Tryd.zeroValue74
  t164 := Tryd.underlying107
  a164 := Tryd.isAgg107
  z164 := Tryd.sizeOf107
  v164 := Tryd.zeroValue107
}
-- DESCRIPTION PARTS 164 107 TypeDesc.unsafePointer None
-- DESCRIPTION PARTS 164 107 TypeDesc.unsafePointer None
-- DESCRIPTION PARTS 164 107 TypeDesc.unsafePointer None
theorem Tryd.Builder_Extra_167 : Builder.Extra Tryd.prog Tryd.lays167_ren where
  sizeBuilder := by kernel_rfl
  liesBuilder := by kernel_rfl
  t5 := Tryd.underlying5
  a5 := Tryd.isAgg5
  z5 := Tryd.sizeOf5
  v5 := Tryd.zeroValue5
  infoByte := by kernel_rfl
  cellsByte := by kernel_rfl
  sizeByte := by kernel_rfl
  neB5 := by decide

open Go.RowKit in
/-- (*strings.Builder).WriteByte: "WriteByte appends the byte c to b's buffer. The returned error is always nil.": UNDER Go's OWN LIMIT: the new length takes at most 2^47 bytes. (LAID: no walk: one application.) -/
theorem Tryd.Builder_WriteByte (B b : Nat) (bs : List Value) (c : Int) (w : World) (h : Lib.IsBuilder 71 5 B b bs w) (hlen : bs.length + 1 ≤ 140737488355328) (hBw : B ≤ w.heap.size) :
    Calls Tryd.prog 31 #[.pointer (some ⟨b, 0, none⟩), .int .u8 c] w fun e w' => e = .returned .nilIface ∧ (Lib.BuilderAt 71 5 B b (.pointer (some ⟨b, 0, none⟩)) (bs ++ [.int .u8 c]) w' ∧ Below B w w') := Any.Builder_WriteByte Tryd.lays167 Tryd.Builder_Extra_167 B b bs c w h hlen hBw

end Go.Proofs
/- The lines of acts: names, numbers, small digits; the reference's numbers. -/
namespace Go.Proofs.YtghhidaihajdmaaDoor
open Go.RowKit
theorem tabIs_below {P : Program} {n : String} {g : Nat} {k : IntKind} {zs : List Int} {w w' : World} (hg : P.globalNamed n = some g) (h : Lib.TabIs P w n k zs) (hb : Below w.heap.size w w') : Lib.TabIs P w' n k zs := by
  unfold Lib.TabIs World.var? at h ⊢
  rw [hg] at h ⊢
  simp only [Option.bind_some] at h ⊢
  have hlt : g < w.heap.size := by
    apply Classical.byContradiction
    intro hge
    rw [Array.getElem?_eq_none (by omega)] at h
    cases h
  rw [hb.block g hlt]
  exact h
/-- The library's variables read as its text lays them. -/
structure Tabs (w : World) : Prop where
  sp : Lib.TabIs Tryd.prog w "strings.asciiSpace" .u8 Lib.asciiSpaceTab
  pow : Lib.TabIs Tryd.prog w "internal/strconv.uint64pow10" .u64 Lib.pow10Tab
theorem gsp : ∃ g, Tryd.prog.globalNamed "strings.asciiSpace" = some g := Option.isSome_iff_exists.1 (by kernel_rfl)
theorem gpow : ∃ g, Tryd.prog.globalNamed "internal/strconv.uint64pow10" = some g := Option.isSome_iff_exists.1 (by kernel_rfl)
theorem Tabs.below {w w' : World} (h : Tabs w) (hb : Below w.heap.size w w') : Tabs w' := by
  obtain ⟨g1, h1⟩ := gsp
  obtain ⟨g2, h2⟩ := gpow
  exact ⟨tabIs_below h1 h.sp hb, tabIs_below h2 h.pow hb⟩
def strs (r : List (List UInt8)) : Array Value := (r.map fun x => Value.string (mkS x)).toArray
theorem strs_at (r : List (List UInt8)) (k : Nat) (hk : k < r.length) : (strs r)[k]? = some (.string (mkS r[k])) := by simp [strs, hk]
def actNames : List (List UInt8) := [[97, 112, 112, 101, 110, 100], [98, 101, 102, 111, 114, 101], [114, 101, 109, 111, 118, 101], [116, 101, 120, 116], [101, 108, 101, 109], [97, 116, 116, 114], [117, 110, 97, 116, 116, 114], [100, 97, 116, 97], [119, 114, 105, 116, 101], [111, 112, 101, 110], [99, 108, 111, 115, 101], [97, 98, 111, 114, 116]]
def actText : List UInt8 := [97, 112, 112, 101, 110, 100, 32, 98, 101, 102, 111, 114, 101, 32, 114, 101, 109, 111, 118, 101, 32, 116, 101, 120, 116, 32, 101, 108, 101, 109, 32, 97, 116, 116, 114, 32, 117, 110, 97, 116, 116, 114, 32, 100, 97, 116, 97, 32, 119, 114, 105, 116, 101, 32, 111, 112, 101, 110, 32, 99, 108, 111, 115, 101, 32, 97, 98, 111, 114, 116]
theorem fields_acts : Lib.fields actText = actNames := by decide +kernel
theorem names13 (w : World) (hT : Tabs w) : Calls Tryd.prog 13 #[] w fun e w' => e = .returned (.slice (some ⟨w.heap.size, 0, none⟩) 12 12) ∧ w' = w.alloc (.cells (strs actNames) 9) := by
  have F := Tryd.strings_Fields_laid (mkS actText) w (by decide) (by
    intro j b hb
    have hm : b ∈ actText := List.mem_of_getElem? hb
    have h := List.all_eq_true.1 (show actText.all (fun b => decide (b.toNat < 128)) = true by decide +kernel) b hm
    simpa using h) hT.sp
  rw [mkS_data, fields_acts] at F
  have hl : actNames.length = 12 := rfl
  rw [hl] at F
  go_enter Tryd.func13, Tryd.ntmps13
  go_wp2_with fail
  refine F.mono ?_
  rintro e w1 ⟨rfl, rfl⟩
  go_wp2
  go_ret
  exact ⟨rfl, rfl⟩
theorem names18 (w : World) : Calls Tryd.prog 18 #[] w fun e w' => e = .returned (.slice (some ⟨w.heap.size, 0, none⟩) 12 12) ∧ w' = w.alloc (.cells (strs actNames) 9) := by
  go_enter Tryd.func18, Tryd.ntmps18
  go_wp2
  go_ret
  exact ⟨rfl, rfl⟩
theorem act_at (w : World) (k : Nat) (hk : k < 12) : (w.alloc (.cells (strs actNames) 9)).cell? ⟨w.heap.size, k, none⟩ = some (.string (mkS (actNames.getD k []))) := by
  rw [blk_cells (show (w.alloc (.cells (strs actNames) 9)).heap[w.heap.size]? = some (.cells (strs actNames) 9) by show (w.heap.push _)[w.heap.size]? = some _; simp), strs_at actNames k hk]
  rw [List.getD_eq_getElem?_getD, List.getElem?_eq_getElem hk]
  rfl
theorem act_len (k : Nat) (hk : k < 12) : (actNames.getD k []).length ≤ 6 := by
  rcases (show k = 0 ∨ k = 1 ∨ k = 2 ∨ k = 3 ∨ k = 4 ∨ k = 5 ∨ k = 6 ∨ k = 7 ∨ k = 8 ∨ k = 9 ∨ k = 10 ∨ k = 11 by omega) with rfl | rfl | rfl | rfl | rfl | rfl | rfl | rfl | rfl | rfl | rfl | rfl <;> decide
/-- A place: a number, or the sign of none. -/
def numL (n : Int) : List UInt8 := if n = -1 then [45] else Lib.itoa n
/-- A small digit. -/
def digs : List UInt8 := [48, 49, 50, 51, 52, 53, 54, 55, 56, 57, 97, 98, 99, 100, 101, 102]
def hexB (b : UInt8) : List UInt8 := [digs.getD (b.toNat / 16) 0, digs.getD (b.toNat % 16) 0]
def hexL (l : List UInt8) : List UInt8 := l.flatMap hexB
theorem hexL_snoc (l : List UInt8) (b : UInt8) : hexL (l ++ [b]) = hexL l ++ hexB b := by simp [hexL]
theorem hexL_take (l : List UInt8) (i : Nat) (h : i < l.length) : hexL (l.take (i + 1)) = hexL (l.take i) ++ hexB l[i] := by
  rw [List.take_succ_eq_append_getElem h, hexL_snoc]
theorem hexL_len (l : List UInt8) : (hexL l).length = 2 * l.length := by
  induction l with
  | nil => rfl
  | cons b t ih => show (hexB b ++ hexL t).length = _; rw [List.length_append, ih, List.length_cons]; show 2 + _ = _; omega
theorem itoa14 (n : Int) (h0 : -9223372036854775808 ≤ n) (h1 : n ≤ 9223372036854775807) (w : World) (hT : Tabs w) : Calls Tryd.prog 14 #[.int .i64 n] w fun e w' => e = .returned (.string (mkS (Lib.itoa n))) ∧ Below w.heap.size w w' := by
  refine (Tryd.strconv_Itoa n h0 h1 w hT.pow).mono ?_
  rintro e w1 ⟨rfl, k, os, rfl⟩
  exact ⟨rfl, Go.Lib.below_grow _ w (Nat.le_refl _) k os⟩
end Go.Proofs.YtghhidaihajdmaaDoor
/- The reference's numbers and places. -/
namespace Go.Proofs.YtghhidaihajdmaaDoor
open Go.RowKit
theorem dec_step (n : Nat) : Lib.decDigits n = if n < 10 then [UInt8.ofNat (48 + n % 10)] else Lib.decDigits (n / 10) ++ [UInt8.ofNat (48 + n % 10)] := by
  rw [Lib.decDigits]
  split
  · next h => rw [Nat.mod_eq_of_lt h]
  · rfl
theorem dec_len (f : Nat) : ∀ n, n < 10 ^ (f + 1) → (Lib.decDigits n).length ≤ f + 1 := by
  induction f with
  | zero => intro n h; rw [dec_step, if_pos (by omega)]; simp
  | succ f ih =>
    intro n h
    rw [dec_step]
    split
    · simp
    · rw [List.length_append]
      have := ih (n / 10) (by rw [Nat.pow_succ] at h; omega)
      simp
      omega
set_option maxRecDepth 100000 in
theorem told32 (n : Nat) : ∀ (w : World), n < 1000000 → Calls Tryd.prog 32 #[.int .i64 n] w fun e w' => e = .returned (.string (mkS (Lib.decDigits n))) ∧ Below w.heap.size w w' := by
  induction n using Nat.strongRecOn with
  | ind n ih =>
    intro w hn
    have hdg := dec_step n
    have kc : (convert 37 9 (.slice (some ⟨w.heap.size, 0, none⟩) 1 1)).run Tryd.prog (w.alloc (.cells #[.int .u8 (48 + (n : Int) % 10)] 5)) = .ok (.string (mkS [UInt8.ofNat (48 + n % 10)])) (w.alloc (.cells #[.int .u8 (48 + (n : Int) % 10)] 5)) := by
      have hB : BRow (w.alloc (.cells #[.int .u8 (48 + (n : Int) % 10)] 5)) w.heap.size 5 [UInt8.ofNat (48 + n % 10)] [] (0, 0) := ⟨by
        show (w.heap.push _)[w.heap.size]? = some _
        have : (48 + (n : Int) % 10) = (((UInt8.ofNat (48 + n % 10)).toNat : Nat) : Int) := by rw [UInt8.toNat_ofNat']; omega
        rw [this]
        simp [u8s], .inl (by rfl)⟩
      exact hB.back 37 5 1 1 rfl Tryd.underlying37 Tryd.underlying5 9 Tryd.underlying9
    have hb1 : Below w.heap.size w (w.alloc (.cells #[.int .u8 (48 + (n : Int) % 10)] 5)) := (Below.refl _ w).alloc (Nat.le_refl _) _
    by_cases h : n < 10
    · rw [if_pos h] at hdg
      generalize UInt8.ofNat (48 + n % 10) = c at *
      have HD := Go.Lib.hid hdg
      clear hdg ih
      go_enter Tryd.func32, Tryd.ntmps32
      go_wp2
      go_ret
      exact ⟨by rw [HD.out]; rfl, hb1⟩
    · rw [if_neg h] at hdg
      have hl := dec_len 5 (n / 10) (by omega)
      have K := ih (n / 10) (by omega) (w.alloc (.cells #[.int .u8 (48 + (n : Int) % 10)] 5)) (by omega)
      clear ih
      obtain ⟨m, hm⟩ : ∃ m : Nat, (n : Int) / 10 = m := ⟨n / 10, by omega⟩
      have hm2 : n / 10 = m := by omega
      have hm3 : m < 1000000 := by omega
      rw [hm2] at K hl hdg
      obtain ⟨t, ht⟩ : ∃ t, t = mkS (Lib.decDigits m) := ⟨_, rfl⟩
      obtain ⟨u, hu⟩ : ∃ u, u = mkS [UInt8.ofNat (48 + n % 10)] := ⟨_, rfl⟩
      have htz : t.size ≤ 6 := by rw [ht]; exact hl
      have huz : u.size = 1 := by rw [hu]; rfl
      have hcat : mkS (Lib.decDigits n) = t ++ u := by rw [hdg, ht, hu]; unfold mkS; apply ByteArray.ext; simp
      rw [← ht] at K
      rw [← hu] at kc
      have HC := Go.Lib.hid hcat
      clear hcat ht hu hdg hl hm2
      go_enter Tryd.func32, Tryd.ntmps32
      go_wp2_with fail
      refine K.mono ?_
      rintro e w1 ⟨rfl, hb2⟩
      go_wp2
      go_ret
      exact ⟨by rw [HC.out]; rfl, btr hb1 hb2⟩
theorem place17 (n : Int) (h0 : -9223372036854775808 ≤ n) (h1 : n ≤ 9223372036854775807) (w : World) : Calls Tryd.prog 17 #[.int .i64 n] w fun e w' => e = .returned (.tuple #[.string (if -1 ≤ n ∧ n ≤ 99999 then mkS (numL n) else ⟨#[]⟩), .bool (decide (-1 ≤ n ∧ n ≤ 99999))]) ∧ Below w.heap.size w w' := by
  by_cases hm : n = -1
  · subst hm
    go_enter Tryd.func17, Tryd.ntmps17
    go_wp2
    go_ret2
    exact ⟨rfl, Below.refl _ w⟩
  · by_cases hr : 0 ≤ n ∧ n ≤ 99999
    · obtain ⟨k, rfl⟩ : ∃ k : Nat, n = k := ⟨n.toNat, by omega⟩
      have K := told32 k w (by omega)
      rw [if_pos (by omega), show numL (k : Int) = Lib.decDigits k by rw [numL, if_neg hm, Lib.itoa, if_neg (by omega)]; rfl]
      have hd : decide (-1 ≤ (k : Int) ∧ (k : Int) ≤ 99999) = true := by simp; omega
      rw [hd]
      have hk : (k : Int) ≤ 99999 := hr.2
      clear hr hd
      go_enter Tryd.func17, Tryd.ntmps17
      go_wp2_with fail
      refine K.mono ?_
      rintro e w1 ⟨rfl, hb2⟩
      go_wp2
      go_ret2
      exact ⟨rfl, hb2⟩
    · rw [if_neg (by omega)]
      have hd : decide (-1 ≤ n ∧ n ≤ 99999) = false := by simp; omega
      rw [hd]
      have hx : n < 0 ∨ (¬ n < 0 ∧ 99999 < n) := by omega
      clear hr hd
      go_enter Tryd.func17, Tryd.ntmps17
      rcases hx with hx | ⟨hx, hy⟩
      all_goals go_wp2
      all_goals go_ret2
      all_goals exact ⟨rfl, Below.refl _ w⟩
end Go.Proofs.YtghhidaihajdmaaDoor
/- The program's small digits. -/
namespace Go.Proofs.YtghhidaihajdmaaDoor
open Go.RowKit
theorem dig_at (k : Nat) (h : k < 16) : ((ByteArray.mk #[48, 49, 50, 51, 52, 53, 54, 55, 56, 57, 97, 98, 99, 100, 101, 102])[k]'h) = digs.getD k 0 := by
  rw [List.getD_eq_getElem?_getD, List.getElem?_eq_getElem (show k < digs.length from h)]
  rfl
set_option maxRecDepth 100000 in
theorem hex16 (s : ByteArray) (w : World) (hs : s.size ≤ 65536) : Calls Tryd.prog 16 #[.string s] w fun e w' => e = .returned (.string (mkS (hexL s.data.toList))) ∧ Below w.heap.size w w' := by
  go_enter Tryd.func16, Tryd.ntmps16
  go_wp2_with fail
  go_loopw [4, 7] (fun _ v7 wr => ∃ i : Nat, v7 = .int .i64 i ∧ i ≤ s.size ∧ Lib.IsBuilder 71 5 w.heap.size w.heap.size (Lib.byteCells (hexL (s.data.toList.take i))) wr ∧ Below w.heap.size w wr) (fun _ v7 _ => s.size - (intOf v7).toNat)
  case atStart => exact ⟨0, rfl, Nat.zero_le _, Lib.fresh_isBuilder 71 5 w, (Below.refl _ w).alloc (Nat.le_refl _) _⟩
  case round =>
    obtain ⟨i, rfl, hi, hI, hbw⟩ := hrel
    by_cases hlt : i < s.size
    · have H := hexL_take s.data.toList i (by rw [dlen]; exact hlt)
      rw [show s.data.toList[i]'(by rw [dlen]; exact hlt) = s[i] by rw [Array.getElem_toList]; rfl] at H
      have HX := Go.Lib.hid H
      have hln : (hexL (s.data.toList.take i)).length ≤ 131072 := by rw [hexL_len, List.length_take]; omega
      clear H
      have hb8 := s[i].toNat_lt
      have h1 : (s[i].toNat : Int) / 16 < 16 := by omega
      have h0 : 0 ≤ (s[i].toNat : Int) / 16 := by omega
      have m1 : (s[i].toNat : Int) % 16 < 16 := by omega
      have m0 : 0 ≤ (s[i].toNat : Int) % 16 := by omega
      go_wp2_with fail
      refine (Tryd.Builder_WriteByte w.heap.size w.heap.size _ _ wr hI (by rw [Lib.byteCells_length]; omega) hbw.size).mono ?_
      rintro e w1 ⟨rfl, hI1, hb1⟩
      have hB1 := hbw.trans hb1
      clear hI hbw
      go_wp2_with fail
      refine (Tryd.Builder_WriteByte w.heap.size w.heap.size _ _ w1 (Or.inr hI1) (by simp [Lib.byteCells_length]; omega) hB1.size).mono ?_
      rintro e w2 ⟨rfl, hI2, hb2⟩
      have hB2 := hB1.trans hb2
      rw [dig_at _ (by omega), dig_at _ (by omega)] at hI2
      clear hI1
      have HI2 := Go.Lib.hid hI2
      clear hI2
      go_wp2
      go_roundw
      case measure => simp [intOf]; omega
      case rel =>
        refine ⟨i + 1, by go_num, by omega, Or.inr ?_, hB2⟩
        have := HI2.out
        rw [HX.out]
        simpa [Lib.byteCells, hexB] using this
    · obtain rfl : i = s.size := by omega
      rw [List.take_of_length_le (by rw [dlen]; exact Nat.le_refl _)] at hI
      go_wp2_with fail
      refine (Tryd.Builder_String_any w.heap.size w.heap.size _ wr hI hbw.size).mono ?_
      rintro e w1 ⟨rfl, hb1⟩
      go_wp2
      go_ret
      exact ⟨rfl, hbw.trans hb1⟩
end Go.Proofs.YtghhidaihajdmaaDoor
/- What a row's proof wants of arguments by value: structs taken apart, and what is left of them behind the call. -/
namespace Go.Proofs.YtghhidaihajdmaaDoor
open Go.Joins Go.ChangeShapes Go.WideShapes Go.RowKit Go.Deep Go.ChangeAt
open Go.ChangeMaps (open_string shut_string)

theorem own : ownKnob Tryd.prog.godebug = none := by kernel_rfl
theorem laidOut : laidOutB Tryd.prog = true := by kernel_rfl
theorem trod_lt {H : Type} {enc : TypeId × Value → H} {P : Program} {t : TypeId} {W : World} {v : Value} {d : DataW H} {ps : List MemPlace} (h : DataW.Trod enc P W 0 (fun _ => true) true t v d ps) : ∀ x ∈ ps, x.block < W.heap.size := by
  obtain ⟨m, hm⟩ := h
  exact DataW.trod_lt m _ _ _ hm
theorem slice_shape {H : Type} {enc : TypeId × Value → H} {P : Program} {w : World} {base : Nat} {spare : Nat → Bool} {held : Bool} {t e : TypeId} {fuel : Nat} {v : Value} {x : DataW H × List MemPlace} (ht : P.underlying t = some (.slice e)) (h : DataW.trod enc P w base spare held fuel t [v] = some x) :
    ∃ a n c, [v] = [.slice a n c] := by
  rcases open_slice ht h with ⟨h0, _⟩ | ⟨a, len, cap, _, _, _, _, h0, _⟩
  · exact ⟨_, _, _, h0⟩
  · exact ⟨_, _, _, h0⟩
/-- A string in a struct that came in is within the form's reach. -/
theorem sized_field {H : Type} {P : Program} {ts : List TypeId} {ds : List (DataW H)} {j i : Nat} {t u : TypeId} {fs : List TypeId} {F : Array Field} {parts : List (DataW H)} {bytes : List UInt8}
    (h : (DataW.weightsEach P ts ds).all (· ≤ reachBytes) = true) (ht : ts[j]? = some t) (hd : ds[j]? = some (.agg parts)) (hu : P.underlying t = some (.struct F)) (hF : F.toList.map (·.type) = fs) (hi : fs[i]? = some u) (hp : parts[i]? = some (.lit (.string bytes))) :
    bytes.length ≤ 140737488351232 := by
  subst hF
  have h1 : bytes.length ∈ DataW.weightsEach P (F.toList.map (·.type)) parts := DataW.weights_mem_each hi hp _ (by simp [DataW.weights])
  have := List.all_eq_true.1 h _ (DataW.weights_mem_each ht hd bytes.length (by simpa [DataW.weights, hu] using h1))
  exact of_decide_eq_true this
section
variable {H : Type} {enc : TypeId × Value → H} {P : Program} {w : World} {base : Nat} {spare : Nat → Bool} {held : Bool}
theorem open_agg9 {r : Reach} {b0 : Nat} {t : TypeId} {f0 f1 f2 f3 f4 f5 f6 f7 f8 : Field} {v : Value} {d : DataW H} {p : List MemPlace} (hs : P.underlying t = some (.struct #[f0, f1, f2, f3, f4, f5, f6, f7, f8])) (hone : oneCellFields P #[f0, f1, f2, f3, f4, f5, f6, f7, f8] = true) (hC : P.cellsOf t = 9)
    (hv : Value.okWide P w r b0 t v) (h : DataW.Trod enc P w base spare held t v d p) :
    ∃ (v0 v1 v2 v3 v4 v5 v6 v7 v8 : Value) (y0 y1 y2 y3 y4 y5 y6 y7 y8 : DataW H × List MemPlace) (n : Nat), v = .agg #[v0, v1, v2, v3, v4, v5, v6, v7, v8] ∧ d = .agg [y0.1, y1.1, y2.1, y3.1, y4.1, y5.1, y6.1, y7.1, y8.1] ∧
      DataW.trod enc P w base spare held n f0.type [v0] = some y0 ∧ DataW.trod enc P w base spare held n f1.type [v1] = some y1 ∧ DataW.trod enc P w base spare held n f2.type [v2] = some y2 ∧ DataW.trod enc P w base spare held n f3.type [v3] = some y3 ∧ DataW.trod enc P w base spare held n f4.type [v4] = some y4 ∧ DataW.trod enc P w base spare held n f5.type [v5] = some y5 ∧ DataW.trod enc P w base spare held n f6.type [v6] = some y6 ∧ DataW.trod enc P w base spare held n f7.type [v7] = some y7 ∧ DataW.trod enc P w base spare held n f8.type [v8] = some y8 := by
  obtain ⟨cs, rfl, hsz⟩ := okWide_struct hs hv
  obtain ⟨l⟩ := cs
  match l, hsz.trans hC with
  | [c0, c1, c2, c3, c4, c5, c6, c7, c8], _ =>
    obtain ⟨fuel, hf⟩ := h
    obtain ⟨xs, n, _, hx, _, hlen, hg⟩ := DataW.trod_struct hs hf
    obtain ⟨o0, k0⟩ := hone_of hone 0 f0 rfl
    obtain ⟨o1, k1⟩ := hone_of hone 1 f1 rfl
    obtain ⟨o2, k2⟩ := hone_of hone 2 f2 rfl
    obtain ⟨o3, k3⟩ := hone_of hone 3 f3 rfl
    obtain ⟨o4, k4⟩ := hone_of hone 4 f4 rfl
    obtain ⟨o5, k5⟩ := hone_of hone 5 f5 rfl
    obtain ⟨o6, k6⟩ := hone_of hone 6 f6 rfl
    obtain ⟨o7, k7⟩ := hone_of hone 7 f7 rfl
    obtain ⟨o8, k8⟩ := hone_of hone 8 f8 rfl
    match xs, hlen with
    | [y0, y1, y2, y3, y4, y5, y6, y7, y8], _ =>
      simp only [Prod.mk.injEq] at hx
      exact ⟨c0, c1, c2, c3, c4, c5, c6, c7, c8, y0, y1, y2, y3, y4, y5, y6, y7, y8, n, rfl, by simpa using hx.1, by simpa [Value.cells, o0, k0] using hg 0 f0 rfl, by simpa [Value.cells, o1, k1] using hg 1 f1 rfl, by simpa [Value.cells, o2, k2] using hg 2 f2 rfl, by simpa [Value.cells, o3, k3] using hg 3 f3 rfl, by simpa [Value.cells, o4, k4] using hg 4 f4 rfl, by simpa [Value.cells, o5, k5] using hg 5 f5 rfl, by simpa [Value.cells, o6, k6] using hg 6 f6 rfl, by simpa [Value.cells, o7, k7] using hg 7 f7 rfl, by simpa [Value.cells, o8, k8] using hg 8 f8 rfl⟩
end
end Go.Proofs.YtghhidaihajdmaaDoor
/- Bytes in a slice, read: among the arguments, cut, taken. -/
namespace Go.Proofs.YtghhidaihajdmaaDoor
open Go.RowKit Go.ChangeShapes
/-- Bytes as numbers. -/
def nums (l : List UInt8) : List Int := l.map fun b => (b.toNat : Int)
theorem nums_length (l : List UInt8) : (nums l).length = l.length := by simp [nums]
/-- The bytes L lie at the slice's place. -/
def RdB (w : World) (oa : Option Addr) (L : List UInt8) : Prop := ∀ j (h : j < L.length), ∃ ad, oa = some ad ∧ w.cell? (ad.add j) = some (.int .u8 (L[j]).toNat)
theorem RdB.below {w w1 : World} {oa : Option Addr} {L : List UInt8} (h : RdB w oa L) (hb : Below w.heap.size w w1) : RdB w1 oa L := fun j hj => by
  obtain ⟨ad, h1, h2⟩ := h j hj
  exact ⟨ad, h1, bcl hb h2⟩
theorem RdB.cut {w : World} {oa : Option Addr} {L : List UInt8} (h : RdB w oa L) (k : Nat) : RdB w (oa.map (·.add k)) (L.drop k) := fun j hj => by
  rw [List.length_drop] at hj
  obtain ⟨ad, rfl, hc⟩ := h (k + j) (by omega)
  refine ⟨_, rfl, ?_⟩
  rw [show (ad.add k).add j = ad.add (k + j) by unfold Addr.add; by_cases hk : k = 0 <;> by_cases hj : j = 0 <;> simp [hk, hj, Nat.add_assoc], hc]
  simp
theorem RdB.cut_at {w : World} {ad : Addr} {L : List UInt8} (h : RdB w (some ad) L) (k : Nat) (hk : 0 < k) : RdB w (some ⟨ad.block, ad.off + k, none⟩) (L.drop k) := by
  have := h.cut k
  rwa [Option.map_some, show ad.add k = ⟨ad.block, ad.off + k, none⟩ by unfold Addr.add; rw [if_neg (by omega)]] at this
theorem RdB.take {w : World} {oa : Option Addr} {L : List UInt8} (h : RdB w oa L) (k : Nat) : RdB w oa (L.take k) := fun j hj => by
  rw [List.length_take] at hj
  obtain ⟨ad, h1, h2⟩ := h j (by omega)
  exact ⟨ad, h1, by rw [h2, List.getElem_take]⟩
theorem RdB.cut_cap {w : World} {oa : Option Addr} {L : List UInt8} (h : RdB w oa L) (k cap : Nat) (hc : L.length ≤ cap) : RdB w (if cap = k then oa else oa.map (·.add k)) (L.drop k) := by
  by_cases e : cap = k
  · rw [if_pos e]
    exact fun j hj => by rw [List.length_drop] at hj; omega
  · rw [if_neg e]
    exact h.cut k
theorem own_read {w : World} {base e n m c : Nat} {oa : Option Addr} {xs : List Value} (h : w.ownsRow base e 1 (.slice oa m c) n xs) : m = n ∧ ∀ j u, xs[j]? = some u → ∃ ad, oa = some ad ∧ w.cell? (ad.add j) = some u := by
  obtain ⟨h1, h2⟩ := h
  rcases h2 with ⟨hv, h0⟩ | ⟨g, cap, cur, hv, _, hh, _, _, _, ht⟩
  · injection hv with e1 e2 e3
    subst h0 e2
    refine ⟨rfl, fun j u hu => ?_⟩
    have : xs = [] := List.eq_nil_of_length_eq_zero (by simpa using h1)
    rw [this] at hu
    cases hu
  · injection hv with e1 e2 e3
    subst e1 e2
    refine ⟨rfl, fun j u hu => ⟨_, rfl, ?_⟩⟩
    have hj : j < xs.length := by
      rcases Nat.lt_or_ge j xs.length with h' | h'
      · exact h'
      · rw [List.getElem?_eq_none h'] at hu; cases hu
    have ha : (Addr.add ⟨g, 0, none⟩ j) = ⟨g, j, none⟩ := by
      unfold Addr.add
      split
      · next h0 => subst h0; rfl
      · simp
    rw [ha, blk_cells hh, ← hu, ← ht, List.getElem?_take, if_pos (by omega)]
    simp
theorem u8_of {n : Int} (h : (Lit.int .u8 n).wf = true) : ∃ b : UInt8, n = (b.toNat : Int) := by
  have h2 : 0 ≤ n ∧ n < 256 := by
    have e1 : IntKind.u8.min = 0 := rfl
    have e2 : IntKind.u8.max = 255 := rfl
    simp [Lit.wf, e1, e2] at h
    omega
  refine ⟨UInt8.ofNat n.toNat, ?_⟩
  rw [UInt8.toNat_ofNat']
  omega
theorem open_bytes {H : Type} {enc : TypeId × Value → H} {P : Program} {w : World} {spare : Nat → Bool} {held : Bool} {t e : TypeId} {fuel : Nat} {v : Value} {x : DataW H × List MemPlace} (ht : P.underlying t = some (.slice e)) (he : P.underlying e = some (.int .u8)) (hc : P.cellsOf e = 1)
    (h : DataW.trod enc P w 0 spare held fuel t [v] = some x) : ∃ oa n cap L, v = .slice oa n cap ∧ n = L.length ∧ n ≤ maxLen ∧ RdB w oa L ∧ (x.1 = .nil ∧ L = [] ∨ ∃ r, x.1 = .slice (lits .u8 (nums L)) r) := by
  rcases open_ints ht he hc h with ⟨hv, rfl⟩ | ⟨a, len, cap, zs, hv, _, hlc, hcm, hzl, rfl, hcell, hwf⟩
  · simp only [List.cons.injEq, and_true] at hv
    exact ⟨none, 0, 0, [], hv, rfl, Nat.zero_le _, (fun j hj => absurd hj (by simp)), .inl ⟨rfl, rfl⟩⟩
  · simp only [List.cons.injEq, and_true] at hv
    have hz : len ≤ zs.length := by rw [hzl]; split <;> omega
    obtain ⟨L, hL⟩ : ∃ L : List UInt8, zs.take len = nums L := by
      have hall : ∀ n ∈ zs.take len, (Lit.int .u8 n).wf = true := fun n hn => hwf n (List.mem_of_mem_take hn)
      generalize zs.take len = zt at hall
      clear hv hlc hcm hzl hcell hwf hz
      induction zt with
      | nil => exact ⟨[], rfl⟩
      | cons n r ih =>
        obtain ⟨b, hb⟩ := u8_of (hall n List.mem_cons_self)
        obtain ⟨L, hL⟩ := ih fun m hm => hall m (List.mem_cons_of_mem _ hm)
        exact ⟨b :: L, by rw [hL, hb]; rfl⟩
    have hlen : len = L.length := by
      have := congrArg List.length hL
      rw [List.length_take, nums_length] at this
      omega
    refine ⟨some a, len, cap, L, hv, hlen, Nat.le_trans hlc hcm, fun j hj => ⟨a, rfl, ?_⟩, .inr ⟨_, by rw [hL]⟩⟩
    rw [hcell j (by omega)]
    have h1 : (zs.take len)[j]? = (nums L)[j]? := by rw [hL]
    rw [List.getElem?_take, if_pos (by omega)] at h1
    have h2 : (nums L)[j]? = some ((L[j]).toNat : Int) := by simp [nums, hj]
    rw [h2] at h1
    rw [List.getD_eq_getElem?_getD, h1]
    rfl
theorem open_bytesv {H : Type} {enc : TypeId × Value → H} {P : Program} {w : World} {spare : Nat → Bool} {held : Bool} {r : Reach} {b0 : Nat} {t e : TypeId} {v : Value} {d : DataW H} {p : List MemPlace} (ht : P.underlying t = some (.slice e)) (he : P.underlying e = some (.int .u8)) (hc : P.cellsOf e = 1)
    (hv : Value.okWide P w r b0 t v) (h : DataW.Trod enc P w 0 spare held t v d p) : ∃ oa n cap L, v = .slice oa n cap ∧ n = L.length ∧ n ≤ maxLen ∧ RdB w oa L ∧ (d = .nil ∧ L = [] ∨ ∃ r, d = .slice (lits .u8 (nums L)) r) := by
  obtain ⟨a, len, cap, rfl⟩ := Go.WideShapes.okWide_slice ht hv
  obtain ⟨fuel, hf⟩ := h
  exact open_bytes ht he hc (x := (d, p)) hf
theorem open_bytesc {H : Type} {enc : TypeId × Value → H} {P : Program} {w : World} {spare : Nat → Bool} {held : Bool} {r : Reach} {b0 : Nat} {t e : TypeId} {v : Value} {d : DataW H} {p : List MemPlace} (ht : P.underlying t = some (.slice e)) (he : P.underlying e = some (.int .u8)) (hc : P.cellsOf e = 1)
    (hv : Value.okWide P w r b0 t v) (h : DataW.Trod enc P w 0 spare held t v d p) : ∃ oa n cap L, v = .slice oa n cap ∧ n = L.length ∧ n ≤ maxLen ∧ n ≤ cap ∧ RdB w oa L ∧ (d = .nil ∧ L = [] ∨ ∃ r, d = .slice (lits .u8 (nums L)) r) := by
  obtain ⟨oa, n, cap, L, rfl, h1, h2, h3, h4⟩ := open_bytesv ht he hc hv h
  refine ⟨oa, n, cap, L, rfl, h1, h2, ?_, h3, h4⟩
  obtain ⟨fuel, hf⟩ := h
  rcases open_ints (x := (d, p)) ht he hc hf with ⟨hv2, _⟩ | ⟨a, len, cap2, zs, hv2, _, hlc, _⟩
  · have : Value.slice oa n cap = .slice none 0 0 := by simpa [Value.cells] using hv2
    injection this with e1 e2 e3
    omega
  · have : Value.slice oa n cap = .slice (some a) len cap2 := by simpa [Value.cells] using hv2
    injection this with e1 e2 e3
    omega
end Go.Proofs.YtghhidaihajdmaaDoor
/- The reference's small digits. -/
namespace Go.Proofs.YtghhidaihajdmaaDoor
open Go.RowKit
theorem Tryd.info5 : (Tryd.prog.info? 5).map (fun i => (i.zero, i.size, i.bytes)) = some (some (.int .u8 0), 1, 1) := by kernel_rfl
section
variable {P : Program} {ops : Array Oper} {rest : List Oper} {o : Oper} {a : Act} {Q : Exit → Act → World → Prop}
theorem step_append2_wanted {E : Prop} {K : Act → World → Prop} {w0 W : World} (hgd : o.guard = none) (base : Nat) (s x : Operand) (t e : TypeId) (z : Value) (size bytes : Nat)
    (ho : o.op = .call { callee := .builtin .append, args := #[s, x], argTypes := #[t, t] })
    (ht : P.underlying t = some (.slice e)) (hinfo : (P.info? e).map (fun i => (i.zero, i.size, i.bytes)) = some (some z, size, bytes)) (hz : z.cells.size = size) (hs0 : 0 < size) (hb0 : 0 < bytes)
    (v : Value) (n m : Nat) (xs : List Value) (cs : Array Value) (hs : a.eval s = v) (hx : a.eval x = .slice (some ⟨m, 0, none⟩) 2 2) (hm : m = W.heap.size) (hcs : cs.size = 2 * size) (h1 : ∀ u ∈ cs.toList, u.oneCell' = true)
    (HO : W.ownsRow base e size v n xs) (HB : Below base w0 W) (hbase : base ≤ W.heap.size) (hl : (n + 2) * bytes ≤ 140737488355328)
    (h : ∀ v1 w1, w1.ownsRow base e size v1 (n + 2) (xs ++ cs.toList) → Below base w0 w1 → K (a.put o.dst v1) w1) :
    if Region.wanted o (yielded ops a.tmps) = true then Oper.wp P o a (W.alloc (.cells cs e)) K Q else E := by
  rw [if_pos (by simp [Region.wanted, hgd])]
  subst hm
  obtain ⟨i0, hi, hzz⟩ := Option.map_eq_some_iff.1 hinfo
  simp only [Prod.mk.injEq] at hzz
  obtain ⟨hz0, hz1, hz2⟩ := hzz
  have hlen : n + 2 ≤ 140737488355328 := Nat.le_trans (Nat.le_mul_of_pos_right _ hb0) hl
  exact wp_append_own (W.alloc (.cells cs e)) s x t ho base e i0 z size bytes ht hi hz0 hz1 hz2 hz hs0 v n xs hs (HO.alloc _) ⟨W.heap.size, 0, none⟩ 2 2 cs.toList hx (by simp [hcs])
    (World.news_of_block (cs := cs) (t := e) (fr := (0, 0)) (heap_alloc_new W _)) h1 (by simp only [maxLen]; omega) hl (by simp; omega)
    (fun v1 w1 hown hg _ => h v1 w1 hown ((HB.alloc hbase _).grown hg (by simp; omega) (own_base HO)))
theorem at_dst (k : Nat) {X Y : Prop} (_h : o.dst = some k) (hx : if Region.wanted o (yielded ops a.tmps) = true then X else Y) : if Region.wanted o (yielded ops a.tmps) = true then X else Y := hx
end
theorem dig_at' (k : Nat) (h : k < 16) : ((ByteArray.mk #[48, 49, 50, 51, 52, 53, 54, 55, 56, 57, 97, 98, 99, 100, 101, 102])[k]'h) = digs.getD k 0 := by
  rw [List.getD_eq_getElem?_getD, List.getElem?_eq_getElem (show k < digs.length from h)]
  rfl
theorem wrap_u8 (n : Int) (h0 : 0 ≤ n) (h1 : n < 256) : IntKind.u8.wrap n = n := by rw [IntKind.wrap_u8]; omega
set_option maxRecDepth 100000 in
theorem own_conv {w : World} {base m c : Nat} {oa : Option Addr} {L : List UInt8} (h : w.ownsRow base 5 1 (.slice oa m c) m (u8s L)) : (convert 37 9 (.slice oa m c)).run Tryd.prog w = .ok (.string (mkS L)) w := by
  have hm : m = L.length := by have := h.1; rw [u8s_length] at this; omega
  rcases h.2 with ⟨hv, h0⟩ | ⟨g, cap, cur, hv, _⟩
  · injection hv with e1 e2 e3
    subst e1
    have : L = [] := List.eq_nil_of_length_eq_zero (by omega)
    subst this
    exact run_convert_bytes_nil w 37 5 Tryd.underlying37 Tryd.underlying5 _ _ 9 Tryd.underlying9
  · injection hv with e1 e2 e3
    subst e1
    rw [← strOfNums_u8]
    refine run_convert_bytes_arg w 37 5 Tryd.underlying37 Tryd.underlying5 g 0 m c _ (by simp [hm]) (fun i hi => ?_) 9 Tryd.underlying9
    obtain ⟨ad, had, hc⟩ := (own_read h).2 i (.int .u8 (L[i]'(by omega)).toNat) (by simp [u8s, show i < L.length by omega])
    cases had
    rw [show (⟨g, 0 + i, none⟩ : Addr) = Addr.add ⟨g, 0, none⟩ i by unfold Addr.add; split <;> simp_all, hc]
    simp [List.getD_eq_getElem?_getD, show i < L.length by omega]
set_option maxRecDepth 100000 in
theorem digits19 (s : ByteArray) (w : World) (hs : s.size ≤ 65536) : Calls Tryd.prog 19 #[.string s] w fun e w' => e = .returned (.string (mkS (hexL s.data.toList))) ∧ Below w.heap.size w w' := by
  go_enter Tryd.func19, Tryd.ntmps19
  go_wp2_with fail
  go_loopw [4, 5] (fun v4 v5 wr => ∃ i : Nat, v5 = .int .i64 i ∧ i ≤ s.size ∧ wr.ownsRow w.heap.size 5 1 v4 (2 * i) (u8s (hexL (s.data.toList.take i))) ∧ Below w.heap.size w wr) (fun _ v5 _ => s.size - (intOf v5).toNat)
  case atStart => exact ⟨0, rfl, Nat.zero_le _, own_nil w w.heap.size 5 1, Below.refl _ w⟩
  case round =>
    obtain ⟨i, rfl, hi, hown, hbw⟩ := hrel
    by_cases hlt : i < s.size
    · have H := hexL_take s.data.toList i (by rw [dlen]; exact hlt)
      rw [show s.data.toList[i]'(by rw [dlen]; exact hlt) = s[i] by rw [Array.getElem_toList]; rfl] at H
      have HX := Go.Lib.hid H
      clear H
      have hb8 := s[i].toNat_lt
      obtain ⟨d, hd⟩ : ∃ d : Nat, d = s[i].toNat / 16 := ⟨_, rfl⟩
      obtain ⟨e, he⟩ : ∃ e : Nat, e = s[i].toNat % 16 := ⟨_, rfl⟩
      have hdi : (s[i].toNat : Int) / 16 = (d : Int) := by omega
      have hei : (s[i].toNat : Int).tmod 16 = (e : Int) := by rw [Int.tmod_eq_emod_of_nonneg (by omega)]; omega
      have hd16 : (d : Int) < 16 := by omega
      have he16 : (e : Int) < 16 := by omega
      have hwd : IntKind.u8.wrap (d : Int) = d := wrap_u8 _ (by omega) (by omega)
      have hwe : IntKind.u8.wrap (e : Int) = e := wrap_u8 _ (by omega) (by omega)
      have hone : ∀ u ∈ (#[Value.int .u8 (digs.getD d 0).toNat, .int .u8 (digs.getD e 0).toNat] : Array Value).toList, u.oneCell' = true := by
        intro u hu
        rcases (show u = _ ∨ u = _ by simpa using hu) with rfl | rfl <;> rfl
      have hdn : d < 16 := by omega
      have hen : e < 16 := by omega
      have HE := Go.Lib.hid (show hexB s[i] = [digs.getD d 0, digs.getD e 0] by rw [hexB, ← hd, ← he])
      clear hd he
      have hd1 := dig_at' d hdn
      have hd2 := dig_at' e hen
      generalize digs.getD d 0 = x at *
      generalize digs.getD e 0 = y at *
      have hownd : wr.drew.ownsRow w.heap.size 5 1 u4 (2 * i) (u8s (hexL (s.data.toList.take i))) := hown
      have hbwd : Below w.heap.size w wr.drew := bdr hbw 1
      go_wp2_with fail
      go_region_law (first
        | (refine at_dst 26 rfl ?_; go_must (refine step_append2_wanted rfl w.heap.size (.tmp 12) (.tmp 25) 37 5 (.int .u8 0) 1 1 rfl Tryd.underlying37 Tryd.info5 rfl (by decide) (by decide) u4 (2 * i) _ _ #[.int .u8 x.toNat, .int .u8 y.toNat] rfl rfl rfl rfl hone hownd hbwd hbw.size (by omega) ?_; intro v1 w3 hown3 hB3)))
      all_goals have HO3 := Go.Lib.hid hown3
      all_goals clear hown3 hown hownd hone
      all_goals go_wp2
      all_goals go_roundw
      all_goals first
        | (case measure => simp [intOf]; omega)
        | (case rel =>
            refine ⟨i + 1, by go_num, by omega, ?_, hB3⟩
            have := HO3.out
            rw [HX.out, HE.out]
            simpa [u8s, Nat.mul_add] using this)
    · obtain rfl : i = s.size := by omega
      rw [List.take_of_length_le (by rw [dlen]; exact Nat.le_refl _)] at hown
      obtain ⟨oa, c, rfl⟩ := own_slice hown
      have hcv := own_conv hown
      go_wp2
      go_ret
      exact ⟨rfl, hbw⟩
end Go.Proofs.YtghhidaihajdmaaDoor
/- Acts as lines, plainly. -/
namespace Go.Proofs.YtghhidaihajdmaaDoor
open Go.RowKit
theorem Tryd.info9 : (Tryd.prog.info? 9).map (fun i => (i.zero, i.size, i.bytes)) = some (some (.string ByteArray.empty), 1, 16) := by kernel_rfl
/-- Is it a place? -/
def inP (n : Int) : Bool := decide (-1 ≤ n) && decide (n ≤ 99999)
def allP (l : List Int) : Bool := l.all inP
def strV (n : Int) : Value := .string (mkS (numL n))
def lineL (k : Nat) (a b c : Int) (t m : List UInt8) : List UInt8 :=
  [97, 99, 116, 32] ++ actNames.getD k [] ++ [32] ++ (numL a ++ [32] ++ numL b ++ [32] ++ numL c) ++ [32, 61] ++ hexL t ++ [32, 61] ++ hexL m
/-- The line of an act, and the number of its error. -/
def printL (k a b c : Int) (t m : List UInt8) : List UInt8 × Int :=
  if ¬ (0 ≤ k ∧ k < 12 ∧ allP [a, b, c] = true) then ([], 4)
  else if 65536 < t.length ∨ 65536 < m.length then ([], 2)
  else if 65536 < (lineL k.toNat a b c t m).length then ([], 2)
  else (lineL k.toNat a b c t m, 0)
theorem take3 (a b c : Int) (i : Nat) (h : i < 3) : ∃ n, [a, b, c].take (i + 1) = [a, b, c].take i ++ [n] ∧ (#[Value.int .i64 a, .int .i64 b, .int .i64 c] : Array Value)[i]? = some (.int .i64 n) ∧ (n = a ∨ n = b ∨ n = c) := by
  rcases (show i = 0 ∨ i = 1 ∨ i = 2 by omega) with rfl | rfl | rfl
  · exact ⟨a, rfl, rfl, .inl rfl⟩
  · exact ⟨b, rfl, rfl, .inr (.inl rfl)⟩
  · exact ⟨c, rfl, rfl, .inr (.inr rfl)⟩
theorem numL_len (n : Int) (h : inP n = true) : (numL n).length ≤ 6 := by
  simp [inP] at h
  unfold numL
  split
  · simp
  · rw [Lib.itoa, if_neg (by omega)]
    exact dec_len 5 n.toNat (by omega)
theorem oneStr (s : ByteArray) : ∀ u ∈ (#[Value.string s] : Array Value).toList, u.oneCell' = true := by
  intro u hu
  rcases (show u = _ by simpa using hu) with rfl
  rfl
theorem join3 (a b c : List UInt8) : Lib.join [a, b, c] [32] = a ++ [32] ++ b ++ [32] ++ c := by
  simp [Lib.join]
end Go.Proofs.YtghhidaihajdmaaDoor
/- The program's print of an act. Printed by genS4.py. -/
namespace Go.Proofs.YtghhidaihajdmaaDoor
open Go.RowKit
theorem wpAnyH_mono {P : Program} {ops : Array Oper} {Q : Exit → Act → World → Prop} {md : Region.Mode} {S S' : World → Prop} (hS : ∀ w, S' w → S w) : ∀ {fuel : Nat} {listed : Array Bool} {a : Act} {w : World}, wpAnyH P md ops Q S' fuel listed a w → wpAnyH P md ops Q S fuel listed a w
  | 0, _, _, _, h => h
  | _ + 1, _, _, _, h => ⟨h.1, fun i hi => wpOp_mono (fun _ _ h' => ⟨hS _ h'.1, wpAnyH_mono hS h'.2⟩) (h.2 i hi)⟩
theorem own_cap {w : World} {base e size n c : Nat} {oa : Option Addr} {xs : List Value} (h : w.ownsRow base e size (.slice oa n c) n xs) : n ≤ c := by
  rcases h.2 with ⟨hv, h0⟩ | ⟨g, cap, cur, hv, _, _, hc, _⟩
  · omega
  · simp only [Value.slice.injEq] at hv
    omega
set_option maxRecDepth 100000 in
set_option maxHeartbeats 8000000 in
theorem print6 (k a b c : Int) (t m : ByteArray) (w : World) (hT : Tabs w) (hk0 : -9223372036854775808 ≤ k) (hk1 : k ≤ 9223372036854775807) (ha0 : -9223372036854775808 ≤ a) (ha1 : a ≤ 9223372036854775807) (hq0 : -9223372036854775808 ≤ b) (hq1 : b ≤ 9223372036854775807) (hc0 : -9223372036854775808 ≤ c) (hc1 : c ≤ 9223372036854775807) : Calls Tryd.prog 6 #[.agg #[.int .i64 k, .int .i64 a, .int .i64 b, .int .i64 c, .string t, .string m]] w fun e w' => e = .returned (.tuple #[.string (mkS (printL k a b c t.data.toList m.data.toList).1), .int .i64 (printL k a b c t.data.toList m.data.toList).2]) ∧ Below w.heap.size w w' := by
  have hb0 : Below w.heap.size w (w.alloc (.cells #[.int .i64 k, .int .i64 a, .int .i64 b, .int .i64 c, .string t, .string m] 23)) := (Below.refl _ w).alloc (Nat.le_refl _) _
  have hT1 := hT.below hb0
  have hcs := blk_cells (at_new w (.cells #[.int .i64 k, .int .i64 a, .int .i64 b, .int .i64 c, .string t, .string m] 23) _ rfl)
  have c0 : (w.alloc (.cells #[.int .i64 k, .int .i64 a, .int .i64 b, .int .i64 c, .string t, .string m] 23)).cell? ⟨w.heap.size, 0, none⟩ = some (.int .i64 k) := hcs 0
  have c1 : (w.alloc (.cells #[.int .i64 k, .int .i64 a, .int .i64 b, .int .i64 c, .string t, .string m] 23)).cell? ⟨w.heap.size, 1, none⟩ = some (.int .i64 a) := hcs 1
  have c2 : (w.alloc (.cells #[.int .i64 k, .int .i64 a, .int .i64 b, .int .i64 c, .string t, .string m] 23)).cell? ⟨w.heap.size, 2, none⟩ = some (.int .i64 b) := hcs 2
  have c3 : (w.alloc (.cells #[.int .i64 k, .int .i64 a, .int .i64 b, .int .i64 c, .string t, .string m] 23)).cell? ⟨w.heap.size, 3, none⟩ = some (.int .i64 c) := hcs 3
  have c4 : (w.alloc (.cells #[.int .i64 k, .int .i64 a, .int .i64 b, .int .i64 c, .string t, .string m] 23)).cell? ⟨w.heap.size, 4, none⟩ = some (.string t) := hcs 4
  have c5 : (w.alloc (.cells #[.int .i64 k, .int .i64 a, .int .i64 b, .int .i64 c, .string t, .string m] 23)).cell? ⟨w.heap.size, 5, none⟩ = some (.string m) := hcs 5
  clear hcs
  have POST : ∀ e w', (e = Ending.returned (.tuple #[.string (mkS (printL k a b c t.data.toList m.data.toList).1), .int .i64 (printL k a b c t.data.toList m.data.toList).2]) ∧ Below w.heap.size w w') → _ := fun e w' h => h
  obtain ⟨R, hR⟩ : ∃ R, R = printL k a b c t.data.toList m.data.toList := ⟨_, rfl⟩
  rw [← hR]
  have HR := Go.Lib.hid hR
  clear hR POST
  go_enter Tryd.func6, Tryd.ntmps6
  go_wp2_with fail
  generalize w.alloc (.cells #[.int .i64 k, .int .i64 a, .int .i64 b, .int .i64 c, .string t, .string m] 23) = W1 at *
  have hgs := hb0.size
  generalize hg : w.heap.size = g at *
  have hTd : Tabs W1.drew := hT1.below (bdr (Below.refl _ W1) 1)
  by_cases hk : 0 ≤ k
  · obtain ⟨K, rfl⟩ : ∃ K : Nat, k = K := ⟨k.toNat, by omega⟩
    have i0' : W1.drew.cell? ⟨g, 0, none⟩ = some (.int .i64 K) := c0
    go_region_held (fun W => W.cell? ⟨g, 0, none⟩ = some (.int .i64 K)) (assumption)
      (first
        | (go_at_call 13; refine (names13 W1.drew hTd).mono ?_; rintro e w2 ⟨rfl, hw2⟩; have hb2 : Below W1.heap.size W1 w2 := (by rw [hw2]; exact (bdr (Below.refl _ W1) 1).alloc (Nat.le_refl _) _); clear hw2; have d0 := bcl hb2 c0; have d1 := bcl hb2 c1; have d2 := bcl hb2 c2; have d3 := bcl hb2 c3))
    all_goals (next =>
      have hT2 : ∀ W, Below W1.heap.size W1 W → Tabs W := fun W h => hT1.below h
      go_wp2_with fail
      have hb3 : Below W1.heap.size W1 (w2.alloc (.cells #[.int .i64 a, .int .i64 b, .int .i64 c] 3)) := hb2.alloc hb2.size _
      have hl3 := blk_cells (at_new w2 (.cells #[.int .i64 a, .int .i64 b, .int .i64 c] 3) _ rfl)
      have HL3 := Go.Lib.hid hl3
      clear hl3 d1 d2 d3
      generalize hw3 : w2.alloc (.cells #[.int .i64 a, .int .i64 b, .int .i64 c] 3) = W3 at *
      have hs3 : w2.heap.size < W3.heap.size := by rw [← hw3]; simp
      generalize w2.heap.size = g3 at *
      clear hw3
      go_loopw [4, 5, 7, 8, 28] (fun v4 v5 _ _ v28 wr => ∃ i : Nat, v28 = .int .i64 i ∧ i ≤ 3 ∧ v4 = .bool (decide ((K : Int) < 12) && allP ([a, b, c].take i)) ∧ wr.ownsRow W3.heap.size 9 1 v5 i (([a, b, c].take i).map strV) ∧ Below W3.heap.size W3 wr) (fun _ _ _ _ v28 _ => 3 - (intOf v28).toNat)
      case atStart => exact ⟨0, rfl, by omega, by simp [allP], own_nil W3 _ 9 1, Below.refl _ W3⟩
      case round =>
        obtain ⟨i, rfl, hi, rfl, hown, hbw⟩ := hrel
        have hbw1 := hb3.trans (hbw.mono hb3.size)
        by_cases hlt : i < 3
        · obtain ⟨n, ht3, hn3, habc⟩ := take3 a b c i hlt
          have hn := bcl hbw ((HL3.out i).trans hn3)
          have hn0 : -9223372036854775808 ≤ n := by omega
          have hn1 : n ≤ 9223372036854775807 := by omega
          have HT3 := Go.Lib.hid ht3
          clear ht3 hn3 habc
          generalize hF : (decide ((K : Int) < 12) && allP ([a, b, c].take i)) = F at *
          have HF := Go.Lib.hid hF
          clear hF
          go_wp2_with fail
          refine (itoa14 n hn0 hn1 wr (hT2 wr hbw1)).mono ?_
          rintro e w4 ⟨rfl, hb4⟩
          have hbw4 := hbw.trans (hb4.mono hbw.size)
          have hown4 := own_below hown hb4
          clear hown hn
          have hni : n ≠ -1 → mkS (Lib.itoa n) = mkS (numL n) := fun h => by rw [numL, if_neg h]
          have hn45 : n = -1 → mkS [45] = mkS (numL n) := fun h => by rw [numL, if_pos h]
          have hap : (decide ((K : Int) < 12) && allP ([a, b, c].take (i + 1))) = (F && inP n) := by rw [HT3.out, ← HF.out]; simp [allP, Bool.and_assoc]
          have HAP := Go.Lib.hid hap
          clear hap
          have hcase : n = -1 ∨ n < -1 ∨ (n ≠ -1 ∧ -1 < n ∧ n ≤ 99999) ∨ (n ≠ -1 ∧ -1 < n ∧ 99999 < n) := by omega
          have HNI := Go.Lib.hid hni
          have HN45 := Go.Lib.hid hn45
          have HOWN := Go.Lib.hid hown4
          clear hni hn45 hown4 HF
          rcases hcase with rfl | hx | ⟨hx, hy, hz⟩ | ⟨hx, hy, hz⟩
          all_goals cases F
          all_goals go_wp2_with (at_builtin; refine step_append rfl W3.heap.size (.tmp 45) (.tmp 47) 43 9 (.string ByteArray.empty) 1 16 rfl Tryd.underlying43 Tryd.info9 rfl (by decide) (by decide) u5 i _ _ _ rfl rfl rfl rfl (oneStr _) HOWN.out hbw4 hbw4.size (by omega) ?_; intro v1 w5 hown5 hb5)
          all_goals have HOWN5 := Go.Lib.hid hown5
          all_goals clear hown5
          all_goals go_roundw
          all_goals first
            | (case measure => simp [intOf]; omega)
            | (case rel =>
                refine ⟨i + 1, by go_num, by omega, ?_, ?_, hb5⟩
                · rw [HAP.out]
                  simp [inP]
                  try omega
                · rw [HT3.out, List.map_append]
                  have h5 := HOWN5.out
                  first
                    | (have e := HNI.out (by omega); rw [e] at h5; exact h5)
                    | exact h5)
        · obtain rfl : i = 3 := by omega
          obtain ⟨oa, cp, rfl⟩ := own_slice hown
          have d0 := bcl hbw1 c0
          have d4 := bcl hbw1 c4
          have d5 := bcl hbw1 c5
          rw [show [a, b, c].take 3 = [a, b, c] from rfl] at hown ⊢
          have HOWN := Go.Lib.hid hown
          clear hown
          cases hF : (decide ((K : Int) < 12) && allP [a, b, c])
          · have hRF : R = ([], 4) := by
              rw [HR.out, printL, if_pos]
              intro h
              simp [h.2.2, h.2.1] at hF
            go_wp2
            go_ret2
            exact ⟨by first | rfl | (rw [hRF]; rfl), by first | exact hb0.trans (hbw1.mono hgs) | (rw [hg]; exact hb0.trans (hbw1.mono hgs))⟩
          · have hk12 : (K : Int) < 12 := by simp at hF; exact hF.1
            have hall : allP [a, b, c] = true := by simp at hF; exact hF.2
            by_cases hlen : 65536 < t.size ∨ 65536 < m.size
            · have hRF : R = ([], 2) := by rw [HR.out, printL, if_neg (by simp [hk, hk12, hall]), if_pos (by rw [dlen, dlen]; exact hlen)]
              have hx : 65536 < t.size ∨ (¬ 65536 < t.size ∧ 65536 < m.size) := by omega
              rcases hx with hx | ⟨hx, hy⟩
              all_goals go_wp2
              all_goals go_ret2
              all_goals exact ⟨by first | rfl | (rw [hRF]; rfl), by first | exact hb0.trans (hbw1.mono hgs) | (rw [hg]; exact hb0.trans (hbw1.mono hgs))⟩
            · have hx : ¬ 65536 < t.size := by omega
              have hy : ¬ 65536 < m.size := by omega
              have hK : K < 12 := by omega
              have hTr : Tabs wr.drew := hT2 _ (bdr hbw1 1)
              have hwd0 : Below wr.heap.size wr wr.drew := bdr (Below.refl _ wr) 1
              have hia : inP a = true := by simp [allP] at hall; exact hall.1
              have hib : inP b = true := by simp [allP] at hall; exact hall.2.1
              have hic : inP c = true := by simp [allP] at hall; exact hall.2.2
              have hla := numL_len a hia
              have hlb := numL_len b hib
              have hlc := numL_len c hic
              have hnl := act_len K hK
              have HJ : ∀ W, Below wr.heap.size wr W → Calls Tryd.prog 15 #[.slice oa 3 cp, .string ⟨#[32]⟩] W fun e w' => e = .returned (.string (mkS (numL a ++ [32] ++ numL b ++ [32] ++ numL c))) ∧ Below W.heap.size W w' := fun W hW => by
                have hO := own_below HOWN.out hW
                obtain ⟨gj, rfl, _⟩ := own_form hO (by omega)
                have hj := Tryd.strings_Join gj 0 cp [mkS (numL a), mkS (numL b), mkS (numL c)] ⟨#[32]⟩ W (fun j x hx => by
                  obtain ⟨ad, had, hc⟩ := (own_read hO).2 j (.string x) (by
                    rcases j with _ | _ | _ | j
                    · simp at hx; subst hx; rfl
                    · simp at hx; subst hx; rfl
                    · simp at hx; subst hx; rfl
                    · simp at hx)
                  cases had
                  rwa [show Addr.add ⟨gj, 0, none⟩ j = ⟨gj, 0 + j, none⟩ by unfold Addr.add; split <;> simp_all] at hc) (own_lt hO gj rfl) (by simp) (own_cap hO) (by
                    show (Lib.join [numL a, numL b, numL c] [32]).length ≤ _
                    rw [join3]
                    simp
                    omega)
                refine hj.mono ?_
                rintro e w' ⟨rfl, hb⟩
                exact ⟨by
                  show Ending.returned (Value.string ⟨(Lib.join [numL a, numL b, numL c] [32]).toArray⟩) = _
                  rw [join3]; rfl, hb⟩
              have HXt := fun W => hex16 t W (by omega)
              have HXm := fun W => hex16 m W (by omega)
              have N13 := names13 wr.drew hTr
              have hline : mkS (lineL K a b c t.data.toList m.data.toList) = ⟨#[97, 99, 116, 32]⟩ ++ mkS (actNames.getD K []) ++ ⟨#[32]⟩ ++ mkS (numL a ++ [32] ++ numL b ++ [32] ++ numL c) ++ ⟨#[32, 61]⟩ ++ mkS (hexL t.data.toList) ++ ⟨#[32, 61]⟩ ++ mkS (hexL m.data.toList) := by
                apply ByteArray.ext
                simp [mkS, lineL]
              have hsum : (lineL K a b c t.data.toList m.data.toList).length = 4 + (mkS (actNames.getD K [])).size + 1 + (mkS (numL a ++ [32] ++ numL b ++ [32] ++ numL c)).size + 2 + (mkS (hexL t.data.toList)).size + 2 + (mkS (hexL m.data.toList)).size := by
                simp [mkS_size, lineL]
                omega
              have hz1 : (mkS (actNames.getD K [])).size ≤ 6 := hnl
              have hz2 : (mkS (numL a ++ [32] ++ numL b ++ [32] ++ numL c)).size ≤ 20 := by rw [mkS_size]; simp; omega
              have hz3 : (mkS (hexL t.data.toList)).size ≤ 131072 := by rw [mkS_size, hexL_len, dlen]; omega
              have hz4 : (mkS (hexL m.data.toList)).size ≤ 131072 := by rw [mkS_size, hexL_len, dlen]; omega
              have hRF : R = if 65536 < (lineL K a b c t.data.toList m.data.toList).length then ([], 2) else (lineL K a b c t.data.toList m.data.toList, 0) := by
                rw [HR.out, printL, if_neg (by simp [hk, hk12, hall]), if_neg (by rw [dlen, dlen]; exact hlen)]
                rfl
              have hact : ∀ W, W = wr.drew.alloc (.cells (strs actNames) 9) → W.cell? ⟨wr.heap.size, K, none⟩ = some (.string (mkS (actNames.getD K []))) := fun W h => by rw [h]; exact act_at wr.drew K hK
              have HACT := Go.Lib.hid hact
              generalize lineL K a b c t.data.toList m.data.toList = LL at *
              generalize mkS (actNames.getD K []) = nm at *
              generalize mkS (numL a ++ [32] ++ numL b ++ [32] ++ numL c) = J at *
              generalize mkS (hexL t.data.toList) = X at *
              generalize mkS (hexL m.data.toList) = Y at *
              have q1 : ¬ 9223372036854775807 < 4 + nm.size := by omega
              have q2 : ¬ 9223372036854775807 < 4 + nm.size + 1 := by omega
              have q3 : ¬ 9223372036854775807 < 4 + nm.size + 1 + J.size := by omega
              have q4 : ¬ 9223372036854775807 < 4 + nm.size + 1 + J.size + 2 := by omega
              have q5 : ¬ 9223372036854775807 < 4 + nm.size + 1 + J.size + 2 + X.size := by omega
              have q6 : ¬ 9223372036854775807 < 4 + nm.size + 1 + J.size + 2 + X.size + 2 := by omega
              have q7 : ¬ 9223372036854775807 < 4 + nm.size + 1 + J.size + 2 + X.size + 2 + Y.size := by omega
              have HRF := Go.Lib.hid hRF
              have HLINE := Go.Lib.hid hline
              have HJ2 := Go.Lib.hid HJ
              have HXt2 := Go.Lib.hid HXt
              have HXm2 := Go.Lib.hid HXm
              clear hRF hline HJ HXt HXm hact hia hib hic hla hlb hlc hnl hF hall hlen HR HOWN HL3 hbw hb3 hs3 hi hlt
              have i0 : wr.drew.cell? ⟨g, 0, none⟩ = some (.int .i64 K) := d0
              have i4 : wr.drew.cell? ⟨g, 4, none⟩ = some (.string t) := d4
              have i5 : wr.drew.cell? ⟨g, 5, none⟩ = some (.string m) := d5
              go_wp2_with fail
              refine wp_region_held_drew (S := (fun W => W.cell? ⟨g, 0, none⟩ = some (.int .i64 K) ∧ W.cell? ⟨g, 4, none⟩ = some (.string t) ∧ W.cell? ⟨g, 5, none⟩ = some (.string m))) (by kernel_rfl) ⟨i0, i4, i5⟩ (fun hHeld => ?_)
              refine wpAnyH_take (i := 1) (v := ?_) rfl (by kernel_rfl) (by kernel_rfl) (by kernel_rfl) (fun _ _ _ h => h) (Or.inl ⟨by rfl, ?_⟩) (by assumption) ?_
              rotate_left
              · intro w hSw; (try dsimp only at hSw); (try go_simp); all_goals (with_reducible rfl)
              try simp only [Act.put, List.setIfInBounds_toArray]
              refine wpAnyH_take (i := 2) (v := ?_) rfl (by kernel_rfl) (by kernel_rfl) (by kernel_rfl) (fun _ _ _ h => h) (Or.inl ⟨by rfl, ?_⟩) (by assumption) ?_
              rotate_left
              · intro w hSw; (try dsimp only at hSw); (try go_simp); all_goals (with_reducible rfl)
              try simp only [Act.put]
              refine wpAnyH_take (i := 7) (v := ?_) rfl (by kernel_rfl) (by kernel_rfl) (by kernel_rfl) (fun _ _ _ h => h) (Or.inl ⟨by rfl, ?_⟩) (by assumption) ?_
              rotate_left
              · intro w hSw; (try dsimp only at hSw); (try go_simp); all_goals (with_reducible rfl)
              try simp only [Act.put]
              refine wpAnyH_take (i := 11) (v := ?_) rfl (by kernel_rfl) (by kernel_rfl) (by kernel_rfl) (fun _ _ _ h => h) (Or.inl ⟨by rfl, ?_⟩) (by assumption) ?_
              rotate_left
              · intro w hSw; (try dsimp only at hSw); (try go_simp); all_goals (with_reducible rfl)
              try simp only [Act.put]
              refine wpAnyH_take (i := 12) (v := ?_) rfl (by kernel_rfl) (by kernel_rfl) (by kernel_rfl) (fun _ _ _ h => h) (Or.inl ⟨by rfl, ?_⟩) (by assumption) ?_
              rotate_left
              · intro w hSw; (try dsimp only at hSw); (try go_simp); all_goals (with_reducible rfl)
              try simp only [Act.put]
              refine wpAnyH_take (i := 16) (v := ?_) rfl (by kernel_rfl) (by kernel_rfl) (by kernel_rfl) (fun _ _ _ h => h) (Or.inl ⟨by rfl, ?_⟩) (by assumption) ?_
              rotate_left
              · intro w hSw; (try dsimp only at hSw); (try go_simp); all_goals (with_reducible rfl)
              try simp only [Act.put]
              refine wpAnyH_take (i := 17) (v := ?_) rfl (by kernel_rfl) (by kernel_rfl) (by kernel_rfl) (fun _ _ _ h => h) (Or.inl ⟨by rfl, ?_⟩) (by assumption) ?_
              rotate_left
              · intro w hSw; (try dsimp only at hSw); (try go_simp); all_goals (with_reducible rfl)
              try simp only [Act.put]
              refine wpAnyH_ready (rs := [0]) (by kernel_rfl) (by simp) ?_
              refine AllReadyH.cons rfl (fun K hK => ?_) AllReadyH.nil
              go_simp
              go_wp2_with (go_at_call 13; refine N13.mono ?_; rintro e w6 ⟨rfl, hw6⟩; have hb6 : Below wr.heap.size wr w6 := (by rw [hw6]; exact hwd0.alloc (Nat.le_refl _) _); have hn6 := HACT.out w6 hw6; clear hw6; have e0 := bcl hb6 d0; have e4 := bcl hb6 d4; have e5 := bcl hb6 d5)
              refine hK.out _ _ (⟨e0, e4, e5⟩) (fun hHeld => ?_)
              clear hK K
              refine wpAnyH_mono (S' := (fun W => W.cell? ⟨wr.heap.size, K, none⟩ = some (.string nm) ∧ W.cell? ⟨g, 0, none⟩ = some (.int .i64 K) ∧ W.cell? ⟨g, 4, none⟩ = some (.string t) ∧ W.cell? ⟨g, 5, none⟩ = some (.string m))) (fun W h => h.2) ?_
              have hHeld1 : (fun W => W.cell? ⟨wr.heap.size, K, none⟩ = some (.string nm) ∧ W.cell? ⟨g, 0, none⟩ = some (.int .i64 K) ∧ W.cell? ⟨g, 4, none⟩ = some (.string t) ∧ W.cell? ⟨g, 5, none⟩ = some (.string m)) w6 := ⟨hn6, e0, e4, e5⟩
              clear hHeld
              refine wpAnyH_take (i := 3) (v := ?_) rfl (by kernel_rfl) (by kernel_rfl) (by kernel_rfl) (fun _ _ _ h => h) (Or.inl ⟨by rfl, ?_⟩) (by assumption) ?_
              rotate_left
              · intro w hSw; (try dsimp only at hSw); (try go_simp); all_goals (with_reducible rfl)
              try simp only [Act.put, List.setIfInBounds_toArray]
              refine wpAnyH_take (i := 4) (v := ?_) rfl (by kernel_rfl) (by kernel_rfl) (by kernel_rfl) (fun _ _ _ h => h) (Or.inl ⟨by rfl, ?_⟩) (by assumption) ?_
              rotate_left
              · intro w hSw; (try dsimp only at hSw); (try go_simp); all_goals (with_reducible rfl)
              try simp only [Act.put]
              refine wpAnyH_take (i := 5) (v := ?_) rfl (by kernel_rfl) (by kernel_rfl) (by kernel_rfl) (fun _ _ _ h => h) (Or.inl ⟨by rfl, ?_⟩) (by assumption) ?_
              rotate_left
              · intro w hSw; (try dsimp only at hSw); (try go_simp); all_goals (with_reducible rfl)
              try simp only [Act.put]
              refine wpAnyH_take (i := 6) (v := ?_) rfl (by kernel_rfl) (by kernel_rfl) (by kernel_rfl) (fun _ _ _ h => h) (Or.inl ⟨by rfl, ?_⟩) (by assumption) ?_
              rotate_left
              · intro w hSw; (try dsimp only at hSw); (try go_simp); all_goals (with_reducible rfl)
              try simp only [Act.put]
              refine wpAnyH_ready (rs := [8]) (by kernel_rfl) (by simp) ?_
              refine AllReadyH.cons rfl (fun K hK => ?_) AllReadyH.nil
              go_simp
              go_wp2_with (go_at_call 15; refine (HJ2.out w6 hb6).mono ?_; rintro e w7 ⟨rfl, hb7⟩; have hb67 := btr hb6 hb7; have hn7 := bcl hb7 hn6; have f0 := bcl hb67 d0; have f4 := bcl hb67 d4; have f5 := bcl hb67 d5)
              refine hK.out _ _ (⟨hn7, f0, f4, f5⟩) (fun hHeld => ?_)
              clear hK K
              refine wpAnyH_take (i := 9) (v := ?_) rfl (by kernel_rfl) (by kernel_rfl) (by kernel_rfl) (fun _ _ _ h => h) (Or.inl ⟨by rfl, ?_⟩) (by assumption) ?_
              rotate_left
              · intro w hSw; (try dsimp only at hSw); (try go_simp); all_goals (with_reducible rfl)
              try simp only [Act.put, List.setIfInBounds_toArray]
              refine wpAnyH_take (i := 10) (v := ?_) rfl (by kernel_rfl) (by kernel_rfl) (by kernel_rfl) (fun _ _ _ h => h) (Or.inl ⟨by rfl, ?_⟩) (by assumption) ?_
              rotate_left
              · intro w hSw; (try dsimp only at hSw); (try go_simp); all_goals (with_reducible rfl)
              try simp only [Act.put]
              refine wpAnyH_ready (rs := [13]) (by kernel_rfl) (by simp) ?_
              refine AllReadyH.cons rfl (fun K hK => ?_) AllReadyH.nil
              go_simp
              go_wp2_with (go_at_call 16; refine (HXt2.out w7).mono ?_; rintro e w8 ⟨rfl, hb8⟩; have hb78 := btr hb67 hb8; have hn8 := bcl hb8 hn7; have g0 := bcl hb78 d0; have g4 := bcl hb78 d4; have g5 := bcl hb78 d5)
              refine hK.out _ _ (⟨hn8, g0, g4, g5⟩) (fun hHeld => ?_)
              clear hK K
              refine wpAnyH_take (i := 14) (v := ?_) rfl (by kernel_rfl) (by kernel_rfl) (by kernel_rfl) (fun _ _ _ h => h) (Or.inl ⟨by rfl, ?_⟩) (by assumption) ?_
              rotate_left
              · intro w hSw; (try dsimp only at hSw); (try go_simp); all_goals (with_reducible rfl)
              try simp only [Act.put, List.setIfInBounds_toArray]
              refine wpAnyH_take (i := 15) (v := ?_) rfl (by kernel_rfl) (by kernel_rfl) (by kernel_rfl) (fun _ _ _ h => h) (Or.inl ⟨by rfl, ?_⟩) (by assumption) ?_
              rotate_left
              · intro w hSw; (try dsimp only at hSw); (try go_simp); all_goals (with_reducible rfl)
              try simp only [Act.put]
              refine wpAnyH_ready (rs := [18]) (by kernel_rfl) (by simp) ?_
              refine AllReadyH.cons rfl (fun K hK => ?_) AllReadyH.nil
              go_simp
              go_wp2_with (go_at_call 16; refine (HXm2.out w8).mono ?_; rintro e w9 ⟨rfl, hb9⟩; have hb89 := btr hb78 hb9; have hn9 := bcl hb9 hn8; have j0 := bcl hb89 d0; have j4 := bcl hb89 d4; have j5 := bcl hb89 d5)
              refine hK.out _ _ (⟨hn9, j0, j4, j5⟩) (fun hHeld => ?_)
              clear hK K
              refine wpAnyH_take (i := 19) (v := ?_) rfl (by kernel_rfl) (by kernel_rfl) (by kernel_rfl) (fun _ _ _ h => h) (Or.inl ⟨by rfl, ?_⟩) (by assumption) ?_
              rotate_left
              · intro w hSw; (try dsimp only at hSw); (try go_simp); all_goals (with_reducible rfl)
              try simp only [Act.put, List.setIfInBounds_toArray]
              refine wpAnyH_take (i := 20) (v := ?_) rfl (by kernel_rfl) (by kernel_rfl) (by kernel_rfl) (fun _ _ _ h => h) (Or.inl ⟨by rfl, ?_⟩) (by assumption) ?_
              rotate_left
              · intro w hSw; (try dsimp only at hSw); (try go_simp); all_goals (with_reducible rfl)
              try simp only [Act.put]
              refine wpAnyH_done (by kernel_rfl) ?_ _
              all_goals have HB9 : Below g w w9 := hb0.trans ((btr hbw1 hb89).mono hgs)
              by_cases hbig : 65536 < LL.length
              · have hRF2 : R = ([], 2) := by rw [HRF.out, if_pos hbig]
                have HR2 := Go.Lib.hid hRF2
                clear hRF2
                rw [hsum] at hbig
                go_wp2
                go_ret2
                exact ⟨by rw [HR2.out]; rfl, by first | exact HB9 | (rw [hg]; exact HB9)⟩
              · have hRF2 : R = (LL, 0) := by rw [HRF.out, if_neg hbig]
                have HR2 := Go.Lib.hid hRF2
                clear hRF2
                rw [hsum] at hbig
                go_wp2
                go_ret2
                exact ⟨by rw [HR2.out, HLINE.out]; rfl, by first | exact HB9 | (rw [hg]; exact HB9)⟩)
  · have hd : decide (0 ≤ k) = false := by simp; omega
    go_quiet (skip)
    generalize hW2 : W1.drewN nq = w2 at *
    have hb2 : Below W1.heap.size W1 w2 := by rw [← hW2]; exact bdr (Below.refl _ W1) nq
    clear hW2
    have d1 := bcl hb2 c1
    have d2 := bcl hb2 c2
    have d3 := bcl hb2 c3
    go_wp2
    have hT2 : ∀ W, Below W1.heap.size W1 W → Tabs W := fun W h => hT1.below h
    go_wp2_with fail
    have hb3 : Below W1.heap.size W1 (w2.alloc (.cells #[.int .i64 a, .int .i64 b, .int .i64 c] 3)) := hb2.alloc hb2.size _
    have hl3 := blk_cells (at_new w2 (.cells #[.int .i64 a, .int .i64 b, .int .i64 c] 3) _ rfl)
    have HL3 := Go.Lib.hid hl3
    clear hl3 d1 d2 d3
    generalize hw3 : w2.alloc (.cells #[.int .i64 a, .int .i64 b, .int .i64 c] 3) = W3 at *
    have hs3 : w2.heap.size < W3.heap.size := by rw [← hw3]; simp
    generalize w2.heap.size = g3 at *
    clear hw3
    go_loopw [4, 5, 7, 8, 28] (fun v4 v5 _ _ v28 wr => ∃ i : Nat, v28 = .int .i64 i ∧ i ≤ 3 ∧ v4 = .bool (false && allP ([a, b, c].take i)) ∧ wr.ownsRow W3.heap.size 9 1 v5 i (([a, b, c].take i).map strV) ∧ Below W3.heap.size W3 wr) (fun _ _ _ _ v28 _ => 3 - (intOf v28).toNat)
    case atStart => exact ⟨0, rfl, by omega, by simp [allP], own_nil W3 _ 9 1, Below.refl _ W3⟩
    case round =>
      obtain ⟨i, rfl, hi, rfl, hown, hbw⟩ := hrel
      have hbw1 := hb3.trans (hbw.mono hb3.size)
      by_cases hlt : i < 3
      · obtain ⟨n, ht3, hn3, habc⟩ := take3 a b c i hlt
        have hn := bcl hbw ((HL3.out i).trans hn3)
        have hn0 : -9223372036854775808 ≤ n := by omega
        have hn1 : n ≤ 9223372036854775807 := by omega
        have HT3 := Go.Lib.hid ht3
        clear ht3 hn3 habc
        generalize hF : (false && allP ([a, b, c].take i)) = F at *
        have HF := Go.Lib.hid hF
        clear hF
        go_wp2_with fail
        refine (itoa14 n hn0 hn1 wr (hT2 wr hbw1)).mono ?_
        rintro e w4 ⟨rfl, hb4⟩
        have hbw4 := hbw.trans (hb4.mono hbw.size)
        have hown4 := own_below hown hb4
        clear hown hn
        have hni : n ≠ -1 → mkS (Lib.itoa n) = mkS (numL n) := fun h => by rw [numL, if_neg h]
        have hn45 : n = -1 → mkS [45] = mkS (numL n) := fun h => by rw [numL, if_pos h]
        have hap : (false && allP ([a, b, c].take (i + 1))) = (F && inP n) := by rw [HT3.out, ← HF.out]; simp [allP]
        have HAP := Go.Lib.hid hap
        clear hap
        have hcase : n = -1 ∨ n < -1 ∨ (n ≠ -1 ∧ -1 < n ∧ n ≤ 99999) ∨ (n ≠ -1 ∧ -1 < n ∧ 99999 < n) := by omega
        have HNI := Go.Lib.hid hni
        have HN45 := Go.Lib.hid hn45
        have HOWN := Go.Lib.hid hown4
        clear hni hn45 hown4 HF
        rcases hcase with rfl | hx | ⟨hx, hy, hz⟩ | ⟨hx, hy, hz⟩
        all_goals cases F
        all_goals go_wp2_with (at_builtin; refine step_append rfl W3.heap.size (.tmp 45) (.tmp 47) 43 9 (.string ByteArray.empty) 1 16 rfl Tryd.underlying43 Tryd.info9 rfl (by decide) (by decide) u5 i _ _ _ rfl rfl rfl rfl (oneStr _) HOWN.out hbw4 hbw4.size (by omega) ?_; intro v1 w5 hown5 hb5)
        all_goals have HOWN5 := Go.Lib.hid hown5
        all_goals clear hown5
        all_goals go_roundw
        all_goals first
          | (case measure => simp [intOf]; omega)
          | (case rel =>
              refine ⟨i + 1, by go_num, by omega, ?_, ?_, hb5⟩
              · rw [HAP.out]
                simp [inP]
                try omega
              · rw [HT3.out, List.map_append]
                have h5 := HOWN5.out
                first
                  | (have e := HNI.out (by omega); rw [e] at h5; exact h5)
                  | exact h5)
      · obtain rfl : i = 3 := by omega
        obtain ⟨oa, cp, rfl⟩ := own_slice hown
        have d0 := bcl hbw1 c0
        have d4 := bcl hbw1 c4
        have d5 := bcl hbw1 c5
        rw [show [a, b, c].take 3 = [a, b, c] from rfl] at hown ⊢
        have HOWN := Go.Lib.hid hown
        clear hown
        have hRF : R = ([], 4) := by rw [HR.out, printL, if_pos (by omega)]
        go_wp2
        go_ret2
        exact ⟨by first | rfl | (rw [hRF]; rfl), by first | exact hb0.trans (hbw1.mono hgs) | (rw [hg]; exact hb0.trans (hbw1.mono hgs))⟩
end Go.Proofs.YtghhidaihajdmaaDoor
/- The reference's print of an act. Printed by genS5.py. -/
namespace Go.Proofs.YtghhidaihajdmaaDoor
open Go.RowKit
theorem place17p (n : Int) (h0 : -9223372036854775808 ≤ n) (h1 : n ≤ 9223372036854775807) (w : World) : Calls Tryd.prog 17 #[.int .i64 n] w fun e w' => e = .returned (.tuple #[.string (if inP n then mkS (numL n) else ⟨#[]⟩), .bool (inP n)]) ∧ Below w.heap.size w w' := by
  have h := place17 n h0 h1 w
  have e : decide (-1 ≤ n ∧ n ≤ 99999) = inP n := by unfold inP; simp
  refine h.mono ?_
  rintro e w' ⟨rfl, hb⟩
  refine ⟨?_, hb⟩
  rw [e]
  by_cases hp : -1 ≤ n ∧ n ≤ 99999
  · rw [if_pos hp, if_pos (by rw [← e]; exact decide_eq_true hp)]
  · rw [if_neg hp, if_neg (by rw [← e]; simp only [hp]; decide)]
set_option maxRecDepth 100000 in
set_option maxHeartbeats 8000000 in
theorem print7 (k a b c : Int) (t m : ByteArray) (w : World) (hk0 : -9223372036854775808 ≤ k) (hk1 : k ≤ 9223372036854775807) (ha0 : -9223372036854775808 ≤ a) (ha1 : a ≤ 9223372036854775807) (hq0 : -9223372036854775808 ≤ b) (hq1 : b ≤ 9223372036854775807) (hc0 : -9223372036854775808 ≤ c) (hc1 : c ≤ 9223372036854775807) : Calls Tryd.prog 7 #[.agg #[.int .i64 k, .int .i64 a, .int .i64 b, .int .i64 c, .string t, .string m]] w fun e w' => e = .returned (.tuple #[.string (mkS (printL k a b c t.data.toList m.data.toList).1), .int .i64 (printL k a b c t.data.toList m.data.toList).2]) ∧ Below w.heap.size w w' := by
  have hb0 : Below w.heap.size w (w.alloc (.cells #[.int .i64 k, .int .i64 a, .int .i64 b, .int .i64 c, .string t, .string m] 23)) := (Below.refl _ w).alloc (Nat.le_refl _) _
  have hcs := blk_cells (at_new w (.cells #[.int .i64 k, .int .i64 a, .int .i64 b, .int .i64 c, .string t, .string m] 23) _ rfl)
  have c0 : (w.alloc (.cells #[.int .i64 k, .int .i64 a, .int .i64 b, .int .i64 c, .string t, .string m] 23)).cell? ⟨w.heap.size, 0, none⟩ = some (.int .i64 k) := hcs 0
  have c1 : (w.alloc (.cells #[.int .i64 k, .int .i64 a, .int .i64 b, .int .i64 c, .string t, .string m] 23)).cell? ⟨w.heap.size, 1, none⟩ = some (.int .i64 a) := hcs 1
  have c2 : (w.alloc (.cells #[.int .i64 k, .int .i64 a, .int .i64 b, .int .i64 c, .string t, .string m] 23)).cell? ⟨w.heap.size, 2, none⟩ = some (.int .i64 b) := hcs 2
  have c3 : (w.alloc (.cells #[.int .i64 k, .int .i64 a, .int .i64 b, .int .i64 c, .string t, .string m] 23)).cell? ⟨w.heap.size, 3, none⟩ = some (.int .i64 c) := hcs 3
  have c4 : (w.alloc (.cells #[.int .i64 k, .int .i64 a, .int .i64 b, .int .i64 c, .string t, .string m] 23)).cell? ⟨w.heap.size, 4, none⟩ = some (.string t) := hcs 4
  have c5 : (w.alloc (.cells #[.int .i64 k, .int .i64 a, .int .i64 b, .int .i64 c, .string t, .string m] 23)).cell? ⟨w.heap.size, 5, none⟩ = some (.string m) := hcs 5
  clear hcs
  obtain ⟨R, hR⟩ : ∃ R, R = printL k a b c t.data.toList m.data.toList := ⟨_, rfl⟩
  rw [← hR]
  have HR := Go.Lib.hid hR
  clear hR
  obtain ⟨sa, hsa⟩ : ∃ s : ByteArray, s = if inP a then mkS (numL a) else ⟨#[]⟩ := ⟨_, rfl⟩
  obtain ⟨pa, hpa⟩ : ∃ p, p = inP a := ⟨_, rfl⟩
  have P1 : ∀ W, Calls Tryd.prog 17 #[.int .i64 a] W fun e w' => e = .returned (.tuple #[.string sa, .bool pa]) ∧ Below W.heap.size W w' := fun W => by rw [hsa, hpa]; exact place17p a ha0 ha1 W
  obtain ⟨sb, hsb⟩ : ∃ s : ByteArray, s = if inP b then mkS (numL b) else ⟨#[]⟩ := ⟨_, rfl⟩
  obtain ⟨pb, hpb⟩ : ∃ p, p = inP b := ⟨_, rfl⟩
  have P2 : ∀ W, Calls Tryd.prog 17 #[.int .i64 b] W fun e w' => e = .returned (.tuple #[.string sb, .bool pb]) ∧ Below W.heap.size W w' := fun W => by rw [hsb, hpb]; exact place17p b hq0 hq1 W
  obtain ⟨sc, hsc⟩ : ∃ s : ByteArray, s = if inP c then mkS (numL c) else ⟨#[]⟩ := ⟨_, rfl⟩
  obtain ⟨pc, hpc⟩ : ∃ p, p = inP c := ⟨_, rfl⟩
  have P3 : ∀ W, Calls Tryd.prog 17 #[.int .i64 c] W fun e w' => e = .returned (.tuple #[.string sc, .bool pc]) ∧ Below W.heap.size W w' := fun W => by rw [hsc, hpc]; exact place17p c hc0 hc1 W
  have hgs := hb0.size
  have hcase : (k < 0 ∨ (0 ≤ k ∧ 11 < k) ∨ (0 ≤ k ∧ k ≤ 11 ∧ inP a = false) ∨ (0 ≤ k ∧ k ≤ 11 ∧ inP a = true ∧ inP b = false) ∨ (0 ≤ k ∧ k ≤ 11 ∧ inP a = true ∧ inP b = true ∧ inP c = false)) ∨ (0 ≤ k ∧ k ≤ 11 ∧ inP a = true ∧ inP b = true ∧ inP c = true) := by
    cases inP a <;> cases inP b <;> cases inP c <;> simp <;> omega
  rcases hcase with hbad | ⟨hk, hk11, hia, hib, hic⟩
  · have hRF : R = ([], 4) := by
      rw [HR.out, printL, if_pos]
      intro h
      have h3 := h.2.2
      simp [allP] at h3
      rcases hbad with hx | ⟨_, hx⟩ | ⟨_, _, hx⟩ | ⟨_, _, _, hx⟩ | ⟨_, _, _, _, hx⟩
      · omega
      · omega
      · rw [hx] at h3; simp at h3
      · rw [hx] at h3; simp at h3
      · rw [hx] at h3; simp at h3
    have HRF := Go.Lib.hid hRF
    clear hRF
    rw [← hpa, ← hpb, ← hpc] at hbad
    clear hpa hpb hpc hsa hsb hsc
    rcases hbad with hx | ⟨hk, hx⟩ | ⟨hk, hk11, hx⟩ | ⟨hk, hk11, hia, hx⟩ | ⟨hk, hk11, hia, hib, hx⟩
    all_goals
      go_enter Tryd.func7, Tryd.ntmps7
      go_wp2_with fail
      generalize w.alloc (.cells #[.int .i64 k, .int .i64 a, .int .i64 b, .int .i64 c, .string t, .string m] 23) = W1 at *
      generalize hg : w.heap.size = g at *
      refine (P1 _).mono ?_
      rintro e w2 ⟨rfl, hb2⟩
      have d2 := bcl hb2 c2
      go_wp2_with fail
      refine (P2 _).mono ?_
      rintro e w3 ⟨rfl, hb3⟩
      have hb13 := btr hb2 hb3
      have d3 := bcl hb13 c3
      go_wp2_with fail
      refine (P3 _).mono ?_
      rintro e wr ⟨rfl, hb4⟩
      have hbw1 := btr hb13 hb4
      have d0 := bcl hbw1 c0
      have d4 := bcl hbw1 c4
      have d5 := bcl hbw1 c5
      have HB := hb0.trans (hbw1.mono hgs)
      clear P1 P2 P3 hb2 hb3 hb4 hb13 d2 d3 c0 c1 c2 c3 c4 c5
      go_wp2_with fail
      all_goals go_wp2
      all_goals go_ret2
      all_goals exact ⟨by rw [HRF.out]; rfl, by first | exact HB | (rw [hg]; exact HB)⟩
  · obtain ⟨K, rfl⟩ : ∃ K : Nat, k = K := ⟨k.toNat, by omega⟩
    rw [if_pos hia] at hsa
    rw [if_pos hib] at hsb
    rw [if_pos hic] at hsc
    rw [hia] at hpa
    rw [hib] at hpb
    rw [hic] at hpc
    subst hpa hpb hpc
    have HSA := Go.Lib.hid hsa
    have HSB := Go.Lib.hid hsb
    have HSC := Go.Lib.hid hsc
    clear hsa hsb hsc
    have hall : allP [a, b, c] = true := by simp [allP, hia, hib, hic]
    by_cases hlen : 65536 < t.size ∨ 65536 < m.size
    · have hRF : R = ([], 2) := by rw [HR.out, printL, if_neg (by simp [hk, hall]; omega), if_pos (by rw [dlen, dlen]; exact hlen)]
      have HRF := Go.Lib.hid hRF
      clear hRF
      have hx : 65536 < t.size ∨ (¬ 65536 < t.size ∧ 65536 < m.size) := by omega
      rcases hx with hx | ⟨hx, hy⟩
      all_goals
        go_enter Tryd.func7, Tryd.ntmps7
        go_wp2_with fail
        generalize w.alloc (.cells #[.int .i64 K, .int .i64 a, .int .i64 b, .int .i64 c, .string t, .string m] 23) = W1 at *
        generalize hg : w.heap.size = g at *
        refine (P1 _).mono ?_
        rintro e w2 ⟨rfl, hb2⟩
        have d2 := bcl hb2 c2
        go_wp2_with fail
        refine (P2 _).mono ?_
        rintro e w3 ⟨rfl, hb3⟩
        have hb13 := btr hb2 hb3
        have d3 := bcl hb13 c3
        go_wp2_with fail
        refine (P3 _).mono ?_
        rintro e wr ⟨rfl, hb4⟩
        have hbw1 := btr hb13 hb4
        have d0 := bcl hbw1 c0
        have d4 := bcl hbw1 c4
        have d5 := bcl hbw1 c5
        have HB := hb0.trans (hbw1.mono hgs)
        clear P1 P2 P3 hb2 hb3 hb4 hb13 d2 d3 c0 c1 c2 c3 c4 c5
        go_wp2_with fail
        all_goals go_wp2
        all_goals go_ret2
        all_goals exact ⟨by rw [HRF.out]; rfl, by first | exact HB | (rw [hg]; exact HB)⟩
    · have hx : ¬ 65536 < t.size := by omega
      have hy : ¬ 65536 < m.size := by omega
      go_enter Tryd.func7, Tryd.ntmps7
      go_wp2_with fail
      generalize w.alloc (.cells #[.int .i64 K, .int .i64 a, .int .i64 b, .int .i64 c, .string t, .string m] 23) = W1 at *
      generalize hg : w.heap.size = g at *
      refine (P1 _).mono ?_
      rintro e w2 ⟨rfl, hb2⟩
      have d2 := bcl hb2 c2
      go_wp2_with fail
      refine (P2 _).mono ?_
      rintro e w3 ⟨rfl, hb3⟩
      have hb13 := btr hb2 hb3
      have d3 := bcl hb13 c3
      go_wp2_with fail
      refine (P3 _).mono ?_
      rintro e wr ⟨rfl, hb4⟩
      have hbw1 := btr hb13 hb4
      have d0 := bcl hbw1 c0
      have d4 := bcl hbw1 c4
      have d5 := bcl hbw1 c5
      have HB := hb0.trans (hbw1.mono hgs)
      clear P1 P2 P3 hb2 hb3 hb4 hb13 d2 d3 c0 c1 c2 c3 c4 c5
      go_wp2_with fail
      have hK : K < 12 := by omega
      have hk12 : (K : Int) < 12 := by omega
      have hwd0 : Below wr.heap.size wr wr.drew := bdr (Below.refl _ wr) 1
      have hza : sa.size ≤ 6 := by rw [HSA.out]; exact numL_len a hia
      have hzb : sb.size ≤ 6 := by rw [HSB.out]; exact numL_len b hib
      have hzc : sc.size ≤ 6 := by rw [HSC.out]; exact numL_len c hic
      have HXt := fun W => digits19 t W (by omega)
      have HXm := fun W => digits19 m W (by omega)
      have N18 := names18 wr.drew
      have hline : mkS (lineL K a b c t.data.toList m.data.toList) = ⟨#[97, 99, 116, 32]⟩ ++ mkS (actNames.getD K []) ++ ⟨#[32]⟩ ++ sa ++ ⟨#[32]⟩ ++ sb ++ ⟨#[32]⟩ ++ sc ++ ⟨#[32, 61]⟩ ++ mkS (hexL t.data.toList) ++ ⟨#[32, 61]⟩ ++ mkS (hexL m.data.toList) := by
        rw [HSA.out, HSB.out, HSC.out]
        apply ByteArray.ext
        simp [mkS, lineL]
      have hsum : (lineL K a b c t.data.toList m.data.toList).length = 4 + (mkS (actNames.getD K [])).size + 1 + sa.size + 1 + sb.size + 1 + sc.size + 2 + (mkS (hexL t.data.toList)).size + 2 + (mkS (hexL m.data.toList)).size := by
        rw [HSA.out, HSB.out, HSC.out]
        simp [mkS_size, lineL]
        omega
      have hz1 : (mkS (actNames.getD K [])).size ≤ 6 := act_len K hK
      have hz3 : (mkS (hexL t.data.toList)).size ≤ 131072 := by rw [mkS_size, hexL_len, dlen]; omega
      have hz4 : (mkS (hexL m.data.toList)).size ≤ 131072 := by rw [mkS_size, hexL_len, dlen]; omega
      have hRF : R = if 65536 < (lineL K a b c t.data.toList m.data.toList).length then ([], 2) else (lineL K a b c t.data.toList m.data.toList, 0) := by
        rw [HR.out, printL, if_neg (by simp [hall]; omega), if_neg (by rw [dlen, dlen]; exact hlen)]
        rfl
      have hact : ∀ W, W = wr.drew.alloc (.cells (strs actNames) 9) → W.cell? ⟨wr.heap.size, K, none⟩ = some (.string (mkS (actNames.getD K []))) := fun W h => by rw [h]; exact act_at wr.drew K hK
      have HACT := Go.Lib.hid hact
      generalize lineL K a b c t.data.toList m.data.toList = LL at *
      generalize mkS (actNames.getD K []) = nm at *
      generalize mkS (hexL t.data.toList) = X at *
      generalize mkS (hexL m.data.toList) = Y at *
      have q1 : ¬ 9223372036854775807 < 4 + nm.size := by omega
      have q2 : ¬ 9223372036854775807 < 4 + nm.size + 1 := by omega
      have q3 : ¬ 9223372036854775807 < 4 + nm.size + 1 + sa.size := by omega
      have q4 : ¬ 9223372036854775807 < 4 + nm.size + 1 + sa.size + 1 := by omega
      have q5 : ¬ 9223372036854775807 < 4 + nm.size + 1 + sa.size + 1 + sb.size := by omega
      have q6 : ¬ 9223372036854775807 < 4 + nm.size + 1 + sa.size + 1 + sb.size + 1 := by omega
      have q7 : ¬ 9223372036854775807 < 4 + nm.size + 1 + sa.size + 1 + sb.size + 1 + sc.size := by omega
      have q8 : ¬ 9223372036854775807 < 4 + nm.size + 1 + sa.size + 1 + sb.size + 1 + sc.size + 2 := by omega
      have q9 : ¬ 9223372036854775807 < 4 + nm.size + 1 + sa.size + 1 + sb.size + 1 + sc.size + 2 + X.size := by omega
      have q10 : ¬ 9223372036854775807 < 4 + nm.size + 1 + sa.size + 1 + sb.size + 1 + sc.size + 2 + X.size + 2 := by omega
      have q11 : ¬ 9223372036854775807 < 4 + nm.size + 1 + sa.size + 1 + sb.size + 1 + sc.size + 2 + X.size + 2 + Y.size := by omega
      have HRF := Go.Lib.hid hRF
      have HLINE := Go.Lib.hid hline
      have HXt2 := Go.Lib.hid HXt
      have HXm2 := Go.Lib.hid HXm
      clear hRF hline HXt HXm hact hia hib hic hall hlen HR
      have i0 : wr.drew.cell? ⟨g, 0, none⟩ = some (.int .i64 K) := d0
      have i4 : wr.drew.cell? ⟨g, 4, none⟩ = some (.string t) := d4
      have i5 : wr.drew.cell? ⟨g, 5, none⟩ = some (.string m) := d5
      refine wp_region_held_drew (S := (fun W => W.cell? ⟨g, 0, none⟩ = some (.int .i64 K) ∧ W.cell? ⟨g, 4, none⟩ = some (.string t) ∧ W.cell? ⟨g, 5, none⟩ = some (.string m))) (by kernel_rfl) ⟨i0, i4, i5⟩ (fun hHeld => ?_)
      refine wpAnyH_take (i := 1) (v := ?_) rfl (by kernel_rfl) (by kernel_rfl) (by kernel_rfl) (fun _ _ _ h => h) (Or.inl ⟨by rfl, ?_⟩) (by assumption) ?_
      rotate_left
      · intro w hSw; (try dsimp only at hSw); (try go_simp); all_goals (with_reducible rfl)
      try simp only [Act.put, List.setIfInBounds_toArray]
      refine wpAnyH_take (i := 2) (v := ?_) rfl (by kernel_rfl) (by kernel_rfl) (by kernel_rfl) (fun _ _ _ h => h) (Or.inl ⟨by rfl, ?_⟩) (by assumption) ?_
      rotate_left
      · intro w hSw; (try dsimp only at hSw); (try go_simp); all_goals (with_reducible rfl)
      try simp only [Act.put]
      refine wpAnyH_take (i := 7) (v := ?_) rfl (by kernel_rfl) (by kernel_rfl) (by kernel_rfl) (fun _ _ _ h => h) (Or.inl ⟨by rfl, ?_⟩) (by assumption) ?_
      rotate_left
      · intro w hSw; (try dsimp only at hSw); (try go_simp); all_goals (with_reducible rfl)
      try simp only [Act.put]
      refine wpAnyH_take (i := 10) (v := ?_) rfl (by kernel_rfl) (by kernel_rfl) (by kernel_rfl) (fun _ _ _ h => h) (Or.inl ⟨by rfl, ?_⟩) (by assumption) ?_
      rotate_left
      · intro w hSw; (try dsimp only at hSw); (try go_simp); all_goals (with_reducible rfl)
      try simp only [Act.put]
      refine wpAnyH_take (i := 13) (v := ?_) rfl (by kernel_rfl) (by kernel_rfl) (by kernel_rfl) (fun _ _ _ h => h) (Or.inl ⟨by rfl, ?_⟩) (by assumption) ?_
      rotate_left
      · intro w hSw; (try dsimp only at hSw); (try go_simp); all_goals (with_reducible rfl)
      try simp only [Act.put]
      refine wpAnyH_take (i := 16) (v := ?_) rfl (by kernel_rfl) (by kernel_rfl) (by kernel_rfl) (fun _ _ _ h => h) (Or.inl ⟨by rfl, ?_⟩) (by assumption) ?_
      rotate_left
      · intro w hSw; (try dsimp only at hSw); (try go_simp); all_goals (with_reducible rfl)
      try simp only [Act.put]
      refine wpAnyH_take (i := 17) (v := ?_) rfl (by kernel_rfl) (by kernel_rfl) (by kernel_rfl) (fun _ _ _ h => h) (Or.inl ⟨by rfl, ?_⟩) (by assumption) ?_
      rotate_left
      · intro w hSw; (try dsimp only at hSw); (try go_simp); all_goals (with_reducible rfl)
      try simp only [Act.put]
      refine wpAnyH_take (i := 21) (v := ?_) rfl (by kernel_rfl) (by kernel_rfl) (by kernel_rfl) (fun _ _ _ h => h) (Or.inl ⟨by rfl, ?_⟩) (by assumption) ?_
      rotate_left
      · intro w hSw; (try dsimp only at hSw); (try go_simp); all_goals (with_reducible rfl)
      try simp only [Act.put]
      refine wpAnyH_take (i := 22) (v := ?_) rfl (by kernel_rfl) (by kernel_rfl) (by kernel_rfl) (fun _ _ _ h => h) (Or.inl ⟨by rfl, ?_⟩) (by assumption) ?_
      rotate_left
      · intro w hSw; (try dsimp only at hSw); (try go_simp); all_goals (with_reducible rfl)
      try simp only [Act.put]
      refine wpAnyH_ready (rs := [0]) (by kernel_rfl) (by simp) ?_
      refine AllReadyH.cons rfl (fun K hK => ?_) AllReadyH.nil
      go_simp
      go_wp2_with (go_at_call 18; refine N18.mono ?_; rintro e w6 ⟨rfl, hw6⟩; have hb6 : Below wr.heap.size wr w6 := (by rw [hw6]; exact hwd0.alloc (Nat.le_refl _) _); have hn6 := HACT.out w6 hw6; clear hw6; have e0 := bcl hb6 d0; have e4 := bcl hb6 d4; have e5 := bcl hb6 d5)
      refine hK.out _ _ (⟨e0, e4, e5⟩) (fun hHeld => ?_)
      clear hK K
      refine wpAnyH_mono (S' := (fun W => W.cell? ⟨wr.heap.size, K, none⟩ = some (.string nm) ∧ W.cell? ⟨g, 0, none⟩ = some (.int .i64 K) ∧ W.cell? ⟨g, 4, none⟩ = some (.string t) ∧ W.cell? ⟨g, 5, none⟩ = some (.string m))) (fun W h => h.2) ?_
      have hHeld1 : (fun W => W.cell? ⟨wr.heap.size, K, none⟩ = some (.string nm) ∧ W.cell? ⟨g, 0, none⟩ = some (.int .i64 K) ∧ W.cell? ⟨g, 4, none⟩ = some (.string t) ∧ W.cell? ⟨g, 5, none⟩ = some (.string m)) w6 := ⟨hn6, e0, e4, e5⟩
      clear hHeld
      refine wpAnyH_take (i := 3) (v := ?_) rfl (by kernel_rfl) (by kernel_rfl) (by kernel_rfl) (fun _ _ _ h => h) (Or.inl ⟨by rfl, ?_⟩) (by assumption) ?_
      rotate_left
      · intro w hSw; (try dsimp only at hSw); (try go_simp); all_goals (with_reducible rfl)
      try simp only [Act.put, List.setIfInBounds_toArray]
      refine wpAnyH_take (i := 4) (v := ?_) rfl (by kernel_rfl) (by kernel_rfl) (by kernel_rfl) (fun _ _ _ h => h) (Or.inl ⟨by rfl, ?_⟩) (by assumption) ?_
      rotate_left
      · intro w hSw; (try dsimp only at hSw); (try go_simp); all_goals (with_reducible rfl)
      try simp only [Act.put]
      refine wpAnyH_take (i := 5) (v := ?_) rfl (by kernel_rfl) (by kernel_rfl) (by kernel_rfl) (fun _ _ _ h => h) (Or.inl ⟨by rfl, ?_⟩) (by assumption) ?_
      rotate_left
      · intro w hSw; (try dsimp only at hSw); (try go_simp); all_goals (with_reducible rfl)
      try simp only [Act.put]
      refine wpAnyH_take (i := 6) (v := ?_) rfl (by kernel_rfl) (by kernel_rfl) (by kernel_rfl) (fun _ _ _ h => h) (Or.inl ⟨by rfl, ?_⟩) (by assumption) ?_
      rotate_left
      · intro w hSw; (try dsimp only at hSw); (try go_simp); all_goals (with_reducible rfl)
      try simp only [Act.put]
      refine wpAnyH_take (i := 8) (v := ?_) rfl (by kernel_rfl) (by kernel_rfl) (by kernel_rfl) (fun _ _ _ h => h) (Or.inl ⟨by rfl, ?_⟩) (by assumption) ?_
      rotate_left
      · intro w hSw; (try dsimp only at hSw); (try go_simp); all_goals (with_reducible rfl)
      try simp only [Act.put]
      refine wpAnyH_take (i := 9) (v := ?_) rfl (by kernel_rfl) (by kernel_rfl) (by kernel_rfl) (fun _ _ _ h => h) (Or.inl ⟨by rfl, ?_⟩) (by assumption) ?_
      rotate_left
      · intro w hSw; (try dsimp only at hSw); (try go_simp); all_goals (with_reducible rfl)
      try simp only [Act.put]
      refine wpAnyH_take (i := 11) (v := ?_) rfl (by kernel_rfl) (by kernel_rfl) (by kernel_rfl) (fun _ _ _ h => h) (Or.inl ⟨by rfl, ?_⟩) (by assumption) ?_
      rotate_left
      · intro w hSw; (try dsimp only at hSw); (try go_simp); all_goals (with_reducible rfl)
      try simp only [Act.put]
      refine wpAnyH_take (i := 12) (v := ?_) rfl (by kernel_rfl) (by kernel_rfl) (by kernel_rfl) (fun _ _ _ h => h) (Or.inl ⟨by rfl, ?_⟩) (by assumption) ?_
      rotate_left
      · intro w hSw; (try dsimp only at hSw); (try go_simp); all_goals (with_reducible rfl)
      try simp only [Act.put]
      refine wpAnyH_take (i := 14) (v := ?_) rfl (by kernel_rfl) (by kernel_rfl) (by kernel_rfl) (fun _ _ _ h => h) (Or.inl ⟨by rfl, ?_⟩) (by assumption) ?_
      rotate_left
      · intro w hSw; (try dsimp only at hSw); (try go_simp); all_goals (with_reducible rfl)
      try simp only [Act.put]
      refine wpAnyH_take (i := 15) (v := ?_) rfl (by kernel_rfl) (by kernel_rfl) (by kernel_rfl) (fun _ _ _ h => h) (Or.inl ⟨by rfl, ?_⟩) (by assumption) ?_
      rotate_left
      · intro w hSw; (try dsimp only at hSw); (try go_simp); all_goals (with_reducible rfl)
      try simp only [Act.put]
      refine wpAnyH_ready (rs := [18]) (by kernel_rfl) (by simp) ?_
      refine AllReadyH.cons rfl (fun K hK => ?_) AllReadyH.nil
      go_simp
      go_wp2_with (go_at_call 19; refine (HXt2.out w6).mono ?_; rintro e w7 ⟨rfl, hb7⟩; have hb67 := btr hb6 hb7; have hn7 := bcl hb7 hn6; have f0 := bcl hb67 d0; have f4 := bcl hb67 d4; have f5 := bcl hb67 d5)
      refine hK.out _ _ (⟨hn7, f0, f4, f5⟩) (fun hHeld => ?_)
      clear hK K
      refine wpAnyH_take (i := 19) (v := ?_) rfl (by kernel_rfl) (by kernel_rfl) (by kernel_rfl) (fun _ _ _ h => h) (Or.inl ⟨by rfl, ?_⟩) (by assumption) ?_
      rotate_left
      · intro w hSw; (try dsimp only at hSw); (try go_simp); all_goals (with_reducible rfl)
      try simp only [Act.put, List.setIfInBounds_toArray]
      refine wpAnyH_take (i := 20) (v := ?_) rfl (by kernel_rfl) (by kernel_rfl) (by kernel_rfl) (fun _ _ _ h => h) (Or.inl ⟨by rfl, ?_⟩) (by assumption) ?_
      rotate_left
      · intro w hSw; (try dsimp only at hSw); (try go_simp); all_goals (with_reducible rfl)
      try simp only [Act.put]
      refine wpAnyH_ready (rs := [23]) (by kernel_rfl) (by simp) ?_
      refine AllReadyH.cons rfl (fun K hK => ?_) AllReadyH.nil
      go_simp
      go_wp2_with (go_at_call 19; refine (HXm2.out w7).mono ?_; rintro e w8 ⟨rfl, hb8⟩; have hb78 := btr hb67 hb8; have hn8 := bcl hb8 hn7; have g0 := bcl hb78 d0; have g4 := bcl hb78 d4; have g5 := bcl hb78 d5)
      refine hK.out _ _ (⟨hn8, g0, g4, g5⟩) (fun hHeld => ?_)
      clear hK K
      refine wpAnyH_take (i := 24) (v := ?_) rfl (by kernel_rfl) (by kernel_rfl) (by kernel_rfl) (fun _ _ _ h => h) (Or.inl ⟨by rfl, ?_⟩) (by assumption) ?_
      rotate_left
      · intro w hSw; (try dsimp only at hSw); (try go_simp); all_goals (with_reducible rfl)
      try simp only [Act.put, List.setIfInBounds_toArray]
      refine wpAnyH_take (i := 25) (v := ?_) rfl (by kernel_rfl) (by kernel_rfl) (by kernel_rfl) (fun _ _ _ h => h) (Or.inl ⟨by rfl, ?_⟩) (by assumption) ?_
      rotate_left
      · intro w hSw; (try dsimp only at hSw); (try go_simp); all_goals (with_reducible rfl)
      try simp only [Act.put]
      refine wpAnyH_done (by kernel_rfl) ?_ _
      have HB9 : Below g w w8 := hb0.trans ((btr hbw1 hb78).mono hgs)
      by_cases hbig : 65536 < LL.length
      · have hRF2 : R = ([], 2) := by rw [HRF.out, if_pos hbig]
        have HR2 := Go.Lib.hid hRF2
        clear hRF2
        rw [hsum] at hbig
        go_wp2
        go_ret2
        exact ⟨by rw [HR2.out]; rfl, by first | exact HB9 | (rw [hg]; exact HB9)⟩
      · have hRF2 : R = (LL, 0) := by rw [HRF.out, if_neg hbig]
        have HR2 := Go.Lib.hid hRF2
        clear hRF2
        rw [hsum] at hbig
        go_wp2
        go_ret2
        exact ⟨by rw [HR2.out, HLINE.out]; rfl, by first | exact HB9 | (rw [hg]; exact HB9)⟩
end Go.Proofs.YtghhidaihajdmaaDoor
/- Lemmas on strings as the walk spells them: comparisons, beginnings. -/
namespace Go.Proofs.YtghhidaihajdmaaDoor
open Go.RowKit

theorem tl (s : ByteArray) : s.toList = s.data.toList := ByteArray.toList_eq s
theorem tl_mkS (l : List UInt8) : (mkS l).toList = l := by rw [tl]; rfl
theorem extract_tl (s : ByteArray) (a b : Nat) : (s.extract a b).toList = (s.data.toList.drop a).take (b - a) := by
  rw [tl]
  simp [ByteArray.data_extract]
theorem take_beq (id p : List UInt8) (_h : p.length ≤ id.length) : (id.take p.length == p) = p.isPrefixOf id := by
  rw [Bool.eq_iff_iff, beq_iff_eq, List.isPrefixOf_iff_prefix, List.prefix_iff_eq_take]
  exact eq_comm
/-- The walk's 's[:n] == p'. -/
theorem cut_beq (s : ByteArray) (p : List UInt8) (n : Nat) (hn : n = p.length) (h : n ≤ s.size) : ((s.extract 0 n).toList == p) = p.isPrefixOf s.data.toList := by
  subst hn
  rw [extract_tl, List.drop_zero, Nat.sub_zero, take_beq _ _ (by rw [dlen]; exact h)]
theorem prefix_len {p l : List UInt8} (h : p.isPrefixOf l = true) : p.length ≤ l.length := (List.isPrefixOf_iff_prefix.1 h).length_le
theorem not_prefix {p l : List UInt8} (h : ¬ p.length ≤ l.length) : p.isPrefixOf l = false := by
  cases e : p.isPrefixOf l with
  | false => rfl
  | true => exact absurd (prefix_len e) h
end Go.Proofs.YtghhidaihajdmaaDoor
/- The law of acts as lines, walked. -/
namespace Go.Proofs.YtghhidaihajdmaaDoor
open Go.RowKit
theorem print_awake : printL 0 1 0 (-1) [] [] = ([97, 99, 116, 32, 97, 112, 112, 101, 110, 100, 32, 49, 32, 48, 32, 45, 32, 61, 32, 61], 0) := by
  simp [printL, lineL, allP, inP, numL, Lib.itoa, Lib.decDigits, hexL, actNames]
theorem awake8 (w : World) (hT : Tabs w) : Calls Tryd.prog 8 #[] w fun e w' => e = .returned (.bool true) ∧ Below w.heap.size w w' := by
  have P := fun (W : World) (h : Tabs W) => print6 0 1 0 (-1) ⟨#[]⟩ ⟨#[]⟩ W h (by decide) (by decide) (by decide) (by decide) (by decide) (by decide) (by decide) (by decide)
  rw [show (⟨#[]⟩ : ByteArray).data.toList = [] from rfl, print_awake] at P
  have htl := tl_mkS [97, 99, 116, 32, 97, 112, 112, 101, 110, 100, 32, 49, 32, 48, 32, 45, 32, 61, 32, 61]
  go_enter Tryd.func8, Tryd.ntmps8
  go_wp2_with fail
  refine (P w hT).mono ?_
  rintro e w1 ⟨rfl, hb1⟩
  go_wp2
  go_ret
  exact ⟨rfl, hb1⟩
theorem scriptPrints3 (k a b c : Int) (t m : ByteArray) (w : World) (hT : Tabs w) (hk0 : -9223372036854775808 ≤ k) (hk1 : k ≤ 9223372036854775807) (ha0 : -9223372036854775808 ≤ a) (ha1 : a ≤ 9223372036854775807) (hq0 : -9223372036854775808 ≤ b) (hq1 : b ≤ 9223372036854775807) (hc0 : -9223372036854775808 ≤ c) (hc1 : c ≤ 9223372036854775807) : Calls Tryd.prog 3 #[.agg #[.int .i64 k, .int .i64 a, .int .i64 b, .int .i64 c, .string t, .string m]] w fun e w' => e = .returned (.bool true) ∧ Below w.heap.size w w' := by
  have P := fun (W : World) (h : Tabs W) => print6 k a b c t m W h hk0 hk1 ha0 ha1 hq0 hq1 hc0 hc1
  have P' := fun (W : World) => print7 k a b c t m W hk0 hk1 ha0 ha1 hq0 hq1 hc0 hc1
  generalize (printL k a b c t.data.toList m.data.toList).1 = s at *
  generalize (printL k a b c t.data.toList m.data.toList).2 = n at *
  have hb0 : Below w.heap.size w (w.alloc (.cells #[.int .i64 k, .int .i64 a, .int .i64 b, .int .i64 c, .string t, .string m] 23)) := (Below.refl _ w).alloc (Nat.le_refl _) _
  have hT1 := hT.below hb0
  have hcs := blk_cells (at_new w (.cells #[.int .i64 k, .int .i64 a, .int .i64 b, .int .i64 c, .string t, .string m] 23) _ rfl)
  have c0 : (w.alloc (.cells #[.int .i64 k, .int .i64 a, .int .i64 b, .int .i64 c, .string t, .string m] 23)).cell? ⟨w.heap.size, 0, none⟩ = some (.int .i64 k) := hcs 0
  have c1 : (w.alloc (.cells #[.int .i64 k, .int .i64 a, .int .i64 b, .int .i64 c, .string t, .string m] 23)).cell? ⟨w.heap.size, 1, none⟩ = some (.int .i64 a) := hcs 1
  have c2 : (w.alloc (.cells #[.int .i64 k, .int .i64 a, .int .i64 b, .int .i64 c, .string t, .string m] 23)).cell? ⟨w.heap.size, 2, none⟩ = some (.int .i64 b) := hcs 2
  have c3 : (w.alloc (.cells #[.int .i64 k, .int .i64 a, .int .i64 b, .int .i64 c, .string t, .string m] 23)).cell? ⟨w.heap.size, 3, none⟩ = some (.int .i64 c) := hcs 3
  have c4 : (w.alloc (.cells #[.int .i64 k, .int .i64 a, .int .i64 b, .int .i64 c, .string t, .string m] 23)).cell? ⟨w.heap.size, 4, none⟩ = some (.string t) := hcs 4
  have c5 : (w.alloc (.cells #[.int .i64 k, .int .i64 a, .int .i64 b, .int .i64 c, .string t, .string m] 23)).cell? ⟨w.heap.size, 5, none⟩ = some (.string m) := hcs 5
  clear hcs
  have hgs := hb0.size
  go_enter Tryd.func3, Tryd.ntmps3
  go_wp2_with fail
  generalize (w.alloc (.cells #[.int .i64 k, .int .i64 a, .int .i64 b, .int .i64 c, .string t, .string m] 23)) = W1 at *
  generalize hg : w.heap.size = g at *
  refine (P W1 hT1).mono ?_
  rintro e w1 ⟨rfl, hb1⟩
  have d0 := bcl hb1 c0
  have d1 := bcl hb1 c1
  have d2 := bcl hb1 c2
  have d3 := bcl hb1 c3
  have d4 := bcl hb1 c4
  have d5 := bcl hb1 c5
  go_wp2_with fail
  refine (P' w1).mono ?_
  rintro e w2 ⟨rfl, hb2⟩
  have hb12 := btr hb1 hb2
  go_wp2_with fail
  refine (awake8 w2 (hT1.below hb12)).mono ?_
  rintro e w3 ⟨rfl, hb3⟩
  go_wp2
  go_ret
  exact ⟨rfl, by first | exact hb0.trans ((btr hb12 hb3).mono hgs) | (rw [hg]; exact hb0.trans ((btr hb12 hb3).mono hgs))⟩
end Go.Proofs.YtghhidaihajdmaaDoor
/- The printed texts, read again. -/
namespace Go.Proofs.YtghhidaihajdmaaDoor
open Go.RowKit
/-- The digit at place p. -/
def nib (b : UInt8) (p : Nat) : Nat := if p % 2 = 0 then b.toNat / 16 else b.toNat % 16
theorem nib_lt (b : UInt8) (p : Nat) : nib b p < 16 := by
  have := b.toNat_lt
  unfold nib
  split <;> omega
theorem hexL_at (l : List UInt8) : ∀ (p : Nat) (h : p / 2 < l.length), (hexL l)[p]? = some (digs.getD (nib l[p / 2] p) 0) := by
  induction l with
  | nil => intro p h; simp at h
  | cons b t ih =>
    intro p h
    rw [show hexL (b :: t) = digs.getD (b.toNat / 16) 0 :: digs.getD (b.toNat % 16) 0 :: hexL t from rfl]
    rcases p with _ | _ | p
    · rfl
    · rfl
    · have h2 : p / 2 < t.length := by simp at h; omega
      have e : (p + 2) / 2 = p / 2 + 1 := by omega
      rw [List.getElem?_cons_succ, List.getElem?_cons_succ, ih p h2]
      simp only [e, List.getElem_cons_succ]
      unfold nib
      rw [show (p + 1 + 1) % 2 = p % 2 by omega]
theorem dig_ascii (k : Nat) (h : k < 16) : (digs.getD k 0).toNat < 128 ∧ Lib.indexByte digs (digs.getD k 0) = (k : Int) := by
  rcases (show k = 0 ∨ k = 1 ∨ k = 2 ∨ k = 3 ∨ k = 4 ∨ k = 5 ∨ k = 6 ∨ k = 7 ∨ k = 8 ∨ k = 9 ∨ k = 10 ∨ k = 11 ∨ k = 12 ∨ k = 13 ∨ k = 14 ∨ k = 15 by omega) with rfl | rfl | rfl | rfl | rfl | rfl | rfl | rfl | rfl | rfl | rfl | rfl | rfl | rfl | rfl | rfl <;> decide
theorem join_fin : ∀ b : Fin 256, bits BinOp.or IntKind.i64 (wrap64 (((b.val : Nat) : Int) / 16 * 16)) ((b.val % 16 : Nat) : Int) % 256 = ((b.val : Nat) : Int) := by decide +kernel
theorem join_nib (n : Nat) (h : n < 256) : bits BinOp.or IntKind.i64 (wrap64 ((n : Int) / 16 * 16)) ((n % 16 : Nat) : Int) % 256 = (n : Int) := join_fin ⟨n, h⟩
theorem own_iterAt {w : World} {base e size n k pos : Nat} {v : Value} {xs : List Value} {s : ByteArray} (h : w.ownsRow base e size v n xs) (hk : k < base) : (w.iterAt k s pos).ownsRow base e size v n xs := by
  refine ⟨h.1, ?_⟩
  rcases h.2 with h' | ⟨g, cap, cur, hv, hb, hh, r⟩
  · exact .inl h'
  · exact .inr ⟨g, cap, cur, hv, hb, by simp only [World.iterAt]; rw [Array.getElem?_setIfInBounds_ne (by omega)]; exact hh, r⟩
/-- The half byte that is held at place p. -/
def halfAt (l : List UInt8) (p : Nat) : Int := if p % 2 = 0 then -1 else ((l.getD (p / 2) 0).toNat / 16 : Nat)
set_option maxRecDepth 100000 in
theorem text35 (t : ByteArray) (w : World) (hs : t.size ≤ 65536) : Calls Tryd.prog 35 #[.string (mkS (61 :: hexL t.data.toList))] w fun e w' => e = .returned (.tuple #[.string t, .bool true]) ∧ Below w.heap.size w w' := by
  have C := Tryd.strings_CutPrefix (mkS (61 :: hexL t.data.toList)) ⟨#[61]⟩ w
  rw [mkS_data, show (⟨#[61]⟩ : ByteArray).data.toList = [61] from rfl, show Lib.trimPrefix (61 :: hexL t.data.toList) [61] = hexL t.data.toList by simp [Lib.trimPrefix, Lib.hasPrefix], show Lib.hasPrefix (61 :: hexL t.data.toList) [61] = true by simp [Lib.hasPrefix]] at C
  obtain ⟨s, hS⟩ : ∃ s : ByteArray, s = ⟨(hexL t.data.toList).toArray⟩ := ⟨_, rfl⟩
  rw [← hS] at C
  have HS := Go.Lib.hid hS
  clear hS
  go_enter Tryd.func35, Tryd.ntmps35
  go_wp2_with fail
  refine C.mono ?_
  rintro e w1 ⟨rfl, rfl⟩
  go_wp2_with fail
  have hS := HS.out
  have hsz : s.size = 2 * t.size := by rw [hS]; show (hexL t.data.toList).length = _; rw [hexL_len, dlen]
  have hat : ∀ p (h : p < s.size) (hi : p / 2 < t.size), s[p] = digs.getD (nib t[p / 2] p) 0 := fun p h hi => by
    have h1 := hexL_at t.data.toList p (by rw [dlen]; exact hi)
    subst hS
    have h2 : (hexL t.data.toList)[p]? = some ((hexL t.data.toList)[p]'h) := List.getElem?_eq_getElem h
    rw [h1] at h2
    have h3 := Option.some.inj h2
    rw [show (t.data.toList[p / 2]'(by rw [dlen]; exact hi)) = t[p / 2] by rw [Array.getElem_toList]; rfl] at h3
    rw [h3]
    rfl
  have HAT := Go.Lib.hid hat
  clear hat hS C HS
  go_loopw [6, 7, 9, 10] (fun v6 v7 _ _ wr => ∃ p : Nat, wr.heap[w1.heap.size]? = some (.stringIter s p) ∧ p ≤ 2 * t.size ∧ v7 = .int .i64 (halfAt t.data.toList p) ∧ wr.ownsRow (w1.heap.size + 1) 5 1 v6 (p / 2) (u8s (t.data.toList.take (p / 2))) ∧ Below w1.heap.size w1 wr) (fun _ _ _ _ wr => s.size - wr.iterPos w1.heap.size)
  case atStart => exact ⟨0, World.iter_heap w1 s 0, by omega, rfl, own_nil _ _ 5 1, (Below.refl _ w1).alloc (Nat.le_refl _) _⟩
  case round =>
    obtain ⟨p, hit, hp, rfl, hown, hbw⟩ := hrel
    by_cases hlt : p < s.size
    · have hi : p / 2 < t.size := by omega
      have hb := HAT.out p hlt hi
      have hk := nib_lt t[p / 2] p
      obtain ⟨ha, hix⟩ := dig_ascii _ hk
      have hnx : ∀ ty, (Instr.next (.pointer (some ⟨w1.heap.size, 0, none⟩)) true ty).run Tryd.prog wr = _ := fun ty => Lib.run_next_ascii_at wr w1.heap.size s p ty hit hlt (by rw [hb]; exact ha)
      simp only [hb] at hnx
      have I46 : ∀ W, Calls Tryd.prog 46 #[.string ⟨#[48, 49, 50, 51, 52, 53, 54, 55, 56, 57, 97, 98, 99, 100, 101, 102]⟩, .int .u8 (digs.getD (nib t[p / 2] p) 0).toNat] W fun e w' => e = .returned (.int .i64 (nib t[p / 2] p)) ∧ w' = W := fun W => by
        have h := Tryd.strings_IndexByte ⟨#[48, 49, 50, 51, 52, 53, 54, 55, 56, 57, 97, 98, 99, 100, 101, 102]⟩ (digs.getD (nib t[p / 2] p) 0).toNat W
        rw [show ((((digs.getD (nib t[p / 2] p) 0).toNat : Nat) : Int).toNat.toUInt8) = digs.getD (nib t[p / 2] p) 0 by simp, show (⟨#[48, 49, 50, 51, 52, 53, 54, 55, 56, 57, 97, 98, 99, 100, 101, 102]⟩ : ByteArray).data.toList = digs from rfl, hix] at h
        exact h
      obtain ⟨q, hq⟩ : ∃ q, q = nib t[p / 2] p := ⟨_, rfl⟩
      rw [← hq] at I46 hk
      simp only [← hq] at hnx ha
      have HQ := Go.Lib.hid hq
      clear hq hix hb
      generalize digs.getD q 0 = x at *
      go_wp2_with fail
      refine (I46 _).mono ?_
      rintro e w2 ⟨rfl, rfl⟩
      clear I46
      have hit2 := Lib.iterAt_heap wr w1.heap.size s p (p + 1) hit
      have hbw2 := Lib.below_iterAt hbw (k := w1.heap.size) (Nat.le_refl _) s (p + 1)
      have hown2 : (wr.iterAt w1.heap.size s (p + 1)).ownsRow (w1.heap.size + 1) 5 1 u6 (p / 2) (u8s (t.data.toList.take (p / 2))) := own_iterAt hown (Nat.lt_succ_self _)
      have hgd : t.data.toList.getD (p / 2) 0 = t[p / 2] := by
        rw [List.getD_eq_getElem?_getD, List.getElem?_eq_getElem (by rw [dlen]; exact hi), Option.getD_some, Array.getElem_toList]
        rfl
      by_cases hpar : p % 2 = 0
      · have hh : halfAt t.data.toList p = -1 := by rw [halfAt, if_pos hpar]
        rw [hh]
        go_wp2
        refine ⟨⟨p + 1, hit2, by omega, ?_, ?_, hbw2⟩, ?_⟩
        · rw [halfAt, if_neg (by omega), HQ.out, nib, if_pos hpar, show (p + 1) / 2 = p / 2 by omega]
          rw [hgd]
        · rw [show (p + 1) / 2 = p / 2 by omega]
          exact hown2
        · simp only [World.iterPos, hit2, hit]
          omega
      · have hh : halfAt t.data.toList p = ((t[p / 2].toNat / 16 : Nat) : Int) := by rw [halfAt, if_neg hpar, hgd]
        rw [hh]
        have hj : bits BinOp.or IntKind.i64 (wrap64 ((t[p / 2].toNat : Int) / 16 * 16)) (q : Int) % 256 = (t[p / 2].toNat : Int) := by
          rw [HQ.out, nib, if_neg hpar]
          exact join_nib _ t[p / 2].toNat_lt
        have HJ := Go.Lib.hid hj
        clear hj
        have hone : ∀ y : Int, ∀ u ∈ (#[Value.int .u8 y] : Array Value).toList, u.oneCell' = true := by
          intro y u hu
          rcases (show u = _ by simpa using hu) with rfl
          rfl
        have hs1 : w1.heap.size + 1 ≤ (wr.iterAt w1.heap.size s (p + 1)).heap.size := by
          rw [Lib.iterAt_size]
          exact (Array.getElem?_eq_some_iff.1 hit).1
        have hbw3 : Below (w1.heap.size + 1) (wr.iterAt w1.heap.size s (p + 1)) (wr.iterAt w1.heap.size s (p + 1)) := Below.refl _ _
        go_wp2_with (at_builtin; refine step_append rfl (w1.heap.size + 1) (.tmp 24) (.tmp 30) 37 5 (.int .u8 0) 1 1 rfl Tryd.underlying37 Tryd.info5 rfl (by decide) (by decide) u6 (p / 2) _ _ #[_] rfl rfl rfl rfl (hone _) hown2 hbw3 hs1 (by omega) ?_; intro v1 w5 hown5 hb5)
        have hit5 : w5.heap[w1.heap.size]? = some (.stringIter s (p + 1)) := (hb5.block _ (Nat.lt_succ_self _)).trans hit2
        have hp2 : (p + 1) / 2 = p / 2 + 1 := by omega
        refine ⟨⟨p + 1, hit5, by omega, ?_, ?_, hbw2.trans (hb5.mono (Nat.le_succ _))⟩, ?_⟩
        · rw [halfAt, if_pos (by omega)]
        · rw [hp2, List.take_succ_eq_append_getElem (by rw [dlen]; exact hi)]
          rw [HJ.out] at hown5
          rw [show (t.data.toList[p / 2]'(by rw [dlen]; exact hi)) = t[p / 2] by rw [Array.getElem_toList]; rfl]
          simpa [u8s] using hown5
        · simp only [World.iterPos, hit5, hit]
          omega
    · obtain rfl : p = 2 * t.size := by omega
      have hh : halfAt t.data.toList (2 * t.size) = -1 := by rw [halfAt, if_pos (by omega)]
      rw [show 2 * t.size / 2 = t.size by omega, List.take_of_length_le (by rw [dlen]; exact Nat.le_refl _)] at hown
      rw [hh]
      obtain ⟨oa, cp, rfl⟩ := own_slice hown
      have hcv := own_conv hown
      rw [mkS_self] at hcv
      have hnx : ∀ ty, (Instr.next (.pointer (some ⟨w1.heap.size, 0, none⟩)) true ty).run Tryd.prog wr = _ := fun ty => Lib.run_next_end_at wr w1.heap.size s (2 * t.size) ty hit hlt
      clear hown
      go_wp2
      go_ret2
      exact ⟨rfl, hbw⟩
end Go.Proofs.YtghhidaihajdmaaDoor
/- The printed numbers, read again. -/
namespace Go.Proofs.YtghhidaihajdmaaDoor
open Go.RowKit
theorem digit_of (d : Nat) (h : d < 10) : Lib.digitVal (UInt8.ofNat (48 + d)) = some d := by
  have e : (UInt8.ofNat (48 + d)).toNat = 48 + d := by rw [UInt8.toNat_ofNat']; omega
  unfold Lib.digitVal
  rw [e, if_pos (by omega)]
  simp
theorem decFrom_snoc (l : List UInt8) (b : UInt8) (d : Nat) (hb : Lib.digitVal b = some d) : ∀ acc n, Lib.decFrom acc l = some n → Lib.decFrom acc (l ++ [b]) = some (n * 10 + d) := by
  induction l with
  | nil => intro acc n h; simp only [Lib.decFrom, Option.some.injEq] at h; subst h; simp [Lib.decFrom, hb]
  | cons a t ih =>
    intro acc n h
    rw [List.cons_append]
    simp only [Lib.decFrom] at h ⊢
    cases ha : Lib.digitVal a with
    | none => simp [ha] at h
    | some e => simp only [ha] at h ⊢; exact ih _ n h
theorem decFrom_digits (n : Nat) : Lib.decFrom 0 (Lib.decDigits n) = some n := by
  induction n using Nat.strongRecOn with
  | ind n ih =>
    rw [dec_step]
    by_cases h : n < 10
    · rw [if_pos h]
      simp only [Lib.decFrom, digit_of (n % 10) (by omega)]
      congr 1
      omega
    · rw [if_neg h, decFrom_snoc _ _ _ (digit_of (n % 10) (by omega)) 0 (n / 10) (ih (n / 10) (by omega))]
      congr 1
      omega
theorem dec_head (n : Nat) : ∃ d r, d < 10 ∧ Lib.decDigits n = UInt8.ofNat (48 + d) :: r := by
  induction n using Nat.strongRecOn with
  | ind n ih =>
    rw [dec_step]
    by_cases h : n < 10
    · exact ⟨n % 10, [], by omega, by rw [if_pos h]⟩
    · obtain ⟨d, r, hd, hr⟩ := ih (n / 10) (by omega)
      exact ⟨d, r ++ [UInt8.ofNat (48 + n % 10)], hd, by rw [if_neg h, hr]; rfl⟩
theorem atoi_digits (n : Nat) : Lib.atoi (Lib.decDigits n) = some (n : Int) := by
  obtain ⟨d, r, hd, hr⟩ := dec_head n
  have h := decFrom_digits n
  have hb : (UInt8.ofNat (48 + d)).toNat = 48 + d := by rw [UInt8.toNat_ofNat']; omega
  have h1 : (UInt8.ofNat (48 + d) == 45) = false := by rw [beq_eq_false_iff_ne]; intro e; rw [e] at hb; simp at hb; omega
  have h2 : (UInt8.ofNat (48 + d) == 43) = false := by rw [beq_eq_false_iff_ne]; intro e; rw [e] at hb; simp at hb; omega
  rw [hr] at h ⊢
  clear hr hb
  generalize UInt8.ofNat (48 + d) = c at *
  simp only [Lib.atoi, h1, h2, Lib.decNat]
  simp [h]
set_option maxRecDepth 100000 in
theorem number36 (n : Nat) (w : World) (hn : n ≤ 99999) (hT : Tabs w) : Calls Tryd.prog 36 #[.string (mkS (Lib.decDigits n))] w fun e w' => e = .returned (.tuple #[.int .i64 n, .bool true]) ∧ Below w.heap.size w w' := by
  have hl := dec_len 4 n (by omega)
  have A := Tryd.strconv_Atoi (mkS (Lib.decDigits n)) n (by rw [mkS_size]; omega) (by rw [mkS_data]; exact atoi_digits n) w
  have I := fun (W : World) (h : Tabs W) => itoa14 n (by omega) (by omega) W h
  rw [show Lib.itoa (n : Int) = Lib.decDigits n by rw [Lib.itoa, if_neg (by omega)]; rfl] at I
  have hz : (mkS (Lib.decDigits n)).size ≤ 5 := hl
  generalize mkS (Lib.decDigits n) = s at *
  clear hl
  go_enter Tryd.func36, Tryd.ntmps36
  go_wp2_with fail
  refine A.mono ?_
  rintro e w1 ⟨rfl, t, rfl⟩
  have hb1 := conv_below w 5 t
  go_wp2_with fail
  refine (I _ (hT.below hb1)).mono ?_
  rintro e w2 ⟨rfl, hb2⟩
  go_wp2
  go_ret2
  exact ⟨rfl, btr hb1 hb2⟩
end Go.Proofs.YtghhidaihajdmaaDoor
/- The printed places, read again. -/
namespace Go.Proofs.YtghhidaihajdmaaDoor
open Go.RowKit
theorem place44 (n : Int) (w : World) (h : inP n = true) (hT : Tabs w) : Calls Tryd.prog 44 #[.string (mkS (numL n))] w fun e w' => e = .returned (.tuple #[.int .i64 n, .bool true]) ∧ Below w.heap.size w w' := by
  simp [inP] at h
  by_cases hm : n = -1
  · subst hm
    rw [show mkS (numL (-1)) = ⟨#[45]⟩ from rfl]
    go_enter Tryd.func44, Tryd.ntmps44
    go_wp2
    go_ret2
    exact ⟨rfl, Below.refl _ w⟩
  · obtain ⟨k, rfl⟩ : ∃ k : Nat, n = k := ⟨n.toNat, by omega⟩
    have N := number36 k w (by omega) hT
    rw [show numL (k : Int) = Lib.decDigits k by rw [numL, if_neg hm, Lib.itoa, if_neg (by omega)]; rfl]
    obtain ⟨d, r, hd, hr⟩ := dec_head k
    have hne : (mkS (Lib.decDigits k)).toList ≠ [45] := by
      rw [tl_mkS, hr]
      intro e
      have e1 := (List.cons.inj e).1
      have hb : (UInt8.ofNat (48 + d)).toNat = 48 + d := by rw [UInt8.toNat_ofNat']; omega
      rw [e1] at hb
      simp at hb
      omega
    clear hr
    generalize mkS (Lib.decDigits k) = s at *
    go_enter Tryd.func44, Tryd.ntmps44
    have hq : (s.toList == [45]) = false := by rw [beq_eq_false_iff_ne]; exact hne
    go_wp2_with fail
    refine N.mono ?_
    rintro e w1 ⟨rfl, hb⟩
    go_wp2
    go_ret2
    exact ⟨rfl, hb⟩
end Go.Proofs.YtghhidaihajdmaaDoor
/- Any number, read. -/
namespace Go.Proofs.YtghhidaihajdmaaDoor
open Go.RowKit
/-- What the readers ask of the variables. -/
structure Env (w : World) : Prop where
  tabs : Tabs w
  mx : ∃ m : Int, w.cell? ⟨3, 0, none⟩ = some (.int .i64 m)
  syn : ∃ ev, w.cell? ⟨4, 0, none⟩ = some ev ∧ (ev = .nilIface ∨ ∃ te pe, ev = .iface te pe)
  rng : ∃ ev, w.cell? ⟨5, 0, none⟩ = some ev ∧ (ev = .nilIface ∨ ∃ te pe, ev = .iface te pe)
theorem Env.below {w w' : World} (h : Env w) (hb : Below w.heap.size w w') : Env w' := by
  obtain ⟨ht, ⟨m, hm⟩, ⟨s, hs, hs'⟩, r, hr, hr'⟩ := h
  exact ⟨ht.below hb, ⟨m, bcl hb hm⟩, ⟨s, bcl hb hs, hs'⟩, r, bcl hb hr, hr'⟩
/-- Is it the number of so many, of at most five digits? -/
def NumOk (l : List UInt8) (n : Int) (b : Bool) : Prop := (∃ k : Nat, k ≤ 99999 ∧ l = Lib.decDigits k ∧ n = k ∧ b = true) ∨ ((∀ k : Nat, k ≤ 99999 → l ≠ Lib.decDigits k) ∧ b = false)
theorem dec_lt (n : Nat) : n < 10 ^ (Lib.decDigits n).length := by
  induction n using Nat.strongRecOn with
  | ind n ih =>
    rw [dec_step]
    by_cases h : n < 10
    · rw [if_pos h]; simpa using h
    · rw [if_neg h, List.length_append, List.length_singleton, Nat.pow_succ]
      have := ih (n / 10) (by omega)
      omega
theorem dec_small {n : Nat} (h : (Lib.decDigits n).length ≤ 5) : n ≤ 99999 := by
  have h1 := dec_lt n
  have h2 : 10 ^ (Lib.decDigits n).length ≤ 10 ^ 5 := Nat.pow_le_pow_right (by omega) h
  omega
theorem atoiAll_digits (k : Nat) (hk : k ≤ 99999) : Lib.atoiAll (Lib.decDigits k) = .ok (k : Int) := by
  have hl := dec_len 4 k (by omega)
  rw [Lib.atoiAll_short _ (by omega), atoi_digits]
  rfl
theorem itoa_nat (k : Nat) : Lib.itoa (k : Int) = Lib.decDigits k := by rw [Lib.itoa, if_neg (by omega)]; rfl
/-- The answers of a reader of numbers. -/
def NumRes (l : List UInt8) (w : World) (e : Ending) (w' : World) : Prop := ∃ (n : Int) (b : Bool), e = .returned (.tuple #[.int .i64 n, .bool b]) ∧ NumOk l n b ∧ Below w.heap.size w w'
theorem num_no_of {l : List UInt8} (h : ∀ k : Nat, k ≤ 99999 → Lib.atoiAll l ≠ .ok (k : Int)) : ∀ k : Nat, k ≤ 99999 → l ≠ Lib.decDigits k := fun k hk e => h k hk (by rw [e]; exact atoiAll_digits k hk)
set_option maxRecDepth 100000 in
theorem number36_any (s : ByteArray) (w : World) (hs : s.size ≤ 1048576) (E : Env w) : Calls Tryd.prog 36 #[.string s] w (NumRes s.data.toList w) := by
  have hdl : s.data.toList.length = s.size := dlen s
  rcases hA : Lib.atoiAll s.data.toList with v | _ | _
  · have hbd := Lib.atoiAll_bounds hA
    have A := Tryd.strconv_Atoi_ok s (by omega) v hA w
    have HA := Go.Lib.hid hA
    have HL := Go.Lib.hid hdl
    clear hA hdl
    go_enter Tryd.func36, Tryd.ntmps36
    go_wp2_with fail
    refine A.mono ?_
    rintro e w1 ⟨rfl, hw1⟩
    have hb1 : Below w.heap.size w w1 := by
      rcases hw1 with rfl | ⟨t, rfl⟩
      · exact Below.refl _ _
      · exact conv_below w 5 t
    clear hw1
    by_cases hv : 0 ≤ v
    · have hv1 : decide (v ≥ 0) = true := by simpa using hv
      by_cases h5 : (s.size : Int) ≤ 5
      · have h51 : decide ((s.size : Int) ≤ 5) = true := by simpa using h5
        by_cases hq : Lib.itoa v = s.data.toList
        · have hq1 : ((mkS (Lib.itoa v)).toList == s.toList) = true := by rw [tl_mkS, hq, tl]; simp
          have HQ := Go.Lib.hid hq
          clear hq
          go_wp2_with fail
          refine (itoa14 v (by omega) (by omega) _ (E.below hb1).tabs).mono ?_
          rintro e w2 ⟨rfl, hb2⟩
          generalize mkS (Lib.itoa v) = q at *
          go_wp2
          go_ret2
          obtain ⟨k, rfl⟩ : ∃ k : Nat, v = k := ⟨v.toNat, by omega⟩
          have hq := HQ.out
          rw [itoa_nat] at hq
          have hl := HL.out
          exact ⟨_, _, rfl, .inl ⟨k, dec_small (by rw [hq]; omega), hq.symm, rfl, rfl⟩, btr hb1 hb2⟩
        · have hq1 : ((mkS (Lib.itoa v)).toList == s.toList) = false := by rw [tl_mkS, tl, beq_eq_false_iff_ne]; exact hq
          have HQ := Go.Lib.hid hq
          clear hq
          go_wp2_with fail
          refine (itoa14 v (by omega) (by omega) _ (E.below hb1).tabs).mono ?_
          rintro e w2 ⟨rfl, hb2⟩
          generalize mkS (Lib.itoa v) = q at *
          go_wp2
          go_ret2
          refine ⟨_, _, rfl, .inr ⟨fun k hk e => HQ.out ?_, rfl⟩, btr hb1 hb2⟩
          have h := HA.out
          rw [e, atoiAll_digits k hk] at h
          injection h with h
          rw [← h, itoa_nat, e]
      · have h51 : decide ((s.size : Int) ≤ 5) = false := by simpa using h5
        go_wp2
        go_ret2
        refine ⟨_, _, rfl, .inr ⟨fun k hk e => ?_, rfl⟩, hb1⟩
        have hl := HL.out
        have := dec_len 4 k (by omega)
        rw [e] at hl
        omega
    · have hv1 : decide (v ≥ 0) = false := by simpa using hv
      go_wp2
      go_ret2
      refine ⟨_, _, rfl, .inr ⟨fun k hk e => ?_, rfl⟩, hb1⟩
      have h := HA.out
      rw [e, atoiAll_digits k hk] at h
      injection h with h
      omega
  · obtain ⟨ev, h1, h2⟩ := E.syn
    have A := Any.strconv_Atoi_syntax Tryd.laysC172 s (by omega) hA ev w h1 h2
    have HA := Go.Lib.hid hA
    clear hA hdl h1 h2
    go_enter Tryd.func36, Tryd.ntmps36
    go_wp2_with fail
    refine A.mono ?_
    rintro e w1 ⟨N, rfl, -, -, hb1⟩
    go_wp2
    go_ret2
    exact ⟨_, _, rfl, .inr ⟨num_no_of (fun k hk e => by rw [HA.out] at e; cases e), rfl⟩, hb1⟩
  · obtain ⟨ev, h1, h2⟩ := E.rng
    have A := Any.strconv_Atoi_range Tryd.laysC172 s (by omega) hA ev w h1 h2
    have HA := Go.Lib.hid hA
    clear hA hdl h1 h2
    go_enter Tryd.func36, Tryd.ntmps36
    go_wp2_with fail
    refine A.mono ?_
    rintro e w1 ⟨N, rfl, -, -, hb1⟩
    go_wp2
    go_ret2
    exact ⟨_, _, rfl, .inr ⟨num_no_of (fun k hk e => by rw [HA.out] at e; cases e), rfl⟩, hb1⟩
/-- Is it the place of so many? -/
def PlaceOk (l : List UInt8) (n : Int) (b : Bool) : Prop := (l = [45] ∧ n = -1 ∧ b = true) ∨ (l ≠ [45] ∧ NumOk l n b)
def PlaceRes (l : List UInt8) (w : World) (e : Ending) (w' : World) : Prop := ∃ (n : Int) (b : Bool), e = .returned (.tuple #[.int .i64 n, .bool b]) ∧ PlaceOk l n b ∧ Below w.heap.size w w'
theorem place44_any (s : ByteArray) (w : World) (hs : s.size ≤ 1048576) (E : Env w) : Calls Tryd.prog 44 #[.string s] w (PlaceRes s.data.toList w) := by
  have N := number36_any s w hs E
  by_cases hm : s.data.toList = [45]
  · have hq : (s.toList == [45]) = true := by rw [tl, hm]; rfl
    have HM := Go.Lib.hid hm
    clear hm N
    go_enter Tryd.func44, Tryd.ntmps44
    go_wp2
    go_ret2
    exact ⟨_, _, rfl, .inl ⟨HM.out, rfl, rfl⟩, Below.refl _ w⟩
  · have hq : (s.toList == [45]) = false := by rw [tl, beq_eq_false_iff_ne]; exact hm
    have HM := Go.Lib.hid hm
    clear hm
    go_enter Tryd.func44, Tryd.ntmps44
    go_wp2_with fail
    refine N.mono ?_
    rintro e w1 ⟨n, b, rfl, hn, hb⟩
    go_wp2
    go_ret2
    exact ⟨_, _, rfl, .inr ⟨HM.out, hn⟩, hb⟩
end Go.Proofs.YtghhidaihajdmaaDoor
/- Any text, read. -/
namespace Go.Proofs.YtghhidaihajdmaaDoor
open Go.RowKit
/-- What a small digit is worth. -/
def hv (c : UInt8) : Int := Lib.indexByte digs c
theorem hv_fin : ∀ c : Fin 256, hv (UInt8.ofNat c.val) < 16 ∧ -1 ≤ hv (UInt8.ofNat c.val) ∧ (0 ≤ hv (UInt8.ofNat c.val) → digs.getD (hv (UInt8.ofNat c.val)).toNat 0 = UInt8.ofNat c.val) := by decide +kernel
theorem hv_at (c : UInt8) : hv c < 16 ∧ -1 ≤ hv c ∧ (0 ≤ hv c → digs.getD (hv c).toNat 0 = c) := by
  have h := hv_fin ⟨c.toNat, c.toNat_lt⟩
  simpa using h
def unhexL : List UInt8 → List UInt8
  | a :: b :: r => UInt8.ofNat ((hv a).toNat * 16 + (hv b).toNat) :: unhexL r
  | _ => []
def AllH (l : List UInt8) : Prop := ∀ c ∈ l, 0 ≤ hv c
theorem hex_unhex : ∀ l : List UInt8, AllH l → l.length % 2 = 0 → hexL (unhexL l) = l
  | [], _, _ => rfl
  | [a], _, h => by simp at h
  | a :: b :: r, H, h => by
    have ha := hv_at a
    have hb := hv_at b
    have h1 := ha.2.2 (H a (by simp))
    have h2 := hb.2.2 (H b (by simp))
    have h0a := H a (by simp)
    have h0b := H b (by simp)
    have ih := hex_unhex r (fun c hc => H c (by simp [hc])) (by simp at h; omega)
    have e : (UInt8.ofNat ((hv a).toNat * 16 + (hv b).toNat)).toNat = (hv a).toNat * 16 + (hv b).toNat := by rw [UInt8.toNat_ofNat']; omega
    show hexB (UInt8.ofNat _) ++ hexL (unhexL r) = _
    rw [ih]
    show [digs.getD (_ / 16) 0, digs.getD (_ % 16) 0] ++ r = _
    rw [e, show ((hv a).toNat * 16 + (hv b).toNat) / 16 = (hv a).toNat by omega, show ((hv a).toNat * 16 + (hv b).toNat) % 16 = (hv b).toNat by omega, h1, h2]
    rfl
theorem hexL_mem {r : List UInt8} {c : UInt8} (h : c ∈ hexL r) : c.toNat < 128 ∧ 0 ≤ hv c := by
  obtain ⟨b, _, hb⟩ := List.mem_flatMap.1 h
  have hb8 := b.toNat_lt
  rcases (show c = digs.getD (b.toNat / 16) 0 ∨ c = digs.getD (b.toNat % 16) 0 by simpa [hexB] using hb) with e | e
  · obtain ⟨h1, h2⟩ := dig_ascii (b.toNat / 16) (by omega)
    rw [← e] at h1 h2
    exact ⟨h1, by unfold hv; omega⟩
  · obtain ⟨h1, h2⟩ := dig_ascii (b.toNat % 16) (by omega)
    rw [← e] at h1 h2
    exact ⟨h1, by unfold hv; omega⟩
theorem unhex_snoc : ∀ (l : List UInt8) (a b : UInt8), l.length % 2 = 0 → unhexL (l ++ [a, b]) = unhexL l ++ [UInt8.ofNat ((hv a).toNat * 16 + (hv b).toNat)]
  | [], _, _, _ => rfl
  | [x], _, _, h => by simp at h
  | x :: y :: r, a, b, h => by
    have ih := unhex_snoc r a b (by simp at h; omega)
    show _ :: unhexL (r ++ [a, b]) = _
    rw [ih]
    rfl
theorem unhex_take (l : List UInt8) (p : Nat) (hp : p % 2 = 1) (h : p < l.length) :
    unhexL (l.take (p + 1)) = unhexL (l.take (p - 1)) ++ [UInt8.ofNat ((hv (l.getD (p - 1) 0)).toNat * 16 + (hv (l.getD p 0)).toNat)] := by
  have h1 : p - 1 < l.length := by omega
  have e : l.take (p + 1) = l.take (p - 1) ++ [l.getD (p - 1) 0, l.getD p 0] := by
    have t1 := List.take_succ_eq_append_getElem h1
    rw [show p - 1 + 1 = p by omega] at t1
    rw [List.take_succ_eq_append_getElem h, t1, List.append_assoc]
    congr 1
    simp [List.getD_eq_getElem?_getD, h, h1]
  rw [e, unhex_snoc _ _ _ (by rw [List.length_take]; omega)]
theorem decode_hi (s : ByteArray) (i : Nat) (h : i < s.size) (hi : 128 ≤ (s[i]'h).toNat) : 128 ≤ (Utf8.decode s i).1 ∧ (Utf8.decode s i).1 < 2147483648 := by
  have g : ∀ k, (s.get! k).toNat < 256 := fun k => (s.get! k).toNat_lt
  have e : s.get! (i + 0) = s[i] := by
    show s.data[i + 0]! = s.data[i]
    rw [Nat.add_zero, getElem!_pos s.data i h]
  unfold Utf8.decode
  simp only [e, Utf8.runeError]
  have g1 := g (i + 1)
  have g2 := g (i + 2)
  have g3 := g (i + 3)
  have g0 := (s[i]'h).toNat_lt
  rw [if_neg (by omega)]
  split
  · split <;> simp <;> omega
  · split
    · split
      · rename_i hc
        simp only [Bool.and_eq_true, decide_eq_true_eq] at hc
        simp only []
        omega
      · simp
    · split
      · split
        · rename_i hc
          simp only [Bool.and_eq_true, decide_eq_true_eq] at hc
          simp only []
          omega
        · simp
      · simp
/-- Is it the text of these bytes? -/
def TextOk (l : List UInt8) (t : ByteArray) (b : Bool) : Prop := (∃ r, l = 61 :: hexL r ∧ t = mkS r ∧ b = true) ∨ ((∀ r, l ≠ 61 :: hexL r) ∧ b = false)
def TextRes (l : List UInt8) (w : World) (e : Ending) (w' : World) : Prop := ∃ (t : ByteArray) (b : Bool), e = .returned (.tuple #[.string t, .bool b]) ∧ TextOk l t b ∧ Below w.heap.size w w'
theorem trim_61 (l : List UInt8) : (∃ r, l = 61 :: r ∧ Lib.trimPrefix l [61] = r ∧ Lib.hasPrefix l [61] = true) ∨ ((∀ r, l ≠ 61 :: r) ∧ Lib.trimPrefix l [61] = l ∧ Lib.hasPrefix l [61] = false) := by
  cases l with
  | nil => exact .inr ⟨(fun r h => by cases h), rfl, rfl⟩
  | cons a r =>
    by_cases h : a = 61
    · subst h; exact .inl ⟨r, rfl, by simp [Lib.trimPrefix, Lib.hasPrefix], by simp [Lib.hasPrefix]⟩
    · have h2 : Lib.hasPrefix (a :: r) [61] = false := by
        show List.isPrefixOf [61] (a :: r) = false
        simp [List.isPrefixOf]
        exact fun e => h e.symm
      refine .inr ⟨fun r' e => h (List.cons.inj e).1, by simp only [Lib.trimPrefix, h2]; rfl, h2⟩
theorem text_no {l : List UInt8} {pre : Bool} {x : List UInt8} (hx : (l = 61 :: x ∧ pre = true) ∨ ((∀ r, l ≠ 61 :: r) ∧ pre = false)) (h : ∃ c ∈ x, 128 ≤ c.toNat ∨ hv c < 0) : ∀ r, l ≠ 61 :: hexL r := by
  intro r e
  rcases hx with ⟨h1, _⟩ | ⟨h1, _⟩
  · obtain ⟨c, hc, hb⟩ := h
    rw [h1] at e
    have e2 := (List.cons.inj e).2
    rw [e2] at hc
    have := hexL_mem hc
    omega
  · exact h1 _ e
theorem text_end {l : List UInt8} {pre : Bool} {x : List UInt8} (hx : (l = 61 :: x ∧ pre = true) ∨ ((∀ r, l ≠ 61 :: r) ∧ pre = false)) (h : AllH x) (hp : x.length % 2 = 0) : TextOk l (mkS (unhexL x)) pre := by
  rcases hx with ⟨rfl, rfl⟩ | ⟨h1, rfl⟩
  · exact .inl ⟨unhexL x, by rw [hex_unhex x h hp], rfl, rfl⟩
  · exact .inr ⟨fun r e => h1 _ e, rfl⟩
theorem text_odd {l : List UInt8} {pre : Bool} {x : List UInt8} (hx : (l = 61 :: x ∧ pre = true) ∨ ((∀ r, l ≠ 61 :: r) ∧ pre = false)) (hp : x.length % 2 = 1) : ∀ r, l ≠ 61 :: hexL r := by
  intro r e
  rcases hx with ⟨h1, _⟩ | ⟨h1, _⟩
  · rw [h1] at e
    have e2 := (List.cons.inj e).2
    rw [e2, hexL_len] at hp
    omega
  · exact h1 _ e
/-- The half byte that is held at place p. -/
def halfI (x : List UInt8) (p : Nat) : Int := if p % 2 = 0 then -1 else hv (x.getD (p - 1) 0)
theorem join_fin2 : ∀ a b : Fin 16, bits BinOp.or IntKind.i64 (wrap64 (((a.val : Nat) : Int) * 16)) ((b.val : Nat) : Int) % 256 = ((a.val * 16 + b.val : Nat) : Int) := by decide +kernel
theorem join_hv {a b : Int} (ha0 : 0 ≤ a) (ha : a < 16) (hb0 : 0 ≤ b) (hb : b < 16) : bits BinOp.or IntKind.i64 (wrap64 (a * 16)) b % 256 = ((UInt8.ofNat (a.toNat * 16 + b.toNat)).toNat : Int) := by
  have h := join_fin2 ⟨a.toNat, by omega⟩ ⟨b.toNat, by omega⟩
  simp only at h
  rw [show ((a.toNat : Nat) : Int) = a by omega, show ((b.toNat : Nat) : Int) = b by omega] at h
  rw [h, UInt8.toNat_ofNat']
  omega
end Go.Proofs.YtghhidaihajdmaaDoor
/- Any text, read: the walk. -/
namespace Go.Proofs.YtghhidaihajdmaaDoor
open Go.RowKit
theorem at_list (s : ByteArray) (p : Nat) (h : p < s.size) : s.data.toList.getD p 0 = s[p] := by
  rw [List.getD_eq_getElem?_getD, List.getElem?_eq_getElem (by rw [dlen]; exact h), Option.getD_some, Array.getElem_toList]
  rfl
theorem mem_list (s : ByteArray) (p : Nat) (h : p < s.size) : s[p] ∈ s.data.toList := by
  rw [← at_list s p h, List.getD_eq_getElem?_getD, List.getElem?_eq_getElem (by rw [dlen]; exact h), Option.getD_some]
  exact List.getElem_mem _
def PreX (l : List UInt8) (x : List UInt8) (b : Bool) : Prop := (l = 61 :: x ∧ b = true) ∨ ((∀ r, l ≠ 61 :: r) ∧ b = false)
set_option maxHeartbeats 800000 in
set_option maxRecDepth 100000 in
theorem text35_any (t : ByteArray) (w : World) (hs : t.size ≤ 1048576) : Calls Tryd.prog 35 #[.string t] w (TextRes t.data.toList w) := by
  have C := Tryd.strings_CutPrefix t ⟨#[61]⟩ w
  rw [show (⟨#[61]⟩ : ByteArray).data.toList = [61] from rfl] at C
  obtain ⟨s, hS⟩ : ∃ s : ByteArray, s = ⟨(Lib.trimPrefix t.data.toList [61]).toArray⟩ := ⟨_, rfl⟩
  obtain ⟨pre, hP⟩ : ∃ b : Bool, b = Lib.hasPrefix t.data.toList [61] := ⟨_, rfl⟩
  have hx : PreX t.data.toList s.data.toList pre := by
    rw [hP, hS]
    rcases trim_61 t.data.toList with ⟨r, h1, h2, h3⟩ | ⟨h1, h2, h3⟩
    · exact .inl ⟨by rw [h2]; exact h1, h3⟩
    · exact .inr ⟨h1, h3⟩
  have hsz : s.size ≤ 1048576 := by
    have : s.data.toList.length ≤ t.data.toList.length := by
      rcases hx with ⟨h1, _⟩ | ⟨h1, _⟩
      · rw [h1]; simp
      · rcases trim_61 t.data.toList with ⟨r, h2, _⟩ | ⟨_, h2, _⟩
        · exact absurd h2 (h1 r)
        · rw [hS, h2]; exact Nat.le_refl _
    rw [dlen, dlen] at this
    omega
  rw [← hS, ← hP] at C
  clear hS hP
  go_enter Tryd.func35, Tryd.ntmps35
  go_wp2_with fail
  refine C.mono ?_
  rintro e w1 ⟨rfl, rfl⟩
  go_wp2_with fail
  go_loopw [6, 7, 9, 10] (fun v6 v7 _ _ wr => ∃ p : Nat, wr.heap[w1.heap.size]? = some (.stringIter s p) ∧ p ≤ s.size ∧ v7 = .int .i64 (halfI s.data.toList p) ∧ AllH (s.data.toList.take p) ∧ wr.ownsRow (w1.heap.size + 1) 5 1 v6 (p / 2) (u8s (unhexL (s.data.toList.take (2 * (p / 2))))) ∧ Below w1.heap.size w1 wr) (fun _ _ _ _ wr => s.size - wr.iterPos w1.heap.size)
  case atStart => exact ⟨0, World.iter_heap w1 s 0, by omega, rfl, (fun c hc => by simp at hc), own_nil _ _ 5 1, (Below.refl _ w1).alloc (Nat.le_refl _) _⟩
  case round =>
    obtain ⟨p, hit, hp, rfl, hall, hown, hbw⟩ := hrel
    by_cases hlt : p < s.size
    · have hmem := mem_list s p hlt
      have hgd := at_list s p hlt
      obtain ⟨ch, hch⟩ : ∃ c, c = s[p] := ⟨_, rfl⟩
      rw [← hch] at hmem hgd
      by_cases ha : ch.toNat < 128
      · have hnx : ∀ ty, (Instr.next (.pointer (some ⟨w1.heap.size, 0, none⟩)) true ty).run Tryd.prog wr = .ok (.tuple #[.bool true, .int .i64 p, .int .i32 ch.toNat]) (wr.iterAt w1.heap.size s (p + 1)) := fun ty => by rw [hch]; exact Lib.run_next_ascii_at wr w1.heap.size s p ty hit hlt (by rw [← hch]; exact ha)
        have I46 : ∀ W, Calls Tryd.prog 46 #[.string ⟨#[48, 49, 50, 51, 52, 53, 54, 55, 56, 57, 97, 98, 99, 100, 101, 102]⟩, .int .u8 ch.toNat] W fun e w' => e = .returned (.int .i64 (hv ch)) ∧ w' = W := fun W => by
          have h := Tryd.strings_IndexByte ⟨#[48, 49, 50, 51, 52, 53, 54, 55, 56, 57, 97, 98, 99, 100, 101, 102]⟩ ch.toNat W
          rw [show ((((ch.toNat : Nat) : Int).toNat.toUInt8)) = ch by simp, show (⟨#[48, 49, 50, 51, 52, 53, 54, 55, 56, 57, 97, 98, 99, 100, 101, 102]⟩ : ByteArray).data.toList = digs from rfl] at h
          exact h
        have hv0 := hv_at ch
        obtain ⟨q, hq⟩ : ∃ q, q = hv ch := ⟨_, rfl⟩
        rw [← hq] at I46 hv0
        have HQ := Go.Lib.hid hq
        have HG := Go.Lib.hid hgd
        have HC := Go.Lib.hid hch
        clear hq hgd hch
        go_wp2_with fail
        refine (I46 _).mono ?_
        rintro e w2 ⟨rfl, rfl⟩
        clear I46
        have hit2 := Lib.iterAt_heap wr w1.heap.size s p (p + 1) hit
        have hbw2 := Lib.below_iterAt hbw (k := w1.heap.size) (Nat.le_refl _) s (p + 1)
        have hown2 : (wr.iterAt w1.heap.size s (p + 1)).ownsRow (w1.heap.size + 1) 5 1 u6 (p / 2) (u8s (unhexL (s.data.toList.take (2 * (p / 2))))) := own_iterAt hown (Nat.lt_succ_self _)
        by_cases hneg : q < 0
        · go_wp2
          go_ret2
          exact ⟨_, _, rfl, .inr ⟨text_no hx ⟨ch, hmem, .inr (by rw [← HQ.out]; exact hneg)⟩, rfl⟩, hbw2⟩
        · have hq0 : 0 ≤ q := by omega
          have hall2 : AllH (s.data.toList.take (p + 1)) := by
            rw [List.take_succ_eq_append_getElem (by rw [dlen]; exact hlt)]
            intro c hc
            rcases List.mem_append.1 hc with hc | hc
            · exact hall c hc
            · rw [List.mem_singleton.1 hc, show (s.data.toList[p]'(by rw [dlen]; exact hlt)) = ch by rw [HC.out, Array.getElem_toList]; rfl, ← HQ.out]
              exact hq0
          by_cases hpar : p % 2 = 0
          · have hh : halfI s.data.toList p = -1 := by rw [halfI, if_pos hpar]
            rw [hh]
            go_wp2
            refine ⟨⟨p + 1, hit2, by omega, ?_, hall2, ?_, hbw2⟩, ?_⟩
            · rw [halfI, if_neg (by omega), Nat.add_sub_cancel, HG.out, HQ.out]
            · rw [show (p + 1) / 2 = p / 2 by omega]
              exact hown2
            · simp only [World.iterPos, hit2, hit]
              omega
          · have hh : halfI s.data.toList p = hv (s.data.toList.getD (p - 1) 0) := by rw [halfI, if_neg hpar]
            rw [hh]
            have hlp : p - 1 < s.size := by omega
            have hv1 := hv_at (s.data.toList.getD (p - 1) 0)
            have hm1 : 0 ≤ hv (s.data.toList.getD (p - 1) 0) := hall _ (by
              rw [at_list s (p - 1) hlp]
              rw [List.mem_take_iff_getElem]
              exact ⟨p - 1, by rw [dlen]; omega, by rw [Array.getElem_toList]; rfl⟩)
            obtain ⟨h, hh2⟩ : ∃ h, h = hv (s.data.toList.getD (p - 1) 0) := ⟨_, rfl⟩
            have HTK := Go.Lib.hid (unhex_take s.data.toList p (by omega) (by rw [dlen]; exact hlt))
            rw [← hh2] at hv1 hm1 ⊢
            have hj := join_hv hm1 hv1.1 hq0 hv0.1
            rw [show wrap64 (h * 16) = h * 16 by unfold wrap64; omega] at hj
            have HJ := Go.Lib.hid hj
            clear hj
            have HH := Go.Lib.hid hh2
            clear hh hh2
            have hone : ∀ y : Int, ∀ u ∈ (#[Value.int .u8 y] : Array Value).toList, u.oneCell' = true := by
              intro y u hu
              rcases (show u = _ by simpa using hu) with rfl
              rfl
            have hs1 : w1.heap.size + 1 ≤ (wr.iterAt w1.heap.size s (p + 1)).heap.size := by
              rw [Lib.iterAt_size]
              exact (Array.getElem?_eq_some_iff.1 hit).1
            have hbw3 : Below (w1.heap.size + 1) (wr.iterAt w1.heap.size s (p + 1)) (wr.iterAt w1.heap.size s (p + 1)) := Below.refl _ _
            go_wp2_with (at_builtin; refine step_append rfl (w1.heap.size + 1) (.tmp 24) (.tmp 30) 37 5 (.int .u8 0) 1 1 rfl Tryd.underlying37 Tryd.info5 rfl (by decide) (by decide) u6 (p / 2) _ _ #[_] rfl rfl rfl rfl (hone _) hown2 hbw3 hs1 (by omega) ?_; intro v1 w5 hown5 hb5)
            have hit5 : w5.heap[w1.heap.size]? = some (.stringIter s (p + 1)) := (hb5.block _ (Nat.lt_succ_self _)).trans hit2
            have hp2 : (p + 1) / 2 = p / 2 + 1 := by omega
            refine ⟨⟨p + 1, hit5, by omega, ?_, hall2, ?_, hbw2.trans (hb5.mono (Nat.le_succ _))⟩, ?_⟩
            · rw [halfI, if_pos (by omega)]
            · rw [hp2, show 2 * (p / 2 + 1) = p + 1 by omega, HTK.out]
              rw [HJ.out, show 2 * (p / 2) = p - 1 by omega] at hown5
              rw [HG.out, ← HH.out, ← HQ.out]
              simpa [u8s] using hown5
            · simp only [World.iterPos, hit5, hit]
              omega
      · have hdec := decode_hi s p hlt (by rw [← hch]; omega)
        have hfail := text_no hx ⟨ch, hmem, .inl (by omega)⟩
        obtain ⟨r, hr⟩ : ∃ r : Int, r = ((Utf8.decode s p).1 : Int) := ⟨_, rfl⟩
        have hnx : ∀ ty, (Instr.next (.pointer (some ⟨w1.heap.size, 0, none⟩)) true ty).run Tryd.prog wr = .ok (.tuple #[.bool true, .int .i64 p, .int .i32 r]) (wr.iterAt w1.heap.size s (p + (Utf8.decode s p).2)) := fun ty => by rw [hr]; exact Lib.run_next_any_at wr w1.heap.size s p ty hit hlt
        have hr0 : 128 ≤ r := by omega
        have hr1 : r < 2147483648 := by omega
        have hbw2 := Lib.below_iterAt hbw (k := w1.heap.size) (Nat.le_refl _) s (p + (Utf8.decode s p).2)
        clear hr hdec hgd hch
        generalize wr.iterAt w1.heap.size s (p + (Utf8.decode s p).2) = W2 at *
        go_wp2_with fail
        refine (Tryd.strings_IndexByte _ _ _).mono ?_
        rintro e w2 ⟨rfl, rfl⟩
        go_wp2
        go_ret2
        exact ⟨_, _, rfl, .inr ⟨hfail, rfl⟩, hbw2⟩
    · obtain rfl : p = s.size := by omega
      have htk : s.data.toList.take s.size = s.data.toList := List.take_of_length_le (by rw [dlen]; exact Nat.le_refl _)
      rw [htk] at hall
      have hnx : ∀ ty, (Instr.next (.pointer (some ⟨w1.heap.size, 0, none⟩)) true ty).run Tryd.prog wr = _ := fun ty => Lib.run_next_end_at wr w1.heap.size s s.size ty hit hlt
      obtain ⟨oa, cp, rfl⟩ := own_slice hown
      have hcv := own_conv hown
      by_cases hpar : s.size % 2 = 0
      · have hh : halfI s.data.toList s.size = -1 := by rw [halfI, if_pos hpar]
        rw [show 2 * (s.size / 2) = s.size by omega, htk] at hcv
        rw [hh]
        have hend := text_end hx hall (by rw [dlen]; exact hpar)
        generalize unhexL s.data.toList = o at *
        clear hown htk
        rcases pre with _ | _
        all_goals
          go_wp2
          go_ret2
          exact ⟨_, _, rfl, hend, hbw⟩
      · have hlp : s.size - 1 < s.size := by omega
        have hm1 : 0 ≤ halfI s.data.toList s.size := by
          rw [halfI, if_neg hpar]
          exact hall _ (by rw [at_list s _ hlp]; exact mem_list s _ hlp)
        have hno := text_odd hx (by rw [dlen]; omega)
        generalize halfI s.data.toList s.size = h at *
        generalize unhexL (s.data.toList.take (2 * (s.size / 2))) = o at *
        clear hown htk
        rcases pre with _ | _
        all_goals
          go_wp2
          go_ret2
          exact ⟨_, _, rfl, .inr ⟨hno, by first | rfl | exact decide_eq_false (by omega)⟩, hbw⟩
end Go.Proofs.YtghhidaihajdmaaDoor
/- The words of any act, read. -/
namespace Go.Proofs.YtghhidaihajdmaaDoor
open Go.RowKit
theorem blk_set {w : World} {b i : Nat} {cs : Array Value} {t : TypeId} {z : Nat × Nat} (h : w.heap[b]? = some (.cells cs t z)) (v : Value) : (w.setCell ⟨b, i, none⟩ v).heap[b]? = some (.cells (cs.setIfInBounds i v) t z) := by
  simp only [World.setCell, Array.getElem?_modify, if_true, h, Option.map_some]
  rfl
/-- The number of a name. -/
def nm (l : List UInt8) : Nat → Int
  | 0 => -1
  | i + 1 => if actNames.getD i [] = l then (i : Int) else nm l i
theorem nm_lo (l : List UInt8) : ∀ i, -1 ≤ nm l i ∧ nm l i < i + 1
  | 0 => by simp [nm]
  | i + 1 => by
    have := nm_lo l i
    unfold nm
    split <;> omega
/-- The answers of the reader of an act's words. -/
def ActOk (ws : List (List UInt8)) (k a b c : Int) (t m : ByteArray) (f : Bool) : Prop :=
  ∃ b1 b2 b3 b4 b5 : Bool, k = nm (ws.getD 1 []) 12 ∧ PlaceOk (ws.getD 2 []) a b1 ∧ PlaceOk (ws.getD 3 []) b b2 ∧ PlaceOk (ws.getD 4 []) c b3 ∧ TextOk (ws.getD 5 []) t b4 ∧ TextOk (ws.getD 6 []) m b5 ∧ f = (decide (0 ≤ nm (ws.getD 1 []) 12) && b1 && b2 && b3 && b4 && b5)
def actV (k a b c : Int) (t m : ByteArray) : Value := .agg #[.int .i64 k, .int .i64 a, .int .i64 b, .int .i64 c, .string t, .string m]
def actC (k a b c : Int) (t m : ByteArray) : Array Value := #[.int .i64 k, .int .i64 a, .int .i64 b, .int .i64 c, .string t, .string m]
def ActRes (ws : List (List UInt8)) (w : World) (e : Ending) (w' : World) : Prop :=
  (∃ (k a b c : Int) (t m : ByteArray) (f : Bool), e = .returned (.tuple #[.iface 56 (actV k a b c t m), .bool f]) ∧ ActOk ws k a b c t m f) ∧ Below w.heap.size w w'
/-- Behind so many places, so many texts. -/
def St (x2 x3 x4 : List UInt8) (f0 : Bool) (i : Nat) (a b c : Int) (f : Bool) : Prop :=
  (i = 0 ∧ a = 0 ∧ b = 0 ∧ c = 0 ∧ f = f0) ∨ (i = 1 ∧ b = 0 ∧ c = 0 ∧ ∃ b1, PlaceOk x2 a b1 ∧ f = (f0 && b1)) ∨ (i = 2 ∧ c = 0 ∧ ∃ b1 b2, PlaceOk x2 a b1 ∧ PlaceOk x3 b b2 ∧ f = (f0 && b1 && b2)) ∨ (i = 3 ∧ ∃ b1 b2 b3, PlaceOk x2 a b1 ∧ PlaceOk x3 b b2 ∧ PlaceOk x4 c b3 ∧ f = (f0 && b1 && b2 && b3))
def Tt (x5 x6 : List UInt8) (f0 : Bool) (i : Nat) (t m : ByteArray) (f : Bool) : Prop :=
  (i = 0 ∧ t = ⟨#[]⟩ ∧ m = ⟨#[]⟩ ∧ f = f0) ∨ (i = 1 ∧ m = ⟨#[]⟩ ∧ ∃ b1, TextOk x5 t b1 ∧ f = (f0 && b1)) ∨ (i = 2 ∧ ∃ b1 b2, TextOk x5 t b1 ∧ TextOk x6 m b2 ∧ f = (f0 && b1 && b2))
set_option maxHeartbeats 1600000 in
set_option maxRecDepth 100000 in
theorem act34_seven (ws : List (List UInt8)) (g : Nat) (w : World) (E : Env w) (h7 : ws.length = 7) (hl : ∀ x ∈ ws, x.length ≤ 1048576)
    (hw : ∀ j (h : j < ws.length), w.cell? ⟨g, j, none⟩ = some (.string (mkS ws[j]))) :
    Calls Tryd.prog 34 #[.slice (some ⟨g, 0, none⟩) 7 7] w (ActRes ws w) := by
  obtain ⟨x0, x1, x2, x3, x4, x5, x6, rfl⟩ : ∃ x0 x1 x2 x3 x4 x5 x6, ws = [x0, x1, x2, x3, x4, x5, x6] := by
    match ws, h7 with
    | [x0, x1, x2, x3, x4, x5, x6], _ => exact ⟨x0, x1, x2, x3, x4, x5, x6, rfl⟩
  have c1 : w.cell? ⟨g, 1, none⟩ = some (.string (mkS x1)) := hw 1 (by simp)
  have c2 : w.cell? ⟨g, 2, none⟩ = some (.string (mkS x2)) := hw 2 (by simp)
  have c3 : w.cell? ⟨g, 3, none⟩ = some (.string (mkS x3)) := hw 3 (by simp)
  have c4 : w.cell? ⟨g, 4, none⟩ = some (.string (mkS x4)) := hw 4 (by simp)
  have c5 : w.cell? ⟨g, 5, none⟩ = some (.string (mkS x5)) := hw 5 (by simp)
  have c6 : w.cell? ⟨g, 6, none⟩ = some (.string (mkS x6)) := hw 6 (by simp)
  have l2 : (mkS x2).size ≤ 1048576 := hl x2 (by simp)
  have l3 : (mkS x3).size ≤ 1048576 := hl x3 (by simp)
  have l4 : (mkS x4).size ≤ 1048576 := hl x4 (by simp)
  have l5 : (mkS x5).size ≤ 1048576 := hl x5 (by simp)
  have l6 : (mkS x6).size ≤ 1048576 := hl x6 (by simp)
  clear hw h7 hl
  go_enter Tryd.func34, Tryd.ntmps34
  go_wp2_with fail
  have hb0 : Below w.heap.size w (w.alloc (.cells #[.int .i64 (-1), .int .i64 0, .int .i64 0, .int .i64 0, .string ⟨#[]⟩, .string ⟨#[]⟩] 23)) := (Below.refl _ w).alloc (Nat.le_refl _) _
  refine (names13 _ (E.tabs.below hb0)).mono ?_
  rintro e w2 ⟨rfl, rfl⟩
  go_wp2_with fail
  have hX := at_new w (.cells #[.int .i64 (-1), .int .i64 0, .int .i64 0, .int .i64 0, .string ⟨#[]⟩, .string ⟨#[]⟩] 23) _ rfl
  have hX2 := at_old hX (.cells (strs actNames) 9)
  have hN := at_new (w.alloc (.cells #[.int .i64 (-1), .int .i64 0, .int .i64 0, .int .i64 0, .string ⟨#[]⟩, .string ⟨#[]⟩] 23)) (.cells (strs actNames) 9) (w.heap.size + 1) (by simp)
  have hb1 := bal hb0 (.cells (strs actNames) 9)
  clear hX hb0
  generalize (w.alloc (.cells #[.int .i64 (-1), .int .i64 0, .int .i64 0, .int .i64 0, .string ⟨#[]⟩, .string ⟨#[]⟩] 23)).alloc (.cells (strs actNames) 9) = W2 at *
  go_loopw [5, 6, 22] (fun _ _ v22 wr => ∃ i : Nat, v22 = .int .i64 i ∧ i ≤ 12 ∧ wr.heap[w.heap.size]? = some (.cells #[.int .i64 (nm x1 i), .int .i64 0, .int .i64 0, .int .i64 0, .string ⟨#[]⟩, .string ⟨#[]⟩] 23 (0, 0)) ∧ wr.heap[w.heap.size + 1]? = some (.cells (strs actNames) 9 (0, 0)) ∧ Below w.heap.size w wr) (fun _ _ v22 _ => 12 - (intOf v22).toNat)
  case atStart => exact ⟨0, rfl, by omega, hX2, hN, hb1⟩
  case round =>
    obtain ⟨i, rfl, hi, hxb, hnb, hbw⟩ := hrel
    have w1r := bcl hbw c1
    by_cases hlt : i < 12
    · have hci : wr.cell? ⟨w.heap.size + 1, i, none⟩ = some (.string (mkS (actNames.getD i []))) := by
        rw [blk_cells hnb i, strs_at actNames i hlt, List.getD_eq_getElem?_getD, List.getElem?_eq_getElem hlt]
        rfl
      have hx0 : wr.cell? ⟨w.heap.size, 0, none⟩ = some (.int .i64 (nm x1 i)) := blk_cells hxb 0
      have hf0 : wr.frozen? ⟨w.heap.size, 0, none⟩ = false := by simp [World.frozen?, hxb]
      by_cases hik : actNames.getD i [] = x1
      · have heq : ((mkS (actNames.getD i [])).toList == (mkS x1).toList) = true := by rw [tl_mkS, tl_mkS, hik]; simp
        have hnm : nm x1 (i + 1) = i := by rw [nm, if_pos hik]
        have HN := Go.Lib.hid hnm
        clear hnm hik
        generalize mkS (actNames.getD i []) = ni at *
        go_wp2
        refine ⟨⟨i + 1, by go_num, by omega, ?_, ?_, hbw.setCell (p := ⟨w.heap.size, 0, none⟩) (Nat.le_refl _) _⟩, by simp [intOf]; omega⟩
        · rw [HN.out]
          exact blk_set hxb _
        · rw [← hnb]
          exact Below.heap_setCell _ _ _ _ (by simp)
      · have heq : ((mkS (actNames.getD i [])).toList == (mkS x1).toList) = false := by rw [tl_mkS, tl_mkS, beq_eq_false_iff_ne]; exact hik
        have hnm : nm x1 (i + 1) = nm x1 i := by rw [nm, if_neg hik]
        have HN := Go.Lib.hid hnm
        clear hnm hik
        generalize mkS (actNames.getD i []) = ni at *
        go_wp2
        refine ⟨⟨i + 1, by go_num, by omega, ?_, hnb, hbw⟩, by simp [intOf]; omega⟩
        rw [HN.out]
        exact hxb
    · obtain rfl : i = 12 := by omega
      have hx0 : wr.cell? ⟨w.heap.size, 0, none⟩ = some (.int .i64 (nm x1 12)) := blk_cells hxb 0
      have hnl := nm_lo x1 12
      obtain ⟨k, hk⟩ : ∃ k, k = nm x1 12 := ⟨_, rfl⟩
      rw [← hk] at hxb hx0 hnl
      have HK := Go.Lib.hid hk
      clear hk hX2 hN hb1
      go_wp2_with fail
      have hP := at_new wr (.cells #[.pointer (some ⟨w.heap.size, 1, none⟩), .pointer (some ⟨w.heap.size, 2, none⟩), .pointer (some ⟨w.heap.size, 3, none⟩)] 89) _ rfl
      have hxP := at_old hxb (.cells #[.pointer (some ⟨w.heap.size, 1, none⟩), .pointer (some ⟨w.heap.size, 2, none⟩), .pointer (some ⟨w.heap.size, 3, none⟩)] 89)
      have hbP := bal hbw (.cells #[.pointer (some ⟨w.heap.size, 1, none⟩), .pointer (some ⟨w.heap.size, 2, none⟩), .pointer (some ⟨w.heap.size, 3, none⟩)] 89)
      have hwn : w.heap.size < wr.heap.size := blk_lt hxb
      generalize wr.alloc (.cells #[.pointer (some ⟨w.heap.size, 1, none⟩), .pointer (some ⟨w.heap.size, 2, none⟩), .pointer (some ⟨w.heap.size, 3, none⟩)] 89) = WP at *
      generalize wr.heap.size = n at *
      clear hxb hnb hbw w1r hx0
      obtain ⟨f0, hf0⟩ : ∃ f0, f0 = decide (0 ≤ k) := ⟨_, rfl⟩
      rw [← hf0, show ((12 : Nat) : Int) = (12 : Int) from rfl]
      have HF := Go.Lib.hid hf0
      clear hf0
      go_loopw [7, 8, 9, 10, 11, 43] (fun v7 _ _ _ _ v43 wr => ∃ (i : Nat) (a b c : Int) (f : Bool), v43 = .int .i64 i ∧ v7 = .bool f ∧ i ≤ 3 ∧ St x2 x3 x4 f0 i a b c f ∧ wr.heap[w.heap.size]? = some (.cells #[.int .i64 k, .int .i64 a, .int .i64 b, .int .i64 c, .string ⟨#[]⟩, .string ⟨#[]⟩] 23 (0, 0)) ∧ wr.heap[n]? = some (.cells #[.pointer (some ⟨w.heap.size, 1, none⟩), .pointer (some ⟨w.heap.size, 2, none⟩), .pointer (some ⟨w.heap.size, 3, none⟩)] 89 (0, 0)) ∧ Below w.heap.size w wr) (fun _ _ _ _ _ v43 _ => 3 - (intOf v43).toNat)
      case atStart => exact ⟨0, 0, 0, 0, f0, rfl, rfl, by omega, .inl ⟨rfl, rfl, rfl, rfl, rfl⟩, hxP, hP, hbP⟩
      case round =>
        clear hxP hP hbP
        obtain ⟨i, a, b, c, f, rfl, rfl, hi, hst, hxb, hpb, hbw⟩ := hrel
        have hfr := blk_free hxb
        rcases hst with ⟨rfl, rfl, rfl, rfl, hfe⟩ | ⟨rfl, rfl, rfl, b1, h1, hfe⟩ | ⟨rfl, rfl, b1, b2, h1, h2, hfe⟩ | ⟨rfl, b1, b2, b3, h1, h2, h3, hfe⟩
        · have hcp : wr.cell? ⟨n, 0, none⟩ = some (.pointer (some ⟨w.heap.size, 1, none⟩)) := blk_cells hpb 0
          have hcg := bcl hbw c2
          have hfg := hfr 1
          clear hfr
          have HFE := Go.Lib.hid hfe
          clear hfe
          go_wp2_with fail
          refine (place44_any (mkS x2) _ l2 (E.below hbw)).mono ?_
          rintro e w4 ⟨pn, pb, rfl, hpl, hb4⟩
          have hxb4 := (hb4.block _ (blk_lt hxb)).trans hxb
          have hpb4 := (hb4.block _ (blk_lt hpb)).trans hpb
          have hcx : ∃ v, w4.cell? ⟨w.heap.size, 1, none⟩ = some v := ⟨_, blk_cells hxb4 1⟩
          obtain ⟨vx, hcx⟩ := hcx
          have hfx := blk_free hxb4 1
          have hbw4 := btr hbw hb4
          rcases f with _ | _
          all_goals
            go_wp2
            refine ⟨⟨1, pn, 0, 0, _, rfl, rfl, by omega, .inr (.inl ⟨rfl, rfl, rfl, pb, hpl, by rw [← HFE.out]; rfl⟩), blk_set hxb4 _, ?_, hbw4.setCell (p := ⟨w.heap.size, 1, none⟩) (Nat.le_refl _) _⟩, by simp [intOf]⟩
            rw [← hpb4]
            exact Below.heap_setCell _ _ _ _ (by simp; omega)
        · have hcp : wr.cell? ⟨n, 1, none⟩ = some (.pointer (some ⟨w.heap.size, 2, none⟩)) := blk_cells hpb 1
          have hcg := bcl hbw c3
          have hfg := hfr 2
          clear hfr
          have HFE := Go.Lib.hid hfe
          clear hfe
          go_wp2_with fail
          refine (place44_any (mkS x3) _ l3 (E.below hbw)).mono ?_
          rintro e w4 ⟨pn, pb, rfl, hpl, hb4⟩
          have hxb4 := (hb4.block _ (blk_lt hxb)).trans hxb
          have hpb4 := (hb4.block _ (blk_lt hpb)).trans hpb
          have hcx : ∃ v, w4.cell? ⟨w.heap.size, 2, none⟩ = some v := ⟨_, blk_cells hxb4 2⟩
          obtain ⟨vx, hcx⟩ := hcx
          have hfx := blk_free hxb4 2
          have hbw4 := btr hbw hb4
          rcases f with _ | _
          all_goals
            go_wp2

            refine ⟨⟨2, a, pn, 0, _, rfl, rfl, by omega, .inr (.inr (.inl ⟨rfl, rfl, b1, pb, h1, hpl, by rw [← HFE.out]; rfl⟩)), blk_set hxb4 _, ?_, hbw4.setCell (p := ⟨w.heap.size, 2, none⟩) (Nat.le_refl _) _⟩, by simp [intOf]⟩
            rw [← hpb4]
            exact Below.heap_setCell _ _ _ _ (by simp; omega)
        · have hcp : wr.cell? ⟨n, 2, none⟩ = some (.pointer (some ⟨w.heap.size, 3, none⟩)) := blk_cells hpb 2
          have hcg := bcl hbw c4
          have hfg := hfr 3
          clear hfr
          have HFE := Go.Lib.hid hfe
          clear hfe
          go_wp2_with fail
          refine (place44_any (mkS x4) _ l4 (E.below hbw)).mono ?_
          rintro e w4 ⟨pn, pb, rfl, hpl, hb4⟩
          have hxb4 := (hb4.block _ (blk_lt hxb)).trans hxb
          have hpb4 := (hb4.block _ (blk_lt hpb)).trans hpb
          have hcx : ∃ v, w4.cell? ⟨w.heap.size, 3, none⟩ = some v := ⟨_, blk_cells hxb4 3⟩
          obtain ⟨vx, hcx⟩ := hcx
          have hfx := blk_free hxb4 3
          have hbw4 := btr hbw hb4
          rcases f with _ | _
          all_goals
            go_wp2
            refine ⟨⟨3, a, b, pn, _, rfl, rfl, by omega, .inr (.inr (.inr ⟨rfl, b1, b2, pb, h1, h2, hpl, by rw [← HFE.out]; rfl⟩)), blk_set hxb4 _, ?_, hbw4.setCell (p := ⟨w.heap.size, 3, none⟩) (Nat.le_refl _) _⟩, by simp [intOf]⟩
            rw [← hpb4]
            exact Below.heap_setCell _ _ _ _ (by simp; omega)
        · have hfe2 := hfe
          have HFE := Go.Lib.hid hfe
          clear hfe hfe2 hfr
          rw [show ((3 : Nat) : Int) = (3 : Int) from rfl]
          go_wp2_with fail
          have hP := at_new wr (.cells #[.pointer (some ⟨w.heap.size, 4, none⟩), .pointer (some ⟨w.heap.size, 5, none⟩)] 91) _ rfl
          have hxP := at_old hxb (.cells #[.pointer (some ⟨w.heap.size, 4, none⟩), .pointer (some ⟨w.heap.size, 5, none⟩)] 91)
          have hbP := bal hbw (.cells #[.pointer (some ⟨w.heap.size, 4, none⟩), .pointer (some ⟨w.heap.size, 5, none⟩)] 91)
          have hwn2 : w.heap.size < wr.heap.size := blk_lt hxb
          generalize wr.alloc (.cells #[.pointer (some ⟨w.heap.size, 4, none⟩), .pointer (some ⟨w.heap.size, 5, none⟩)] 91) = WP2 at *
          generalize wr.heap.size = n2 at *
          clear hxb hpb hbw
          go_loopw [7, 12, 13, 14, 15, 69] (fun v7 _ _ _ _ v69 wr => ∃ (i : Nat) (t m : ByteArray) (f2 : Bool), v69 = .int .i64 i ∧ v7 = .bool f2 ∧ i ≤ 2 ∧ Tt x5 x6 f i t m f2 ∧ wr.heap[w.heap.size]? = some (.cells #[.int .i64 k, .int .i64 a, .int .i64 b, .int .i64 c, .string t, .string m] 23 (0, 0)) ∧ wr.heap[n2]? = some (.cells #[.pointer (some ⟨w.heap.size, 4, none⟩), .pointer (some ⟨w.heap.size, 5, none⟩)] 91 (0, 0)) ∧ Below w.heap.size w wr) (fun _ _ _ _ _ v69 _ => 2 - (intOf v69).toNat)
          case atStart => exact ⟨0, ⟨#[]⟩, ⟨#[]⟩, f, rfl, rfl, by omega, .inl ⟨rfl, rfl, rfl, rfl⟩, hxP, hP, hbP⟩
          case round =>
            clear hxP hP hbP
            obtain ⟨i, t, m, f2, rfl, rfl, hi, hst, hxb, hpb, hbw⟩ := hrel
            have hfr := blk_free hxb
            rcases hst with ⟨rfl, rfl, rfl, hfe⟩ | ⟨rfl, rfl, b4, h4, hfe⟩ | ⟨rfl, b4, b5, h4, h5, hfe⟩
            · have hcp : wr.cell? ⟨n2, 0, none⟩ = some (.pointer (some ⟨w.heap.size, 4, none⟩)) := blk_cells hpb 0
              have hcg := bcl hbw c5
              have hfg := hfr 4
              have HFT := Go.Lib.hid hfe
              clear hfr hfe
              go_wp2_with fail
              refine (text35_any (mkS x5) _ l5).mono ?_
              rintro e w4 ⟨pn, pb, rfl, hpl, hb4⟩
              have hxb4 := (hb4.block _ (blk_lt hxb)).trans hxb
              have hpb4 := (hb4.block _ (blk_lt hpb)).trans hpb
              obtain ⟨vx, hcx⟩ : ∃ v, w4.cell? ⟨w.heap.size, 4, none⟩ = some v := ⟨_, blk_cells hxb4 4⟩
              have hfx := blk_free hxb4 4
              have hbw4 := btr hbw hb4
              rcases f2 with _ | _
              all_goals
                go_wp2
                refine ⟨⟨1, pn, ⟨#[]⟩, _, rfl, rfl, by omega, .inr (.inl ⟨rfl, rfl, pb, hpl, by rw [← HFT.out]; rfl⟩), blk_set hxb4 _, ?_, hbw4.setCell (p := ⟨w.heap.size, 4, none⟩) (Nat.le_refl _) _⟩, by simp [intOf]⟩
                rw [← hpb4]
                exact Below.heap_setCell _ _ _ _ (by simp; omega)
            · have hcp : wr.cell? ⟨n2, 1, none⟩ = some (.pointer (some ⟨w.heap.size, 5, none⟩)) := blk_cells hpb 1
              have hcg := bcl hbw c6
              have hfg := hfr 5
              have HFT := Go.Lib.hid hfe
              clear hfr hfe
              go_wp2_with fail
              refine (text35_any (mkS x6) _ l6).mono ?_
              rintro e w4 ⟨pn, pb, rfl, hpl, hb4⟩
              have hxb4 := (hb4.block _ (blk_lt hxb)).trans hxb
              have hpb4 := (hb4.block _ (blk_lt hpb)).trans hpb
              obtain ⟨vx, hcx⟩ : ∃ v, w4.cell? ⟨w.heap.size, 5, none⟩ = some v := ⟨_, blk_cells hxb4 5⟩
              have hfx := blk_free hxb4 5
              have hbw4 := btr hbw hb4
              rcases f2 with _ | _
              all_goals
                go_wp2
                refine ⟨⟨2, t, pn, _, rfl, rfl, by omega, .inr (.inr ⟨rfl, b4, pb, h4, hpl, by rw [← HFT.out]; rfl⟩), blk_set hxb4 _, ?_, hbw4.setCell (p := ⟨w.heap.size, 5, none⟩) (Nat.le_refl _) _⟩, by simp [intOf]⟩
                rw [← hpb4]
                exact Below.heap_setCell _ _ _ _ (by simp; omega)
            · have HFT := Go.Lib.hid hfe
              clear hfr hfe
              have q0 := blk_cells hxb 0
              have q1 := blk_cells hxb 1
              have q2 := blk_cells hxb 2
              have q3 := blk_cells hxb 3
              have q4 := blk_cells hxb 4
              have q5 := blk_cells hxb 5
              go_wp2
              go_ret2
              exact ⟨⟨k, a, b, c, t, m, _, rfl, b1, b2, b3, b4, b5, HK.out, h1, h2, h3, h4, h5, by rw [HFT.out, HFE.out, HF.out, HK.out]; rfl⟩, hbw⟩
theorem act34_other (oa : Option Addr) (n : Nat) (w : World) (hn : n ≠ 7) : Calls Tryd.prog 34 #[.slice oa n n] w fun e w' => e = .returned (.tuple #[.nilIface, .bool false]) ∧ w = w' := by
  have hq : ((n : Int) != 7) = true := by rw [bne_iff_ne]; omega
  go_enter Tryd.func34, Tryd.ntmps34
  go_wp2
  go_ret2
  exact ⟨rfl, rfl⟩
end Go.Proofs.YtghhidaihajdmaaDoor
/- The printed line, split at its blanks. -/
namespace Go.Proofs.YtghhidaihajdmaaDoor
open Go.RowKit
theorem indexByte_none (a : List UInt8) (c : UInt8) (h : c ∉ a) : Lib.indexByte a c = -1 := by
  induction a with
  | nil => rfl
  | cons b t ih =>
    have hb : (b == c) = false := by rw [beq_eq_false_iff_ne]; intro e; exact h (e ▸ List.mem_cons_self)
    simp [Lib.indexByte, hb, ih (fun hm => h (List.mem_cons_of_mem _ hm))]
theorem indexByte_app (a b : List UInt8) (c : UInt8) (h : c ∉ a) : Lib.indexByte (a ++ c :: b) c = (a.length : Int) := by
  induction a with
  | nil => simp [Lib.indexByte]
  | cons x t ih =>
    have hb : (x == c) = false := by rw [beq_eq_false_iff_ne]; intro e; exact h (e ▸ List.mem_cons_self)
    have i := ih (fun hm => h (List.mem_cons_of_mem _ hm))
    simp only [List.cons_append, Lib.indexByte, hb, i]
    have hn : (((t.length : Nat) : Int) == -1) = false := by rw [beq_eq_false_iff_ne]; omega
    simp [hn]
/-- Words, one blank between. -/
def glue : List UInt8 → List (List UInt8) → List UInt8
  | a, [] => a
  | a, b :: r => a ++ 32 :: glue b r
theorem glue_count (a : List UInt8) (r : List (List UInt8)) (h : ∀ x ∈ a :: r, (32 : UInt8) ∉ x) : Lib.count (glue a r) [32] = r.length := by
  rw [Lib.count_one]
  induction r generalizing a with
  | nil => exact List.count_eq_zero.2 (h a List.mem_cons_self)
  | cons b r ih =>
    rw [glue, List.count_append, List.count_cons_self, ih b (fun x hx => h x (List.mem_cons_of_mem _ hx)), List.count_eq_zero.2 (h a List.mem_cons_self)]
    simp
theorem glue_split (a : List UInt8) (r : List (List UInt8)) (h : ∀ x ∈ a :: r, (32 : UInt8) ∉ x) : Lib.splitK [32] 0 r.length (glue a r) = a :: r := by
  induction r generalizing a with
  | nil => rfl
  | cons b r ih =>
    have hi := indexByte_app a (glue b r) 32 (h a List.mem_cons_self)
    rw [List.length_cons, Lib.splitK, Lib.index_one, glue, hi]
    have hn : (((a.length : Nat) : Int) == -1) = false := by rw [beq_eq_false_iff_ne]; omega
    rw [hn]
    simp [ih b (fun x hx => h x (List.mem_cons_of_mem _ hx))]
end Go.Proofs.YtghhidaihajdmaaDoor
/- The words of the printed line. -/
namespace Go.Proofs.YtghhidaihajdmaaDoor
open Go.RowKit
theorem dec_no (n : Nat) : (32 : UInt8) ∉ Lib.decDigits n := by
  induction n using Nat.strongRecOn with
  | ind n ih =>
    have hb : ∀ d, d < 10 → (32 : UInt8) ≠ UInt8.ofNat (48 + d) := by
      intro d hd e
      have h : (UInt8.ofNat (48 + d)).toNat = 48 + d := by rw [UInt8.toNat_ofNat']; omega
      rw [← e] at h
      simp at h
      omega
    rw [dec_step]
    by_cases h : n < 10
    · rw [if_pos h]
      intro hm
      exact hb (n % 10) (by omega) (List.mem_singleton.1 hm)
    · rw [if_neg h]
      intro hm
      rcases List.mem_append.1 hm with hm | hm
      · exact ih (n / 10) (by omega) hm
      · exact hb (n % 10) (by omega) (List.mem_singleton.1 hm)
theorem num_no (n : Int) (h : inP n = true) : (32 : UInt8) ∉ numL n := by
  simp [inP] at h
  unfold numL
  split
  · decide
  · rw [Lib.itoa, if_neg (by omega)]
    exact dec_no _
theorem hex_no (l : List UInt8) : (32 : UInt8) ∉ 61 :: hexL l := by
  intro hm
  rcases List.mem_cons.1 hm with hm | hm
  · exact absurd hm (by decide)
  · obtain ⟨b, _, hb⟩ := List.mem_flatMap.1 hm
    have hd : ∀ k, k < 16 → (32 : UInt8) ≠ digs.getD k 0 := fun k hk e => by
      have h := List.all_eq_true.1 (show digs.all (fun c => decide (c ≠ 32)) = true by decide) (digs.getD k 0) (by
        rw [List.getD_eq_getElem?_getD, List.getElem?_eq_getElem (show k < digs.length from hk)]
        exact List.getElem_mem _)
      simp only [decide_eq_true_eq] at h
      exact h e.symm
    have hb8 := b.toNat_lt
    rcases (show (32 : UInt8) = digs.getD (b.toNat / 16) 0 ∨ (32 : UInt8) = digs.getD (b.toNat % 16) 0 by simpa [hexB] using hb) with e | e
    · exact hd _ (by omega) e
    · exact hd _ (by omega) e
theorem act_no (k : Nat) (h : k < 12) : (32 : UInt8) ∉ actNames.getD k [] := by
  rcases (show k = 0 ∨ k = 1 ∨ k = 2 ∨ k = 3 ∨ k = 4 ∨ k = 5 ∨ k = 6 ∨ k = 7 ∨ k = 8 ∨ k = 9 ∨ k = 10 ∨ k = 11 by omega) with rfl | rfl | rfl | rfl | rfl | rfl | rfl | rfl | rfl | rfl | rfl | rfl <;> decide
/-- The words behind the first. -/
def wordsL (k : Nat) (a b c : Int) (t m : List UInt8) : List (List UInt8) := [actNames.getD k [], numL a, numL b, numL c, 61 :: hexL t, 61 :: hexL m]
theorem line_glue (k : Nat) (a b c : Int) (t m : List UInt8) : lineL k a b c t m = glue [97, 99, 116] (wordsL k a b c t m) := by
  simp [lineL, wordsL, glue]
theorem words_no (k : Nat) (a b c : Int) (t m : List UInt8) (hk : k < 12) (ha : inP a = true) (hb : inP b = true) (hc : inP c = true) : ∀ x ∈ [97, 99, 116] :: wordsL k a b c t m, (32 : UInt8) ∉ x := by
  intro x hx
  simp only [wordsL, List.mem_cons, List.not_mem_nil, or_false] at hx
  rcases hx with rfl | rfl | rfl | rfl | rfl | rfl | rfl
  · decide
  · exact act_no k hk
  · exact num_no a ha
  · exact num_no b hb
  · exact num_no c hc
  · exact hex_no t
  · exact hex_no m
theorem line_split (k : Nat) (a b c : Int) (t m : List UInt8) (hk : k < 12) (ha : inP a = true) (hb : inP b = true) (hc : inP c = true) :
    Lib.countB (mkS (lineL k a b c t m)) ⟨#[32]⟩ = 6 ∧ Lib.splitB ⟨#[32]⟩ 0 6 (mkS (lineL k a b c t m)) = ([97, 99, 116] :: wordsL k a b c t m).map mkS := by
  have hno := words_no k a b c t m hk ha hb hc
  have h1 := glue_count _ _ hno
  have h2 := glue_split _ _ hno
  rw [← line_glue] at h1 h2
  have h6 : (wordsL k a b c t m).length = 6 := rfl
  rw [h6] at h1 h2
  refine ⟨h1, ?_⟩
  have e := Lib.splitB_data ⟨#[32]⟩ 0 6 (mkS (lineL k a b c t m))
  rw [show (mkS (lineL k a b c t m)).data.toList = lineL k a b c t m from rfl, show (⟨#[32]⟩ : ByteArray).data.toList = [32] from rfl, h2] at e
  rw [← e, List.map_map]
  conv => lhs; rw [← List.map_id (Lib.splitB ⟨#[32]⟩ 0 6 (mkS (lineL k a b c t m)))]
  apply List.map_congr_left
  intro x _
  rfl
end Go.Proofs.YtghhidaihajdmaaDoor
/- Any line, read: its words; the act of it. -/
namespace Go.Proofs.YtghhidaihajdmaaDoor
open Go.RowKit
/-- The words of a line. -/
def splitL : List UInt8 → List (List UInt8)
  | [] => [[]]
  | c :: r => if c = 32 then [] :: splitL r else match splitL r with
    | a :: t => (c :: a) :: t
    | [] => [[c]]
theorem splitL_glue : ∀ s : List UInt8, ∃ a r, splitL s = a :: r ∧ glue a r = s ∧ (∀ x ∈ a :: r, (32 : UInt8) ∉ x) ∧ (∀ x ∈ a :: r, x.length ≤ s.length) ∧ r.length ≤ s.length
  | [] => ⟨[], [], rfl, rfl, by simp, by simp, by simp⟩
  | c :: t => by
    obtain ⟨a, r, h1, h2, h3, h4, h5⟩ := splitL_glue t
    by_cases hc : c = 32
    · refine ⟨[], a :: r, by rw [splitL, if_pos hc, h1], by rw [glue, h2, hc]; rfl, ?_, ?_, by simp; omega⟩
      · intro x hx
        rcases List.mem_cons.1 hx with rfl | hx
        · simp
        · exact h3 x hx
      · intro x hx
        rcases List.mem_cons.1 hx with rfl | hx
        · simp
        · have := h4 x hx
          simp only [List.length_cons]
          omega
    · refine ⟨c :: a, r, by rw [splitL, if_neg hc, h1], ?_, ?_, ?_, by simp only [List.length_cons]; omega⟩
      · cases r with
        | nil => simp only [glue] at h2 ⊢; rw [h2]
        | cons b r => simp only [glue, List.cons_append] at h2 ⊢; rw [h2]
      · intro x hx
        rcases List.mem_cons.1 hx with rfl | hx
        · intro hm
          rcases List.mem_cons.1 hm with e | hm
          · exact hc e.symm
          · exact h3 a List.mem_cons_self hm
        · exact h3 x (List.mem_cons_of_mem _ hx)
      · intro x hx
        rcases List.mem_cons.1 hx with rfl | hx
        · have := h4 a List.mem_cons_self
          simp only [List.length_cons]
          omega
        · have := h4 x (List.mem_cons_of_mem _ hx)
          simp only [List.length_cons]
          omega
theorem splitL_of_glue (a : List UInt8) (r : List (List UInt8)) (h : ∀ x ∈ a :: r, (32 : UInt8) ∉ x) : splitL (glue a r) = a :: r := by
  obtain ⟨a2, r2, h1, h2, h3, _⟩ := splitL_glue (glue a r)
  rw [h1]
  have k1 := glue_split a r h
  have k2 := glue_split a2 r2 h3
  have c1 := glue_count a r h
  have c2 := glue_count a2 r2 h3
  rw [h2] at k2 c2
  rw [← c1] at k1
  rw [← c2] at k2
  exact k2.symm.trans k1
theorem splitB_L (s : ByteArray) : Lib.countB s ⟨#[32]⟩ + 1 = (splitL s.data.toList).length ∧ Lib.splitB ⟨#[32]⟩ 0 (Lib.countB s ⟨#[32]⟩) s = (splitL s.data.toList).map mkS := by
  obtain ⟨a, r, h1, h2, h3, _⟩ := splitL_glue s.data.toList
  have c1 := glue_count a r h3
  have k1 := glue_split a r h3
  rw [h2] at c1 k1
  have hc : Lib.countB s ⟨#[32]⟩ = r.length := c1
  rw [h1, hc]
  refine ⟨rfl, ?_⟩
  have e := Lib.splitB_data ⟨#[32]⟩ 0 r.length s
  rw [show (⟨#[32]⟩ : ByteArray).data.toList = [32] from rfl, k1] at e
  rw [← e, List.map_map]
  conv => lhs; rw [← List.map_id (Lib.splitB ⟨#[32]⟩ 0 r.length s)]
  apply List.map_congr_left
  intro x _
  rfl
theorem split33 (s : ByteArray) (w : World) (hs : s.size ≤ 1048576) (E : Env w) : Calls Tryd.prog 33 #[.string s, .string ⟨#[32]⟩] w fun e w' =>
    e = .returned (.slice (some ⟨w.heap.size, 0, none⟩) (splitL s.data.toList).length (splitL s.data.toList).length) ∧ w' = w.alloc (.cells (strs (splitL s.data.toList)) 9) := by
  obtain ⟨m, hm⟩ := E.mx
  have h := Tryd.strings_Split s ⟨#[32]⟩ m w (by omega) hm (by decide)
  obtain ⟨h1, h2⟩ := splitB_L s
  rw [h1, h2, List.map_map] at h
  exact h
/-- What reading a line answers. -/
def ReadRes (ws : List (List UInt8)) (w : World) (e : Ending) (w' : World) : Prop :=
  (ws.getD 0 [] = [97, 99, 116] ∧ ((ws.length = 7 ∧ ActRes ws w e w') ∨ (ws.length ≠ 7 ∧ e = .returned (.tuple #[.nilIface, .bool false]) ∧ Below w.heap.size w w'))) ∨
  (ws.getD 0 [] ≠ [97, 99, 116] ∧ ∃ v f, e = .returned (.tuple #[v, .bool f]) ∧ (v = .nilIface ∨ ∃ x t, v = .iface t x ∧ (t = 63 ∨ t = 65 ∨ t = 68)) ∧ Below w.heap.size w w')
set_option maxHeartbeats 800000 in
set_option maxRecDepth 100000 in
theorem read20 (s : ByteArray) (w : World) (hs : s.size ≤ 1048576) (E : Env w) : Calls Tryd.prog 20 #[.string s] w (ReadRes (splitL s.data.toList) w) := by
  have S := split33 s w hs E
  obtain ⟨x0, r, h1, h2, h3, h4, h5⟩ := splitL_glue s.data.toList
  have hdl : s.data.toList.length = s.size := dlen s
  have hb1 : Below w.heap.size w (w.alloc (.cells (strs (splitL s.data.toList)) 9)) := (Below.refl _ w).alloc (Nat.le_refl _) _
  have hX := at_new w (.cells (strs (splitL s.data.toList)) 9) _ rfl
  have hlen : (splitL s.data.toList).length = r.length + 1 := by rw [h1]; rfl
  have hx0 : (splitL s.data.toList).getD 0 [] = x0 := by rw [h1]; rfl
  have hmem : ∀ x ∈ splitL s.data.toList, x.length ≤ 1048576 := fun x hx => by
    rw [h1] at hx
    have := h4 x hx
    omega
  have hrl : r.length ≤ 1048576 := by omega
  clear h1 h2 h3 h4 h5 hdl
  generalize splitL s.data.toList = ws at *
  have hcell : ∀ j (h : j < ws.length), (w.alloc (.cells (strs ws) 9)).cell? ⟨w.heap.size, j, none⟩ = some (.string (mkS ws[j])) := fun j h => by
    rw [blk_cells hX j]
    exact strs_at ws j h
  have c0 : (w.alloc (.cells (strs ws) 9)).cell? ⟨w.heap.size, 0, none⟩ = some (.string (mkS x0)) := by
    rw [hcell 0 (by omega), ← hx0]
    congr 3
    rw [List.getD_eq_getElem?_getD, List.getElem?_eq_getElem (by omega)]
    rfl
  have EW := E.below hb1
  by_cases hact : x0 = [97, 99, 116]
  · have hq : ((mkS x0).toList == [97, 99, 116]) = true := by rw [tl_mkS, hact]; rfl
    have hr0 : ws.getD 0 [] = [97, 99, 116] := hx0.trans hact
    have HR := Go.Lib.hid hr0
    by_cases h7 : ws.length = 7
    · have A := act34_seven ws w.heap.size (w.alloc (.cells (strs ws) 9)) EW h7 hmem hcell
      have H7 := Go.Lib.hid h7
      rw [h7] at S
      clear hcell hX hlen hx0 hact hr0 h7 hmem
      go_enter Tryd.func20, Tryd.ntmps20
      go_wp2_with fail
      refine S.mono ?_
      rintro e w1 ⟨rfl, rfl⟩
      generalize w.alloc (.cells (strs ws) 9) = W1 at *
      go_wp2_with fail
      refine A.mono ?_
      rintro e w2 ⟨⟨k, a, b, c, t, m, f, rfl, hok⟩, hb2⟩
      go_wp2
      go_ret2
      exact .inl ⟨HR.out, .inl ⟨H7.out, ⟨k, a, b, c, t, m, f, rfl, hok⟩, btr hb1 hb2⟩⟩
    · have A := fun W => act34_other (some ⟨w.heap.size, 0, none⟩) ws.length W h7
      have H7 := Go.Lib.hid h7
      rw [hlen] at S A
      clear hcell hX hlen hx0 hact hr0 h7 hmem
      go_enter Tryd.func20, Tryd.ntmps20
      go_wp2_with fail
      refine S.mono ?_
      rintro e w1 ⟨rfl, rfl⟩
      generalize w.alloc (.cells (strs ws) 9) = W1 at *
      go_wp2_with fail
      refine (A _).mono ?_
      rintro e w2 ⟨rfl, rfl⟩
      go_wp2
      go_ret2
      exact .inl ⟨HR.out, .inr ⟨H7.out, rfl, hb1⟩⟩
  · have hq : ((mkS x0).toList == [97, 99, 116]) = false := by rw [tl_mkS, beq_eq_false_iff_ne]; exact hact
    have HR := Go.Lib.hid (show ws.getD 0 [] ≠ [97, 99, 116] by rw [hx0]; exact hact)
    clear hact
    by_cases h2 : ws.length = 2
    · have hr1 : ∃ x1, ws = [x0, x1] := by
        clear S hb1 hX hlen hcell c0 EW HR hq hmem
        match ws, h2 with
        | [y0, y1], _ => exact ⟨y1, by rw [show y0 = x0 from hx0]⟩
      obtain ⟨x1, rfl⟩ := hr1
      have c1 : (w.alloc (.cells (strs [x0, x1]) 9)).cell? ⟨w.heap.size, 1, none⟩ = some (.string (mkS x1)) := hcell 1 (by simp)
      have hl1 : (mkS x1).size ≤ 1048576 := hmem x1 (by simp)
      rw [h2] at S
      clear hcell hX hlen hx0 h2 hmem
      by_cases hby : x0 = [98, 121, 116, 101, 115]
      · have hq2 : ((mkS x0).toList == [98, 121, 116, 101, 115]) = true := by rw [tl_mkS, hby]; rfl
        clear hby
        go_enter Tryd.func20, Tryd.ntmps20
        go_wp2_with fail
        refine S.mono ?_
        rintro e w1 ⟨rfl, rfl⟩
        generalize w.alloc (.cells (strs [x0, x1]) 9) = W1 at *
        go_wp2_with fail
        refine (text35_any (mkS x1) W1 hl1).mono ?_
        rintro e w2 ⟨t, b, rfl, -, hb2⟩
        have c02 := bcl hb2 c0
        have kb := Go.Lib.run_convert_string_bytes (P := Tryd.prog) w2 9 37 5 t Tryd.underlying9 Tryd.underlying37 Tryd.underlying5
        have hb3 := btr (btr hb1 hb2) (conv_below w2 5 t)
        go_wp2
        go_ret2
        exact .inr ⟨HR.out, _, _, rfl, .inr ⟨_, _, rfl, by decide⟩, hb3⟩
      · have hq2 : ((mkS x0).toList == [98, 121, 116, 101, 115]) = false := by rw [tl_mkS, beq_eq_false_iff_ne]; exact hby
        clear hby
        by_cases hru : x0 = [114, 117, 110]
        · have hq3 : ((mkS x0).toList == [114, 117, 110]) = true := by rw [tl_mkS, hru]; rfl
          clear hru
          go_enter Tryd.func20, Tryd.ntmps20
          go_wp2_with fail
          refine S.mono ?_
          rintro e w1 ⟨rfl, rfl⟩
          generalize w.alloc (.cells (strs [x0, x1]) 9) = W1 at *
          go_wp2_with fail
          refine (number36_any (mkS x1) W1 hl1 EW).mono ?_
          rintro e w2 ⟨n, b, rfl, -, hb2⟩
          go_wp2
          go_ret2
          exact .inr ⟨HR.out, _, _, rfl, .inr ⟨_, _, rfl, by decide⟩, btr hb1 hb2⟩
        · have hq3 : ((mkS x0).toList == [114, 117, 110]) = false := by rw [tl_mkS, beq_eq_false_iff_ne]; exact hru
          clear hru
          go_enter Tryd.func20, Tryd.ntmps20
          go_wp2_with fail
          refine S.mono ?_
          rintro e w1 ⟨rfl, rfl⟩
          generalize w.alloc (.cells (strs [x0, x1]) 9) = W1 at *
          go_wp2
          go_ret2
          exact .inr ⟨HR.out, _, _, rfl, .inl rfl, hb1⟩
    · by_cases h1 : ws.length = 1
      · rw [h1] at S
        clear hcell hX hlen hx0 h2 h1 hmem
        go_enter Tryd.func20, Tryd.ntmps20
        go_wp2_with fail
        refine S.mono ?_
        rintro e w1 ⟨rfl, rfl⟩
        generalize w.alloc (.cells (strs ws) 9) = W1 at *
        go_wp2
        all_goals
          go_ret2
          first
            | exact .inr ⟨HR.out, _, _, rfl, .inl rfl, hb1⟩
            | exact .inr ⟨HR.out, _, _, rfl, .inr ⟨_, _, rfl, by decide⟩, hb1⟩
      · have hd2 : ((ws.length : Int) == 2) = false := by rw [beq_eq_false_iff_ne]; omega
        have hd1 : ((ws.length : Int) != 1) = true := by rw [bne_iff_ne]; omega
        have hlp : 0 < ws.length := by omega
        have hlm : ws.length ≤ 1048577 := by omega
        clear hcell hX hlen hx0 h2 h1 hmem
        generalize ws.length = n at *
        go_enter Tryd.func20, Tryd.ntmps20
        go_wp2_with fail
        refine S.mono ?_
        rintro e w1 ⟨rfl, rfl⟩
        generalize w.alloc (.cells (strs ws) 9) = W1 at *
        go_wp2
        all_goals
          go_ret2
          exact .inr ⟨HR.out, _, _, rfl, .inl rfl, hb1⟩
end Go.Proofs.YtghhidaihajdmaaDoor
