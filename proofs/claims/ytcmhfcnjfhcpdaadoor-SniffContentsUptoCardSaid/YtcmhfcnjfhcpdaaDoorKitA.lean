/- Words and lemmas on bytes in memory that this seat's walks use: a row of bytes that the call itself made, read, written and turned back into a string. -/
import Derived.WalkKit
import Derived.WalkSpells
import Derived.WalkLawsBesides
import Derived.Lib.ConvBytes
import Derived.Laws.BytesArg
import Derived.Lib.Hide
import Derived.Outline
namespace Go.Proofs.YtcmhfcnjfhcpdaaDoor
open Go.RowKit

/-- A string of bytes. -/
def mkS (l : List UInt8) : ByteArray := ⟨l.toArray⟩
theorem mkS_data (l : List UInt8) : (mkS l).data.toList = l := rfl
theorem mkS_self (s : ByteArray) : mkS s.data.toList = s := rfl
theorem mkS_size (l : List UInt8) : (mkS l).size = l.length := rfl
theorem mkS_inj {a b : List UInt8} (h : mkS a = mkS b) : a = b := by
  have := congrArg (fun s => s.data.toList) h
  simpa [mkS] using this
theorem dlen (s : ByteArray) : s.data.toList.length = s.size := by rw [Array.length_toList]; rfl

theorem cell_alloc {w : World} {a : Addr} {v : Value} (h : w.cell? a = some v) (o : Obj) : (w.alloc o).cell? a = some v := by
  rw [World.cell?_alloc_lt _ _ _ (World.block_lt_of_cell? w a h)]; exact h
/-- A cell that was there is there. -/
theorem bcl {w w1 : World} (hb : Below w.heap.size w w1) {a : Addr} {v : Value} (hc : w.cell? a = some v) : w1.cell? a = some v := (hb.cell (World.block_lt_of_cell? w a hc)).trans hc
theorem btr {w w1 w2 : World} (h : Below w.heap.size w w1) (k : Below w1.heap.size w1 w2) : Below w.heap.size w w2 := h.trans (k.mono h.size)
theorem bal {w w1 : World} (h : Below w.heap.size w w1) (o : Obj) : Below w.heap.size w (w1.alloc o) := h.alloc h.size o
theorem ret_bool {a b : Bool} (h : a = b) : Ending.returned (.bool a) = .returned (.bool b) := by rw [h]
theorem ret_int {k : IntKind} {a b : Int} (h : a = b) : Ending.returned (.int k a) = .returned (.int k b) := by rw [h]
theorem ret_str {a b : ByteArray} (h : a = b) : Ending.returned (.string a) = .returned (.string b) := by rw [h]

theorem at_new (w : World) (o : Obj) (n : Nat) (hn : n = w.heap.size) : (w.alloc o).heap[n]? = some o := by
  subst hn
  show (w.heap.push o)[w.heap.size]? = some o
  simp
theorem at_old {w : World} {n : Nat} {x : Obj} (h : w.heap[n]? = some x) (o : Obj) : (w.alloc o).heap[n]? = some x := by
  have hl := (Array.getElem?_eq_some_iff.1 h).1
  show (w.heap.push o)[n]? = some x
  rw [Array.getElem?_push, if_neg (by omega)]
  exact h
theorem bblk {w w1 : World} (hb : Below w.heap.size w w1) {n : Nat} {x : Obj} (h : w.heap[n]? = some x) : w1.heap[n]? = some x :=
  (hb.block n (Array.getElem?_eq_some_iff.1 h).1).trans h
theorem blk_lt {w : World} {n : Nat} {x : Obj} (h : w.heap[n]? = some x) : n < w.heap.size := (Array.getElem?_eq_some_iff.1 h).1
/-- All cells of a block, as one rule. -/
theorem blk_cells {w : World} {b : Nat} {vs : Array Value} {e : TypeId} {fr : Nat × Nat} (h : w.heap[b]? = some (.cells vs e fr)) : ∀ j, w.cell? ⟨b, j, none⟩ = vs[j]? := by
  intro j
  simp [World.cell?, h]
theorem cast_beq (a b : Nat) : ((a : Int) == (b : Int)) = decide (a = b) := by
  rw [Bool.eq_iff_iff, beq_iff_eq, decide_eq_true_iff]; omega

/-- Bytes as cells. -/
def u8s (l : List UInt8) : List Value := l.map fun b => Value.int .u8 b.toNat
theorem u8s_length (l : List UInt8) : (u8s l).length = l.length := by simp [u8s]

/-- Block g is a row of bytes (of element type e), z behind them. -/
structure BRow (w : World) (g e : Nat) (l : List UInt8) (z : List Value) (fr : Nat × Nat) : Prop where
  blk : w.heap[g]? = some (.cells (u8s l ++ z).toArray e fr)
  fr : fr = (0, 0) ∨ l.length ≤ fr.1

theorem BRow.lt {w : World} {g e : Nat} {l : List UInt8} {z : List Value} {fr : Nat × Nat} (h : BRow w g e l z fr) : g < w.heap.size := (Array.getElem?_eq_some_iff.1 h.blk).1
theorem BRow.cell {w : World} {g e : Nat} {l : List UInt8} {z : List Value} {fr : Nat × Nat} (h : BRow w g e l z fr) {k : Nat} (hk : k < l.length) :
    w.cell? ⟨g, k, none⟩ = some (.int .u8 (l[k]).toNat) := by
  simp [World.cell?, h.blk, u8s, List.getElem?_append, hk]
theorem BRow.frozen {w : World} {g e : Nat} {l : List UInt8} {z : List Value} {fr : Nat × Nat} (h : BRow w g e l z fr) {k : Nat} (hk : k < l.length) :
    w.frozen? ⟨g, k, none⟩ = false := by
  have := h.fr
  obtain ⟨lo, hi⟩ := fr
  simp [World.frozen?, h.blk]
  simp at this
  intro; omega
theorem BRow.set {w : World} {g e : Nat} {l : List UInt8} {z : List Value} {fr : Nat × Nat} (h : BRow w g e l z fr) {k : Nat} (hk : k < l.length) (b : UInt8) {n : Int} (hn : n = b.toNat) :
    BRow (w.setCell ⟨g, k, none⟩ (.int .u8 n)) g e (l.set k b) z fr := by
  subst hn
  refine ⟨?_, by simpa using h.fr⟩
  have hb := h.blk
  simp only [World.setCell, Array.getElem?_modify, if_true, hb, Option.map_some]
  simp [u8s, List.setIfInBounds_toArray, hk, List.map_set]
theorem BRow.keep {w w' : World} {g e : Nat} {l : List UInt8} {z : List Value} {fr : Nat × Nat} (h : BRow w g e l z fr) (hb : w'.heap[g]? = w.heap[g]?) : BRow w' g e l z fr :=
  ⟨hb.trans h.blk, h.fr⟩
theorem BRow.below {w w' : World} {g e : Nat} {l : List UInt8} {z : List Value} {fr : Nat × Nat} (h : BRow w g e l z fr) (hb : Below w.heap.size w w') : BRow w' g e l z fr :=
  h.keep (hb.block g h.lt)

theorem BRow.conv (w : World) (e : Nat) (s : ByteArray) : BRow (Go.Lib.bytesWorld w e s) w.heap.size e s.data.toList (List.replicate (grownCap w s.size 0 e - s.size) (.int .u8 0)) ((Go.Lib.bytesCells w e s).size, (Go.Lib.bytesCells w e s).size + 1) := by
  refine ⟨?_, .inr ?_⟩
  · rw [Go.Lib.bytesWorld_at_new]
    congr 2
    apply Array.ext'
    simp [Go.Lib.bytesCells, u8s]
  · simp [Go.Lib.bytesCells]
theorem conv_below (w : World) (e : Nat) (s : ByteArray) : Below w.heap.size w (Go.Lib.bytesWorld w e s) :=
  ⟨rfl, rfl, rfl, by rw [Go.Lib.bytesWorld_size]; omega, fun i hi => Go.Lib.bytesWorld_at_old w e s i hi⟩
theorem strOfNums_u8 (l : List UInt8) : strOfNums (l.map fun b => (b.toNat : Int)) = mkS l := by
  simp only [strOfNums, mkS, List.map_map]
  congr 2
  conv => rhs; rw [← List.map_id l]
  apply List.map_congr_left
  intro a _
  simp
theorem BRow.back {P : Program} {w : World} {g e : Nat} {l : List UInt8} {z : List Value} {fr : Nat × Nat} (h : BRow w g e l z fr) (src e' cap n : Nat) (hn : n = l.length)
    (hs : P.underlying src = some (.slice e')) (he : P.underlying e' = some (.int .u8)) (dst : Nat) (hd : P.underlying dst = some .string) :
    (convert src dst (.slice (some ⟨g, 0, none⟩) n cap)).run P w = .ok (.string (mkS l)) w := by
  subst hn
  rw [← strOfNums_u8]
  refine run_convert_bytes_arg w src e' hs he g 0 l.length cap (l.map fun b => (b.toNat : Int)) (by simp) (fun i hi => ?_) dst hd
  rw [Nat.zero_add, h.cell hi]
  simp [List.getD_eq_getElem?_getD, hi]

/-- The first k bytes turned by f, the others as they were. -/
def mapTo (f : UInt8 → UInt8) (l : List UInt8) (k : Nat) : List UInt8 := (l.take k).map f ++ l.drop k
theorem mapTo_length (f : UInt8 → UInt8) (l : List UInt8) (k : Nat) : (mapTo f l k).length = l.length := by simp [mapTo]; omega
theorem mapTo_zero (f : UInt8 → UInt8) (l : List UInt8) : mapTo f l 0 = l := rfl
theorem mapTo_full (f : UInt8 → UInt8) (l : List UInt8) (k : Nat) (h : l.length ≤ k) : mapTo f l k = l.map f := by simp [mapTo, List.take_of_length_le h, List.drop_of_length_le h]
theorem mapTo_get (f : UInt8 → UInt8) (l : List UInt8) (k : Nat) (h : k < l.length) : (mapTo f l k)[k]'(by rw [mapTo_length]; exact h) = l[k] := by
  simp [mapTo, Nat.min_eq_left (Nat.le_of_lt h)]
theorem mapTo_set (f : UInt8 → UInt8) (l : List UInt8) (k : Nat) (h : k < l.length) : (mapTo f l k).set k (f l[k]) = mapTo f l (k + 1) := by
  simp only [mapTo]
  rw [List.set_append_right _ _ (by simp; omega), List.take_succ_eq_append_getElem h, List.drop_eq_getElem_cons h]
  simp only [List.length_map, List.length_take, Nat.min_eq_left (Nat.le_of_lt h), Nat.sub_self, List.set_cons_zero, List.map_append, List.map_cons, List.map_nil, List.append_assoc, List.cons_append, List.nil_append]
theorem mapTo_same (f : UInt8 → UInt8) (l : List UInt8) (k : Nat) (h : k < l.length) (hf : f l[k] = l[k]) : mapTo f l k = mapTo f l (k + 1) := by
  simp only [mapTo, List.take_succ_eq_append_getElem h, List.drop_eq_getElem_cons h, List.map_append, List.map_cons, List.map_nil, List.append_assoc, List.cons_append, List.nil_append, hf]

/-- a to z for A to Z. -/
def lowB (c : UInt8) : UInt8 := if 65 ≤ c ∧ c ≤ 90 then c + 32 else c
/-- A to Z for a to z. -/
def larB (c : UInt8) : UInt8 := if 97 ≤ c ∧ c ≤ 122 then c - 32 else c
theorem lowB_yes {c : UInt8} (h1 : (65 : Int) ≤ c.toNat) (h2 : (c.toNat : Int) ≤ 90) : ((c.toNat : Int) + 32) = (lowB c).toNat := by
  have h : 65 ≤ c ∧ c ≤ 90 := by simp [UInt8.le_iff_toNat_le]; omega
  rw [lowB, if_pos h, UInt8.toNat_add]
  simp; omega
theorem lowB_no {c : UInt8} (h : ¬ ((65 : Int) ≤ c.toNat ∧ (c.toNat : Int) ≤ 90)) : lowB c = c := by
  rw [lowB, if_neg]
  simp [UInt8.le_iff_toNat_le]
  intro h1
  omega
theorem larB_yes {c : UInt8} (h1 : (97 : Int) ≤ c.toNat) (h2 : (c.toNat : Int) ≤ 122) : ((c.toNat : Int) - 32) = (larB c).toNat := by
  have h : 97 ≤ c ∧ c ≤ 122 := by simp [UInt8.le_iff_toNat_le]; omega
  rw [larB, if_pos h, UInt8.toNat_sub]
  simp; omega
theorem larB_no {c : UInt8} (h : ¬ ((97 : Int) ≤ c.toNat ∧ (c.toNat : Int) ≤ 122)) : larB c = c := by
  rw [larB, if_neg]
  simp [UInt8.le_iff_toNat_le]
  intro h1
  omega
theorem lowB_cases (p : UInt8 → Bool) (h : (List.range 256).all (fun n => p (UInt8.ofNat n)) = true) (c : UInt8) : p c = true := by
  have := List.all_eq_true.1 h c.toNat (by simp [List.mem_range]; exact c.toNat_lt)
  simpa using this
/-- A round of a loop that turns bytes in place: a byte is written, or left. -/
theorem BRow.turn {f : UInt8 → UInt8} {w : World} {g e : Nat} {l : List UInt8} {z : List Value} {fr : Nat × Nat} {k : Nat} (h : BRow w g e (mapTo f l k) z fr) (hk : k < l.length) {n : Int} (hn : n = (f l[k]).toNat) :
    BRow (w.setCell ⟨g, k, none⟩ (.int .u8 n)) g e (mapTo f l (k + 1)) z fr := by
  have := h.set (k := k) (by rw [mapTo_length]; exact hk) (f l[k]) hn
  rwa [mapTo_set f l k hk] at this
theorem BRow.leave {f : UInt8 → UInt8} {w : World} {g e : Nat} {l : List UInt8} {z : List Value} {fr : Nat × Nat} {k : Nat} (h : BRow w g e (mapTo f l k) z fr) (hk : k < l.length) (hf : f l[k] = l[k]) :
    BRow w g e (mapTo f l (k + 1)) z fr := by rwa [mapTo_same f l k hk hf] at h
theorem lowB_lowB (c : UInt8) : lowB (lowB c) = lowB c := by
  have := lowB_cases (fun c => lowB (lowB c) == lowB c) (by decide +kernel) c
  simpa using this
theorem lowB_larB (c : UInt8) : lowB (larB c) = lowB c := by
  have := lowB_cases (fun c => lowB (larB c) == lowB c) (by decide +kernel) c
  simpa using this
def low (l : List UInt8) : List UInt8 := l.map lowB
def lar (l : List UInt8) : List UInt8 := l.map larB
theorem low_low (l : List UInt8) : low (low l) = low l := by simp [low, lowB_lowB]
theorem low_lar (l : List UInt8) : low (lar l) = low l := by simp [low, lar, lowB_larB]
theorem low_length (l : List UInt8) : (low l).length = l.length := by simp [low]
theorem lar_length (l : List UInt8) : (lar l).length = l.length := by simp [lar]

end Go.Proofs.YtcmhfcnjfhcpdaaDoor
