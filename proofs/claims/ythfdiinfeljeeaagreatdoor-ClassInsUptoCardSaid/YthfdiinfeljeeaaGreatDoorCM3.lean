/- Texts of one seat, merged: lemmas and contracts that the law leans on. -/
import Derived.Test.YthfdiinfeljeeaaGreatDoorCM2
import Derived.ChangeSlices
import Derived.Deep.LoopGhost
import Derived.Deep.DeepMust
import Derived.Lib.RuneBytes
import Derived.Laws.Cover4
import Derived.Laws.RangeAny
import Derived.Laws.Runes
import Derived.WalkMore
import Derived.Deep.CutBlock
import Derived.Deep.DeepCutAuto
import Derived.Deep.QuietTactic
import Derived.Lib.ValidLaws
import Derived.Lib.OthersKept
import Derived.Lib.QuoteLoop
import Derived.Lib.SpaceUEq
import Derived.Lib.MapLaws
import Derived.Laws.BytesArg
import Derived.Lib.ConvBytes
import Derived.Shelf.Strings.SlTrimAscii
import Derived.Lib.SlTrimSet
/- Bytes in a slice, read: among the arguments, cut, taken. -/
namespace Go.Proofs.YthfdiinfeljeeaaGreatDoor
open Go.RowKit Go.ChangeShapes
/-- Bytes as numbers. -/
def nums (l : List UInt8) : List Int := l.map fun b => (b.toNat : Int)
theorem nums_length (l : List UInt8) : (nums l).length = l.length := by simp [nums]
/-- The bytes L lie at the slice's place. -/
def RdB (w : World) (oa : Option Addr) (L : List UInt8) : Prop := ∀ j (h : j < L.length), ∃ ad, oa = some ad ∧ w.cell? (ad.add j) = some (.int .u8 (L[j]).toNat)
theorem RdB.below {w w1 : World} {oa : Option Addr} {L : List UInt8} (h : RdB w oa L) (hb : Below w.heap.size w w1) : RdB w1 oa L := fun j hj => by
  obtain ⟨ad, h1, h2⟩ := h j hj
  exact ⟨ad, h1, bcl hb h2⟩
theorem RdB.cut {w : World} {oa : Option Addr} {L : List UInt8} (h : RdB w oa L) (k : Nat) : RdB w (oa.map (·.add k)) (L.drop k) := fun j hj => by
  rw [List.length_drop] at hj
  obtain ⟨ad, rfl, hc⟩ := h (k + j) (by omega)
  refine ⟨_, rfl, ?_⟩
  rw [show (ad.add k).add j = ad.add (k + j) by unfold Addr.add; by_cases hk : k = 0 <;> by_cases hj : j = 0 <;> simp [hk, hj, Nat.add_assoc], hc]
  simp
theorem RdB.cut_at {w : World} {ad : Addr} {L : List UInt8} (h : RdB w (some ad) L) (k : Nat) (hk : 0 < k) : RdB w (some ⟨ad.block, ad.off + k, none⟩) (L.drop k) := by
  have := h.cut k
  rwa [Option.map_some, show ad.add k = ⟨ad.block, ad.off + k, none⟩ by unfold Addr.add; rw [if_neg (by omega)]] at this
theorem RdB.take {w : World} {oa : Option Addr} {L : List UInt8} (h : RdB w oa L) (k : Nat) : RdB w oa (L.take k) := fun j hj => by
  rw [List.length_take] at hj
  obtain ⟨ad, h1, h2⟩ := h j (by omega)
  exact ⟨ad, h1, by rw [h2, List.getElem_take]⟩
theorem RdB.cut_cap {w : World} {oa : Option Addr} {L : List UInt8} (h : RdB w oa L) (k cap : Nat) (hc : L.length ≤ cap) : RdB w (if cap = k then oa else oa.map (·.add k)) (L.drop k) := by
  by_cases e : cap = k
  · rw [if_pos e]
    exact fun j hj => by rw [List.length_drop] at hj; omega
  · rw [if_neg e]
    exact h.cut k
theorem own_read {w : World} {base e n m c : Nat} {oa : Option Addr} {xs : List Value} (h : w.ownsRow base e 1 (.slice oa m c) n xs) : m = n ∧ ∀ j u, xs[j]? = some u → ∃ ad, oa = some ad ∧ w.cell? (ad.add j) = some u := by
  obtain ⟨h1, h2⟩ := h
  rcases h2 with ⟨hv, h0⟩ | ⟨g, cap, cur, hv, _, hh, _, _, _, ht⟩
  · injection hv with e1 e2 e3
    subst h0 e2
    refine ⟨rfl, fun j u hu => ?_⟩
    have : xs = [] := List.eq_nil_of_length_eq_zero (by simpa using h1)
    rw [this] at hu
    cases hu
  · injection hv with e1 e2 e3
    subst e1 e2
    refine ⟨rfl, fun j u hu => ⟨_, rfl, ?_⟩⟩
    have hj : j < xs.length := by
      rcases Nat.lt_or_ge j xs.length with h' | h'
      · exact h'
      · rw [List.getElem?_eq_none h'] at hu; cases hu
    have ha : (Addr.add ⟨g, 0, none⟩ j) = ⟨g, j, none⟩ := by
      unfold Addr.add
      split
      · next h0 => subst h0; rfl
      · simp
    rw [ha, blk_cells hh, ← hu, ← ht, List.getElem?_take, if_pos (by omega)]
    simp
theorem u8_of {n : Int} (h : (Lit.int .u8 n).wf = true) : ∃ b : UInt8, n = (b.toNat : Int) := by
  have h2 : 0 ≤ n ∧ n < 256 := by
    have e1 : IntKind.u8.min = 0 := rfl
    have e2 : IntKind.u8.max = 255 := rfl
    simp [Lit.wf, e1, e2] at h
    omega
  refine ⟨UInt8.ofNat n.toNat, ?_⟩
  rw [UInt8.toNat_ofNat']
  omega
theorem open_bytes {H : Type} {enc : TypeId × Value → H} {P : Program} {w : World} {spare : Nat → Bool} {held : Bool} {t e : TypeId} {fuel : Nat} {v : Value} {x : DataW H × List MemPlace} (ht : P.underlying t = some (.slice e)) (he : P.underlying e = some (.int .u8)) (hc : P.cellsOf e = 1)
    (h : DataW.trod enc P w 0 spare held fuel t [v] = some x) : ∃ oa n cap L, v = .slice oa n cap ∧ n = L.length ∧ n ≤ maxLen ∧ RdB w oa L ∧ (x.1 = .nil ∧ L = [] ∨ ∃ r, x.1 = .slice (lits .u8 (nums L)) r) := by
  rcases open_ints ht he hc h with ⟨hv, rfl⟩ | ⟨a, len, cap, zs, hv, _, hlc, hcm, hzl, rfl, hcell, hwf⟩
  · simp only [List.cons.injEq, and_true] at hv
    exact ⟨none, 0, 0, [], hv, rfl, Nat.zero_le _, (fun j hj => absurd hj (by simp)), .inl ⟨rfl, rfl⟩⟩
  · simp only [List.cons.injEq, and_true] at hv
    have hz : len ≤ zs.length := by rw [hzl]; split <;> omega
    obtain ⟨L, hL⟩ : ∃ L : List UInt8, zs.take len = nums L := by
      have hall : ∀ n ∈ zs.take len, (Lit.int .u8 n).wf = true := fun n hn => hwf n (List.mem_of_mem_take hn)
      generalize zs.take len = zt at hall
      clear hv hlc hcm hzl hcell hwf hz
      induction zt with
      | nil => exact ⟨[], rfl⟩
      | cons n r ih =>
        obtain ⟨b, hb⟩ := u8_of (hall n List.mem_cons_self)
        obtain ⟨L, hL⟩ := ih fun m hm => hall m (List.mem_cons_of_mem _ hm)
        exact ⟨b :: L, by rw [hL, hb]; rfl⟩
    have hlen : len = L.length := by
      have := congrArg List.length hL
      rw [List.length_take, nums_length] at this
      omega
    refine ⟨some a, len, cap, L, hv, hlen, Nat.le_trans hlc hcm, fun j hj => ⟨a, rfl, ?_⟩, .inr ⟨_, by rw [hL]⟩⟩
    rw [hcell j (by omega)]
    have h1 : (zs.take len)[j]? = (nums L)[j]? := by rw [hL]
    rw [List.getElem?_take, if_pos (by omega)] at h1
    have h2 : (nums L)[j]? = some ((L[j]).toNat : Int) := by simp [nums, hj]
    rw [h2] at h1
    rw [List.getD_eq_getElem?_getD, h1]
    rfl
theorem open_bytesv {H : Type} {enc : TypeId × Value → H} {P : Program} {w : World} {spare : Nat → Bool} {held : Bool} {r : Reach} {b0 : Nat} {t e : TypeId} {v : Value} {d : DataW H} {p : List MemPlace} (ht : P.underlying t = some (.slice e)) (he : P.underlying e = some (.int .u8)) (hc : P.cellsOf e = 1)
    (hv : Value.okWide P w r b0 t v) (h : DataW.Trod enc P w 0 spare held t v d p) : ∃ oa n cap L, v = .slice oa n cap ∧ n = L.length ∧ n ≤ maxLen ∧ RdB w oa L ∧ (d = .nil ∧ L = [] ∨ ∃ r, d = .slice (lits .u8 (nums L)) r) := by
  obtain ⟨a, len, cap, rfl⟩ := Go.WideShapes.okWide_slice ht hv
  obtain ⟨fuel, hf⟩ := h
  exact open_bytes ht he hc (x := (d, p)) hf
theorem open_bytesc {H : Type} {enc : TypeId × Value → H} {P : Program} {w : World} {spare : Nat → Bool} {held : Bool} {r : Reach} {b0 : Nat} {t e : TypeId} {v : Value} {d : DataW H} {p : List MemPlace} (ht : P.underlying t = some (.slice e)) (he : P.underlying e = some (.int .u8)) (hc : P.cellsOf e = 1)
    (hv : Value.okWide P w r b0 t v) (h : DataW.Trod enc P w 0 spare held t v d p) : ∃ oa n cap L, v = .slice oa n cap ∧ n = L.length ∧ n ≤ maxLen ∧ n ≤ cap ∧ RdB w oa L ∧ (d = .nil ∧ L = [] ∨ ∃ r, d = .slice (lits .u8 (nums L)) r) := by
  obtain ⟨oa, n, cap, L, rfl, h1, h2, h3, h4⟩ := open_bytesv ht he hc hv h
  refine ⟨oa, n, cap, L, rfl, h1, h2, ?_, h3, h4⟩
  obtain ⟨fuel, hf⟩ := h
  rcases open_ints (x := (d, p)) ht he hc hf with ⟨hv2, _⟩ | ⟨a, len, cap2, zs, hv2, _, hlc, _⟩
  · have : Value.slice oa n cap = .slice none 0 0 := by simpa [Value.cells] using hv2
    injection this with e1 e2 e3
    omega
  · have : Value.slice oa n cap = .slice (some a) len cap2 := by simpa [Value.cells] using hv2
    injection this with e1 e2 e3
    omega
end Go.Proofs.YthfdiinfeljeeaaGreatDoor
/- The reference's decoder of UTF-8, and its encoder (turned from chapter 5's seat). -/
namespace Go.Proofs.YthfdiinfeljeeaaGreatDoor.U
open Go.RowKit
/-- A run of a machine that tells numbers. -/
def run {S : Type} (f : S → Int → S × List Int) : S → List Int → S × List Int
  | s, [] => (s, [])
  | s, c :: r => ((run f (f s c).1 r).1, (f s c).2 ++ (run f (f s c).1 r).2)
theorem run_append {S : Type} (f : S → Int → S × List Int) (s : S) (a b : List Int) : run f s (a ++ b) = ((run f (run f s a).1 b).1, (run f s a).2 ++ (run f (run f s a).1 b).2) := by
  induction a generalizing s with
  | nil => simp [run]
  | cons c r ih => simp [run, ih, List.append_assoc]
theorem run_snoc {S : Type} (f : S → Int → S × List Int) (s : S) (a : List Int) (c : Int) : run f s (a ++ [c]) = ((f (run f s a).1 c).1, (run f s a).2 ++ (f (run f s a).1 c).2) := by
  rw [run_append]; simp [run]
/-- What UTF-8 keeps: what was read, how many bytes are wanted, between which the next lies. -/
structure U8 where
  h : Int
  w : Int
  lo : Int
  hi : Int
def U8.zero : U8 := ⟨0, 0, 0, 0⟩
def U8.fresh (s : U8) (c : Int) : U8 × List Int :=
  if c < 128 then (s, [c])
  else if 194 ≤ c ∧ c ≤ 223 then (⟨c - 192, 1, 128, 191⟩, [])
  else if c = 224 then (⟨0, 2, 160, 191⟩, [])
  else if c = 237 then (⟨13, 2, 128, 159⟩, [])
  else if 224 < c ∧ c ≤ 239 then (⟨c - 224, 2, 128, 191⟩, [])
  else if c = 240 then (⟨0, 3, 144, 191⟩, [])
  else if 240 < c ∧ c < 244 then (⟨c - 240, 3, 128, 191⟩, [])
  else if c = 244 then (⟨4, 3, 128, 143⟩, [])
  else (s, [65533])
def U8.step (s : U8) (c : Int) : U8 × List Int :=
  if 0 < s.w then
    if s.lo ≤ c ∧ c ≤ s.hi then (⟨64 * s.h + (c - 128), s.w - 1, 128, 191⟩, if s.w = 1 then [64 * s.h + (c - 128)] else [])
    else ((U8.fresh ⟨s.h, 0, s.lo, s.hi⟩ c).1, 65533 :: (U8.fresh ⟨s.h, 0, s.lo, s.hi⟩ c).2)
  else U8.fresh s c
def U8.fin (s : U8) : List Int := if 0 < s.w then [65533] else []
/-- The state of a decoder under way. -/
def U8.ok (s : U8) : Prop := (s.w = 0 ∨ s.w = 1 ∧ s.h < 32768 ∨ s.w = 2 ∧ s.h < 512 ∨ s.w = 3 ∧ s.h < 8) ∧ 0 ≤ s.h ∧ (0 < s.w → 128 ≤ s.lo ∧ s.hi ≤ 191)
theorem U8.ok_zero : U8.zero.ok := by simp [U8.ok, U8.zero]
theorem U8.fresh_ok (s : U8) (c : Int) (h : s.ok) (_h0 : s.w = 0) : (s.fresh c).1.ok := by
  unfold U8.fresh
  repeat' split
  all_goals first
    | exact h
    | (dsimp only [U8.ok]; refine ⟨?_, ?_, ?_⟩ <;> omega)
theorem U8.step_ok (s : U8) (c : Int) (h : s.ok) : (s.step c).1.ok := by
  have h' := h
  obtain ⟨h1, h2, h3⟩ := h
  unfold U8.step
  split
  · split
    · dsimp only [U8.ok]
      refine ⟨?_, ?_, ?_⟩ <;> omega
    · exact U8.fresh_ok _ c ⟨.inl rfl, h2, by intro h; exact absurd h (by simp)⟩ rfl
  · exact U8.fresh_ok s c h' (by omega)
/-- What UTF-16 keeps: the byte and the unit that wait. -/
structure U16 where
  half : Int
  lead : Int
def U16.zero : U16 := ⟨-1, -1⟩
def U16.fresh (u : Int) : U16 × List Int :=
  if 56320 ≤ u ∧ u ≤ 57343 then (⟨-1, -1⟩, [65533])
  else if 55296 ≤ u ∧ u ≤ 56319 then (⟨-1, u⟩, [])
  else (⟨-1, -1⟩, [u])
def U16.unit (big : Bool) (s : U16) (c : Int) : Int := if big then 256 * s.half + c else s.half + 256 * c
def U16.step (big : Bool) (s : U16) (c : Int) : U16 × List Int :=
  if s.half < 0 then (⟨c, s.lead⟩, [])
  else if 0 ≤ s.lead then
    if 56320 ≤ U16.unit big s c ∧ U16.unit big s c ≤ 57343 then (⟨-1, -1⟩, [65536 + (s.lead - 55296) * 1024 + U16.unit big s c - 56320])
    else ((U16.fresh (U16.unit big s c)).1, 65533 :: (U16.fresh (U16.unit big s c)).2)
  else U16.fresh (U16.unit big s c)
def U16.fin (s : U16) : List Int := if 0 ≤ s.half ∨ 0 ≤ s.lead then [65533] else []
def U16.ok (s : U16) : Prop := (s.half = -1 ∨ 0 ≤ s.half ∧ s.half < 256) ∧ (s.lead = -1 ∨ 55296 ≤ s.lead ∧ s.lead ≤ 56319)
theorem U16.ok_zero : U16.zero.ok := by simp [U16.ok, U16.zero]
theorem U16.fresh_ok (u : Int) : (U16.fresh u).1.ok := by
  unfold U16.fresh
  repeat' split
  all_goals (dsimp only [U16.ok]; omega)
theorem U16.step_ok (big : Bool) (s : U16) (c : Int) (hc : 0 ≤ c ∧ c < 256) (h : s.ok) : (s.step big c).1.ok := by
  obtain ⟨h1, h2⟩ := h
  unfold U16.step
  split
  · dsimp only [U16.ok]; omega
  · split
    · split
      · simp [U16.ok]
      · exact U16.fresh_ok _
    · exact U16.fresh_ok _
def one (up : Int → Int) (c : Int) : Int := if c < 128 then c else up c
/-- Everything below B is as it lay, but block u. -/
structure But (u B : Nat) (w w' : World) : Prop where
  os : w'.os = w.os
  tape : w'.tape = w.tape
  output : w'.output = w.output
  size : w.heap.size ≤ w'.heap.size
  block : ∀ k, k < B → k ≠ u → w'.heap[k]? = w.heap[k]?
theorem But.refl (u B : Nat) (w : World) : But u B w w := ⟨rfl, rfl, rfl, Nat.le_refl _, fun _ _ _ => rfl⟩
theorem But.trans {u B : Nat} {a b c : World} (h : But u B a b) (k : But u B b c) : But u B a c :=
  ⟨k.os.trans h.os, k.tape.trans h.tape, k.output.trans h.output, Nat.le_trans h.size k.size, fun i hi hu => (k.block i hi hu).trans (h.block i hi hu)⟩
theorem But.mono {u B C : Nat} {a b : World} (h : But u B a b) (hc : C ≤ B) : But u C a b := ⟨h.os, h.tape, h.output, h.size, fun i hi hu => h.block i (by omega) hu⟩
theorem But.of {u B : Nat} {a b : World} (h : Below B a b) : But u B a b := ⟨h.os, h.tape, h.output, h.size, fun i hi _ => h.block i hi⟩
theorem But.to {u B : Nat} {a b : World} (h : But u B a b) (hu : B ≤ u) : Below B a b := ⟨h.os, h.tape, h.output, h.size, fun i hi => h.block i hi (by omega)⟩
theorem But.set {u B : Nat} {a b : World} (h : But u B a b) (i : Nat) (v : Value) : But u B a (b.setCell ⟨u, i, none⟩ v) :=
  h.trans ⟨rfl, rfl, rfl, by simp, fun k hk hu => Below.heap_setCell _ _ _ _ (fun e => hu (by first | exact e.symm | exact e))⟩
/-- The variable in block g holds a slice that owns the code points l. -/
structure OutAt (w : World) (g : Nat) (l : List Int) : Prop where
  out : ∃ v, w.heap[g]? = some (.cells #[v] 28 (0, 0)) ∧ w.ownsRow g 21 1 v l.length (l.map (Value.int .i32))
theorem OutAt.but {w w' : World} {g u : Nat} {l : List Int} (h : OutAt w g l) (hb : But u w.heap.size w w') (hu : u < g) : OutAt w' g l := by
  obtain ⟨v, h1, h2⟩ := h.out
  refine ⟨v, (hb.block g (blk_lt h1) (by omega)).trans h1, h2.1, h2.2.imp id ?_⟩
  rintro ⟨k, cap, cur, hv, hg, hh, r⟩
  exact ⟨k, cap, cur, hv, hg, (hb.block k (blk_lt hh) (by omega)).trans hh, r⟩
theorem OutAt.set {w : World} {g u : Nat} {l : List Int} (h : OutAt w g l) (hu : u < g) (i : Nat) (v : Value) : OutAt (w.setCell ⟨u, i, none⟩ v) g l := h.but ((But.refl u _ w).set i v) hu
theorem OutAt.below {w w' : World} {g : Nat} {l : List Int} (h : OutAt w g l) (hb : Below w.heap.size w w') : OutAt w' g l := by
  obtain ⟨v, h1, h2⟩ := h.out
  exact ⟨v, bblk hb h1, own_below h2 hb⟩
theorem OutAt.alloc {w : World} {g : Nat} {l : List Int} (h : OutAt w g l) (o : Obj) : OutAt (w.alloc o) g l := h.below (bal (Below.refl _ _) o)
theorem Tryz.info21 : (Tryz.prog.info? 21).map (fun i => (i.zero, i.size, i.bytes)) = some (some (.int .i32 0), 1, 4) := by kernel_rfl
theorem nums_take (L : List UInt8) (k : Nat) (h : k < L.length) : nums (L.take (k + 1)) = nums (L.take k) ++ [(L[k].toNat : Int)] := by
  unfold nums
  rw [List.take_succ_eq_append_getElem h, List.map_append]
  rfl
/-- Block d is a decoder: its coder, and has it ended. -/
def DecAt (w : World) (d : Nat) (c : Value) (over : Bool) : Prop := w.heap[d]? = some (.cells #[c, .bool over] 27 (0, 0))
theorem own_mono {w : World} {base base' e size n : Nat} {v : Value} {xs : List Value} (h : w.ownsRow base e size v n xs) (hb : base' ≤ base) : w.ownsRow base' e size v n xs :=
  ⟨h.1, h.2.imp id fun ⟨g, cap, cur, hv, hg, r⟩ => ⟨g, cap, cur, hv, Nat.le_trans hb hg, r⟩⟩
theorem own_but {w w1 : World} {u base e size n : Nat} {v : Value} {xs : List Value} (h : w.ownsRow base e size v n xs) (hu : u < base) (hb : But u w.heap.size w w1) : w1.ownsRow base e size v n xs :=
  ⟨h.1, h.2.imp id fun ⟨g, cap, cur, hv, hg, hh, r⟩ => ⟨g, cap, cur, hv, hg, (hb.block g (blk_lt hh) (by omega)).trans hh, r⟩⟩
theorem DecAt.but {w w' : World} {u B d : Nat} {c : Value} {o : Bool} (h : DecAt w d c o) (hb : But u B w w') (hd : d < B) (hu : d ≠ u) : DecAt w' d c o := (hb.block d hd hu).trans h
theorem i32_one (l : List Int) : ∀ u ∈ l.map (Value.int .i32), u.oneCell' = true := by
  intro u hu
  obtain ⟨x, _, rfl⟩ := List.mem_map.1 hu
  rfl
theorem own_setCell_lt {w : World} {base e size n d i : Nat} {v : Value} {u : Value} {xs : List Value} (h : w.ownsRow base e size u n xs) (hd : d < base) : (w.setCell ⟨d, i, none⟩ v).ownsRow base e size u n xs := ownsRow_setCell_below h hd v
/-- Where a code point stands in a list. -/
def place (l : List Int) (x : Int) : Nat := l.findIdx (· == x)
theorem Tryz.info5 : (Tryz.prog.info? 5).map (fun i => (i.zero, i.size, i.bytes)) = some (some (.int .u8 0), 1, 1) := by kernel_rfl
theorem u8_one (l : List UInt8) : ∀ u ∈ u8s l, u.oneCell' = true := by
  intro u hu
  obtain ⟨x, _, rfl⟩ := List.mem_map.1 hu
  rfl
/-- The code points X lie at the slice's place. -/
def RdR (w : World) (oa : Option Addr) (X : List Int) : Prop := ∀ j (h : j < X.length), ∃ ad, oa = some ad ∧ w.cell? (ad.add j) = some (.int .i32 X[j])
theorem RdR.below {w w1 : World} {oa : Option Addr} {X : List Int} (h : RdR w oa X) (hb : Below w.heap.size w w1) : RdR w1 oa X := fun j hj => by
  obtain ⟨ad, h1, h2⟩ := h j hj
  exact ⟨ad, h1, bcl hb h2⟩
theorem RdR.own {w : World} {base n c : Nat} {oa : Option Addr} {X : List Int} {m : Nat} (h : w.ownsRow base 21 1 (.slice oa m c) n (X.map (Value.int .i32))) : RdR w oa X := fun j hj => (own_read h).2 j _ (by simp [hj])
def units (r : Int) : List Int := if 65536 ≤ r then [55296 + (r - 65536) / 1024, 56320 + (r - 65536) % 1024] else [r]
/-- The units U are the block g. -/
def UAt (w : World) (g : Nat) (U : List Int) : Prop := w.heap[g]? = some (.cells (U.map (Value.int .i32)).toArray 21 (0, 0))
theorem UAt.cell {w : World} {g : Nat} {U : List Int} (h : UAt w g U) (j : Nat) (hj : j < U.length) : w.cell? ⟨g, j, none⟩ = some (.int .i32 U[j]) := by
  rw [blk_cells h]
  simp [hj]
/-- What UTF-8's decoder tells from a state on. -/
def tells8 (s : U8) (l : List Int) : List Int := (run U8.step s l).2 ++ U8.fin (run U8.step s l).1
theorem tells8_nil (s : U8) : tells8 s [] = s.fin := rfl
theorem tells8_cons (s : U8) (c : Int) (r : List Int) : tells8 s (c :: r) = (s.step c).2 ++ tells8 (s.step c).1 r := by
  simp only [tells8, run, List.append_assoc]
theorem step8_clean (s : U8) (c : Int) (h : s.w = 0) : s.step c = s.fresh c := by
  rw [U8.step, if_neg (by omega)]
/-- What was kept of a code point that is told says nothing more. -/
theorem tells8_clean (l : List Int) (s t : U8) (hs : s.w = 0) (ht : t.w = 0) : tells8 s l = tells8 t l := by
  induction l generalizing s t with
  | nil =>
    rw [tells8_nil, tells8_nil, U8.fin, U8.fin, if_neg (by omega), if_neg (by omega)]
  | cons c r ih =>
    rw [tells8_cons, tells8_cons, step8_clean s c hs, step8_clean t c ht]
    unfold U8.fresh
    repeat' split
    all_goals first
      | rfl
      | (show _ ++ _ = _ ++ _; rw [ih s t hs ht])
theorem tells8_zero (l : List Int) (s : U8) (hs : s.w = 0) : tells8 s l = tells8 U8.zero l := tells8_clean l s U8.zero hs rfl
/-- A byte that does not fit: a mark, and all anew. -/
theorem tells8_misfit (s : U8) (c : Int) (r : List Int) (h0 : 0 < s.w) (hr : ¬ (s.lo ≤ c ∧ c ≤ s.hi)) : tells8 s (c :: r) = 65533 :: tells8 U8.zero (c :: r) := by
  rw [← tells8_zero (c :: r) ⟨s.h, 0, s.lo, s.hi⟩ rfl, tells8_cons, tells8_cons, step8_clean ⟨s.h, 0, s.lo, s.hi⟩ c rfl, U8.step, if_pos h0, if_neg hr]
  rfl
theorem tells8_end (s : U8) (h0 : 0 < s.w) : tells8 s [] = [65533] := by rw [tells8_nil, U8.fin, if_pos h0]
theorem tells8_run (s : U8) (a b : List Int) : tells8 s (a ++ b) = (run U8.step s a).2 ++ tells8 (run U8.step s a).1 b := by
  simp only [tells8, run_append, List.append_assoc]
/-- What the reference's look at the first code point may answer: nothing yet, or a code point and how many bytes it takes. -/
def Got (T : List Int → List Int) (L : List UInt8) (fin : Bool) (r : Int) (m : Nat) : Prop :=
  (m = 0 ∧ fin = false) ∨ (0 < m ∧ m ≤ L.length ∧ T (nums L) = r :: T (nums (L.drop m)))
/-- How many bytes a first byte wants, and between which the next one lies. -/
def wantsF (c : Int) : Int × Int × Int :=
  if c < 128 then (0, 0, 0)
  else if 194 ≤ c ∧ c ≤ 223 then (1, 128, 191)
  else if c = 224 then (2, 160, 191)
  else if c = 237 then (2, 128, 159)
  else if 225 ≤ c ∧ c ≤ 239 then (2, 128, 191)
  else if c = 240 then (3, 144, 191)
  else if c = 244 then (3, 128, 143)
  else if 241 ≤ c ∧ c ≤ 243 then (3, 128, 191)
  else (-1, 0, 0)
theorem wantsF_cases (c : Int) : ((wantsF c).1 = -1 ∧ U8.zero.fresh c = (U8.zero, [65533])) ∨ ((wantsF c).1 = 0 ∧ U8.zero.fresh c = (U8.zero, [c])) ∨
    (∃ n : Nat, (n = 1 ∨ n = 2 ∨ n = 3) ∧ (wantsF c).1 = n ∧ U8.zero.fresh c = (⟨c % (64 / 2 ^ n), n, (wantsF c).2.1, (wantsF c).2.2⟩, []) ∧ 0 ≤ c ∧ c < 256) := by
  unfold wantsF U8.fresh
  by_cases h1 : c < 128
  · simp only [if_pos h1]; exact .inr (.inl ⟨trivial, trivial⟩)
  by_cases h2 : 194 ≤ c ∧ c ≤ 223
  · simp only [if_neg h1, if_pos h2]
    refine .inr (.inr ⟨1, .inl rfl, rfl, ?_, by omega, by omega⟩)
    rw [show c - 192 = c % (64 / 2 ^ 1) by omega]; rfl
  by_cases h3 : c = 224
  · subst h3; exact .inr (.inr ⟨2, by omega, rfl, rfl, by omega, by omega⟩)
  by_cases h4 : c = 237
  · subst h4; exact .inr (.inr ⟨2, by omega, rfl, rfl, by omega, by omega⟩)
  by_cases h5 : 225 ≤ c ∧ c ≤ 239
  · simp only [if_neg h1, if_neg h2, if_neg h3, if_neg h4, if_pos h5, if_pos (show 224 < c ∧ c ≤ 239 by omega)]
    refine .inr (.inr ⟨2, by omega, rfl, ?_, by omega, by omega⟩)
    rw [show c - 224 = c % (64 / 2 ^ 2) by omega]; rfl
  by_cases h6 : c = 240
  · subst h6; exact .inr (.inr ⟨3, by omega, rfl, rfl, by omega, by omega⟩)
  by_cases h7 : c = 244
  · subst h7; exact .inr (.inr ⟨3, by omega, rfl, rfl, by omega, by omega⟩)
  by_cases h8 : 241 ≤ c ∧ c ≤ 243
  · simp only [if_neg h1, if_neg h2, if_neg h3, if_neg h4, if_neg h5, if_neg h6, if_neg h7, if_pos h8, if_neg (show ¬ (224 < c ∧ c ≤ 239) by omega), if_pos (show 240 < c ∧ c < 244 by omega)]
    refine .inr (.inr ⟨3, by omega, rfl, ?_, by omega, by omega⟩)
    rw [show c - 240 = c % (64 / 2 ^ 3) by omega]; rfl
  · simp only [if_neg h1, if_neg h2, if_neg h3, if_neg h4, if_neg h5, if_neg h6, if_neg h7, if_neg h8, if_neg (show ¬ (224 < c ∧ c ≤ 239) by omega), if_neg (show ¬ (240 < c ∧ c < 244) by omega)]
    exact .inl ⟨trivial, trivial⟩
theorem wants36 (c : Int) (w : World) (hc0 : 0 ≤ c) (hc1 : c < 256) : Calls Tryz.prog 131 #[.int .u8 c] w fun e w' => e = .returned (.tuple #[.int .i64 (wantsF c).1, .int .u8 (wantsF c).2.1, .int .u8 (wantsF c).2.2]) ∧ w = w' := by
  obtain ⟨p, hp⟩ : ∃ p, p = wantsF c := ⟨_, rfl⟩
  rw [← hp]
  have HP := Go.Lib.hid hp
  clear hp
  go_enter Tryz.func131, Tryz.ntmps131
  go_wp2
  all_goals go_ret3
  all_goals (have hp := HP.out; clear HP; (try simp only [beq_iff_eq, beq_eq_false_iff_ne, ne_eq] at *); unfold wantsF at hp; repeat' split at hp)
  all_goals first
    | (subst hp; first | exact ⟨rfl, rfl⟩ | exact ⟨rfl, trivial⟩ | rfl)
    | (exfalso; omega)
/-- An answer of the reference's look. -/
def Looked (T : List Int → List Int) (L : List UInt8) (fin : Bool) (e : Ending) : Prop := ∃ (r : Int) (m : Nat), e = .returned (.tuple #[.int .i32 r, .int .i64 m]) ∧ Got T L fin r m
theorem Looked.none (T : List Int → List Int) (L : List UInt8) : Looked T L false (.returned (.tuple #[.int .i32 0, .int .i64 0])) := ⟨0, 0, rfl, .inl ⟨rfl, rfl⟩⟩
theorem Looked.some {T : List Int → List Int} {L : List UInt8} {fin : Bool} {r : Int} (m : Nat) (h0 : 0 < m) (h1 : m ≤ L.length) (h : T (nums L) = r :: T (nums (L.drop m))) : Looked T L fin (.returned (.tuple #[.int .i32 r, .int .i64 m])) := ⟨r, m, rfl, .inr ⟨h0, h1, h⟩⟩
theorem nums_cons (a : UInt8) (r : List UInt8) : nums (a :: r) = (a.toNat : Int) :: nums r := rfl
/-- Ahead of byte i of a code point that wants n bytes behind its first. -/
def RelU (L : List UInt8) (n i : Nat) (s : U8) : Prop := s.ok ∧ 1 ≤ i ∧ i ≤ L.length ∧
  ((i ≤ n ∧ s.w = n + 1 - i ∧ run U8.step U8.zero (nums (L.take i)) = (s, [])) ∨ (i = n + 1 ∧ s.w = 0 ∧ run U8.step U8.zero (nums (L.take i)) = (s, [s.h])))
theorem RelU.next {L : List UInt8} {n i : Nat} {s : U8} (h : RelU L n i s) (hi : i ≤ n) (hl : i < L.length) (hr : s.lo ≤ (L[i].toNat : Int) ∧ (L[i].toNat : Int) ≤ s.hi) :
    RelU L n (i + 1) ⟨64 * s.h + ((L[i].toNat : Int) - 128), s.w - 1, 128, 191⟩ := by
  obtain ⟨hok, h1, _, h3⟩ := h
  rcases h3 with ⟨_, hw, hrun⟩ | ⟨h3, _⟩
  · have hst : s.step (L[i].toNat : Int) = (⟨64 * s.h + ((L[i].toNat : Int) - 128), s.w - 1, 128, 191⟩, if s.w = 1 then [64 * s.h + ((L[i].toNat : Int) - 128)] else []) := by
      rw [U8.step, if_pos (by omega), if_pos hr]
    have hk := U8.step_ok s (L[i].toNat : Int) hok
    rw [hst] at hk
    have hrn : run U8.step U8.zero (nums (L.take (i + 1))) = (⟨64 * s.h + ((L[i].toNat : Int) - 128), s.w - 1, 128, 191⟩, if s.w = 1 then [64 * s.h + ((L[i].toNat : Int) - 128)] else []) := by
      rw [nums_take L i hl, run_snoc, hrun]
      simp only [hst, List.nil_append]
    refine ⟨hk, by omega, by omega, ?_⟩
    by_cases hw1 : s.w = 1
    · rw [if_pos hw1] at hrn
      exact .inr ⟨by omega, by show s.w - 1 = 0; omega, hrn⟩
    · rw [if_neg hw1] at hrn
      exact .inl ⟨by omega, by show s.w - 1 = _; omega, hrn⟩
  · omega
theorem nums_app (a b : List UInt8) : nums (a ++ b) = nums a ++ nums b := by simp [nums]
theorem RelU.split {L : List UInt8} (i : Nat) : tells8 U8.zero (nums L) = (run U8.step U8.zero (nums (L.take i))).2 ++ tells8 (run U8.step U8.zero (nums (L.take i))).1 (nums (L.drop i)) := by
  rw [← tells8_run, ← nums_app, List.take_append_drop]
theorem RelU.done {L : List UInt8} {n i : Nat} {s : U8} (h : RelU L n i s) (hi : ¬ i ≤ n) : i = n + 1 ∧ tells8 U8.zero (nums L) = s.h :: tells8 U8.zero (nums (L.drop i)) := by
  obtain ⟨_, h1, _, h3⟩ := h
  rcases h3 with ⟨h3, _⟩ | ⟨h3, hw, hrun⟩
  · omega
  · refine ⟨h3, ?_⟩
    rw [RelU.split i, hrun, tells8_zero _ s hw]
    rfl
theorem RelU.misfit {L : List UInt8} {n i : Nat} {s : U8} (h : RelU L n i s) (hi : i ≤ n) (hl : i < L.length) (hr : ¬ (s.lo ≤ (L[i].toNat : Int) ∧ (L[i].toNat : Int) ≤ s.hi)) :
    tells8 U8.zero (nums L) = 65533 :: tells8 U8.zero (nums (L.drop i)) := by
  obtain ⟨_, h1, _, h3⟩ := h
  rcases h3 with ⟨_, hw, hrun⟩ | ⟨h3, _⟩
  · rw [RelU.split i, hrun, List.drop_eq_getElem_cons hl, nums_cons, tells8_misfit s _ _ (by omega) hr]
    rfl
  · omega
theorem RelU.short {L : List UInt8} {n i : Nat} {s : U8} (h : RelU L n i s) (hi : i ≤ n) (hl : i = L.length) : tells8 U8.zero (nums L) = 65533 :: tells8 U8.zero (nums (L.drop i)) := by
  obtain ⟨_, h1, _, h3⟩ := h
  rcases h3 with ⟨_, hw, hrun⟩ | ⟨h3, _⟩
  · rw [RelU.split i, hrun, hl, List.drop_length]
    show [] ++ tells8 s [] = _
    rw [tells8_end s (by omega)]
    rfl
  · omega
theorem RelU.first {a : UInt8} {r : List UInt8} {n : Nat} {s : U8} (h : U8.zero.fresh (a.toNat : Int) = (s, [])) (hw : s.w = n) (hn : 1 ≤ n) : RelU (a :: r) n 1 s := by
  have hk := U8.fresh_ok U8.zero (a.toNat : Int) U8.ok_zero rfl
  rw [h] at hk
  refine ⟨hk, by omega, by simp, .inl ⟨hn, by omega, ?_⟩⟩
  show run U8.step U8.zero [(a.toNat : Int)] = _
  simp only [run, step8_clean U8.zero _ rfl, h, List.append_nil]
/-- What bounds a state that still wants. -/
theorem RelU.bounds {L : List UInt8} {n i : Nat} {s : U8} (h : RelU L n i s) (hi : i ≤ n) : 0 ≤ s.h ∧ s.h < 32768 ∧ 128 ≤ s.lo ∧ s.hi ≤ 191 := by
  obtain ⟨⟨k1, k2, k3⟩, h1, _, h3⟩ := h
  rcases h3 with ⟨_, hw, _⟩ | ⟨h3, _⟩
  · have := k3 (by omega)
    omega
  · omega
set_option maxRecDepth 100000 in
set_option maxHeartbeats 2000000 in
theorem utf8_32 (fin : Bool) (oa : Option Addr) (n cap : Nat) (L : List UInt8) (w : World) (hne : L ≠ []) (hn : n = L.length) (hm : n ≤ maxLen) (hR : RdB w oa L) :
    Calls Tryz.prog 126 #[.slice oa n cap, .bool fin] w fun e w' => Looked (tells8 U8.zero) L fin e ∧ w = w' := by
  unfold maxLen at hm
  obtain ⟨a, r, rfl⟩ := List.exists_cons_of_ne_nil hne
  obtain ⟨ad, rfl, h0⟩ := hR 0 (by simp)
  rw [Addr.add_zero'] at h0
  have h0 : w.cell? ad = some (.int .u8 a.toNat) := h0
  have ha := a.toNat_lt
  have hn1 : 1 ≤ n := by rw [hn]; simp
  have W := wants36 a.toNat w (by omega) (by omega)
  have HN := Go.Lib.hid hn
  clear hn hne
  rcases wantsF_cases (a.toNat : Int) with ⟨h1, h2⟩ | ⟨h1, h2⟩ | ⟨k, hk, h1, h2, _, _⟩
  · have h3 : tells8 U8.zero (nums (a :: r)) = 65533 :: tells8 U8.zero (nums ((a :: r).drop 1)) := by
      rw [nums_cons, tells8_cons, step8_clean _ _ rfl, h2]; rfl
    have H3 := Go.Lib.hid h3
    rw [h1] at W
    clear h1 h2 h3 hR
    go_enter Tryz.func126, Tryz.ntmps126
    go_wp2_with (go_at_call 131; (with_reducible refine W.mono ?_); rintro e w1 ⟨rfl, rfl⟩)
    go_ret2
    exact ⟨Looked.some 1 (by omega) (by simp) H3.out, rfl⟩
  · have h3 : tells8 U8.zero (nums (a :: r)) = (a.toNat : Int) :: tells8 U8.zero (nums ((a :: r).drop 1)) := by
      rw [nums_cons, tells8_cons, step8_clean _ _ rfl, h2]; rfl
    have H3 := Go.Lib.hid h3
    rw [h1] at W
    clear h1 h2 h3 hR
    go_enter Tryz.func126, Tryz.ntmps126
    go_wp2_with (go_at_call 131; (with_reducible refine W.mono ?_); rintro e w1 ⟨rfl, rfl⟩)
    go_ret2
    exact ⟨Looked.some 1 (by omega) (by simp) H3.out, rfl⟩
  · have hF := RelU.first (r := r) h2 rfl (by omega)
    obtain ⟨lo, hlo⟩ : ∃ lo, (wantsF (a.toNat : Int)).2.1 = lo := ⟨_, rfl⟩
    obtain ⟨hi, hhi⟩ : ∃ hi, (wantsF (a.toNat : Int)).2.2 = hi := ⟨_, rfl⟩
    rw [h1, hlo, hhi] at W
    rw [hlo, hhi] at hF
    clear h1 h2 hlo hhi
    rcases hk with rfl | rfl | rfl
    · go_enter Tryz.func126, Tryz.ntmps126
      go_wp2_with (go_at_call 131; (with_reducible refine W.mono ?_); rintro e w1 ⟨rfl, rfl⟩)
      go_loop [7, 8, 9, 10] (fun v7 v8 v9 v10 => ∃ (i : Nat) (s : U8), v10 = .int .i64 i ∧ v7 = .int .u8 s.lo ∧ v8 = .int .u8 s.hi ∧ v9 = .int .i32 s.h ∧ RelU (a :: r) 1 i s) (fun _ _ _ v10 => 5 - (intOf v10).toNat)
      case atStart => exact ⟨1, _, rfl, rfl, rfl, rfl, hF⟩
      case round =>
        obtain ⟨i, s, rfl, rfl, rfl, rfl, hU⟩ := hrel
        have hil : 1 ≤ i ∧ i ≤ n := by rw [HN.out]; exact ⟨hU.2.1, hU.2.2.1⟩
        obtain ⟨hi1, hil⟩ := hil
        by_cases hi : i ≤ 1
        · obtain ⟨b1, b2, b3, b4⟩ := hU.bounds hi
          by_cases hq : i = n
          · have hT := Go.Lib.hid (hU.short hi (hq.trans HN.out))
            have hqb : ((i : Int) == (n : Int)) = true := by rw [beq_iff_eq]; omega
            clear hq hU
            cases fin
            · go_wp2
              go_ret2
              exact ⟨Looked.none _ _, rfl⟩
            · go_wp2
              go_ret2
              exact ⟨Looked.some i (by omega) (by rw [← HN.out]; omega) hT.out, rfl⟩
          · have hlt : i < (a :: r).length := by rw [← HN.out]; omega
            have hlt' : i < n := by omega
            have hqb : ((i : Int) == (n : Int)) = false := by rw [beq_eq_false_iff_ne]; omega
            obtain ⟨ad', h', hc⟩ := hR i hlt
            cases h'
            have hnx := fun hr => hU.next hi hlt hr
            have hmf := fun hr => hU.misfit hi hlt hr
            have hb := (a :: r)[i].toNat_lt
            obtain ⟨c, hcc⟩ : ∃ c : Int, ((a :: r)[i].toNat : Int) = c := ⟨_, rfl⟩
            have c0 : 0 ≤ c := by omega
            have c1 : c < 256 := by omega
            rw [hcc] at hc hnx hmf
            clear hcc hb hq
            by_cases hr : s.lo ≤ c ∧ c ≤ s.hi
            · have hU2 := hnx hr
              obtain ⟨r1, r2⟩ := hr
              have e1 := Go.Lib.hid (show s.h * 64 + c % 64 = 64 * s.h + (c - 128) by omega)
              clear hnx hmf hU
              go_wp2
              go_round
              case rel =>
                refine ⟨i + 1, _, by go_num, rfl, rfl, ?_, hU2⟩
                exact congrArg (Value.int .i32) e1.out
              case measure => simp [intOf]; omega
            · have hT := Go.Lib.hid (hmf hr)
              have hr' : c < s.lo ∨ s.hi < c := by omega
              clear hnx hmf hU hr
              rcases hr' with hr' | hr'
              all_goals
                go_wp2
                all_goals go_ret2
                all_goals exact ⟨Looked.some i (by omega) (by rw [← HN.out]; omega) hT.out, rfl⟩
        · obtain ⟨hie, hT⟩ := hU.done hi
          subst hie
          have HT := Go.Lib.hid hT
          clear hT hU
          go_wp2
          go_ret2
          exact ⟨Looked.some 2 (by omega) (by rw [← HN.out]; omega) HT.out, rfl⟩
    · go_enter Tryz.func126, Tryz.ntmps126
      go_wp2_with (go_at_call 131; (with_reducible refine W.mono ?_); rintro e w1 ⟨rfl, rfl⟩)
      go_loop [7, 8, 9, 10] (fun v7 v8 v9 v10 => ∃ (i : Nat) (s : U8), v10 = .int .i64 i ∧ v7 = .int .u8 s.lo ∧ v8 = .int .u8 s.hi ∧ v9 = .int .i32 s.h ∧ RelU (a :: r) 2 i s) (fun _ _ _ v10 => 5 - (intOf v10).toNat)
      case atStart => exact ⟨1, _, rfl, rfl, rfl, rfl, hF⟩
      case round =>
        obtain ⟨i, s, rfl, rfl, rfl, rfl, hU⟩ := hrel
        have hil : 1 ≤ i ∧ i ≤ n := by rw [HN.out]; exact ⟨hU.2.1, hU.2.2.1⟩
        obtain ⟨hi1, hil⟩ := hil
        by_cases hi : i ≤ 2
        · obtain ⟨b1, b2, b3, b4⟩ := hU.bounds hi
          by_cases hq : i = n
          · have hT := Go.Lib.hid (hU.short hi (hq.trans HN.out))
            have hqb : ((i : Int) == (n : Int)) = true := by rw [beq_iff_eq]; omega
            clear hq hU
            cases fin
            · go_wp2
              go_ret2
              exact ⟨Looked.none _ _, rfl⟩
            · go_wp2
              go_ret2
              exact ⟨Looked.some i (by omega) (by rw [← HN.out]; omega) hT.out, rfl⟩
          · have hlt : i < (a :: r).length := by rw [← HN.out]; omega
            have hlt' : i < n := by omega
            have hqb : ((i : Int) == (n : Int)) = false := by rw [beq_eq_false_iff_ne]; omega
            obtain ⟨ad', h', hc⟩ := hR i hlt
            cases h'
            have hnx := fun hr => hU.next hi hlt hr
            have hmf := fun hr => hU.misfit hi hlt hr
            have hb := (a :: r)[i].toNat_lt
            obtain ⟨c, hcc⟩ : ∃ c : Int, ((a :: r)[i].toNat : Int) = c := ⟨_, rfl⟩
            have c0 : 0 ≤ c := by omega
            have c1 : c < 256 := by omega
            rw [hcc] at hc hnx hmf
            clear hcc hb hq
            by_cases hr : s.lo ≤ c ∧ c ≤ s.hi
            · have hU2 := hnx hr
              obtain ⟨r1, r2⟩ := hr
              have e1 := Go.Lib.hid (show s.h * 64 + c % 64 = 64 * s.h + (c - 128) by omega)
              clear hnx hmf hU
              go_wp2
              go_round
              case rel =>
                refine ⟨i + 1, _, by go_num, rfl, rfl, ?_, hU2⟩
                exact congrArg (Value.int .i32) e1.out
              case measure => simp [intOf]; omega
            · have hT := Go.Lib.hid (hmf hr)
              have hr' : c < s.lo ∨ s.hi < c := by omega
              clear hnx hmf hU hr
              rcases hr' with hr' | hr'
              all_goals
                go_wp2
                all_goals go_ret2
                all_goals exact ⟨Looked.some i (by omega) (by rw [← HN.out]; omega) hT.out, rfl⟩
        · obtain ⟨hie, hT⟩ := hU.done hi
          subst hie
          have HT := Go.Lib.hid hT
          clear hT hU
          go_wp2
          go_ret2
          exact ⟨Looked.some 3 (by omega) (by rw [← HN.out]; omega) HT.out, rfl⟩
    · go_enter Tryz.func126, Tryz.ntmps126
      go_wp2_with (go_at_call 131; (with_reducible refine W.mono ?_); rintro e w1 ⟨rfl, rfl⟩)
      go_loop [7, 8, 9, 10] (fun v7 v8 v9 v10 => ∃ (i : Nat) (s : U8), v10 = .int .i64 i ∧ v7 = .int .u8 s.lo ∧ v8 = .int .u8 s.hi ∧ v9 = .int .i32 s.h ∧ RelU (a :: r) 3 i s) (fun _ _ _ v10 => 5 - (intOf v10).toNat)
      case atStart => exact ⟨1, _, rfl, rfl, rfl, rfl, hF⟩
      case round =>
        obtain ⟨i, s, rfl, rfl, rfl, rfl, hU⟩ := hrel
        have hil : 1 ≤ i ∧ i ≤ n := by rw [HN.out]; exact ⟨hU.2.1, hU.2.2.1⟩
        obtain ⟨hi1, hil⟩ := hil
        by_cases hi : i ≤ 3
        · obtain ⟨b1, b2, b3, b4⟩ := hU.bounds hi
          by_cases hq : i = n
          · have hT := Go.Lib.hid (hU.short hi (hq.trans HN.out))
            have hqb : ((i : Int) == (n : Int)) = true := by rw [beq_iff_eq]; omega
            clear hq hU
            cases fin
            · go_wp2
              go_ret2
              exact ⟨Looked.none _ _, rfl⟩
            · go_wp2
              go_ret2
              exact ⟨Looked.some i (by omega) (by rw [← HN.out]; omega) hT.out, rfl⟩
          · have hlt : i < (a :: r).length := by rw [← HN.out]; omega
            have hlt' : i < n := by omega
            have hqb : ((i : Int) == (n : Int)) = false := by rw [beq_eq_false_iff_ne]; omega
            obtain ⟨ad', h', hc⟩ := hR i hlt
            cases h'
            have hnx := fun hr => hU.next hi hlt hr
            have hmf := fun hr => hU.misfit hi hlt hr
            have hb := (a :: r)[i].toNat_lt
            obtain ⟨c, hcc⟩ : ∃ c : Int, ((a :: r)[i].toNat : Int) = c := ⟨_, rfl⟩
            have c0 : 0 ≤ c := by omega
            have c1 : c < 256 := by omega
            rw [hcc] at hc hnx hmf
            clear hcc hb hq
            by_cases hr : s.lo ≤ c ∧ c ≤ s.hi
            · have hU2 := hnx hr
              obtain ⟨r1, r2⟩ := hr
              have e1 := Go.Lib.hid (show s.h * 64 + c % 64 = 64 * s.h + (c - 128) by omega)
              clear hnx hmf hU
              go_wp2
              go_round
              case rel =>
                refine ⟨i + 1, _, by go_num, rfl, rfl, ?_, hU2⟩
                exact congrArg (Value.int .i32) e1.out
              case measure => simp [intOf]; omega
            · have hT := Go.Lib.hid (hmf hr)
              have hr' : c < s.lo ∨ s.hi < c := by omega
              clear hnx hmf hU hr
              rcases hr' with hr' | hr'
              all_goals
                go_wp2
                all_goals go_ret2
                all_goals exact ⟨Looked.some i (by omega) (by rw [← HN.out]; omega) hT.out, rfl⟩
        · obtain ⟨hie, hT⟩ := hU.done hi
          subst hie
          have HT := Go.Lib.hid hT
          clear hT hU
          go_wp2
          go_ret2
          exact ⟨Looked.some 4 (by omega) (by rw [← HN.out]; omega) HT.out, rfl⟩
/-- Block d is the reference's decoder. -/
def DecR (w : World) (d : Nat) (enc : Int) (v : Value) (over : Bool) : Prop := w.heap[d]? = some (.cells #[.int .i64 enc, v, .bool over] 166 (0, 0))
/-- The bytes L lie at the slice's place, which isn't in block d. -/
def RdN (w : World) (d B : Nat) (oa : Option Addr) (L : List UInt8) : Prop := RdB w oa L ∧ ∀ ad, oa = some ad → ad.block ≠ d ∧ ad.block < B
theorem add_block (a : Addr) (n : Nat) : (a.add n).block = a.block := by unfold Addr.add; split <;> rfl
theorem RdN.but {w w1 : World} {d B : Nat} {oa : Option Addr} {L : List UInt8} (h : RdN w d B oa L) (hb : But d B w w1) : RdN w1 d B oa L := by
  refine ⟨fun j hj => ?_, h.2⟩
  obtain ⟨ad, h1, h2⟩ := h.1 j hj
  refine ⟨ad, h1, ?_⟩
  have hbk := hb.block (ad.add j).block (by rw [add_block]; exact (h.2 ad h1).2) (by rw [add_block]; exact (h.2 ad h1).1)
  rw [← h2]
  unfold World.cell?
  rw [hbk]
theorem RdN.cut {w : World} {d B : Nat} {oa : Option Addr} {L : List UInt8} (h : RdN w d B oa L) (k cap : Nat) (hc : L.length ≤ cap) : RdN w d B (if cap = k then oa else oa.map (·.add k)) (L.drop k) := by
  by_cases e : cap = k
  · rw [if_pos e]
    exact ⟨fun j hj => by rw [List.length_drop] at hj; omega, h.2⟩
  · rw [if_neg e]
    refine ⟨h.1.cut k, ?_⟩
    rintro ad had
    obtain ⟨a, rfl, rfl⟩ := Option.map_eq_some_iff.1 had
    rw [add_block]
    exact h.2 a rfl
/-- What a round keeps: p bytes are taken, X is told of them. -/
structure RelT (T : List Int → List Int) (d : Nat) (enc : Int) (over : Bool) (L : List UInt8) (B : Nat) (w : World) (v : Value) (wr : World) (p : Nat) (X : List Int) (oa : Option Addr) (m cap : Nat) : Prop where
  lp : p ≤ L.length
  lx : X.length ≤ p
  tell : X ++ T (nums (L.drop p)) = T (nums L)
  dec : DecR wr d enc (.slice oa m cap) over
  hm : m = (L.drop p).length
  hcap : m ≤ cap
  rd : RdN wr d B oa (L.drop p)
  own : wr.ownsRow B 21 1 v X.length (X.map (Value.int .i32))
  but : But d B w wr
  size : B ≤ wr.heap.size
theorem RelT.next {T : List Int → List Int} {d : Nat} {enc : Int} {over : Bool} {L : List UInt8} {B : Nat} {w : World} {v : Value} {wr : World} {p : Nat} {X : List Int} {oa : Option Addr} {m cap : Nat} (h : RelT T d enc over L B w v wr p X oa m cap) (hdB : d < B)
    {k : Nat} {r : Int} {v2 : Value} {w2 : World} (hkm : k ≤ m) (hk0 : 0 < k) (hT : T (nums (L.drop p)) = r :: T (nums ((L.drop p).drop k))) (hown : w2.ownsRow B 21 1 v2 (X.length + 1) (X.map (Value.int .i32) ++ [Value.int .i32 r])) (hb : Below B wr w2)
    {oa' : Option Addr} {cap' : Nat} (hoa : oa' = if cap = k then oa else oa.map (·.add k)) (hc' : cap' = cap - k) : RelT T d enc over L B w v2 (w2.setCell ⟨d, 1, none⟩ (.slice oa' (m - k) cap')) (p + k) (X ++ [r]) oa' (m - k) cap' where
  lp := by have := h.hm; have := h.lp; rw [List.length_drop] at *; omega
  lx := by have := h.lx; rw [List.length_append]; simp; omega
  tell := by
    rw [← h.tell, hT, List.drop_drop, List.append_assoc]
    rfl
  dec := set_blk ((hb.block d hdB).trans h.dec) (.slice oa' (m - k) cap')
  hm := by have := h.hm; rw [List.length_drop] at *; omega
  hcap := by have := h.hcap; omega
  rd := by
    have h2 : RdN w2 d B oa (L.drop p) := h.rd.but (But.of hb)
    have h3 := h2.cut k cap (by rw [← h.hm]; exact h.hcap)
    rw [← hoa, List.drop_drop] at h3
    exact h3.but ((But.refl d B w2).set 1 _)
  own := by
    have h2 := own_setCell_lt hown hdB (i := 1) (v := .slice oa' (m - k) cap')
    rw [List.length_append, List.map_append]
    exact h2
  but := (h.but.trans (But.of hb)).set 1 _
  size := by have := hb.size; have := h.size; simp; omega
def Taken (T : List Int → List Int) (d : Nat) (enc : Int) (over : Bool) (L : List UInt8) (fin : Bool) (B : Nat) (w : World) (e : Ending) (w' : World) : Prop :=
  ∃ v p X oa m cap, e = .returned v ∧ RelT T d enc over L B w v w' p X oa m cap ∧ (fin = true → p = L.length)
set_option maxRecDepth 100000 in
set_option maxHeartbeats 2000000 in
theorem take27_0 (d : Nat) (over fin : Bool) (oa0 : Option Addr) (m0 cap0 : Nat) (L : List UInt8) (w : World) (hd : DecR w d 0 (.slice oa0 m0 cap0) over) (hm0 : m0 = L.length) (hc0 : m0 ≤ cap0) (hl : L.length ≤ 34359738368) (hR : RdN w d w.heap.size oa0 L) :
    Calls Tryz.prog 117 #[.pointer (some ⟨d, 0, none⟩), .bool fin] w fun e w' => Taken (tells8 U8.zero) d 0 over L fin w.heap.size w e w' := by
  have hdw : d < w.heap.size := blk_lt hd
  go_enter Tryz.func117, Tryz.ntmps117
  go_wp2
  go_loopg [5, 6, 7] L.length (fun g v5 _ _ wr => ∃ p X oa m cap, L.length - p ≤ g ∧ RelT (tells8 U8.zero) d 0 over L w.heap.size w v5 wr p X oa m cap)
  case atStart => exact ⟨0, [], oa0, m0, cap0, Nat.sub_le _ _, Nat.zero_le _, Nat.zero_le _, rfl, hd, hm0, hc0, hR, own_nil _ _ _ _, But.refl _ _ _, Nat.le_refl _⟩
  case round =>
    obtain ⟨p, X, oa, m, cap, hg, h⟩ := hrel
    have c1 := blk_cells h.dec 1
    have c0 := blk_cells h.dec 0
    have f1 := blk_free h.dec
    have c1 : wr.cell? ⟨d, 1, none⟩ = some (.slice oa m cap) := c1
    have c0 : wr.cell? ⟨d, 0, none⟩ = some (.int .i64 0) := c0
    have hml : m ≤ L.length := by rw [h.hm, List.length_drop]; omega
    by_cases hm : 0 < m
    · have hne : L.drop p ≠ [] := by intro e; have := h.hm; rw [e] at this; simp at this; omega
      have U := utf8_32 fin oa m cap (L.drop p) wr hne h.hm (by unfold maxLen; omega) h.rd.1
      obtain ⟨oa5, c5, hv5⟩ := own_slice h.own
      subst hv5
      have H := Go.Lib.hid h
      clear h
      go_wp2_with fail
      refine U.mono ?_
      rintro e w1 ⟨⟨r, k, rfl, hT⟩, rfl⟩
      rcases hT with ⟨rfl, hf⟩ | ⟨hk0, hk1, hT⟩
      · subst hf
        go_wp2
        go_ret
        exact ⟨_, p, X, oa, m, cap, rfl, H.out, fun h => by cases h⟩
      · have hkm : k ≤ m := by rw [H.out.hm]; exact hk1
        obtain ⟨ad, rfl⟩ : ∃ ad, oa = some ad := by
          obtain ⟨ad, h, _⟩ := H.out.rd.1 0 (by rw [← H.out.hm]; exact hm)
          exact ⟨ad, h⟩
        have HO := H.out.own
        have hlx := H.out.lx
        have hlp := H.out.lp
        have hX := Go.Lib.hid hT
        have hws := H.out.size
        have hgk : 0 < gk := by have := H.out.hm; rw [List.length_drop] at this; omega
        clear hT U
        have hhl : (X.length + 1) * 4 ≤ 140737488355328 := by omega
        have h1c : ∀ u ∈ (#[Value.int .i32 r]).toList, u.oneCell' = true := fun u hu => by simp at hu; subst hu; rfl
        by_cases hcm : k = cap
        · subst hcm
          go_wp2_with (at_builtin; go_must (refine step_append (w0 := wr) rfl w.heap.size (.tmp 58) (.tmp 60) 124 21 (.int .i32 0) 1 4 rfl Tryz.underlying124 Tryz.info21 rfl (by decide) (by decide) (.slice oa5 X.length c5) X.length wr.heap.size (X.map (Value.int .i32)) #[.int .i32 r] rfl rfl rfl rfl h1c HO (Below.refl _ _) hws hhl ?_; intro v2 w2 hown2 hb2; have cc1 := (hb2.cell (p := ⟨d, 1, none⟩) hdw).trans c1; have ff1 : w2.frozen? ⟨d, 1, none⟩ = false := (hb2.frozen (p := ⟨d, 1, none⟩) hdw).trans (f1 1)))
          go_roundg (gk - 1)
          case measure => omega
          case rel => exact ⟨p + k, X ++ [r], _, _, _, by omega, H.out.next hdw hkm hk0 hX.out hown2 hb2 (by rw [if_pos rfl]) (Nat.sub_self k).symm⟩
        · go_wp2_with (at_builtin; go_must (refine step_append (w0 := wr) rfl w.heap.size (.tmp 58) (.tmp 60) 124 21 (.int .i32 0) 1 4 rfl Tryz.underlying124 Tryz.info21 rfl (by decide) (by decide) (.slice oa5 X.length c5) X.length wr.heap.size (X.map (Value.int .i32)) #[.int .i32 r] rfl rfl rfl rfl h1c HO (Below.refl _ _) hws hhl ?_; intro v2 w2 hown2 hb2; have cc1 := (hb2.cell (p := ⟨d, 1, none⟩) hdw).trans c1; have ff1 : w2.frozen? ⟨d, 1, none⟩ = false := (hb2.frozen (p := ⟨d, 1, none⟩) hdw).trans (f1 1)))
          go_roundg (gk - 1)
          case measure => omega
          case rel => exact ⟨p + k, X ++ [r], _, _, _, by omega, H.out.next hdw hkm hk0 hX.out hown2 hb2 (by rw [if_neg (fun e => hcm e.symm)]; rfl) rfl⟩
    · have hm0 : m = 0 := by omega
      subst hm0
      have H := Go.Lib.hid h
      clear h
      go_wp2
      go_ret
      refine ⟨_, p, X, oa, 0, cap, rfl, H.out, fun _ => ?_⟩
      have := H.out.hm
      have := H.out.lp
      rw [List.length_drop] at *
      omega
/-- The reference's take tells by T. -/
def Takes (T : List Int → List Int) (enc : Int) : Prop := ∀ (d : Nat) (over fin : Bool) (oa0 : Option Addr) (m0 cap0 : Nat) (L : List UInt8) (w : World) (_ : DecR w d enc (.slice oa0 m0 cap0) over) (_ : m0 = L.length) (_ : m0 ≤ cap0) (_ : L.length ≤ 34359738368) (_ : RdN w d w.heap.size oa0 L),
    Calls Tryz.prog 117 #[.pointer (some ⟨d, 0, none⟩), .bool fin] w fun e w' => Taken T d enc over L fin w.heap.size w e w'
theorem rnew23 (k : Int) (h0 : 0 ≤ k) (h6 : k ≤ 6) (w : World) : Calls Tryz.prog 103 #[.int .i64 k] w fun e w' => e = .returned (.tuple #[.pointer (some ⟨w.heap.size, 0, none⟩), .int .i64 0]) ∧ w' = w.alloc (.cells #[.int .i64 k, .slice none 0 0, .bool false] 166) := by
  go_enter Tryz.func103, Tryz.ntmps103
  go_wp2
  go_ret2
  exact ⟨rfl, rfl⟩
theorem RdN.own {w : World} {base n m c d : Nat} {oa : Option Addr} {L : List UInt8} (h : w.ownsRow base 5 1 (.slice oa m c) n (u8s L)) (hd : d < base) : RdN w d w.heap.size oa L ∧ m = n ∧ (0 < n → n ≤ c) ∧ n = L.length := by
  have hr := own_read h
  have hn : n = L.length := by have := h.1; rw [u8s_length] at this; omega
  refine ⟨⟨fun j hj => hr.2 j _ (by simp [u8s, hj]), ?_⟩, hr.1, ?_, hn⟩
  · rintro ad rfl
    have hb := own_base h ad.block
    have hlt := own_lt h ad.block
    rcases h.2 with ⟨hv, _⟩ | ⟨g, cap, cur, hv, hg, hh, _⟩
    · cases hv
    · injection hv with e1 e2 e3
      cases e1
      exact ⟨by show g ≠ d; omega, blk_lt hh⟩
  · intro h0
    rcases h.2 with ⟨hv, hz⟩ | ⟨g, cap, cur, hv, hg, hh, hc, _⟩
    · omega
    · injection hv with e1 e2 e3
      omega
/-- What the reference's feed leaves. -/
def Fed (T : List Int → List Int) (d : Nat) (enc : Int) (L : List UInt8) (w : World) (e : Ending) (w' : World) : Prop :=
  ∃ v p X oa m cap, e = .returned (.tuple #[v, .int .i64 0]) ∧ p ≤ L.length ∧ X.length ≤ p ∧ X ++ T (nums (L.drop p)) = T (nums L) ∧ DecR w' d enc (.slice oa m cap) false ∧ m = (L.drop p).length ∧ m ≤ cap ∧ RdN w' d w'.heap.size oa (L.drop p) ∧
    w'.ownsRow w.heap.size 21 1 v X.length (X.map (Value.int .i32)) ∧ But d w.heap.size w w'
theorem RdN.more {w : World} {d B C : Nat} {oa : Option Addr} {L : List UInt8} (h : RdN w d B oa L) (hc : B ≤ C) : RdN w d C oa L := ⟨h.1, fun ad had => ⟨(h.2 ad had).1, Nat.lt_of_lt_of_le (h.2 ad had).2 hc⟩⟩
theorem fed_take {T : List Int → List Int} {enc : Int} (hT : Takes T enc) {d n : Nat} {L : List UInt8} {w w1 : World} {v1 : Value} (hdw : d < w.heap.size) (hd : DecR w d enc (.slice none 0 0) false) (hn : n = L.length) (hl : L.length ≤ 34359738368)
    (hown : w1.ownsRow w.heap.size 5 1 v1 (0 + n) ([] ++ u8s L)) (hb : Below w.heap.size w w1) : ∃ oa1 c, v1 = .slice oa1 n c ∧ Calls Tryz.prog 117 #[.pointer (some ⟨d, 0, none⟩), .bool false] (w1.setCell ⟨d, 1, none⟩ (.slice oa1 n c)) fun e w' =>
      ∃ v p X oa m cap, e = .returned v ∧ p ≤ L.length ∧ X.length ≤ p ∧ X ++ T (nums (L.drop p)) = T (nums L) ∧ DecR w' d enc (.slice oa m cap) false ∧ m = (L.drop p).length ∧ m ≤ cap ∧ RdN w' d w'.heap.size oa (L.drop p) ∧
        w'.ownsRow w.heap.size 21 1 v X.length (X.map (Value.int .i32)) ∧ But d w.heap.size w w' := by
  rw [Nat.zero_add, List.nil_append] at hown
  obtain ⟨oa1, c, rfl⟩ := own_slice hown
  obtain ⟨r1, _, r3, _⟩ := RdN.own hown hdw
  have hsz : (w1.setCell ⟨d, 1, none⟩ (.slice oa1 n c)).heap.size = w1.heap.size := by simp
  have hbs := hb.size
  have hd2 : DecR (w1.setCell ⟨d, 1, none⟩ (.slice oa1 n c)) d enc (.slice oa1 n c) false := set_blk (bblk hb hd) (.slice oa1 n c)
  refine ⟨oa1, c, rfl, (hT d false false oa1 n c L _ hd2 hn (by rcases Nat.eq_zero_or_pos n with h | h <;> omega) hl (by rw [hsz]; exact r1.but ((But.refl d _ w1).set 1 _))).mono ?_⟩
  rintro e w' ⟨v, p, X, oa, m, cap, rfl, h, _⟩
  have hs := h.size
  rw [hsz] at hs
  refine ⟨v, p, X, oa, m, cap, rfl, h.lp, h.lx, h.tell, h.dec, h.hm, h.hcap, h.rd.more (by rw [hsz]; exact hs), own_mono h.own (by rw [hsz]; exact hbs), ?_⟩
  exact ((But.of hb).set 1 _).trans (h.but.mono (by rw [hsz]; exact hbs))
set_option maxHeartbeats 1000000 in
theorem rfeed24 {T : List Int → List Int} {enc : Int} (hT : Takes T enc) (d : Nat) (oa : Option Addr) (n cap : Nat) (L : List UInt8) (w : World) (hd : DecR w d enc (.slice none 0 0) false) (hn : n = L.length) (hl : L.length ≤ 34359738368) (hR : RdB w oa L) :
    Calls Tryz.prog 104 #[.pointer (some ⟨d, 0, none⟩), .slice oa n cap] w fun e w' => Fed T d enc L w e w' := by
  have hdw : d < w.heap.size := blk_lt hd
  have c2 : w.cell? ⟨d, 2, none⟩ = some (.bool false) := blk_cells hd 2
  have c1 : w.cell? ⟨d, 1, none⟩ = some (.slice none 0 0) := blk_cells hd 1
  have f1 := blk_free hd 1
  have HO := own_empty w w.heap.size 5 1 w.heap.size rfl (Nat.le_refl _)
  have HB := bal (Below.refl w.heap.size w) (.cells #[] 5)
  have hnl : (u8s L).length = n * 1 := by rw [u8s_length, hn, Nat.mul_one]
  have hrd : ∀ j u, (u8s L)[j]? = some u → ∃ ad, oa = some ad ∧ (w.alloc (.cells #[] 5)).cell? (ad.add j) = some u := fun j u hu => by
    have hj : j < L.length := by
      rcases Nat.lt_or_ge j L.length with h | h
      · exact h
      · rw [List.getElem?_eq_none (by rw [u8s_length]; exact h)] at hu; cases hu
    obtain ⟨ad, h1, h2⟩ := (hR.below (bal (Below.refl w.heap.size w) (.cells #[] 5))) j hj
    refine ⟨ad, h1, ?_⟩
    rw [h2, ← hu]
    simp [u8s, hj]
  have hnb : n ≤ 34359738368 := by omega
  have hhl : (0 + n) * 1 ≤ 140737488355328 := by omega
  have hbs : w.heap.size ≤ (w.alloc (.cells #[] 5)).heap.size := by simp
  have HL := Go.Lib.hid hl
  have HN := Go.Lib.hid hn
  have HD := Go.Lib.hid hd
  clear hl hn hd hR
  go_enter Tryz.func104, Tryz.ntmps104
  go_wp2_with (at_builtin; refine step_append_slice (w0 := w) rfl w.heap.size (.tmp 16) (.tmp 17) 93 5 (.int .u8 0) 1 1 rfl Tryz.underlying93 Tryz.info5 rfl (by decide) (by decide) (.slice (some ⟨w.heap.size, 0, none⟩) 0 0) 0 n cap oa [] (u8s L) rfl rfl hnl hrd (u8_one L) HO HB hbs hhl ?_; intro v1 w1 hown hb1; have K := fed_take hT hdw HD.out HN.out HL.out hown hb1; obtain ⟨oa1, c, rfl, K⟩ := K; clear hown; have cc1 := bcl hb1 c1; have ff1 : w1.frozen? ⟨d, 1, none⟩ = false := (hb1.frozen (p := ⟨d, 1, none⟩) hdw).trans f1)
  refine K.mono ?_
  rintro e w2 ⟨v, p, X, oa2, m2, cap2, rfl, h1, h2, h3, h4, h5, h6, h7, h8, h9⟩
  have H := Go.Lib.hid (And.intro h3 (And.intro h5 h2))
  clear h2 h3 h5
  go_wp2
  go_ret2
  exact ⟨v, p, X, oa2, m2, cap2, rfl, h1, H.out.2.2, H.out.1, h4, H.out.2.1, h6, h7, h8, h9⟩
set_option maxHeartbeats 1000000 in
theorem rend25 {T : List Int → List Int} {enc : Int} (hT : Takes T enc) (T0 : T [] = []) (d : Nat) (oa : Option Addr) (m cap : Nat) (L : List UInt8) (w : World) (hd : DecR w d enc (.slice oa m cap) false) (hm : m = L.length) (hc : m ≤ cap) (hl : L.length ≤ 34359738368) (hR : RdN w d w.heap.size oa L) :
    Calls Tryz.prog 105 #[.pointer (some ⟨d, 0, none⟩)] w fun e w' => ∃ v, e = .returned (.tuple #[v, .int .i64 0]) ∧ w'.ownsRow w.heap.size 21 1 v (T (nums L)).length ((T (nums L)).map (Value.int .i32)) ∧ But d w.heap.size w w' := by
  have hdw : d < w.heap.size := blk_lt hd
  have c2 : w.cell? ⟨d, 2, none⟩ = some (.bool false) := blk_cells hd 2
  have f2 := blk_free hd 2
  have hd2 : DecR (w.setCell ⟨d, 2, none⟩ (.bool true)) d enc (.slice oa m cap) true := set_blk hd (.bool true)
  have K := hT d true true oa m cap L _ hd2 hm hc hl (by rw [show (w.setCell ⟨d, 2, none⟩ (.bool true)).heap.size = w.heap.size by simp]; exact hR.but ((But.refl d _ w).set 2 _))
  have hB := (But.refl d w.heap.size w).set 2 (.bool true)
  clear hd hd2 hm hR
  go_enter Tryz.func105, Tryz.ntmps105
  go_wp2_with fail
  refine K.mono ?_
  rintro e w2 ⟨v, p, X, oa2, m2, cap2, rfl, h, hp⟩
  have hp := hp rfl
  have e1 : X = T (nums L) := by
    rw [← h.tell, hp, List.drop_length, show nums [] = [] from rfl, T0, List.append_nil]
  have hown := h.own
  rw [e1] at hown
  have hb := h.but
  rw [show (w.setCell ⟨d, 2, none⟩ (.bool true)).heap.size = w.heap.size by simp] at hown hb
  clear hp h e1 K
  go_wp2
  go_ret2
  exact ⟨v, rfl, hown, hB.trans hb⟩
set_option maxHeartbeats 1000000 in
theorem rtext14 {T : List Int → List Int} {k : Int} (h0 : 0 ≤ k) (h6 : k ≤ 6) (hT : Takes T k) (T0 : T [] = []) (oa : Option Addr) (n cap : Nat) (L : List UInt8) (w : World) (hn : n = L.length) (hl : 2 * L.length + 2 ≤ 34359738368) (hlen : (T (nums L)).length ≤ 2 * L.length + 1) (hR : RdB w oa L) :
    Calls Tryz.prog 79 #[.int .i64 k, .slice oa n cap] w fun e w' => ∃ v, e = .returned (.tuple #[v, .int .i64 0]) ∧ w'.ownsRow w.heap.size 21 1 v (T (nums L)).length ((T (nums L)).map (Value.int .i32)) ∧ Below w.heap.size w w' := by
  have hd : DecR (w.alloc (.cells #[.int .i64 k, .slice none 0 0, .bool false] 166)) w.heap.size k (.slice none 0 0) false := at_new _ _ _ rfl
  have K := rfeed24 hT w.heap.size oa n cap L _ hd hn (by omega) (hR.below (bal (Below.refl w.heap.size w) _))
  have hB := bal (Below.refl w.heap.size w) (.cells #[.int .i64 k, .slice none 0 0, .bool false] 166)
  have HL := Go.Lib.hid (And.intro hl hlen)
  have N := rnew23 k h0 h6 w
  clear hn hl hlen hd hR
  go_enter Tryz.func79, Tryz.ntmps79
  go_wp2_with (go_at_call 103; (with_reducible refine N.mono ?_); rintro e w1 ⟨rfl, rfl⟩)
  refine K.mono ?_
  rintro e w2 ⟨v, p, X, oa2, m2, cap2, rfl, h1, h2, h3, h4, h5, h6, h7, h8, h9⟩
  have E := rend25 hT T0 w.heap.size oa2 m2 cap2 (L.drop p) w2 h4 h5 h6 (by have := HL.out.1; rw [List.length_drop]; omega) h7
  obtain ⟨oa3, c3, rfl⟩ := own_slice h8
  have hs9 := h9.size
  rw [show (w.alloc (.cells #[.int .i64 k, .slice none 0 0, .bool false] 166)).heap.size = w.heap.size + 1 by simp] at hs9 h8
  have hB2 : Below w.heap.size w w2 := hB.trans ((h9.mono (by simp)).to (Nat.le_refl _))
  have H3 := Go.Lib.hid h3
  clear h2 h3 h4 h5 h7 h9 K N h1
  go_wp2_with fail
  refine E.mono ?_
  rintro e w3 ⟨v3, rfl, hown3, hb3⟩
  obtain ⟨oa4, c4, rfl⟩ := own_slice hown3
  have HO : w3.ownsRow (w.heap.size + 1) 21 1 (.slice oa3 X.length c3) X.length (X.map (Value.int .i32)) := own_but h8 (Nat.lt_succ_self _) hb3
  have hs3 := hb3.size
  have HB : Below w.heap.size w w3 := hB2.trans ((hb3.mono (by omega)).to (Nat.le_refl _))
  have hhl : (X.length + (T (nums (L.drop p))).length) * 4 ≤ 140737488355328 := by
    have h := congrArg List.length H3.out
    rw [List.length_append] at h
    have := HL.out
    omega
  have hrd := (own_read hown3).2
  have hbs : w.heap.size ≤ w3.heap.size := by omega
  have hone := i32_one (T (nums (L.drop p)))
  have hnl : ((T (nums (L.drop p))).map (Value.int .i32)).length = (T (nums (L.drop p))).length * 1 := by simp
  have HO' := own_mono HO (show w.heap.size ≤ w.heap.size + 1 by omega)
  clear E hown3 hb3 HO h8 hB2
  go_wp2_with (at_builtin; go_must (refine step_append_slice (w0 := w) rfl w.heap.size (.tmp 31) (.tmp 32) 124 21 (.int .i32 0) 1 4 rfl Tryz.underlying124 Tryz.info21 rfl (by decide) (by decide) (.slice oa3 X.length c3) X.length _ c4 oa4 _ _ rfl rfl hnl hrd hone HO' HB hbs hhl ?_; intro v1 w4 hown hb4))
  go_ret2
  refine ⟨v1, rfl, ?_, hb4⟩
  rw [← H3.out, List.length_append, List.map_append]
  exact hown
/-- Code points as bytes. -/
def encs (X : List Int) : List UInt8 := X.flatMap Go.Lib.encodeRune
theorem encodeRune_len (r : Int) : (Go.Lib.encodeRune r).length ≤ 4 := by
  have := Go.Lib.encodeRuneZ_length r
  simp [Go.Lib.encodeRune]
  omega
theorem encs_len (X : List Int) : (encs X).length ≤ 4 * X.length := by
  induction X with
  | nil => simp [encs]
  | cons x t ih =>
    have := encodeRune_len x
    simp only [encs, List.flatMap_cons, List.length_append, List.length_cons] at *
    omega
theorem encs_snoc (X : List Int) (r : Int) : encs (X ++ [r]) = encs X ++ Go.Lib.encodeRune r := by simp [encs]
theorem nums_encode (r : Int) : nums (Go.Lib.encodeRune r) = Go.Lib.encodeRuneZ r := by
  have h := Go.Lib.encodeRuneZ_byte r
  unfold nums Go.Lib.encodeRune
  rw [List.map_map]
  conv => rhs; rw [← List.map_id (Go.Lib.encodeRuneZ r)]
  apply List.map_congr_left
  intro x hx
  have := h x hx
  have e : x.toNat.toUInt8.toNat = x.toNat := by rw [Nat.toUInt8, UInt8.toNat_ofNat']; omega
  simp only [Function.comp, e, id]
  omega
theorem u8s_append' (a b : List UInt8) : u8s (a ++ b) = u8s a ++ u8s b := by simp [u8s]
theorem enc_step {X Y : List Int} {r : Int} {zs : List Int} {cs : List Value} {B n : Nat} {v : Value} {w : World} (hs : encs Y = encs X ++ Go.Lib.encodeRune r) (hZ : Go.Lib.encodeRuneZ r = zs) (h : w.ownsRow B 5 1 v ((encs X).length + n) (u8s (encs X) ++ cs)) (hc : cs = zs.map (Value.int .u8) := by rfl) (hn : n = zs.length := by rfl) :
    w.ownsRow B 5 1 v (encs Y).length (u8s (encs Y)) := by
  subst hc hn
  have e : u8s (Go.Lib.encodeRune r) = zs.map (Value.int .u8) := by
    rw [← hZ, ← nums_encode]
    simp [u8s, nums]
  have el : (Go.Lib.encodeRune r).length = zs.length := by rw [← hZ]; simp [Go.Lib.encodeRune]
  rw [hs, u8s_append', List.length_append, e, el]
  exact h
set_option maxRecDepth 100000 in
set_option maxHeartbeats 4000000 in
set_option maxRecDepth 100000 in
theorem rutf8_19 (oa : Option Addr) (n cap : Nat) (X : List Int) (w : World) (hn : n = X.length) (hm : X.length ≤ 35184372088832) (hR : RdR w oa X) (hw : ∀ x ∈ X, -2147483648 ≤ x ∧ x ≤ 2147483647) :
    Calls Tryz.prog 80 #[.slice oa n cap] w fun e w' => ∃ v, e = .returned v ∧ w'.ownsRow w.heap.size 5 1 v (encs X).length (u8s (encs X)) ∧ Below w.heap.size w w' := by
  subst hn
  go_enter Tryz.func80, Tryz.ntmps80
  go_wp2
  go_loopw [3, 4, 5] (fun v3 v4 _ wr => ∃ k : Nat, k ≤ X.length ∧ v4 = .int .i64 k ∧ wr.ownsRow w.heap.size 5 1 v3 (encs (X.take k)).length (u8s (encs (X.take k))) ∧ Below w.heap.size w wr) (fun _ v4 _ _ => X.length - (intOf v4).toNat)
  case atStart => exact ⟨0, Nat.zero_le _, rfl, own_nil _ _ _ _, Below.refl _ _⟩
  case round =>
    obtain ⟨k, hk, rfl, ho, hB⟩ := hrel
    by_cases hlt : k < X.length
    · obtain ⟨ad, rfl, hc⟩ := (hR.below hB) k hlt
      have hx := hw X[k] (List.getElem_mem hlt)
      have hs := Go.Lib.hid (show encs (X.take (k + 1)) = encs (X.take k) ++ Go.Lib.encodeRune X[k] by rw [List.take_succ_eq_append_getElem hlt, encs_snoc])
      have hlen := encs_len (X.take k)
      rw [List.length_take] at hlen
      generalize X[k] = r at *
      obtain ⟨hx1, hx2⟩ := hx
      have hrq : r ≤ 2147483647 := hx2
      by_cases hbad : r < 0 ∨ (55296 ≤ r ∧ r ≤ 57343) ∨ 1114111 < r
      · rcases hbad with hbad | ⟨hb1, hb2⟩ | hbad
        · have hZ : Go.Lib.encodeRuneZ r = [239, 191, 189] := (Go.Lib.encodeRuneZ_bad (.inl hbad))
          have fin : ∀ (v1 : Value) (w7 : World), w7.ownsRow w.heap.size 5 1 v1 ((encs (X.take k)).length + 3) (u8s (encs (X.take k)) ++ [.int .u8 (239), .int .u8 (191), .int .u8 (189)]) → w7.ownsRow w.heap.size 5 1 v1 (encs (X.take (k + 1))).length (u8s (encs (X.take (k + 1)))) := fun v1 w7 h => enc_step hs.out hZ h
          have HO := ho.alloc (.cells #[.int .u8 (239), .int .u8 (191), .int .u8 (189)] 5)
          have HB := hB.alloc hB.size (.cells #[.int .u8 (239), .int .u8 (191), .int .u8 (189)] 5)
          have hbs : w.heap.size ≤ (wr.alloc (.cells #[.int .u8 (239), .int .u8 (191), .int .u8 (189)] 5)).heap.size := by have := hB.size; simp; omega
          have h1 : ∀ x ∈ ([.int .u8 (239), .int .u8 (191), .int .u8 (189)] : List Value), x.oneCell' = true := fun x hx => by simp at hx; rcases hx with rfl | rfl | rfl <;> rfl
          have hrd : ∀ i x, ([.int .u8 (239), .int .u8 (191), .int .u8 (189)] : List Value)[i]? = some x → ∃ ad, some (⟨wr.heap.size, 0, none⟩ : Addr) = some ad ∧ (wr.alloc (.cells #[.int .u8 (239), .int .u8 (191), .int .u8 (189)] 5)).cell? (ad.add i) = some x := fun i x hx => by
            refine ⟨_, rfl, ?_⟩
            match i, hx with
            | 0, hx => rw [← hx]; exact blk_cells (at_new wr (.cells #[.int .u8 (239), .int .u8 (191), .int .u8 (189)] 5) _ rfl) 0
            | 1, hx => rw [← hx]; exact blk_cells (at_new wr (.cells #[.int .u8 (239), .int .u8 (191), .int .u8 (189)] 5) _ rfl) 1
            | 2, hx => rw [← hx]; exact blk_cells (at_new wr (.cells #[.int .u8 (239), .int .u8 (191), .int .u8 (189)] 5) _ rfl) 2
          have hl : ((encs (X.take k)).length + 3) * 1 ≤ 140737488355328 := by omega
          obtain ⟨oa3, c3, rfl⟩ := own_slice ho
          clear ho hB hZ hlen
          go_wp2_with (at_builtin; refine step_append_slice (w0 := w) rfl w.heap.size (.tmp 76) (.tmp 90) 93 5 (.int .u8 0) 1 1 rfl Tryz.underlying93 Tryz.info5 rfl (by decide) (by decide) (.slice oa3 (encs (X.take k)).length c3) (encs (X.take k)).length 3 3 (some ⟨wr.heap.size, 0, none⟩) (u8s (encs (X.take k))) [.int .u8 (239), .int .u8 (191), .int .u8 (189)] rfl rfl rfl hrd h1 HO HB hbs hl ?_; intro v1 w4 hown hb4)
          all_goals go_roundw
          all_goals first
            | (case rel => exact ⟨k + 1, by omega, by go_num, fin _ _ hown, hb4⟩)
            | (case measure => simp [intOf]; omega)
        · have hZ : Go.Lib.encodeRuneZ r = [239, 191, 189] := (Go.Lib.encodeRuneZ_bad (.inr (.inl ⟨hb1, hb2⟩)))
          have fin : ∀ (v1 : Value) (w7 : World), w7.ownsRow w.heap.size 5 1 v1 ((encs (X.take k)).length + 3) (u8s (encs (X.take k)) ++ [.int .u8 (239), .int .u8 (191), .int .u8 (189)]) → w7.ownsRow w.heap.size 5 1 v1 (encs (X.take (k + 1))).length (u8s (encs (X.take (k + 1)))) := fun v1 w7 h => enc_step hs.out hZ h
          have HO := ho.alloc (.cells #[.int .u8 (239), .int .u8 (191), .int .u8 (189)] 5)
          have HB := hB.alloc hB.size (.cells #[.int .u8 (239), .int .u8 (191), .int .u8 (189)] 5)
          have hbs : w.heap.size ≤ (wr.alloc (.cells #[.int .u8 (239), .int .u8 (191), .int .u8 (189)] 5)).heap.size := by have := hB.size; simp; omega
          have h1 : ∀ x ∈ ([.int .u8 (239), .int .u8 (191), .int .u8 (189)] : List Value), x.oneCell' = true := fun x hx => by simp at hx; rcases hx with rfl | rfl | rfl <;> rfl
          have hrd : ∀ i x, ([.int .u8 (239), .int .u8 (191), .int .u8 (189)] : List Value)[i]? = some x → ∃ ad, some (⟨wr.heap.size, 0, none⟩ : Addr) = some ad ∧ (wr.alloc (.cells #[.int .u8 (239), .int .u8 (191), .int .u8 (189)] 5)).cell? (ad.add i) = some x := fun i x hx => by
            refine ⟨_, rfl, ?_⟩
            match i, hx with
            | 0, hx => rw [← hx]; exact blk_cells (at_new wr (.cells #[.int .u8 (239), .int .u8 (191), .int .u8 (189)] 5) _ rfl) 0
            | 1, hx => rw [← hx]; exact blk_cells (at_new wr (.cells #[.int .u8 (239), .int .u8 (191), .int .u8 (189)] 5) _ rfl) 1
            | 2, hx => rw [← hx]; exact blk_cells (at_new wr (.cells #[.int .u8 (239), .int .u8 (191), .int .u8 (189)] 5) _ rfl) 2
          have hl : ((encs (X.take k)).length + 3) * 1 ≤ 140737488355328 := by omega
          obtain ⟨oa3, c3, rfl⟩ := own_slice ho
          clear ho hB hZ hlen
          go_wp2_with (at_builtin; refine step_append_slice (w0 := w) rfl w.heap.size (.tmp 76) (.tmp 90) 93 5 (.int .u8 0) 1 1 rfl Tryz.underlying93 Tryz.info5 rfl (by decide) (by decide) (.slice oa3 (encs (X.take k)).length c3) (encs (X.take k)).length 3 3 (some ⟨wr.heap.size, 0, none⟩) (u8s (encs (X.take k))) [.int .u8 (239), .int .u8 (191), .int .u8 (189)] rfl rfl rfl hrd h1 HO HB hbs hl ?_; intro v1 w4 hown hb4)
          all_goals go_roundw
          all_goals first
            | (case rel => exact ⟨k + 1, by omega, by go_num, fin _ _ hown, hb4⟩)
            | (case measure => simp [intOf]; omega)
        · have hZ : Go.Lib.encodeRuneZ r = [239, 191, 189] := (Go.Lib.encodeRuneZ_bad (.inr (.inr hbad)))
          have fin : ∀ (v1 : Value) (w7 : World), w7.ownsRow w.heap.size 5 1 v1 ((encs (X.take k)).length + 3) (u8s (encs (X.take k)) ++ [.int .u8 (239), .int .u8 (191), .int .u8 (189)]) → w7.ownsRow w.heap.size 5 1 v1 (encs (X.take (k + 1))).length (u8s (encs (X.take (k + 1)))) := fun v1 w7 h => enc_step hs.out hZ h
          have HO := ho.alloc (.cells #[.int .u8 (239), .int .u8 (191), .int .u8 (189)] 5)
          have HB := hB.alloc hB.size (.cells #[.int .u8 (239), .int .u8 (191), .int .u8 (189)] 5)
          have hbs : w.heap.size ≤ (wr.alloc (.cells #[.int .u8 (239), .int .u8 (191), .int .u8 (189)] 5)).heap.size := by have := hB.size; simp; omega
          have h1 : ∀ x ∈ ([.int .u8 (239), .int .u8 (191), .int .u8 (189)] : List Value), x.oneCell' = true := fun x hx => by simp at hx; rcases hx with rfl | rfl | rfl <;> rfl
          have hrd : ∀ i x, ([.int .u8 (239), .int .u8 (191), .int .u8 (189)] : List Value)[i]? = some x → ∃ ad, some (⟨wr.heap.size, 0, none⟩ : Addr) = some ad ∧ (wr.alloc (.cells #[.int .u8 (239), .int .u8 (191), .int .u8 (189)] 5)).cell? (ad.add i) = some x := fun i x hx => by
            refine ⟨_, rfl, ?_⟩
            match i, hx with
            | 0, hx => rw [← hx]; exact blk_cells (at_new wr (.cells #[.int .u8 (239), .int .u8 (191), .int .u8 (189)] 5) _ rfl) 0
            | 1, hx => rw [← hx]; exact blk_cells (at_new wr (.cells #[.int .u8 (239), .int .u8 (191), .int .u8 (189)] 5) _ rfl) 1
            | 2, hx => rw [← hx]; exact blk_cells (at_new wr (.cells #[.int .u8 (239), .int .u8 (191), .int .u8 (189)] 5) _ rfl) 2
          have hl : ((encs (X.take k)).length + 3) * 1 ≤ 140737488355328 := by omega
          obtain ⟨oa3, c3, rfl⟩ := own_slice ho
          clear ho hB hZ hlen
          go_wp2_with (at_builtin; refine step_append_slice (w0 := w) rfl w.heap.size (.tmp 76) (.tmp 90) 93 5 (.int .u8 0) 1 1 rfl Tryz.underlying93 Tryz.info5 rfl (by decide) (by decide) (.slice oa3 (encs (X.take k)).length c3) (encs (X.take k)).length 3 3 (some ⟨wr.heap.size, 0, none⟩) (u8s (encs (X.take k))) [.int .u8 (239), .int .u8 (191), .int .u8 (189)] rfl rfl rfl hrd h1 HO HB hbs hl ?_; intro v1 w4 hown hb4)
          all_goals go_roundw
          all_goals first
            | (case rel => exact ⟨k + 1, by omega, by go_num, fin _ _ hown, hb4⟩)
            | (case measure => simp [intOf]; omega)
      have p1 : 0 ≤ r := by omega
      have p2 : r ≤ 1114111 := by omega
      have p3 : r < 55296 ∨ 57343 < r := by omega
      clear hbad hx1 hx2
      by_cases q1 : r < 128
      · clear p3
        have hZ : Go.Lib.encodeRuneZ r = [r] := Go.Lib.encodeRuneZ_one p1 (by omega)
        have fin : ∀ (v1 : Value) (w7 : World), w7.ownsRow w.heap.size 5 1 v1 ((encs (X.take k)).length + 1) (u8s (encs (X.take k)) ++ [.int .u8 (r)]) → w7.ownsRow w.heap.size 5 1 v1 (encs (X.take (k + 1))).length (u8s (encs (X.take (k + 1)))) := fun v1 w7 h => enc_step hs.out hZ h
        have HO := ho.alloc (.cells #[.int .u8 (r)] 5)
        have HB := hB.alloc hB.size (.cells #[.int .u8 (r)] 5)
        have hbs : w.heap.size ≤ (wr.alloc (.cells #[.int .u8 (r)] 5)).heap.size := by have := hB.size; simp; omega
        have h1 : ∀ x ∈ ([.int .u8 (r)] : List Value), x.oneCell' = true := fun x hx => by simp at hx; subst hx; rfl
        have hrd : ∀ i x, ([.int .u8 (r)] : List Value)[i]? = some x → ∃ ad, some (⟨wr.heap.size, 0, none⟩ : Addr) = some ad ∧ (wr.alloc (.cells #[.int .u8 (r)] 5)).cell? (ad.add i) = some x := fun i x hx => by
          refine ⟨_, rfl, ?_⟩
          match i, hx with
          | 0, hx => rw [← hx]; exact blk_cells (at_new wr (.cells #[.int .u8 (r)] 5) _ rfl) 0
        have hl : ((encs (X.take k)).length + 1) * 1 ≤ 140737488355328 := by omega
        obtain ⟨oa3, c3, rfl⟩ := own_slice ho
        clear ho hB hZ hlen
        go_wp2_with (at_builtin; refine step_append_slice (w0 := w) rfl w.heap.size (.tmp 54) (.tmp 57) 93 5 (.int .u8 0) 1 1 rfl Tryz.underlying93 Tryz.info5 rfl (by decide) (by decide) (.slice oa3 (encs (X.take k)).length c3) (encs (X.take k)).length 1 1 (some ⟨wr.heap.size, 0, none⟩) (u8s (encs (X.take k))) [.int .u8 (r)] rfl rfl rfl hrd h1 HO HB hbs hl ?_; intro v1 w4 hown hb4)
        all_goals go_roundw
        all_goals first
          | (case rel => exact ⟨k + 1, by omega, by go_num, fin _ _ hown, hb4⟩)
          | (case measure => simp [intOf]; omega)
      by_cases q2 : r < 2048
      · clear p3
        have hZ : Go.Lib.encodeRuneZ r = [192 + r / 64, 128 + r % 64] := Go.Lib.encodeRuneZ_two (by omega) (by omega)
        have fin : ∀ (v1 : Value) (w7 : World), w7.ownsRow w.heap.size 5 1 v1 ((encs (X.take k)).length + 2) (u8s (encs (X.take k)) ++ [.int .u8 (192 + r / 64), .int .u8 (128 + r % 64)]) → w7.ownsRow w.heap.size 5 1 v1 (encs (X.take (k + 1))).length (u8s (encs (X.take (k + 1)))) := fun v1 w7 h => enc_step hs.out hZ h
        have HO := ho.alloc (.cells #[.int .u8 (192 + r / 64), .int .u8 (128 + r % 64)] 5)
        have HB := hB.alloc hB.size (.cells #[.int .u8 (192 + r / 64), .int .u8 (128 + r % 64)] 5)
        have hbs : w.heap.size ≤ (wr.alloc (.cells #[.int .u8 (192 + r / 64), .int .u8 (128 + r % 64)] 5)).heap.size := by have := hB.size; simp; omega
        have h1 : ∀ x ∈ ([.int .u8 (192 + r / 64), .int .u8 (128 + r % 64)] : List Value), x.oneCell' = true := fun x hx => by simp at hx; rcases hx with rfl | rfl <;> rfl
        have hrd : ∀ i x, ([.int .u8 (192 + r / 64), .int .u8 (128 + r % 64)] : List Value)[i]? = some x → ∃ ad, some (⟨wr.heap.size, 0, none⟩ : Addr) = some ad ∧ (wr.alloc (.cells #[.int .u8 (192 + r / 64), .int .u8 (128 + r % 64)] 5)).cell? (ad.add i) = some x := fun i x hx => by
          refine ⟨_, rfl, ?_⟩
          match i, hx with
          | 0, hx => rw [← hx]; exact blk_cells (at_new wr (.cells #[.int .u8 (192 + r / 64), .int .u8 (128 + r % 64)] 5) _ rfl) 0
          | 1, hx => rw [← hx]; exact blk_cells (at_new wr (.cells #[.int .u8 (192 + r / 64), .int .u8 (128 + r % 64)] 5) _ rfl) 1
        have hl : ((encs (X.take k)).length + 2) * 1 ≤ 140737488355328 := by omega
        obtain ⟨oa3, c3, rfl⟩ := own_slice ho
        clear ho hB hZ hlen
        go_wp2_with (at_builtin; refine step_append_slice (w0 := w) rfl w.heap.size (.tmp 62) (.tmp 71) 93 5 (.int .u8 0) 1 1 rfl Tryz.underlying93 Tryz.info5 rfl (by decide) (by decide) (.slice oa3 (encs (X.take k)).length c3) (encs (X.take k)).length 2 2 (some ⟨wr.heap.size, 0, none⟩) (u8s (encs (X.take k))) [.int .u8 (192 + r / 64), .int .u8 (128 + r % 64)] rfl rfl rfl hrd h1 HO HB hbs hl ?_; intro v1 w4 hown hb4)
        all_goals go_roundw
        all_goals first
          | (case rel => exact ⟨k + 1, by omega, by go_num, fin _ _ hown, hb4⟩)
          | (case measure => simp [intOf]; omega)
      by_cases q3 : r < 65536
      · rcases p3 with p3 | p3
        · have hZ : Go.Lib.encodeRuneZ r = [224 + r / 4096, 128 + r / 64 % 64, 128 + r % 64] := Go.Lib.encodeRuneZ_three (.inl ⟨by omega, p3⟩)
          have fin : ∀ (v1 : Value) (w7 : World), w7.ownsRow w.heap.size 5 1 v1 ((encs (X.take k)).length + 3) (u8s (encs (X.take k)) ++ [.int .u8 (224 + r / 4096), .int .u8 (128 + r / 64 % 64), .int .u8 (128 + r % 64)]) → w7.ownsRow w.heap.size 5 1 v1 (encs (X.take (k + 1))).length (u8s (encs (X.take (k + 1)))) := fun v1 w7 h => enc_step hs.out hZ h
          have HO := ho.alloc (.cells #[.int .u8 (224 + r / 4096), .int .u8 (128 + r / 64 % 64), .int .u8 (128 + r % 64)] 5)
          have HB := hB.alloc hB.size (.cells #[.int .u8 (224 + r / 4096), .int .u8 (128 + r / 64 % 64), .int .u8 (128 + r % 64)] 5)
          have hbs : w.heap.size ≤ (wr.alloc (.cells #[.int .u8 (224 + r / 4096), .int .u8 (128 + r / 64 % 64), .int .u8 (128 + r % 64)] 5)).heap.size := by have := hB.size; simp; omega
          have h1 : ∀ x ∈ ([.int .u8 (224 + r / 4096), .int .u8 (128 + r / 64 % 64), .int .u8 (128 + r % 64)] : List Value), x.oneCell' = true := fun x hx => by simp at hx; rcases hx with rfl | rfl | rfl <;> rfl
          have hrd : ∀ i x, ([.int .u8 (224 + r / 4096), .int .u8 (128 + r / 64 % 64), .int .u8 (128 + r % 64)] : List Value)[i]? = some x → ∃ ad, some (⟨wr.heap.size, 0, none⟩ : Addr) = some ad ∧ (wr.alloc (.cells #[.int .u8 (224 + r / 4096), .int .u8 (128 + r / 64 % 64), .int .u8 (128 + r % 64)] 5)).cell? (ad.add i) = some x := fun i x hx => by
            refine ⟨_, rfl, ?_⟩
            match i, hx with
            | 0, hx => rw [← hx]; exact blk_cells (at_new wr (.cells #[.int .u8 (224 + r / 4096), .int .u8 (128 + r / 64 % 64), .int .u8 (128 + r % 64)] 5) _ rfl) 0
            | 1, hx => rw [← hx]; exact blk_cells (at_new wr (.cells #[.int .u8 (224 + r / 4096), .int .u8 (128 + r / 64 % 64), .int .u8 (128 + r % 64)] 5) _ rfl) 1
            | 2, hx => rw [← hx]; exact blk_cells (at_new wr (.cells #[.int .u8 (224 + r / 4096), .int .u8 (128 + r / 64 % 64), .int .u8 (128 + r % 64)] 5) _ rfl) 2
          have hl : ((encs (X.take k)).length + 3) * 1 ≤ 140737488355328 := by omega
          obtain ⟨oa3, c3, rfl⟩ := own_slice ho
          clear ho hB hZ hlen
          go_wp2_with (at_builtin; refine step_append_slice (w0 := w) rfl w.heap.size (.tmp 76) (.tmp 90) 93 5 (.int .u8 0) 1 1 rfl Tryz.underlying93 Tryz.info5 rfl (by decide) (by decide) (.slice oa3 (encs (X.take k)).length c3) (encs (X.take k)).length 3 3 (some ⟨wr.heap.size, 0, none⟩) (u8s (encs (X.take k))) [.int .u8 (224 + r / 4096), .int .u8 (128 + r / 64 % 64), .int .u8 (128 + r % 64)] rfl rfl rfl hrd h1 HO HB hbs hl ?_; intro v1 w4 hown hb4)
          all_goals go_roundw
          all_goals first
            | (case rel => exact ⟨k + 1, by omega, by go_num, fin _ _ hown, hb4⟩)
            | (case measure => simp [intOf]; omega)
        · have hZ : Go.Lib.encodeRuneZ r = [224 + r / 4096, 128 + r / 64 % 64, 128 + r % 64] := Go.Lib.encodeRuneZ_three (.inr ⟨p3, by omega⟩)
          have fin : ∀ (v1 : Value) (w7 : World), w7.ownsRow w.heap.size 5 1 v1 ((encs (X.take k)).length + 3) (u8s (encs (X.take k)) ++ [.int .u8 (224 + r / 4096), .int .u8 (128 + r / 64 % 64), .int .u8 (128 + r % 64)]) → w7.ownsRow w.heap.size 5 1 v1 (encs (X.take (k + 1))).length (u8s (encs (X.take (k + 1)))) := fun v1 w7 h => enc_step hs.out hZ h
          have HO := ho.alloc (.cells #[.int .u8 (224 + r / 4096), .int .u8 (128 + r / 64 % 64), .int .u8 (128 + r % 64)] 5)
          have HB := hB.alloc hB.size (.cells #[.int .u8 (224 + r / 4096), .int .u8 (128 + r / 64 % 64), .int .u8 (128 + r % 64)] 5)
          have hbs : w.heap.size ≤ (wr.alloc (.cells #[.int .u8 (224 + r / 4096), .int .u8 (128 + r / 64 % 64), .int .u8 (128 + r % 64)] 5)).heap.size := by have := hB.size; simp; omega
          have h1 : ∀ x ∈ ([.int .u8 (224 + r / 4096), .int .u8 (128 + r / 64 % 64), .int .u8 (128 + r % 64)] : List Value), x.oneCell' = true := fun x hx => by simp at hx; rcases hx with rfl | rfl | rfl <;> rfl
          have hrd : ∀ i x, ([.int .u8 (224 + r / 4096), .int .u8 (128 + r / 64 % 64), .int .u8 (128 + r % 64)] : List Value)[i]? = some x → ∃ ad, some (⟨wr.heap.size, 0, none⟩ : Addr) = some ad ∧ (wr.alloc (.cells #[.int .u8 (224 + r / 4096), .int .u8 (128 + r / 64 % 64), .int .u8 (128 + r % 64)] 5)).cell? (ad.add i) = some x := fun i x hx => by
            refine ⟨_, rfl, ?_⟩
            match i, hx with
            | 0, hx => rw [← hx]; exact blk_cells (at_new wr (.cells #[.int .u8 (224 + r / 4096), .int .u8 (128 + r / 64 % 64), .int .u8 (128 + r % 64)] 5) _ rfl) 0
            | 1, hx => rw [← hx]; exact blk_cells (at_new wr (.cells #[.int .u8 (224 + r / 4096), .int .u8 (128 + r / 64 % 64), .int .u8 (128 + r % 64)] 5) _ rfl) 1
            | 2, hx => rw [← hx]; exact blk_cells (at_new wr (.cells #[.int .u8 (224 + r / 4096), .int .u8 (128 + r / 64 % 64), .int .u8 (128 + r % 64)] 5) _ rfl) 2
          have hl : ((encs (X.take k)).length + 3) * 1 ≤ 140737488355328 := by omega
          obtain ⟨oa3, c3, rfl⟩ := own_slice ho
          clear ho hB hZ hlen
          go_wp2_with (at_builtin; refine step_append_slice (w0 := w) rfl w.heap.size (.tmp 76) (.tmp 90) 93 5 (.int .u8 0) 1 1 rfl Tryz.underlying93 Tryz.info5 rfl (by decide) (by decide) (.slice oa3 (encs (X.take k)).length c3) (encs (X.take k)).length 3 3 (some ⟨wr.heap.size, 0, none⟩) (u8s (encs (X.take k))) [.int .u8 (224 + r / 4096), .int .u8 (128 + r / 64 % 64), .int .u8 (128 + r % 64)] rfl rfl rfl hrd h1 HO HB hbs hl ?_; intro v1 w4 hown hb4)
          all_goals go_roundw
          all_goals first
            | (case rel => exact ⟨k + 1, by omega, by go_num, fin _ _ hown, hb4⟩)
            | (case measure => simp [intOf]; omega)
      · clear p3
        have hZ : Go.Lib.encodeRuneZ r = [240 + r / 262144, 128 + r / 4096 % 64, 128 + r / 64 % 64, 128 + r % 64] := Go.Lib.encodeRuneZ_four (by omega) p2
        have fin : ∀ (v1 : Value) (w7 : World), w7.ownsRow w.heap.size 5 1 v1 ((encs (X.take k)).length + 4) (u8s (encs (X.take k)) ++ [.int .u8 (240 + r / 262144), .int .u8 (128 + r / 4096 % 64), .int .u8 (128 + r / 64 % 64), .int .u8 (128 + r % 64)]) → w7.ownsRow w.heap.size 5 1 v1 (encs (X.take (k + 1))).length (u8s (encs (X.take (k + 1)))) := fun v1 w7 h => enc_step hs.out hZ h
        have HO := ho.alloc (.cells #[.int .u8 (240 + r / 262144), .int .u8 (128 + r / 4096 % 64), .int .u8 (128 + r / 64 % 64), .int .u8 (128 + r % 64)] 5)
        have HB := hB.alloc hB.size (.cells #[.int .u8 (240 + r / 262144), .int .u8 (128 + r / 4096 % 64), .int .u8 (128 + r / 64 % 64), .int .u8 (128 + r % 64)] 5)
        have hbs : w.heap.size ≤ (wr.alloc (.cells #[.int .u8 (240 + r / 262144), .int .u8 (128 + r / 4096 % 64), .int .u8 (128 + r / 64 % 64), .int .u8 (128 + r % 64)] 5)).heap.size := by have := hB.size; simp; omega
        have h1 : ∀ x ∈ ([.int .u8 (240 + r / 262144), .int .u8 (128 + r / 4096 % 64), .int .u8 (128 + r / 64 % 64), .int .u8 (128 + r % 64)] : List Value), x.oneCell' = true := fun x hx => by simp at hx; rcases hx with rfl | rfl | rfl | rfl <;> rfl
        have hrd : ∀ i x, ([.int .u8 (240 + r / 262144), .int .u8 (128 + r / 4096 % 64), .int .u8 (128 + r / 64 % 64), .int .u8 (128 + r % 64)] : List Value)[i]? = some x → ∃ ad, some (⟨wr.heap.size, 0, none⟩ : Addr) = some ad ∧ (wr.alloc (.cells #[.int .u8 (240 + r / 262144), .int .u8 (128 + r / 4096 % 64), .int .u8 (128 + r / 64 % 64), .int .u8 (128 + r % 64)] 5)).cell? (ad.add i) = some x := fun i x hx => by
          refine ⟨_, rfl, ?_⟩
          match i, hx with
          | 0, hx => rw [← hx]; exact blk_cells (at_new wr (.cells #[.int .u8 (240 + r / 262144), .int .u8 (128 + r / 4096 % 64), .int .u8 (128 + r / 64 % 64), .int .u8 (128 + r % 64)] 5) _ rfl) 0
          | 1, hx => rw [← hx]; exact blk_cells (at_new wr (.cells #[.int .u8 (240 + r / 262144), .int .u8 (128 + r / 4096 % 64), .int .u8 (128 + r / 64 % 64), .int .u8 (128 + r % 64)] 5) _ rfl) 1
          | 2, hx => rw [← hx]; exact blk_cells (at_new wr (.cells #[.int .u8 (240 + r / 262144), .int .u8 (128 + r / 4096 % 64), .int .u8 (128 + r / 64 % 64), .int .u8 (128 + r % 64)] 5) _ rfl) 2
          | 3, hx => rw [← hx]; exact blk_cells (at_new wr (.cells #[.int .u8 (240 + r / 262144), .int .u8 (128 + r / 4096 % 64), .int .u8 (128 + r / 64 % 64), .int .u8 (128 + r % 64)] 5) _ rfl) 3
        have hl : ((encs (X.take k)).length + 4) * 1 ≤ 140737488355328 := by omega
        obtain ⟨oa3, c3, rfl⟩ := own_slice ho
        clear ho hB hZ hlen
        go_wp2_with (at_builtin; refine step_append_slice (w0 := w) rfl w.heap.size (.tmp 30) (.tmp 49) 93 5 (.int .u8 0) 1 1 rfl Tryz.underlying93 Tryz.info5 rfl (by decide) (by decide) (.slice oa3 (encs (X.take k)).length c3) (encs (X.take k)).length 4 4 (some ⟨wr.heap.size, 0, none⟩) (u8s (encs (X.take k))) [.int .u8 (240 + r / 262144), .int .u8 (128 + r / 4096 % 64), .int .u8 (128 + r / 64 % 64), .int .u8 (128 + r % 64)] rfl rfl rfl hrd h1 HO HB hbs hl ?_; intro v1 w4 hown hb4)
        all_goals go_roundw
        all_goals first
          | (case rel => exact ⟨k + 1, by omega, by go_num, fin _ _ hown, hb4⟩)
          | (case measure => simp [intOf]; omega)
    · obtain rfl : k = X.length := by omega
      rw [List.take_length] at ho
      go_wp2
      go_ret
      exact ⟨_, rfl, ho, hB⟩

end Go.Proofs.YthfdiinfeljeeaaGreatDoor.U
/- The program's plain texts: right UTF-8, no byte 0 and no byte 13. -/
namespace Go.Proofs.YthfdiinfeljeeaaGreatDoor
open Go.RowKit
abbrev crlf : ByteArray := ⟨#[0, 13]⟩
theorem encode_size {r : Int} (h0 : 128 ≤ r) (hv : Lib.validRune r = true) : ∃ n : Nat, (Utf8.encode r).size = n + 2 ∧ n ≤ 2 ∧ ∀ h : n + 1 < (Utf8.encode r).size, 128 ≤ ((Utf8.encode r)[n + 1]'h).toNat := by
  obtain ⟨h2, h4, hx⟩ := encode_facts r ((validRune_eq r).trans hv) h0
  obtain ⟨n, hn⟩ : ∃ n, (Utf8.encode r).size = n + 2 := ⟨(Utf8.encode r).size - 2, by omega⟩
  refine ⟨n, hn, by omega, fun h => ?_⟩
  have := hx (by omega)
  simpa only [hn, Nat.add_sub_cancel, show n + 2 - 1 = n + 1 by omega] using this
set_option maxHeartbeats 2000000 in
set_option maxRecDepth 100000 in
theorem irune108 (r : Int) (w : World) (h0 : 128 ≤ r) (h1 : r ≤ 1114111) (hv : Lib.validRune r = true) : Calls Tryz.prog 108 #[.string crlf, .int .i32 r] w fun e w' => e = .returned (.int .i64 (-1)) ∧ Below w.heap.size w w' := by
  have hd : decide (r < 128) = false := decide_eq_false (by omega)
  by_cases h65 : r = 65533
  · subst h65
    clear hd hv h0 h1
    go_enter Tryz.func108, Tryz.ntmps108
    go_wp2
    go_loopg [5, 6] 2 (fun g _ _ wx => ∃ i : Nat, i + g = 2 ∧ wx = w.iter crlf i)
    case atStart => exact ⟨0, by omega, rfl⟩
    case round =>
      obtain ⟨i, hig, rfl⟩ := hrel
      rcases (show i = 0 ∨ i = 1 ∨ i = 2 by omega) with rfl | rfl | rfl
      · obtain rfl : gk = 2 := by omega
        have hnx := fun ty => run_next_ascii (P := Tryz.prog) w crlf 0 ty (by decide) (by decide)
        go_wp2
        go_roundg 1
        case measure => omega
        case rel => exact ⟨1, by omega, rfl⟩
      · obtain rfl : gk = 1 := by omega
        have hnx := fun ty => run_next_ascii (P := Tryz.prog) w crlf 1 ty (by decide) (by decide)
        go_wp2
        go_roundg 0
        case measure => omega
        case rel => exact ⟨2, by omega, rfl⟩
      · have hnx := run_next_end (P := Tryz.prog) w crlf 2
        go_wp2
        go_ret
        exact ⟨rfl, bal (Below.refl _ _) _⟩
  · have h65b : (r == 65533) = false := beq_eq_false_iff_ne.2 h65
    obtain ⟨n, hn, hn2, hx⟩ := encode_size h0 hv
    have hx := hx (by omega)
    obtain ⟨x, hxx⟩ : ∃ x, (Utf8.encode r)[n + 1]'(by omega) = x := ⟨_, rfl⟩
    rw [hxx] at hx
    have hxb : ((13 : Int) != (x.toNat : Int)) = true := bne_iff_ne.2 (by omega)
    go_enter Tryz.func108, Tryz.ntmps108
    go_wp2_with (go_at_call 120; refine (Tryz.utf8_ValidRune _ _).mono ?_; rintro e w1 ⟨rfl, rfl⟩; rw [hv])
    go_step3
    rcases (show n = 0 ∨ 1 ≤ n by omega) with rfl | hn1
    · have hn : (Utf8.encode r).size = 2 := hn
      have hxx : (Utf8.encode r)[1] = x := hxx
      have hxg : (Utf8.encode r)[1]? = some x := by rw [← hxx]; simp
      have q1 : (1 : Int) < ((Utf8.encode r).size : Int) := by omega
      have q2 : (1 : Int) < (crlf.size : Int) := by decide
      have hw2 : IntKind.i64.wrap 2 = 2 := by decide
      have hs2 : (crlf.size : Int) = 2 := by decide
      clear hx hxx
      go_wp2
      go_loopw [9, 10, 11, 12] (fun v9 v10 v11 v12 wr => v9 = .int .i64 1 ∧ wr = w1) (fun v9 _ _ _ _ => 0)
      case atStart => exact ⟨by rfl, rfl⟩
      case round =>
        obtain ⟨rfl, rfl⟩ := hrel
        go_wp2
        go_step3
        go_wp2
        go_quiet (fail)
        go_wp2
        go_quiet (first | (go_at_call 119; go_must (exact (Tryz.strings_IndexByte _ _ _).mono fun _ _ h => ⟨h.1, _, h.2⟩)))
        go_wp2
        · rw [Exit.noGoto_ret]
          simp +zetaDelta only [go_sem]
          go_ret
          exact ⟨rfl, below_drewNv (Below.refl _ _) _⟩
        · have hq : ((((crlf[1]'(by decide)).toNat : Nat) : Int) != (x.toNat : Int)) = false := by assumption
          have hq : ((13 : Int) != (x.toNat : Int)) = false := hq
          rw [hxb] at hq
          cases hq
    · go_wp2
      go_loopw [9, 10, 11, 12] (fun v9 v10 v11 v12 wr => v9 = .int .i64 ((n : Int) + 1) ∧ wr = w1) (fun v9 _ _ _ _ => 0)
      case atStart => exact ⟨by congr 1; omega, rfl⟩
      case round =>
        obtain ⟨rfl, rfl⟩ := hrel
        go_wp2
        rw [Exit.noGoto_ret]
        go_ret
        exact ⟨rfl, Below.refl _ _⟩
theorem tabs_below {w w1 : World} (h : Lib.Utf8Tabs 0 1 w) (hb : Below w.heap.size w w1) : Lib.Utf8Tabs 0 1 w1 := Utf8Tabs_below h hb
theorem valid70 (s : ByteArray) (w : World) (hs : s.size ≤ 1048576) (hT : Lib.Utf8Tabs 0 1 w) :
    Calls Tryz.prog 70 #[.string s] w fun e w' => e = .returned (.bool (Lib.validD s.data.toList)) ∧ Below w.heap.size w w' := Any.utf8_ValidString Tryz.lays196 s w (by omega) hT
end Go.Proofs.YthfdiinfeljeeaaGreatDoor
/- strings.ContainsAny of byte 0 and byte 13, at any text; the program's plain texts. -/
namespace Go.Proofs.YthfdiinfeljeeaaGreatDoor
open Go.RowKit Go.Lib
abbrev nocr : List UInt8 := [0, 13]
theorem nocr_no (x : UInt8) (h : 128 ≤ x.toNat) : nocr.contains x = false := by
  have h1 : x ≠ 0 := by rintro rfl; simp at h
  have h2 : x ≠ 13 := by rintro rfl; simp at h
  simp [nocr, h1, h2]
/-- A step of the decoder over a byte beyond ASCII passes over no byte 0 and no byte 13. -/
theorem decode_step (s : ByteArray) (i : Nat) (hi : i < s.size) (x : UInt8) (hx : s.data.toList[i]? = some x) (ha : 128 ≤ x.toNat) (hno : NoAny s.data.toList nocr i) :
    128 ≤ (Utf8.decode s i).1 ∧ (Utf8.decode s i).1 ≤ 1114111 ∧ Lib.validRune ((Utf8.decode s i).1 : Int) = true ∧ 1 ≤ (Utf8.decode s i).2 ∧ i + (Utf8.decode s i).2 ≤ s.size ∧ NoAny s.data.toList nocr (i + (Utf8.decode s i).2) := by
  have hl : s.data.toList.length = s.size := (Lib.size_eq s).symm
  have hxg : s.data.toList.getD i 0 = x := by rw [List.getD_eq_getElem?_getD, hx]; rfl
  have hN := Lib.decode_N s i
  rw [hxg] at hN
  have k0 := x.toNat_lt
  have hv := Lib.decodeN_valid (s.data.toList.length - i) x.toNat (s.data.toList.getD (i + 1) 0).toNat (s.data.toList.getD (i + 2) 0).toNat (s.data.toList.getD (i + 3) 0).toNat k0
  have h1 := Lib.decodeN_ge1 (s.data.toList.length - i) x.toNat (s.data.toList.getD (i + 1) 0).toNat (s.data.toList.getD (i + 2) 0).toNat (s.data.toList.getD (i + 3) 0).toNat
  have hc := Lib.decodeN_conts (s.data.toList.length - i) x.toNat (s.data.toList.getD (i + 1) 0).toNat (s.data.toList.getD (i + 2) 0).toNat (s.data.toList.getD (i + 3) 0).toNat
  have hh : 128 ≤ (Utf8.decode s i).1 := (decode_high s i hi (by
    have := Lib.data_getElem? s i hi
    rw [hx] at this
    injection this with this
    rw [← this]; exact ha)).1
  rw [← hN] at hv h1 hc
  obtain ⟨c1, c2, c3, c4⟩ := hc
  refine ⟨hh, by omega, ?_, h1, ?_, ?_⟩
  · simp only [Lib.validRune, decide_eq_true_eq]
    omega
  · rw [hl] at c1 c2 c3
    rcases (show (Utf8.decode s i).2 = 1 ∨ (Utf8.decode s i).2 = 2 ∨ (Utf8.decode s i).2 = 3 ∨ (Utf8.decode s i).2 = 4 by omega) with h | h | h | h
    · omega
    · have := (c1 (by omega)).2; omega
    · have := (c2 (by omega)).2; omega
    · have := (c3 (by omega)).2; omega
  · intro j b hj hb
    rcases Nat.lt_or_ge j i with h | h
    · exact hno j b h hb
    · apply nocr_no
      have hbg : s.data.toList.getD j 0 = b := by rw [List.getD_eq_getElem?_getD, hb]; rfl
      rcases (show j = i ∨ j = i + 1 ∨ j = i + 2 ∨ j = i + 3 by omega) with rfl | rfl | rfl | rfl
      · rw [hx] at hb; injection hb with hb; rw [← hb]; exact ha
      · have := (c1 (by omega)).1; rw [hbg] at this; omega
      · have := (c2 (by omega)).1; rw [hbg] at this; omega
      · have := (c3 (by omega)).1; rw [hbg] at this; omega
set_option maxHeartbeats 2000000 in
set_option maxRecDepth 100000 in
theorem iany92s (s : ByteArray) (w : World) (h8 : s.size ≤ 8) :
    Calls Tryz.prog 92 #[.string s, .string crlf] w fun e w' => e = .returned (.int .i64 (Lib.indexAny s.data.toList nocr)) ∧ Below w.heap.size w w' := by
  have h8z : decide ((8 : Int) < (s.size : Int)) = false := decide_eq_false (by omega)
  go_enter Tryz.func92, Tryz.ntmps92
  go_wp2_with (go_at_call 109; refine (Tryz.strings_shouldUseASCIISet _ _).mono ?_; rintro e w' ⟨rfl, hw⟩; rw [hw, h8z])
  have hit0 := World.iter_heap w s 0
  have hb00 : Below w.heap.size w (w.iter s 0) := bal (Below.refl _ _) _
  generalize w.iter s 0 = wi at *
  go_loopg [9, 10] s.size (fun g _ _ wx => ∃ (i : Nat), (i ≤ s.size ∧ s.size ≤ i + g) ∧ wx.heap[w.heap.size]? = some (.stringIter s i) ∧ Below w.heap.size w wx ∧ NoAny s.data.toList nocr i)
  case atStart => exact ⟨0, by omega, hit0, hb00, Lib.NoAny.zero _ _⟩
  case round =>
    clear hit0 hb00
    obtain ⟨i, hig, hit, hb0, hno⟩ := hrel
    have HN := Go.Lib.hid hno
    clear hno
    have hg := Go.Lib.hid hig
    by_cases hi : i < s.size
    · obtain ⟨x, hxl⟩ : ∃ x : UInt8, s.data.toList[i]? = some x := ⟨_, Lib.data_getElem? s i hi⟩
      have hsx : s[i]'hi = x := by
        have := Lib.data_getElem? s i hi
        rw [hxl] at this
        injection this with this
        exact this.symm
      have hit2 := fun p => iterAt_heap wr w.heap.size s i p hit
      have hb2 := fun p => below_iterAt hb0 (Nat.le_refl _) s p
      have Hx := Go.Lib.hid hxl
      clear hxl
      by_cases ha : x.toNat < 128
      · have hnx := fun ty => run_next_ascii_at (P := Tryz.prog) wr w.heap.size s i ty hit hi (by rw [hsx]; exact ha)
        rw [hsx] at hnx
        have hcon := Lib.contains_iff_indexByte nocr x
        have hback : ((x.toNat : Int)).toNat.toUInt8 = x := by simp
        have I := fun W => Tryz.strings_IndexRune_ascii crlf (x.toNat : Int) W (by omega) (by omega)
        rw [hback] at I
        have hit3 := hit2 (i + 1)
        have hb3 := hb2 (i + 1)
        generalize wr.iterAt w.heap.size s (i + 1) = wn at *
        clear hit2 hb2 hsx
        cases hin : nocr.contains x
        · rw [hin] at hcon
          have hlt : decide ((0 : Int) ≤ Lib.indexByte nocr x) = false := hcon.symm
          have HI := Go.Lib.hid hin
          clear hcon hin
          go_wp2_with (go_at_call 108; refine (I _).mono ?_; rintro e w' ⟨rfl, hw⟩; rw [hw])
          go_roundg (gk - 1)
          case measure => have := hg.out; omega
          case rel => exact ⟨i + 1, by have := hg.out; omega, hit3, hb3, HN.out.succ Hx.out HI.out⟩
        · rw [hin] at hcon
          have hge : decide ((0 : Int) ≤ Lib.indexByte nocr x) = true := hcon.symm
          have HI := Go.Lib.hid hin
          clear hcon hin
          go_wp2_with (go_at_call 108; refine (I _).mono ?_; rintro e w' ⟨rfl, hw⟩; rw [hw])
          go_ret
          exact ⟨by rw [Lib.indexAny_hit HN.out Hx.out HI.out]; rfl, hb3⟩
      · obtain ⟨d1, d2, d3, d4, d5, d6⟩ := decode_step s i hi x Hx.out (by omega) HN.out
        have hnx := fun ty => run_next_any_at (P := Tryz.prog) wr w.heap.size s i ty hit hi
        have hit3 := hit2 (i + (Utf8.decode s i).2)
        have hb3 := hb2 (i + (Utf8.decode s i).2)
        have D := Go.Lib.hid d6
        generalize wr.iterAt w.heap.size s (i + (Utf8.decode s i).2) = wn at *
        have I := irune108 ((Utf8.decode s i).1 : Int) wn (by omega) (by omega) d3
        clear hit2 hb2 hsx d6
        generalize (Utf8.decode s i).1 = r at *
        generalize (Utf8.decode s i).2 = k at *
        go_wp2_with (go_at_call 108; refine I.mono ?_; rintro e w' ⟨rfl, hw⟩)
        go_roundg (gk - 1)
        case measure => have := hg.out; omega
        case rel => exact ⟨i + k, by have := hg.out; omega, by rw [hw.block _ ((Array.getElem?_eq_some_iff.1 hit3).1)]; exact hit3, hb3.trans ⟨hw.os, hw.tape, hw.output, hw.size, fun j hj => hw.block j (Nat.lt_of_lt_of_le hj hb3.size)⟩, D.out⟩
    · have hnx := fun ty => run_next_end_at (P := Tryz.prog) wr w.heap.size s i ty hit hi
      go_wp2
      go_ret
      exact ⟨by rw [Lib.indexAny_none (by rw [← Lib.size_eq]; obtain rfl : i = s.size := by have := hg.out; omega
                                          exact HN.out)]; rfl, hb0⟩
theorem iany92 (s : ByteArray) (w : World) (hs : s.size ≤ 1048576) :
    Calls Tryz.prog 92 #[.string s, .string crlf] w fun e w' => e = .returned (.int .i64 (Lib.indexAny s.data.toList nocr)) ∧ Below w.heap.size w w' := by
  by_cases h8 : s.size ≤ 8
  · exact iany92s s w h8
  · refine (Tryz.strings_IndexAny_long (zero_of_info (P := Tryz.prog) (n := 256) (by kernel_rfl)).1 s crlf w (by decide) (by omega) (by omega) (by decide) ?_).mono ?_
    · intro j b hb
      rcases (show j = 0 ∨ j = 1 ∨ 2 ≤ j by omega) with rfl | rfl | h
      · simp at hb; subst hb; decide
      · simp at hb; subst hb; decide
      · rw [List.getElem?_eq_none (by simp; omega)] at hb; cases hb
    · rintro e w1 ⟨rfl, rfl⟩
      exact ⟨rfl, bal (bal (Below.refl _ _) _) _⟩
theorem cany71 (s : ByteArray) (w : World) (hs : s.size ≤ 1048576) :
    Calls Tryz.prog 71 #[.string s, .string crlf] w fun e w' => e = .returned (.bool (decide (0 ≤ Lib.indexAny s.data.toList nocr))) ∧ Below w.heap.size w w' := by
  have I := iany92 s w hs
  go_enter Tryz.func71, Tryz.ntmps71
  go_wp2_with (go_at_call 92; refine I.mono ?_; rintro e w' ⟨rfl, hw⟩)
  go_ret
  exact ⟨rfl, hw⟩
/-- A text is plain. -/
def plainB (s : ByteArray) : Bool := Lib.validD s.data.toList && !decide (0 ≤ Lib.indexAny s.data.toList nocr)
theorem plain54 (s : ByteArray) (w : World) (hs : s.size ≤ 1048576) (hT : Lib.Utf8Tabs 0 1 w) :
    Calls Tryz.prog 54 #[.string s] w fun e w' => e = .returned (.bool (plainB s)) ∧ Below w.heap.size w w' := by
  have V := valid70 s w hs hT
  unfold plainB
  generalize Lib.validD s.data.toList = v at *
  have C := fun W => cany71 s W hs
  generalize decide (0 ≤ Lib.indexAny s.data.toList nocr) = a at *
  cases v
  · go_enter Tryz.func54, Tryz.ntmps54
    go_wp2_with (go_at_call 70; refine V.mono ?_; rintro e w1 ⟨rfl, hw⟩)
    go_ret
    exact ⟨rfl, hw⟩
  · go_enter Tryz.func54, Tryz.ntmps54
    go_wp2_with (first | (go_at_call 70; refine V.mono ?_; rintro e w1 ⟨rfl, hw⟩) | (go_at_call 71; refine (C _).mono ?_; rintro e w2 ⟨rfl, hw2⟩))
    go_ret
    exact ⟨by cases a <;> rfl, hw.trans ⟨hw2.os, hw2.tape, hw2.output, hw2.size, fun j hj => hw2.block j (Nat.lt_of_lt_of_le hj hw.size)⟩⟩
end Go.Proofs.YthfdiinfeljeeaaGreatDoor
/- What the reference tells of a text is what the decoder finds, step by step. -/
namespace Go.Proofs.YthfdiinfeljeeaaGreatDoor.U
open Go.Lib
def Step (L : List UInt8) : Prop := ∃ (r : Int) (k : Nat), 1 ≤ k ∧ k ≤ L.length ∧ tells8 U8.zero (nums L) = r :: tells8 U8.zero (nums (L.drop k)) ∧
  ((decodeL L = (65533, 1) ∧ r = 65533) ∨ (decodeL L = (r.toNat, k) ∧ 0 ≤ r ∧ (r < 128 ∨ 2 ≤ k)))
theorem wants_lead {a : Int} {n : Nat} (hn : n = 1 ∨ n = 2 ∨ n = 3) (h : (wantsF a).1 = n) : (n = 1 → 194 ≤ a ∧ a ≤ 223 ∧ (wantsF a).2 = (128, 191)) ∧
    (n = 2 → 224 ≤ a ∧ a ≤ 239 ∧ (wantsF a).2 = (if a = 224 then 160 else 128, if a = 237 then 159 else 191)) ∧ (n = 3 → 240 ≤ a ∧ a ≤ 244 ∧ (wantsF a).2 = (if a = 240 then 144 else 128, if a = 244 then 143 else 191)) := by
  unfold wantsF at h ⊢
  repeat' split at h
  all_goals (simp only at h)
  all_goals first
    | (exfalso; omega)
    | skip
  all_goals (refine ⟨fun e => ?_, fun e => ?_, fun e => ?_⟩)
  all_goals first
    | (exfalso; omega)
    | skip
  all_goals (refine ⟨by omega, by omega, ?_⟩)
  all_goals (repeat' split)
  all_goals first
    | rfl
    | (exfalso; omega)
set_option linter.unusedSimpArgs false in
set_option maxHeartbeats 4000000 in
theorem step8 : ∀ (L : List UInt8), L ≠ [] → Step L
  | [], h => absurd rfl h
  | a :: t, _ => by
    have ka := a.toNat_lt
    rcases wantsF_cases (a.toNat : Int) with ⟨h1, h2⟩ | ⟨h1, h2⟩ | ⟨n, hn, h1, h2, _, _⟩
    · refine ⟨65533, 1, by omega, by simp, ?_, .inl ⟨?_, rfl⟩⟩
      · rw [nums_cons, tells8_cons, step8_clean _ _ rfl, h2]; rfl
      · rw [decodeL_N]
        refine decodeN_bad _ _ _ _ _ ?_
        simp only [List.getD_cons_zero]
        unfold wantsF at h1
        repeat' split at h1
        all_goals (simp only at h1)
        all_goals omega
    · refine ⟨a.toNat, 1, by omega, by simp, ?_, .inr ⟨?_, by omega, .inl ?_⟩⟩
      · rw [nums_cons, tells8_cons, step8_clean _ _ rfl, h2]; rfl
      · rw [decodeL_ascii a t]
        · rfl
        · unfold wantsF at h1
          repeat' split at h1
          all_goals (simp only at h1)
          all_goals omega
      · unfold wantsF at h1
        repeat' split at h1
        all_goals (simp only at h1)
        all_goals omega
    · have hF := RelU.first (r := t) h2 rfl (by omega)
      obtain ⟨w1, w2, w3⟩ := wants_lead hn h1
      clear h1 h2
      rcases hn with rfl | hn
      · obtain ⟨g1, g2, g3⟩ := w1 rfl
        rw [g3] at hF
        dsimp only at hF
        clear w1 w2 w3 g3
        cases t with
        | nil =>
          have hT := hF.short (by omega) (by simp)
          refine ⟨65533, 1, by omega, by simp, hT, .inl ⟨?_, rfl⟩⟩
          rw [decodeL_N]
          simp only [List.length_cons, List.length_nil, List.getD_cons_zero, List.getD_cons_succ, List.getD_nil]
          unfold decodeN
          repeat' split
          all_goals first
            | rfl
            | (exfalso; omega)
        | cons b t2 =>
          have kb := b.toNat_lt
          have hg : ((a :: b :: t2) : List UInt8)[1]'(by simp) = b := rfl
          by_cases hr : ((U8.mk 0 0 128 191).lo : Int) ≤ (b.toNat : Int) ∧ (b.toNat : Int) ≤ (U8.mk 0 0 128 191).hi
          · have hU2 := hF.next (by omega) (by simp) (by rw [hg]; exact hr)
            rw [hg] at hU2
            dsimp only at hr hU2
            have hT := (hU2.done (by omega)).2
            dsimp only at hT
            refine ⟨_, 2, by omega, by simp, hT, .inr ⟨?_, by omega, .inr (by omega)⟩⟩
            rw [decodeL_N]
            simp only [List.length_cons, List.getD_cons_zero, List.getD_cons_succ]
            unfold decodeN
            repeat' split
            all_goals first
              | (refine Prod.ext ?_ rfl; show _ = _; omega)
              | (exfalso; omega)
          · have hT := hF.misfit (by omega) (by simp) (by rw [hg]; exact hr)
            dsimp only at hr
            refine ⟨65533, 1, by omega, by simp, hT, .inl ⟨?_, rfl⟩⟩
            rw [decodeL_N]
            simp only [List.length_cons, List.length_nil, List.getD_cons_zero, List.getD_cons_succ, List.getD_nil]
            unfold decodeN
            repeat' split
            all_goals first
              | rfl
              | (exfalso; omega)
      rcases hn with rfl | rfl
      · obtain ⟨g1, g2, g3⟩ := w2 rfl
        rw [g3] at hF
        dsimp only at hF
        clear w1 w2 w3 g3
        cases t with
        | nil =>
          have hT := hF.short (by omega) (by simp)
          refine ⟨65533, 1, by omega, by simp, hT, .inl ⟨?_, rfl⟩⟩
          rw [decodeL_N]
          simp only [List.length_cons, List.length_nil, List.getD_cons_zero, List.getD_cons_succ, List.getD_nil]
          unfold decodeN
          repeat' split
          all_goals first
            | rfl
            | (exfalso; omega)
        | cons b t2 =>
          have kb := b.toNat_lt
          have hg : ((a :: b :: t2) : List UInt8)[1]'(by simp) = b := rfl
          by_cases hr : ((U8.mk 0 0 (if (a.toNat : Int) = 224 then 160 else 128) (if (a.toNat : Int) = 237 then 159 else 191)).lo : Int) ≤ (b.toNat : Int) ∧ (b.toNat : Int) ≤ (U8.mk 0 0 (if (a.toNat : Int) = 224 then 160 else 128) (if (a.toNat : Int) = 237 then 159 else 191)).hi
          · have hU2 := hF.next (by omega) (by simp) (by rw [hg]; exact hr)
            rw [hg] at hU2
            dsimp only at hr hU2
            cases t2 with
            | nil =>
              have hT := hU2.short (by omega) (by simp)
              refine ⟨65533, 2, by omega, by simp, hT, .inl ⟨?_, rfl⟩⟩
              rw [decodeL_N]
              simp only [List.length_cons, List.length_nil, List.getD_cons_zero, List.getD_cons_succ, List.getD_nil]
              unfold decodeN
              repeat' split
              all_goals first
                | rfl
                | (exfalso; omega)
            | cons c t3 =>
              have kc := c.toNat_lt
              have hg : ((a :: b :: c :: t3) : List UInt8)[2]'(by simp) = c := rfl
              by_cases hr : ((U8.mk 0 0 128 191).lo : Int) ≤ (c.toNat : Int) ∧ (c.toNat : Int) ≤ (U8.mk 0 0 128 191).hi
              · have hU3 := hU2.next (by omega) (by simp) (by rw [hg]; exact hr)
                rw [hg] at hU3
                dsimp only at hr hU3
                have hT := (hU3.done (by omega)).2
                dsimp only at hT
                refine ⟨_, 3, by omega, by simp, hT, .inr ⟨?_, by omega, .inr (by omega)⟩⟩
                rw [decodeL_N]
                simp only [List.length_cons, List.getD_cons_zero, List.getD_cons_succ]
                unfold decodeN
                repeat' split
                all_goals first
                  | (refine Prod.ext ?_ rfl; show _ = _; omega)
                  | (exfalso; omega)
              · have hT := hU2.misfit (by omega) (by simp) (by rw [hg]; exact hr)
                dsimp only at hr
                refine ⟨65533, 2, by omega, by simp, hT, .inl ⟨?_, rfl⟩⟩
                rw [decodeL_N]
                simp only [List.length_cons, List.length_nil, List.getD_cons_zero, List.getD_cons_succ, List.getD_nil]
                unfold decodeN
                repeat' split
                all_goals first
                  | rfl
                  | (exfalso; omega)
          · have hT := hF.misfit (by omega) (by simp) (by rw [hg]; exact hr)
            dsimp only at hr
            refine ⟨65533, 1, by omega, by simp, hT, .inl ⟨?_, rfl⟩⟩
            rw [decodeL_N]
            simp only [List.length_cons, List.length_nil, List.getD_cons_zero, List.getD_cons_succ, List.getD_nil]
            unfold decodeN
            repeat' split
            all_goals first
              | rfl
              | (exfalso; omega)
      · obtain ⟨g1, g2, g3⟩ := w3 rfl
        rw [g3] at hF
        dsimp only at hF
        clear w1 w2 w3 g3
        cases t with
        | nil =>
          have hT := hF.short (by omega) (by simp)
          refine ⟨65533, 1, by omega, by simp, hT, .inl ⟨?_, rfl⟩⟩
          rw [decodeL_N]
          simp only [List.length_cons, List.length_nil, List.getD_cons_zero, List.getD_cons_succ, List.getD_nil]
          unfold decodeN
          repeat' split
          all_goals first
            | rfl
            | (exfalso; omega)
        | cons b t2 =>
          have kb := b.toNat_lt
          have hg : ((a :: b :: t2) : List UInt8)[1]'(by simp) = b := rfl
          by_cases hr : ((U8.mk 0 0 (if (a.toNat : Int) = 240 then 144 else 128) (if (a.toNat : Int) = 244 then 143 else 191)).lo : Int) ≤ (b.toNat : Int) ∧ (b.toNat : Int) ≤ (U8.mk 0 0 (if (a.toNat : Int) = 240 then 144 else 128) (if (a.toNat : Int) = 244 then 143 else 191)).hi
          · have hU2 := hF.next (by omega) (by simp) (by rw [hg]; exact hr)
            rw [hg] at hU2
            dsimp only at hr hU2
            cases t2 with
            | nil =>
              have hT := hU2.short (by omega) (by simp)
              refine ⟨65533, 2, by omega, by simp, hT, .inl ⟨?_, rfl⟩⟩
              rw [decodeL_N]
              simp only [List.length_cons, List.length_nil, List.getD_cons_zero, List.getD_cons_succ, List.getD_nil]
              unfold decodeN
              repeat' split
              all_goals first
                | rfl
                | (exfalso; omega)
            | cons c t3 =>
              have kc := c.toNat_lt
              have hg : ((a :: b :: c :: t3) : List UInt8)[2]'(by simp) = c := rfl
              by_cases hr : ((U8.mk 0 0 128 191).lo : Int) ≤ (c.toNat : Int) ∧ (c.toNat : Int) ≤ (U8.mk 0 0 128 191).hi
              · have hU3 := hU2.next (by omega) (by simp) (by rw [hg]; exact hr)
                rw [hg] at hU3
                dsimp only at hr hU3
                cases t3 with
                | nil =>
                  have hT := hU3.short (by omega) (by simp)
                  refine ⟨65533, 3, by omega, by simp, hT, .inl ⟨?_, rfl⟩⟩
                  rw [decodeL_N]
                  simp only [List.length_cons, List.length_nil, List.getD_cons_zero, List.getD_cons_succ, List.getD_nil]
                  unfold decodeN
                  repeat' split
                  all_goals first
                    | rfl
                    | (exfalso; omega)
                | cons d t4 =>
                  have kd := d.toNat_lt
                  have hg : ((a :: b :: c :: d :: t4) : List UInt8)[3]'(by simp) = d := rfl
                  by_cases hr : ((U8.mk 0 0 128 191).lo : Int) ≤ (d.toNat : Int) ∧ (d.toNat : Int) ≤ (U8.mk 0 0 128 191).hi
                  · have hU4 := hU3.next (by omega) (by simp) (by rw [hg]; exact hr)
                    rw [hg] at hU4
                    dsimp only at hr hU4
                    have hT := (hU4.done (by omega)).2
                    dsimp only at hT
                    refine ⟨_, 4, by omega, by simp, hT, .inr ⟨?_, by omega, .inr (by omega)⟩⟩
                    rw [decodeL_N]
                    simp only [List.length_cons, List.getD_cons_zero, List.getD_cons_succ]
                    unfold decodeN
                    repeat' split
                    all_goals first
                      | (refine Prod.ext ?_ rfl; show _ = _; omega)
                      | (exfalso; omega)
                  · have hT := hU3.misfit (by omega) (by simp) (by rw [hg]; exact hr)
                    dsimp only at hr
                    refine ⟨65533, 3, by omega, by simp, hT, .inl ⟨?_, rfl⟩⟩
                    rw [decodeL_N]
                    simp only [List.length_cons, List.length_nil, List.getD_cons_zero, List.getD_cons_succ, List.getD_nil]
                    unfold decodeN
                    repeat' split
                    all_goals first
                      | rfl
                      | (exfalso; omega)
              · have hT := hU2.misfit (by omega) (by simp) (by rw [hg]; exact hr)
                dsimp only at hr
                refine ⟨65533, 2, by omega, by simp, hT, .inl ⟨?_, rfl⟩⟩
                rw [decodeL_N]
                simp only [List.length_cons, List.length_nil, List.getD_cons_zero, List.getD_cons_succ, List.getD_nil]
                unfold decodeN
                repeat' split
                all_goals first
                  | rfl
                  | (exfalso; omega)
          · have hT := hF.misfit (by omega) (by simp) (by rw [hg]; exact hr)
            dsimp only at hr
            refine ⟨65533, 1, by omega, by simp, hT, .inl ⟨?_, rfl⟩⟩
            rw [decodeL_N]
            simp only [List.length_cons, List.length_nil, List.getD_cons_zero, List.getD_cons_succ, List.getD_nil]
            unfold decodeN
            repeat' split
            all_goals first
              | rfl
              | (exfalso; omega)
end Go.Proofs.YthfdiinfeljeeaaGreatDoor.U
/- The reference's plain texts are the program's. -/
namespace Go.Proofs.YthfdiinfeljeeaaGreatDoor
open Go.RowKit Go.Lib
open U (tells8 U8 encs step8)
abbrev told (L : List UInt8) : List Int := tells8 U8.zero (nums L)
theorem told_nil : told [] = [] := rfl
theorem told_ind {Q : List UInt8 → Prop} (h0 : Q []) (h1 : ∀ (L : List UInt8) (r : Int) (k : Nat), 1 ≤ k → k ≤ L.length → told L = r :: told (L.drop k) → L ≠ [] → ((decodeL L = (65533, 1) ∧ r = 65533) ∨ (decodeL L = (r.toNat, k) ∧ 0 ≤ r ∧ (r < 128 ∨ 2 ≤ k))) → Q (L.drop k) → Q L) : ∀ L, Q L := by
  have : ∀ (n : Nat) (L : List UInt8), L.length ≤ n → Q L := by
    intro n
    induction n with
    | zero => intro L h; obtain rfl : L = [] := List.eq_nil_of_length_eq_zero (by omega); exact h0
    | succ n ih =>
      intro L h
      by_cases hL : L = []
      · subst hL; exact h0
      · obtain ⟨r, k, hk1, hk2, ht, hd⟩ := step8 L hL
        exact h1 L r k hk1 hk2 ht hL hd (ih _ (by rw [List.length_drop]; omega))
  exact fun L => this L.length L (Nat.le_refl _)
theorem told_len (L : List UInt8) : (told L).length ≤ L.length := by
  refine told_ind (Q := fun L => (told L).length ≤ L.length) (by simp [told_nil]) ?_ L
  intro L r k hk1 hk2 ht _ _ ih
  rw [ht, List.length_cons]
  rw [List.length_drop] at ih
  omega
theorem told_range (L : List UInt8) : ∀ x ∈ told L, 0 ≤ x ∧ x ≤ 1114111 := by
  refine told_ind (Q := fun L => ∀ x ∈ told L, 0 ≤ x ∧ x ≤ 1114111) (by simp [told_nil]) ?_ L
  intro L r k hk1 hk2 ht _ hd ih x hx
  rw [ht] at hx
  rcases List.mem_cons.1 hx with rfl | hx
  · rcases hd with ⟨_, rfl⟩ | ⟨hd, h0, _⟩
    · omega
    · have := decodeL_rune L
      rw [hd] at this
      simp only at this
      omega
  · exact ih x hx
theorem head_bad (t : List UInt8) : decodeL (239 :: 191 :: 189 :: t) ≠ (65533, 1) := by
  rw [decodeL_N]
  simp only [List.length_cons, List.getD_cons_zero, List.getD_cons_succ]
  simp [decodeN]
theorem told_same (L : List UInt8) : encs (told L) = L ↔ validD L = true := by
  refine told_ind (Q := fun L => encs (told L) = L ↔ validD L = true) (by simp [told_nil, encs, validD_nil]) ?_ L
  intro L r k hk1 hk2 ht hne hd ih
  rw [validD_step L hne, ht, show encs (r :: told (L.drop k)) = encodeRune r ++ encs (told (L.drop k)) by simp [encs]]
  rcases hd with ⟨hd, rfl⟩ | ⟨hd, h0, hk⟩
  · rw [hd, if_pos ⟨rfl, rfl⟩]
    constructor
    · intro h
      rw [show encodeRune 65533 = [239, 191, 189] by decide] at h
      rw [← h] at hd
      exact absurd hd (head_bad _)
    · intro h; cases h
  · have hb : ¬ ((decodeL L).1 = 65533 ∧ (decodeL L).2 = 1) := by
      rw [hd]; simp only; omega
    rw [if_neg hb, hd]
    have he := encode_decode L hne hb
    rw [hd, show ((r.toNat : Nat) : Int) = r by omega] at he
    rw [he]
    simp only
    rw [← ih]
    constructor
    · intro h
      have h2 : List.take k L ++ encs (told (List.drop k L)) = List.take k L ++ List.drop k L := by rw [h, List.take_append_drop]
      exact List.append_cancel_left h2
    · intro h
      rw [h, List.take_append_drop]
def crI (X : List Int) : Bool := X.any fun x => x == 0 || x == 13
def crB (L : List UInt8) : Bool := L.any fun x => x == 0 || x == 13
theorem crB_app (a b : List UInt8) : crB (a ++ b) = (crB a || crB b) := by simp [crB]
theorem crB_encode (r : Int) (h0 : 0 ≤ r) (h1 : r ≤ 1114111) : crB (encodeRune r) = (r == 0 || r == 13) := by
  by_cases h : r ≤ 127
  · rw [encodeRune, encodeRuneZ_one h0 h]
    obtain ⟨n, rfl⟩ : ∃ n : Nat, r = n := ⟨r.toNat, by omega⟩
    simp only [crB, List.map_cons, List.map_nil, List.any_cons, List.any_nil, Bool.or_false, Int.toNat_natCast]
    rw [Bool.eq_iff_iff]
    simp only [Bool.or_eq_true, beq_iff_eq]
    have e : (n.toUInt8).toNat = n := by simp; omega
    constructor
    · rintro (h | h)
      · left; rw [h] at e; simp at e; omega
      · right; rw [h] at e; simp at e; omega
    · rintro (h | h)
      · left; obtain rfl : n = 0 := by omega
        rfl
      · right; obtain rfl : n = 13 := by omega
        rfl
  · have hh : ∀ x ∈ encodeRuneZ r, 128 ≤ x := by
      rw [encodeRuneZ]
      repeat' split
      all_goals (simp only [List.mem_cons, List.not_mem_nil, or_false]; rintro x hx; omega)
    have : crB (encodeRune r) = false := by
      rw [crB, List.any_eq_false]
      intro x hx
      obtain ⟨z, hz, rfl⟩ := List.mem_map.1 hx
      have h1 := hh z hz
      have h2 := encodeRuneZ_byte r z hz
      have e : (z.toNat.toUInt8).toNat = z.toNat := by simp; omega
      simp only [Bool.or_eq_true, beq_iff_eq, not_or]
      constructor
      · intro h; rw [h] at e; simp at e; omega
      · intro h; rw [h] at e; simp at e; omega
    rw [this, beq_eq_false_iff_ne.2 (by omega), beq_eq_false_iff_ne.2 (by omega)]
    rfl
theorem crB_encs : ∀ (X : List Int), (∀ x ∈ X, 0 ≤ x ∧ x ≤ 1114111) → crB (encs X) = crI X
  | [], _ => rfl
  | x :: X, h => by
    rw [show encs (x :: X) = encodeRune x ++ encs X by simp [encs], crB_app, crB_encode x (h x (by simp)).1 (h x (by simp)).2, crB_encs X fun y hy => h y (by simp [hy])]
    rfl
theorem crB_any (L : List UInt8) : crB L = decide (0 ≤ indexAny L nocr) := by
  induction L with
  | nil => rfl
  | cons a t ih =>
    rw [show crB (a :: t) = ((a == 0 || a == 13) || crB t) from rfl, ih]
    have hg := indexAny_ge nocr t
    rw [show indexAny (a :: t) nocr = if nocr.contains a then 0 else if (indexAny t nocr == -1) = true then -1 else indexAny t nocr + 1 from rfl]
    rw [show nocr.contains a = (a == 0 || a == 13) by simp only [nocr, List.contains_cons, List.contains_nil, Bool.or_false]]
    generalize indexAny t nocr = z at *
    cases a == 0 || a == 13
    · simp only [Bool.false_or, Bool.false_eq_true, if_false]
      split
      · next h => rw [beq_iff_eq] at h; rw [decide_eq_false (by omega), decide_eq_false (by omega)]
      · next h => rw [beq_iff_eq] at h; rw [Bool.eq_iff_iff, decide_eq_true_eq, decide_eq_true_eq]; omega
    · simp
/-- The two are the same. -/
theorem plain_eq (s : ByteArray) : (!crI (told s.data.toList) && (encs (told s.data.toList) == s.data.toList)) = plainB s := by
  unfold plainB
  rw [← crB_any]
  cases hv : validD s.data.toList with
  | true =>
    have h := (told_same s.data.toList).2 hv
    rw [← crB_encs _ (told_range _), h]
    simp
  | false =>
    rw [show (encs (told s.data.toList) == s.data.toList) = false by
      rw [beq_eq_false_iff_ne]
      intro h
      rw [(told_same _).1 h] at hv
      cases hv]
    simp
end Go.Proofs.YthfdiinfeljeeaaGreatDoor
/- The reference's plain texts: the walk. -/
namespace Go.Proofs.YthfdiinfeljeeaaGreatDoor
open Go.RowKit Go.Lib
set_option maxRecDepth 100000 in
theorem own_conv {w : World} {base m c : Nat} {oa : Option Addr} {L : List UInt8} (h : w.ownsRow base 5 1 (.slice oa m c) m (u8s L)) : (convert 93 9 (.slice oa m c)).run Tryz.prog w = .ok (.string (mkS L)) w := by
  have hm : m = L.length := by have := h.1; rw [u8s_length] at this; omega
  rcases h.2 with ⟨hv, h0⟩ | ⟨g, cap, cur, hv, _⟩
  · injection hv with e1 e2 e3
    subst e1
    have : L = [] := List.eq_nil_of_length_eq_zero (by omega)
    subst this
    exact run_convert_bytes_nil w 93 5 Tryz.underlying93 Tryz.underlying5 _ _ 9 Tryz.underlying9
  · injection hv with e1 e2 e3
    subst e1
    rw [← strOfNums_u8]
    refine run_convert_bytes_arg w 93 5 Tryz.underlying93 Tryz.underlying5 g 0 m c _ (by simp [hm]) (fun i hi => ?_) 9 Tryz.underlying9
    obtain ⟨ad, had, hc⟩ := (own_read h).2 i (.int .u8 (L[i]'(by omega)).toNat) (by simp [u8s, show i < L.length by omega])
    cases had
    rw [show (⟨g, 0 + i, none⟩ : Addr) = Addr.add ⟨g, 0, none⟩ i by unfold Addr.add; split <;> simp_all, hc]
    simp [List.getD_eq_getElem?_getD, show i < L.length by omega]
theorem rd_bytes (w : World) (s : ByteArray) : RdB (bytesWorld w 5 s) (some ⟨w.heap.size, 0, none⟩) s.data.toList := fun j hj => by
  refine ⟨_, rfl, ?_⟩
  rw [show (Addr.add ⟨w.heap.size, 0, none⟩ j) = ⟨w.heap.size, j, none⟩ by unfold Addr.add; split <;> simp_all, bytesWorld_cell w 5 s j (by rw [← dlen]; exact hj)]
  rw [List.getD_eq_getElem?_getD, List.getElem?_eq_getElem hj]
  rfl
set_option maxHeartbeats 2000000 in
set_option maxRecDepth 100000 in
theorem rplain59 (s : ByteArray) (w : World) (hs : s.size ≤ 1048576) :
    Calls Tryz.prog 59 #[.string s] w fun e w' => e = .returned (.bool (plainB s)) ∧ Below w.heap.size w w' := by
  rw [← plain_eq]
  have hl : s.data.toList.length = s.size := dlen s
  have hlen := told_len s.data.toList
  have hrg := told_range s.data.toList
  have T := U.rtext14 (k := 0) (by decide) (by decide) (T := U.tells8 U.U8.zero) U.take27_0 rfl (some ⟨w.heap.size, 0, none⟩) s.size (grownCap w s.size 0 5) s.data.toList _ hl.symm (by omega) (Nat.le_trans hlen (by omega)) (rd_bytes w s)
  have C := Go.Lib.run_convert_string_bytes (P := Tryz.prog) w 9 93 5 s Tryz.underlying9 Tryz.underlying93 Tryz.underlying5
  have hbw := conv_below w 5 s
  have e0 : U.tells8 U.U8.zero (nums s.data.toList) = told s.data.toList := rfl
  rw [e0] at T
  clear e0
  generalize told s.data.toList = X at *
  generalize bytesWorld w 5 s = wb at *
  have HL := Go.Lib.hid (And.intro hlen hl)
  clear hlen hl
  go_enter Tryz.func59, Tryz.ntmps59
  go_wp2_with fail
  refine T.mono ?_
  rintro e w1 ⟨v, rfl, hown, hb1⟩
  obtain ⟨oa, c, rfl⟩ := own_slice hown
  have hR := U.RdR.own hown
  have hb2 : Below w.heap.size w w1 := hbw.trans ⟨hb1.os, hb1.tape, hb1.output, hb1.size, fun j hj => hb1.block j (Nat.lt_of_lt_of_le hj hbw.size)⟩
  have UT := U.rutf8_19 oa X.length c X w1 rfl (by have := HL.out; omega) hR (fun x hx => by have := hrg x hx; omega)
  have hXl : X.length ≤ 1048576 := by have := HL.out; omega
  clear T C hb1 hbw hown
  go_wp2
  go_loopw [5] (fun v5 wr => ∃ i : Nat, v5 = .int .i64 i ∧ i ≤ X.length ∧ wr = w1 ∧ crI (X.take i) = false) (fun v5 _ => X.length - (RowKit.intOf v5).toNat)
  case atStart => exact ⟨0, rfl, Nat.zero_le _, rfl, rfl⟩
  case round =>
    obtain ⟨i, rfl, hi, rfl, hcr⟩ := hrel
    by_cases hlt : i < X.length
    · obtain ⟨ad, hoa, hc⟩ := hR i hlt
      subst hoa
      have htk : crI (X.take (i + 1)) = (X[i] == 0 || X[i] == 13) := by
        rw [crI, List.take_succ_eq_append_getElem hlt, List.any_append, show (X.take i).any _ = false from hcr]
        simp
      have hall : (X[i] == 0 || X[i] == 13) = true → crI X = true := by
        intro h
        rw [crI, List.any_eq_true]
        exact ⟨X[i], List.getElem_mem hlt, h⟩
      have H := Go.Lib.hid (And.intro htk hall)
      clear htk hall hcr
      generalize X[i] = x at *
      cases h0 : x == 0
      · cases h13 : x == 13
        · go_wp2
          go_roundw
          case rel => exact ⟨i + 1, by go_num, by omega, by trivial, by rw [H.out.1, h0, h13]; rfl⟩
          case measure => simp [RowKit.intOf]; omega
        · go_wp2
          go_ret
          exact ⟨by rw [H.out.2 (by rw [h0, h13]; rfl)]; rfl, hb2⟩
      · go_wp2
        go_ret
        exact ⟨by rw [H.out.2 (by rw [h0]; rfl)]; rfl, hb2⟩
    · obtain rfl : i = X.length := by omega
      rw [List.take_of_length_le (Nat.le_refl _)] at hcr
      have hcr := Go.Lib.hid hcr
      clear hR
      go_wp2_with fail
      refine UT.mono ?_
      rintro e w2 ⟨v2, rfl, hown2, hb3⟩
      obtain ⟨oa2, c2, rfl⟩ := own_slice hown2
      have C2 := own_conv hown2
      go_wp2
      go_ret
      refine ⟨by rw [hcr.out]; show Ending.returned (Value.bool ((mkS (U.encs X)).toList == s.toList)) = _; rw [tl_mkS, tl]; rfl, hb2.trans ⟨hb3.os, hb3.tape, hb3.output, hb3.size, fun j hj => hb3.block j (Nat.lt_of_lt_of_le hj hb2.size)⟩⟩
end Go.Proofs.YthfdiinfeljeeaaGreatDoor
/- Plain names, both sides. -/
namespace Go.Proofs.YthfdiinfeljeeaaGreatDoor
open Go.RowKit
def letB (x : UInt8) : Bool := decide (97 ≤ x.toNat) && decide (x.toNat ≤ 122)
def okB (x : UInt8) : Bool := letB x || x.toNat == 45 || (decide (48 ≤ x.toNat) && decide (x.toNat ≤ 57))
def nameL : List UInt8 → Bool
  | [] => false
  | a :: t => letB a && t.all okB && decide (t.length + 1 ≤ 50)
abbrev setS : ByteArray := ⟨#[97, 98, 99, 100, 101, 102, 103, 104, 105, 106, 107, 108, 109, 110, 111, 112, 113, 114, 115, 116, 117, 118, 119, 120, 121, 122, 48, 49, 50, 51, 52, 53, 54, 55, 56, 57, 45]⟩
theorem set_ok (x : UInt8) : setS.data.toList.contains x = okB x := by
  have : ∀ n : Fin 256, setS.data.toList.contains (UInt8.ofNat n.val) = okB (UInt8.ofNat n.val) := by decide +kernel
  have h := this ⟨x.toNat, x.toNat_lt⟩
  simpa using h
theorem dropWhile_nil {p : UInt8 → Bool} {l : List UInt8} : l.dropWhile p = [] ↔ ∀ x ∈ l, p x = true := by
  induction l with
  | nil => simp
  | cons a t ih =>
    rw [List.dropWhile_cons]
    by_cases h : p a = true
    · rw [if_pos h, ih]; simp [h]
    · rw [if_neg h]; simp [h]
theorem trimS_nil (l cs : List UInt8) : (Lib.trimS l cs == []) = l.all (cs.contains ·) := by
  rw [Bool.eq_iff_iff, beq_iff_eq, List.all_eq_true]
  unfold Lib.trimS Lib.trimLeftS Lib.trimRightS
  constructor
  · intro h
    have h1 := dropWhile_nil.1 h
    have h2 : List.dropWhile (cs.contains ·) l.reverse = [] := by
      cases hd : List.dropWhile (cs.contains ·) l.reverse with
      | nil => rfl
      | cons a t =>
        have hn := List.head_dropWhile_not (l := l.reverse) (cs.contains ·) (by rw [hd]; simp)
        have h3 := h1 a (by rw [hd]; simp)
        simp only [hd, List.head_cons] at hn
        rw [hn] at h3
        cases h3
    have h4 := dropWhile_nil.1 h2
    intro x hx
    exact h4 x (List.mem_reverse.2 hx)
  · intro h
    have h2 : List.dropWhile (cs.contains ·) l.reverse = [] := dropWhile_nil.2 fun x hx => h x (List.mem_reverse.1 hx)
    rw [h2]
    rfl
theorem name_no {a : UInt8} {al : Bool} {n : Nat} (h : ¬ (97 ≤ (a.toNat : Int) ∧ (a.toNat : Int) ≤ 122 ∧ (n : Int) ≤ 50)) : (letB a && al && decide (n ≤ 50)) = false := by
  rw [Bool.eq_false_iff]
  intro h2
  simp only [letB, Bool.and_eq_true, decide_eq_true_eq] at h2
  omega
theorem name_yes {a : UInt8} {al : Bool} {n : Nat} {tr : List UInt8} (h : 97 ≤ (a.toNat : Int) ∧ (a.toNat : Int) ≤ 122 ∧ (n : Int) ≤ 50) (ht : ((ByteArray.mk tr.toArray).toList == []) = (okB a && al)) : tr.isEmpty = (letB a && al && decide (n ≤ 50)) := by
  have h1 : letB a = true := by simp only [letB, Bool.and_eq_true, decide_eq_true_eq]; omega
  have h2 : okB a = true := by rw [okB, h1]; rfl
  rw [h1, decide_eq_true (show n ≤ 50 by omega), Bool.true_and, Bool.and_true]
  rw [h2, Bool.true_and, tl] at ht
  rw [← ht]
  cases tr <;> rfl
set_option maxRecDepth 100000 in
theorem name55 (s : ByteArray) (w : World) (hs : s.size ≤ 1048576) :
    Calls Tryz.prog 55 #[.string s] w fun e w' => e = .returned (.bool (nameL s.data.toList)) ∧ Below w.heap.size w w' := by
  have T := (Any.strings_Trim_laid Tryz.lays160 (by kernel_rfl) s setS w (by omega) (by decide) (ascii_of_all (by decide)))
  have hsz : s.data.toList.length = s.size := dlen s
  have HT : ((ByteArray.mk (Lib.trimS s.data.toList setS.data.toList).toArray).toList == []) = s.data.toList.all okB := by
    rw [tl]
    show (Lib.trimS s.data.toList setS.data.toList == []) = _
    rw [trimS_nil]
    congr 1
    funext x
    exact set_ok x
  have hdt : ∀ h : 0 < s.size, s.data.toList[0]? = some (s[0]'h) := fun h => Lib.data_getElem? s 0 h
  generalize Lib.trimS s.data.toList setS.data.toList = tr at *
  rcases hL : s.data.toList with _ | ⟨a, t⟩
  · have hemp : s.toList.isEmpty = true := by rw [tl, hL]; rfl
    clear T HT hdt
    go_enter Tryz.func55, Tryz.ntmps55
    go_wp2
    go_ret
    exact ⟨rfl, Below.refl _ _⟩
  · have hemp : s.toList.isEmpty = false := by rw [tl, hL]; rfl
    have h0 : 0 < s.size := by rw [← hsz, hL]; simp
    have ha : s[0]'h0 = a := by
      have := hdt h0
      rw [hL] at this
      injection this with this
      exact this.symm
    have ht : t.length + 1 = s.size := by rw [← hsz, hL]; simp
    have hnm : nameL (a :: t) = (letB a && t.all okB && decide (t.length + 1 ≤ 50)) := rfl
    rw [hL] at HT
    have hall : (a :: t).all okB = (okB a && t.all okB) := rfl
    rw [hall] at HT
    rw [hnm, ht]
    have HH := Go.Lib.hid HT
    have HS := Go.Lib.hid hsz
    clear hnm hall HT hL hdt hsz
    generalize t.all okB = al at *
    go_enter Tryz.func55, Tryz.ntmps55
    go_wp2_with (go_at_call 72; refine T.mono ?_; rintro e w1 ⟨rfl, hw⟩)
    all_goals go_ret
    all_goals first
      | exact ⟨ret_bool (name_no (by omega)).symm, Below.refl _ _⟩
      | exact ⟨ret_bool (name_yes (by omega) HH.out), hw⟩
end Go.Proofs.YthfdiinfeljeeaaGreatDoor
/- The reference's plain names. -/
namespace Go.Proofs.YthfdiinfeljeeaaGreatDoor
open Go.RowKit
theorem at_list (s : ByteArray) (p : Nat) (h : p < s.size) : s.data.toList.getD p 0 = s[p] := by
  rw [List.getD_eq_getElem?_getD, List.getElem?_eq_getElem (by rw [dlen]; exact h), Option.getD_some, Array.getElem_toList]
  rfl
theorem drop_at (s : ByteArray) (i : Nat) (h : i < s.size) : s.data.toList.drop i = s.data.toList.getD i 0 :: s.data.toList.drop (i + 1) := by
  rw [List.drop_eq_getElem_cons (by rw [dlen]; exact h)]
  congr 1
  rw [List.getD_eq_getElem?_getD, List.getElem?_eq_getElem (by rw [dlen]; exact h)]
  rfl
def condB (l : List UInt8) (j : Nat) : Bool := if j = 0 then letB (l.getD j 0) else okB (l.getD j 0)
theorem let_ok {x : UInt8} (h : letB x = true) : okB x = true := by rw [okB, h]; rfl
theorem nameL_no (l : List UInt8) (j : Nat) (hj : j < l.length) (h : condB l j = false) : nameL l = false := by
  cases l with
  | nil => rfl
  | cons a t =>
    unfold condB at h
    cases j with
    | zero => rw [if_pos rfl] at h; rw [nameL, show letB a = false from h]; rfl
    | succ j =>
      rw [if_neg (by omega)] at h
      have hj' : j < t.length := by simpa using hj
      have h2 : t.all okB = false := by
        rw [List.all_eq_false]
        refine ⟨t[j], List.getElem_mem hj', ?_⟩
        rw [List.getD_eq_getElem?_getD, List.getElem?_cons_succ, List.getElem?_eq_getElem hj', Option.getD_some] at h
        rw [h]; simp
      rw [nameL, h2]
      simp
theorem nameL_all (l : List UInt8) (h : ∀ j, j < l.length → condB l j = true) : nameL l = (decide (1 ≤ l.length) && decide (l.length ≤ 50)) := by
  cases l with
  | nil => rfl
  | cons a t =>
    have h0 : letB a = true := by have := h 0 (by simp); rwa [condB, if_pos rfl] at this
    have h1 : t.all okB = true := by
      rw [List.all_eq_true]
      intro x hx
      obtain ⟨j, hj, rfl⟩ := List.mem_iff_getElem.1 hx
      have := h (j + 1) (by simpa using hj)
      rw [condB, if_neg (by omega), List.getD_eq_getElem?_getD, List.getElem?_cons_succ, List.getElem?_eq_getElem hj, Option.getD_some] at this
      exact this
    rw [nameL, h0, h1, decide_eq_true (show 1 ≤ (a :: t).length by simp)]
    simp
set_option maxHeartbeats 2000000 in
set_option maxRecDepth 100000 in
theorem name60 (s : ByteArray) (w : World) (hs : s.size ≤ 1048576) :
    Calls Tryz.prog 60 #[.string s] w fun e w' => e = .returned (.bool (nameL s.data.toList)) ∧ Below w.heap.size w w' := by
  go_enter Tryz.func60, Tryz.ntmps60
  go_wp2
  go_loopw [3, 4] (fun v3 _ wr => ∃ i : Nat, v3 = .int .i64 i ∧ i ≤ s.size ∧ (∀ j, j < i → condB s.data.toList j = true) ∧ wr = w) (fun v3 _ _ => s.size - (intOf v3).toNat)
  case atStart => exact ⟨0, rfl, Nat.zero_le _, fun j hj => absurd hj (Nat.not_lt_zero _), rfl⟩
  case round =>
    obtain ⟨i, rfl, hi, hall, rfl⟩ := hrel
    by_cases hlt : i < s.size
    · have hg := at_list s i hlt
      obtain ⟨x, hx⟩ : ∃ x, s[i]'hlt = x := ⟨_, rfl⟩
      rw [hx] at hg
      have i0 : (0 : Int) ≤ (i : Int) := by omega
      have i1 : (i : Int) < (s.size : Int) := by omega
      have hxl := x.toNat_lt
      by_cases h97 : (97 : Int) ≤ (x.toNat : Int)
      · by_cases h122 : (x.toNat : Int) ≤ 122
        · have hyes : condB s.data.toList i = true := by
            have hl : letB x = true := by simp only [letB, Bool.and_eq_true, decide_eq_true_eq]; omega
            unfold condB; rw [hg]; split
            · exact hl
            · exact let_ok hl
          have HA := Go.Lib.hid hall
          clear hall
          go_wp2
          go_roundw
          case rel => exact ⟨i + 1, by go_num, by omega, (fun j hj => (Nat.lt_succ_iff_lt_or_eq.1 hj).elim (HA.out j) (fun e => e ▸ hyes)), by trivial⟩
          case measure => simp [intOf]; omega
        · by_cases hi0 : i = 0
          · have hno : condB s.data.toList i = false := by unfold condB; rw [hg, if_pos hi0, letB, decide_eq_false (show ¬ x.toNat ≤ 122 by omega), Bool.and_false]
            subst hi0
            clear hall
            go_wp2
            go_ret
            exact ⟨by rw [nameL_no s.data.toList _ (by rw [dlen]; exact hlt) hno]; rfl, Below.refl _ _⟩
          · have hin : ((i : Int) == 0) = false := beq_eq_false_iff_ne.2 (by omega)
            have h45 : ((x.toNat : Int) != 45) = true := bne_iff_ne.2 (by omega)
            have h48 : ¬ (x.toNat : Int) < 48 := by omega
            have h57 : (57 : Int) < (x.toNat : Int) := by omega
            have hno : condB s.data.toList i = false := by unfold condB; rw [hg, if_neg hi0, okB, letB, decide_eq_false (show ¬ x.toNat ≤ 122 by omega), decide_eq_false (show ¬ x.toNat ≤ 57 by omega), beq_eq_false_iff_ne.2 (show x.toNat ≠ 45 by omega)]; simp
            clear hall
            go_wp2
            go_ret
            exact ⟨by rw [nameL_no s.data.toList _ (by rw [dlen]; exact hlt) hno]; rfl, Below.refl _ _⟩
      · by_cases hi0 : i = 0
        · have hno : condB s.data.toList i = false := by unfold condB; rw [hg, if_pos hi0, letB, decide_eq_false (show ¬ 97 ≤ x.toNat by omega), Bool.false_and]
          subst hi0
          clear hall
          go_wp2
          go_ret
          exact ⟨by rw [nameL_no s.data.toList _ (by rw [dlen]; exact hlt) hno]; rfl, Below.refl _ _⟩
        · have hin : ((i : Int) == 0) = false := beq_eq_false_iff_ne.2 (by omega)
          by_cases h45 : (x.toNat : Int) = 45
          · have hyes : condB s.data.toList i = true := by unfold condB; rw [hg, if_neg hi0, okB, show (x.toNat == 45) = true from beq_iff_eq.2 (by omega)]; simp
            have h45 : ((x.toNat : Int) != 45) = false := by rw [bne_eq_false_iff_eq]; exact h45
            have HA := Go.Lib.hid hall
            clear hall
            go_wp2
            go_roundw
            case rel => exact ⟨i + 1, by go_num, by omega, (fun j hj => (Nat.lt_succ_iff_lt_or_eq.1 hj).elim (HA.out j) (fun e => e ▸ hyes)), by trivial⟩
            case measure => simp [intOf]; omega
          · have h45b : ((x.toNat : Int) != 45) = true := bne_iff_ne.2 h45
            by_cases h48 : (x.toNat : Int) < 48
            · have hno : condB s.data.toList i = false := by unfold condB; rw [hg, if_neg hi0, okB, letB, decide_eq_false (show ¬ 97 ≤ x.toNat by omega), decide_eq_false (show ¬ 48 ≤ x.toNat by omega), beq_eq_false_iff_ne.2 (show x.toNat ≠ 45 by omega)]; simp
              clear hall
              go_wp2
              go_ret
              exact ⟨by rw [nameL_no s.data.toList _ (by rw [dlen]; exact hlt) hno]; rfl, Below.refl _ _⟩
            · by_cases h57 : (57 : Int) < (x.toNat : Int)
              · have hno : condB s.data.toList i = false := by unfold condB; rw [hg, if_neg hi0, okB, letB, decide_eq_false (show ¬ 97 ≤ x.toNat by omega), decide_eq_false (show ¬ x.toNat ≤ 57 by omega), beq_eq_false_iff_ne.2 (show x.toNat ≠ 45 by omega)]; simp
                clear hall
                go_wp2
                go_ret
                exact ⟨by rw [nameL_no s.data.toList _ (by rw [dlen]; exact hlt) hno]; rfl, Below.refl _ _⟩
              · have hyes : condB s.data.toList i = true := by unfold condB; rw [hg, if_neg hi0, okB, decide_eq_true (show 48 ≤ x.toNat by omega), decide_eq_true (show x.toNat ≤ 57 by omega)]; simp
                have HA := Go.Lib.hid hall
                clear hall
                go_wp2
                go_roundw
                case rel => exact ⟨i + 1, by go_num, by omega, (fun j hj => (Nat.lt_succ_iff_lt_or_eq.1 hj).elim (HA.out j) (fun e => e ▸ hyes)), by trivial⟩
                case measure => simp [intOf]; omega
    · obtain rfl : i = s.size := by omega
      have hf := nameL_all s.data.toList (fun j hj => hall j (by rw [dlen] at hj; exact hj))
      rw [dlen] at hf
      have HF := Go.Lib.hid hf
      clear hf hall
      by_cases q1 : (1 : Int) ≤ (s.size : Int)
      · by_cases q2 : (s.size : Int) ≤ 50
        · go_wp2
          go_ret
          exact ⟨by rw [HF.out, decide_eq_true (show 1 ≤ s.size by omega), decide_eq_true (show s.size ≤ 50 by omega)]; rfl, Below.refl _ _⟩
        · go_wp2
          go_ret
          exact ⟨by rw [HF.out, decide_eq_false (show ¬ s.size ≤ 50 by omega), Bool.and_false]; rfl, Below.refl _ _⟩
      · go_wp2
        go_ret
        exact ⟨by rw [HF.out, decide_eq_false (show ¬ 1 ≤ s.size by omega), Bool.false_and]; rfl, Below.refl _ _⟩
end Go.Proofs.YthfdiinfeljeeaaGreatDoor
