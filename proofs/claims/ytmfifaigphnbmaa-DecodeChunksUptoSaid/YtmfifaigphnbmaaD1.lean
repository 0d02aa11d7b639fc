/- Words on a closure that collects code points in a variable that it captures: the variable's box, the row that it owns, and what stays as it lay. -/
import Derived.Test.YtmfifaigphnbmaaProg
import Derived.Test.YtmfifaigphnbmaaKitD
import Derived.WalkKit
import Derived.BigCall
import Derived.RangeFuncBox
namespace Go.Proofs.Ytmfifaigphnbmaa
open Go.RowKit

/-- Everything below B is as it lay, but block u. -/
structure But (u B : Nat) (w w' : World) : Prop where
  os : w'.os = w.os
  tape : w'.tape = w.tape
  output : w'.output = w.output
  size : w.heap.size ≤ w'.heap.size
  block : ∀ k, k < B → k ≠ u → w'.heap[k]? = w.heap[k]?
theorem But.refl (u B : Nat) (w : World) : But u B w w := ⟨rfl, rfl, rfl, Nat.le_refl _, fun _ _ _ => rfl⟩
theorem But.trans {u B : Nat} {a b c : World} (h : But u B a b) (k : But u B b c) : But u B a c :=
  ⟨k.os.trans h.os, k.tape.trans h.tape, k.output.trans h.output, Nat.le_trans h.size k.size, fun i hi hu => (k.block i hi hu).trans (h.block i hi hu)⟩
theorem But.mono {u B C : Nat} {a b : World} (h : But u B a b) (hc : C ≤ B) : But u C a b := ⟨h.os, h.tape, h.output, h.size, fun i hi hu => h.block i (by omega) hu⟩
theorem But.of {u B : Nat} {a b : World} (h : Below B a b) : But u B a b := ⟨h.os, h.tape, h.output, h.size, fun i hi _ => h.block i hi⟩
theorem But.to {u B : Nat} {a b : World} (h : But u B a b) (hu : B ≤ u) : Below B a b := ⟨h.os, h.tape, h.output, h.size, fun i hi => h.block i hi (by omega)⟩
theorem But.set {u B : Nat} {a b : World} (h : But u B a b) (i : Nat) (v : Value) : But u B a (b.setCell ⟨u, i, none⟩ v) :=
  h.trans ⟨rfl, rfl, rfl, by simp, fun k hk hu => Below.heap_setCell _ _ _ _ (fun e => hu (by first | exact e.symm | exact e))⟩

/-- The variable in block g holds a slice that owns the code points l. -/
structure OutAt (w : World) (g : Nat) (l : List Int) : Prop where
  out : ∃ v, w.heap[g]? = some (.cells #[v] 28 (0, 0)) ∧ w.ownsRow g 21 1 v l.length (l.map (Value.int .i32))
theorem OutAt.lt {w : World} {g : Nat} {l : List Int} (h : OutAt w g l) : g < w.heap.size := by
  obtain ⟨v, h1, _⟩ := h.out
  exact blk_lt h1
theorem OutAt.but {w w' : World} {g u : Nat} {l : List Int} (h : OutAt w g l) (hb : But u w.heap.size w w') (hu : u < g) : OutAt w' g l := by
  obtain ⟨v, h1, h2⟩ := h.out
  refine ⟨v, (hb.block g (blk_lt h1) (by omega)).trans h1, h2.1, h2.2.imp id ?_⟩
  rintro ⟨k, cap, cur, hv, hg, hh, r⟩
  exact ⟨k, cap, cur, hv, hg, (hb.block k (blk_lt hh) (by omega)).trans hh, r⟩
theorem OutAt.set {w : World} {g u : Nat} {l : List Int} (h : OutAt w g l) (hu : u < g) (i : Nat) (v : Value) : OutAt (w.setCell ⟨u, i, none⟩ v) g l := h.but ((But.refl u _ w).set i v) hu
theorem OutAt.below {w w' : World} {g : Nat} {l : List Int} (h : OutAt w g l) (hb : Below w.heap.size w w') : OutAt w' g l := by
  obtain ⟨v, h1, h2⟩ := h.out
  exact ⟨v, bblk hb h1, own_below h2 hb⟩
theorem OutAt.alloc {w : World} {g : Nat} {l : List Int} (h : OutAt w g l) (o : Obj) : OutAt (w.alloc o) g l := h.below (bal (Below.refl _ _) o)
theorem OutAt.new (w : World) (g : Nat) (hg : g = w.heap.size) : OutAt (w.alloc (.cells #[.slice none 0 0] 28)) g [] := ⟨_, at_new _ _ _ hg, own_nil _ _ _ _⟩

section
variable {P : Program} {ops : Array Oper} {rest : List Oper} {o : Oper} {a : Act} {Q : Exit → Act → World → Prop}
/-- 'out = append(out, x)' at a variable of one cell in block g: what is known ahead of the store and behind it. -/
theorem step_append_box {W : World} (hgd : o.guard = none) (g tt : Nat) (s x : Operand) (t e : TypeId) (z : Value) (bytes : Nat)
    (ho : o.op = .call { callee := .builtin .append, args := #[s, x], argTypes := #[t, t] })
    (ht : P.underlying t = some (.slice e)) (hinfo : (P.info? e).map (fun i => (i.zero, i.size, i.bytes)) = some (some z, 1, bytes)) (hz : z.cells.size = 1) (hb0 : 0 < bytes)
    (v u : Value) (n m : Nat) (xs : List Value) (hs : a.eval s = v) (hx : a.eval x = .slice (some ⟨m, 0, none⟩) 1 1) (hm : m = W.heap.size) (h1 : u.oneCell' = true)
    (HV : Boxed W g tt v) (hte : tt ≠ e) (HO : W.ownsRow g e 1 v n xs) (hl : (n + 1) * bytes ≤ 140737488355328)
    (h : ∀ gg cap w1, Boxed w1 g tt v → Boxed (w1.setCell ⟨g, 0, none⟩ (.slice (some ⟨gg, 0, none⟩) (n + 1) cap)) g tt (.slice (some ⟨gg, 0, none⟩) (n + 1) cap) →
      (w1.setCell ⟨g, 0, none⟩ (.slice (some ⟨gg, 0, none⟩) (n + 1) cap)).ownsRow g e 1 (.slice (some ⟨gg, 0, none⟩) (n + 1) cap) (n + 1) (xs ++ [u]) → Below g W (w1.setCell ⟨g, 0, none⟩ (.slice (some ⟨gg, 0, none⟩) (n + 1) cap)) →
      wpList P ops Q rest (a.put o.dst (.slice (some ⟨gg, 0, none⟩) (n + 1) cap)) w1) :
    wpList P ops Q (o :: rest) a (W.alloc (.cells #[u] e)) := by
  subst hm
  obtain ⟨i0, hi, hzz⟩ := Option.map_eq_some_iff.1 hinfo
  simp only [Prod.mk.injEq] at hzz
  obtain ⟨hz0, hz1, hz2⟩ := hzz
  have hlen : n + 1 ≤ 140737488355328 := Nat.le_trans (Nat.le_mul_of_pos_right _ hb0) hl
  refine wpList_append_own (w := W.alloc (.cells #[u] e)) hgd s x t ho g e i0 z 1 bytes ht hi hz0 hz1 hz2 hz (by decide) v n xs hs (HO.alloc _) ⟨W.heap.size, 0, none⟩ 1 1 [u] hx (by simp)
    (World.news_of_block (cs := #[u]) (t := e) (fr := (0, 0)) (heap_alloc_new W _)) (by simpa using h1) (by simp only [maxLen]; omega) hl (by have := HV.lt; simp; omega) ?_
  intro v1 w1 hown hg _
  obtain ⟨gg, cap, rfl⟩ := ownsRow_succ hown
  obtain ⟨q1, q2, q3, _, q5⟩ := HV.appended hte HO (Nat.le_of_lt HV.lt) (Nat.le_refl _) hown hg
  exact h gg cap w1 q1 q2 q3 q5
end
end Go.Proofs.Ytmfifaigphnbmaa
