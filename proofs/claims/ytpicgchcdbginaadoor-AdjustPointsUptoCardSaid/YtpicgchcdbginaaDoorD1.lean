/- Attributes as data, and how they lie in memory. -/
import Derived.Test.YtpicgchcdbginaaDoorProg
import Derived.Test.YtpicgchcdbginaaDoorKitD
namespace Go.Proofs.YtpicgchcdbginaaDoor
open Go.RowKit

/-- An attribute: its namespace, prefix, name, value. -/
structure A4 where
  sp : Int
  pre : ByteArray
  nm : ByteArray
  va : ByteArray
deriving DecidableEq
abbrev A4.c (x : A4) : Array Value := #[.int .i64 x.sp, .string x.pre, .string x.nm, .string x.va]
def cellsA (L : List A4) : List Value := L.flatMap fun x => x.c.toList
theorem cellsA_snoc (L : List A4) (x : A4) : cellsA (L ++ [x]) = cellsA L ++ x.c.toList := by simp [cellsA]
theorem cellsA_length (L : List A4) : (cellsA L).length = L.length * 4 := by
  induction L with
  | nil => rfl
  | cons x L ih => simp only [cellsA, List.flatMap_cons, List.length_append, List.length_cons] at ih ⊢; rw [ih]; simp; omega
theorem cellsA_at (L : List A4) (k j : Nat) (hk : k < L.length) (hj : j < 4) : (cellsA L)[k * 4 + j]? = L[k].c[j]? := by
  induction L generalizing k with
  | nil => simp at hk
  | cons x L ih =>
    have hx : x.c.toList.length = 4 := rfl
    cases k with
    | zero =>
      simp only [cellsA, List.flatMap_cons, Nat.zero_mul, Nat.zero_add, List.getElem_cons_zero]
      rw [List.getElem?_append_left (by omega)]
      simp
    | succ k =>
      simp only [cellsA, List.flatMap_cons, List.getElem_cons_succ]
      rw [List.getElem?_append_right (by simp; omega), show (k + 1) * 4 + j - x.c.toList.length = k * 4 + j from by simp; omega]
      exact ih k (by simpa using hk)
/-- A slice that reads as the attributes L. -/
def RdA (w : World) (oa : Option Addr) (L : List A4) : Prop :=
  L ≠ [] → ∃ b off, oa = some ⟨b, off, none⟩ ∧ ∀ k (h : k < L.length), w.cell? ⟨b, off + k * 4, none⟩ = some (.int .i64 L[k].sp) ∧ w.cell? ⟨b, off + k * 4 + 1, none⟩ = some (.string L[k].pre) ∧
    w.cell? ⟨b, off + k * 4 + 2, none⟩ = some (.string L[k].nm) ∧ w.cell? ⟨b, off + k * 4 + 3, none⟩ = some (.string L[k].va)
theorem RdA.below {w w1 : World} {oa : Option Addr} {L : List A4} (h : RdA w oa L) (hb : Below w.heap.size w w1) : RdA w1 oa L := fun hne => by
  obtain ⟨b, off, ho, hc⟩ := h hne
  exact ⟨b, off, ho, fun k hk => ⟨bcl hb (hc k hk).1, bcl hb (hc k hk).2.1, bcl hb (hc k hk).2.2.1, bcl hb (hc k hk).2.2.2⟩⟩
theorem RdA.own {w : World} {base e n : Nat} {v : Value} {L : List A4} (h : w.ownsRow base e 4 v n (cellsA L)) : ∃ oa cap, v = .slice oa n cap ∧ n = L.length ∧ RdA w oa L := by
  have hn : n = L.length := by have := h.1; rw [cellsA_length] at this; omega
  rcases h.2 with ⟨rfl, h0⟩ | ⟨g, cap, cur, rfl, _, hh, hnc, _, hsz, htk⟩
  · have hL : L = [] := List.eq_nil_of_length_eq_zero (by omega)
    exact ⟨none, 0, by rw [h0], hn, fun hne => absurd hL hne⟩
  · refine ⟨_, cap, rfl, hn, fun _ => ⟨g, 0, rfl, fun k hk => ?_⟩⟩
    have hat : ∀ j, j < 4 → w.cell? ⟨g, k * 4 + j, none⟩ = L[k].c[j]? := fun j hj => by
      rw [← cellsA_at L k j hk hj, ← htk, blk_cells hh, List.getElem?_take]
      rw [if_pos (by omega)]
      simp
    have h0 := hat 0 (by omega)
    have h1 := hat 1 (by omega)
    have h2 := hat 2 (by omega)
    have h3 := hat 3 (by omega)
    simp only [Nat.zero_add]
    exact ⟨h0, h1, h2, h3⟩
theorem add_plain (b off j : Nat) : (⟨b, off, none⟩ : Addr).add j = ⟨b, off + j, none⟩ := by unfold Addr.add; split <;> simp_all
theorem RdA.news {w : World} {oa : Option Addr} {L : List A4} (h : RdA w oa L) : ∀ j u, (cellsA L)[j]? = some u → ∃ ad, oa = some ad ∧ w.cell? (ad.add j) = some u := by
  intro j u hu
  have hj : j < L.length * 4 := by rw [← cellsA_length]; exact (List.getElem?_eq_some_iff.1 hu).1
  obtain ⟨b, off, rfl, hc⟩ := h (by rintro rfl; simp at hj)
  refine ⟨_, rfl, ?_⟩
  have hk : j / 4 < L.length := by omega
  have e := cellsA_at L (j / 4) (j % 4) hk (by omega)
  rw [show j / 4 * 4 + j % 4 = j from by omega, hu] at e
  obtain ⟨c0, c1, c2, c3⟩ := hc (j / 4) hk
  rw [add_plain, show off + j = off + j / 4 * 4 + j % 4 from by omega]
  have hr : j % 4 = 0 ∨ j % 4 = 1 ∨ j % 4 = 2 ∨ j % 4 = 3 := by omega
  rcases hr with hr | hr | hr | hr <;> rw [hr] at e ⊢ <;> simp at e <;> rw [e] <;> assumption
theorem oneAs (L : List A4) : ∀ u ∈ cellsA L, u.oneCell' = true := by
  intro u hu
  simp only [cellsA, List.mem_flatMap] at hu
  obtain ⟨x, _, hx⟩ := hu
  simp at hx
  rcases hx with rfl | rfl | rfl | rfl <;> rfl
theorem ownA_at {w : World} {base g n cap : Nat} {L : List A4} (h : w.ownsRow base 31 4 (.slice (some ⟨g, 0, none⟩) n cap) n (cellsA L)) (k : Nat) (hk : k < L.length) :
    (w.cell? ⟨g, k * 4, none⟩ = some (.int .i64 L[k].sp) ∧ w.cell? ⟨g, k * 4 + 1, none⟩ = some (.string L[k].pre) ∧ w.cell? ⟨g, k * 4 + 2, none⟩ = some (.string L[k].nm) ∧ w.cell? ⟨g, k * 4 + 3, none⟩ = some (.string L[k].va)) ∧
    ∀ j, w.frozen? ⟨g, j, none⟩ = false := by
  have hn : n = L.length := by have := h.1; rw [cellsA_length] at this; omega
  have hat : ∀ j, j < 4 → w.cell? ⟨g, k * 4 + j, none⟩ = L[k].c[j]? := fun j hj => by
    rw [h.cellAt _ (by omega), cellsA_at L k j hk hj]
  exact ⟨⟨hat 0 (by omega), hat 1 (by omega), hat 2 (by omega), hat 3 (by omega)⟩, fun j => h.frozenAt j⟩
theorem cellsA_set (L : List A4) (k : Nat) (hk : k < L.length) (s : ByteArray) : (cellsA L).set (k * 4 + 2) (.string s) = cellsA (L.set k { L[k] with nm := s }) := by
  apply List.ext_getElem?
  intro j
  rw [List.getElem?_set]
  have hlen := cellsA_length L
  have hlen' := cellsA_length (L.set k { L[k] with nm := s })
  rw [List.length_set] at hlen'
  by_cases hj : j < L.length * 4
  · have hj4 : j / 4 < L.length := by omega
    have e := cellsA_at L (j / 4) (j % 4) hj4 (by omega)
    have e' := cellsA_at (L.set k { L[k] with nm := s }) (j / 4) (j % 4) (by rw [List.length_set]; exact hj4) (by omega)
    rw [show j / 4 * 4 + j % 4 = j from by omega] at e e'
    rw [e', e]
    by_cases hk' : k = j / 4
    · subst hk'
      rw [List.getElem_set_self]
      have hr : j % 4 = 0 ∨ j % 4 = 1 ∨ j % 4 = 2 ∨ j % 4 = 3 := by omega
      rcases hr with hr | hr | hr | hr
      · rw [if_neg (by omega), hr]; rfl
      · rw [if_neg (by omega), hr]; rfl
      · rw [if_pos (by omega), if_pos (by omega), hr]; rfl
      · rw [if_neg (by omega), hr]; rfl
    · rw [if_neg (by omega), List.getElem_set_ne hk']
  · rw [if_neg (by omega), List.getElem?_eq_none (by omega), List.getElem?_eq_none (by omega)]
theorem ownA_set {w : World} {base g n cap : Nat} {L : List A4} (h : w.ownsRow base 31 4 (.slice (some ⟨g, 0, none⟩) n cap) n (cellsA L)) (k : Nat) (hk : k < L.length) (s : ByteArray) :
    (w.setCell ⟨g, k * 4 + 2, none⟩ (.string s)).ownsRow base 31 4 (.slice (some ⟨g, 0, none⟩) n cap) n (cellsA (L.set k { L[k] with nm := s })) := by
  have := (h.stored (k * 4 + 2) (.string s)).1
  rwa [cellsA_set L k hk] at this
theorem oneA (x : A4) : ∀ u ∈ x.c.toList, u.oneCell' = true := by
  intro u hu
  simp at hu
  rcases hu with rfl | rfl | rfl | rfl <;> rfl
theorem info30 : (Tryd.prog.info? 31).map (fun i => (i.zero, i.size, i.bytes)) = some (some (.agg #[.int .i64 0, .string ⟨#[]⟩, .string ⟨#[]⟩, .string ⟨#[]⟩]), 4, 56) := by kernel_rfl
end Go.Proofs.YtpicgchcdbginaaDoor
