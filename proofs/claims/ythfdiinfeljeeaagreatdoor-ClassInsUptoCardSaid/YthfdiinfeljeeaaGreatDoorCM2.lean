/- Texts of one seat, merged: lemmas and contracts that the law leans on. -/
import Derived.Test.YthfdiinfeljeeaaGreatDoorCM1
import Derived.RegionTactic
import Derived.ChangeAlike
import Derived.Laws.AppendOwnNone
import Derived.Stop.RegionWithIn
import Derived.Shelf.Strings.Builder1
import Derived.Shelf.Strings.Trim
import Derived.Shelf.Small.Utf8
import Derived.Shelf.Small.Strs
import Derived.Shelf.Strings.BuilderF
import Derived.Shelf.Strings.BuilderK
import Derived.Shelf.Strings.Search1
import Derived.Shelf.Strings.Search2
import Derived.Shelf.Strings.Search3
import Derived.Shelf.LaysM
import Derived.Shelf.Strings.Shaped
import Derived.Shelf.Strings.Prefix
import Derived.Shelf.Unicode.Decode
import Derived.Shelf.Strings.Runes
import Derived.Shelf.Strings.IndexAny
import Derived.Shelf.Strings.AsciiSet
import Derived.Shelf.Strings.IndexAnyAll
import Derived.Shelf.Unicode.DecodeSlow
import Derived.Shelf.Unicode.DecodeAny
import Derived.Shelf.Strings.BuilderCap
import Derived.Ground.NamesProg
import Derived.Shelf.Unicode.ValidAny
import Derived.Test.YthfdiinfeljeeaaGreatDoorProg
import Derived.Test.YthfdiinfeljeeaaGreatDoorRows
import Derived.ProofKit
import Derived.OpenShut
import Derived.ShutString
import Derived.ChangeOld
import Derived.Below
import Derived.Carry
import Derived.SizedLaws
import Derived.Lib.SmallJoins
import Derived.Deep.DeepHandedRow
import Derived.Lay
import Derived.LaidMore
import Derived.Stop.Joined
import Derived.HandedShaped
/- Plain: a link and a new node keep the children's lists. -/
namespace Go.Proofs.YthfdiinfeljeeaaGreatDoor
set_option linter.unusedSimpArgs false
def ksLink (ks : Nat → List Nat) (u i : Nat) : Nat → List Nat := fun j => if j = u then ks u ++ [i] else ks j
theorem pv_snoc (xs : List Nat) (i k : Nat) (h : k ≤ xs.length) : pv (xs ++ [i]) k = pv xs k := by
  unfold pv
  by_cases h0 : k = 0
  · rw [if_pos h0, if_pos h0]
  · rw [if_neg h0, if_neg h0, nx_snoc, if_pos (by omega)]
theorem pv_len (xs : List Nat) (i : Nat) : pv (xs ++ [i]) (xs ++ [i]).length = i := by
  unfold pv
  rw [if_neg (by simp), nx_snoc, if_neg (by simp), if_pos (by simp)]
theorem Good.lst_or {l : List Nd} {ks : Nat → List Nat} (h : Good l ks) (u : Nat) (hu : u < l.length) : ((ks u) = [] ∧ (gN l u).lst = -1) ∨ ∃ hk : (ks u).length - 1 < (ks u).length, (gN l u).lst = ((ks u)[(ks u).length - 1] : Nat) := by
  have h1 := h.lst u hu
  by_cases h0 : (ks u).length = 0
  · left
    exact ⟨List.length_eq_zero_iff.1 h0, by rw [h1, h0]; rfl⟩
  · right
    refine ⟨by omega, ?_⟩
    rw [h1, pv, if_neg h0, nx_get _ _ (by omega)]
theorem Good.link {l : List Nd} {ks : Nat → List Nat} (h : Good l ks) (u i : Nat) (hui : u ≠ i) (hu : u < l.length) (hi : i < l.length) (hup : (gN l i).up = -1) : Good (linkL l u i) (ksLink ks u i) := by
  have hno : ∀ j, j < l.length → i ∉ ks j := fun j hj hm => by
    have := (h.mem j hj i hm).2
    omega
  have hl := h.lst_or u hu
  have hp : (gN l u).lst = -1 ∨ ∃ p : Nat, (gN l u).lst = p ∧ p ≠ i ∧ p < l.length := by
    rcases hl with ⟨_, h1⟩ | ⟨hk, h1⟩
    · exact .inl h1
    · refine .inr ⟨_, h1, fun e => ?_, (h.mem u hu _ (List.getElem_mem hk)).1⟩
      exact hno u hu (e ▸ List.getElem_mem hk)
  have G := linkL_get l u i hui hi hu hp
  have hlp : ∀ c : Nat, (gN l u).lst = (c : Int) → c < l.length ∧ (gN l c).up = (u : Int) := fun c hc => by
    rcases hl with ⟨_, h1⟩ | ⟨hk, h1⟩
    · omega
    · have e : c = (ks u)[(ks u).length - 1] := by omega
      rw [e]
      exact h.mem u hu _ (List.getElem_mem hk)
  have memU : ∀ j, j < l.length → ∀ c ∈ ksLink ks u i j, (c = i ∧ j = u) ∨ (c ≠ i ∧ c ∈ ks j) := fun j hj c hc => by
    unfold ksLink at hc
    by_cases hju : j = u
    · rw [if_pos hju] at hc
      rcases List.mem_append.1 hc with hc | hc
      · rw [← hju] at hc
        exact .inr ⟨fun e => hno j hj (e ▸ hc), hc⟩
      · exact .inl ⟨by simpa using hc, hju⟩
    · rw [if_neg hju] at hc
      exact .inr ⟨fun e => hno j hj (e ▸ hc), hc⟩
  refine ⟨fun j hj => ?_, fun j hj c hc => ?_, fun j hj => ?_, fun j hj => ?_, fun j hj k hk => ?_, fun j hj k hk => ?_⟩
  all_goals rw [linkL_len] at hj
  · unfold ksLink
    by_cases hju : j = u
    · rw [if_pos hju]
      refine List.nodup_append.2 ⟨h.nod u hu, by simp, fun a ha b hb e => ?_⟩
      obtain rfl : b = i := by simpa using hb
      exact hno u hu (e ▸ ha)
    · rw [if_neg hju]
      exact h.nod j hj
  · rw [linkL_len]
    rcases memU j hj c hc with ⟨rfl, rfl⟩ | ⟨h1, h2⟩
    · exact ⟨hi, by rw [G c hi]; simp⟩
    · obtain ⟨h3, h4⟩ := h.mem j hj c h2
      exact ⟨h3, by rw [G c h3]; simp only [if_neg h1]; exact h4⟩
  · rw [G j hj]
    dsimp only
    have hf := h.fst j hj
    unfold ksLink
    by_cases hju : j = u
    · rw [if_pos hju]
      rw [hju] at hf ⊢
      rcases hl with ⟨h0, h1⟩ | ⟨hk, h1⟩
      · rw [if_pos ⟨h1, rfl⟩, h0]; rfl
      · rw [if_neg (fun e => by omega), hf, nx_snoc, if_pos (by omega)]
    · rw [if_neg hju, if_neg (fun e => hju e.2)]
      exact hf
  · rw [G j hj]
    dsimp only
    unfold ksLink
    by_cases hju : j = u
    · rw [if_pos hju, if_pos hju, pv_len]
    · rw [if_neg hju, if_neg hju]
      exact h.lst j hj
  · have hm := memU j hj _ (List.getElem_mem hk)
    unfold ksLink at hk hm ⊢
    by_cases hju : j = u
    · subst hju
      simp only [if_true] at hk hm ⊢
      rw [List.length_append, show ([i] : List Nat).length = 1 from rfl] at hk
      by_cases hkl : k < (ks j).length
      · have e : (ks j ++ [i])[k]'(by simp; omega) = (ks j)[k] := List.getElem_append_left hkl
        rw [e]
        have hc := h.mem j hj _ (List.getElem_mem hkl)
        have hci : (ks j)[k] ≠ i := fun e => hno j hj (e ▸ List.getElem_mem hkl)
        rw [G _ hc.1]
        simp only [if_neg hci]
        rw [nx_snoc]
        rcases hl with ⟨h0, _⟩ | ⟨hk2, h1⟩
        · rw [h0] at hkl; simp at hkl
        · rw [h1]
          by_cases hlast : k + 1 < (ks j).length
          · rw [if_pos hlast, if_neg (fun e2 => ?_)]
            · exact h.nxt j hj k hkl
            · have e3 : (ks j)[(ks j).length - 1] = (ks j)[k] := by omega
              have := (List.getElem_inj (h.nod j hj)).1 e3
              omega
          · have hkk : k = (ks j).length - 1 := by omega
            subst hkk
            rw [if_neg hlast, if_pos rfl, if_pos (by omega)]
      · have hkk : k = (ks j).length := by omega
        subst hkk
        have e : (ks j ++ [i])[(ks j).length]'(by simp) = i := by simp
        rw [e, G i hi]
        simp only [if_true]
        rw [nx_end _ _ (by simp)]
    · simp only [if_neg hju] at hk hm ⊢
      have hc := h.mem j hj _ (List.getElem_mem hk)
      have hci : (ks j)[k] ≠ i := fun e => hno j hj (e ▸ List.getElem_mem hk)
      rw [G _ hc.1]
      simp only [if_neg hci]
      rw [if_neg (fun e => by have := (hlp _ e).2; rw [hc.2] at this; omega)]
      exact h.nxt j hj k hk
  · unfold ksLink at hk ⊢
    by_cases hju : j = u
    · subst hju
      simp only [if_true] at hk ⊢
      rw [List.length_append, show ([i] : List Nat).length = 1 from rfl] at hk
      by_cases hkl : k < (ks j).length
      · have e : (ks j ++ [i])[k]'(by simp; omega) = (ks j)[k] := List.getElem_append_left hkl
        rw [e, pv_snoc _ _ _ (by omega)]
        have hc := h.mem j hj _ (List.getElem_mem hkl)
        have hci : (ks j)[k] ≠ i := fun e => hno j hj (e ▸ List.getElem_mem hkl)
        rw [G _ hc.1]
        simp only [if_neg hci]
        exact h.prv j hj k hkl
      · have hkk : k = (ks j).length := by omega
        subst hkk
        have e : (ks j ++ [i])[(ks j).length]'(by simp) = i := by simp
        rw [e, G i hi]
        simp only [if_true]
        rw [pv_snoc _ _ _ (Nat.le_refl _)]
        exact h.lst j hj
    · simp only [if_neg hju] at hk ⊢
      have hc := h.mem j hj _ (List.getElem_mem hk)
      have hci : (ks j)[k] ≠ i := fun e => hno j hj (e ▸ List.getElem_mem hk)
      rw [G _ hc.1]
      simp only [if_neg hci]
      exact h.prv j hj k hk
end Go.Proofs.YthfdiinfeljeeaaGreatDoor
/- Plain: a new node; the ranks behind a link. -/
namespace Go.Proofs.YthfdiinfeljeeaaGreatDoor
set_option linter.unusedSimpArgs false
theorem gN_push (l : List Nd) (n : Nd) (j : Nat) : gN (l ++ [n]) j = if j < l.length then gN l j else if j = l.length then n else nd0 := by
  unfold gN
  rw [List.getD_eq_getElem?_getD, List.getD_eq_getElem?_getD]
  by_cases h : j < l.length
  · rw [if_pos h, List.getElem?_append_left h]
  · rw [if_neg h, List.getElem?_append_right (by omega)]
    by_cases h2 : j = l.length
    · subst h2; simp
    · rw [if_neg h2, List.getElem?_eq_none (by simp; omega)]; rfl
theorem Good.push {l : List Nd} {ks : Nat → List Nat} (h : Good l ks) (n : Nd) (hf : n.fst = -1) (hl : n.lst = -1) (h0 : ks l.length = []) : Good (l ++ [n]) ks := by
  have cas : ∀ j, j < (l ++ [n]).length → j < l.length ∨ j = l.length := fun j hj => by simp at hj; omega
  refine ⟨fun j hj => ?_, fun j hj c hc => ?_, fun j hj => ?_, fun j hj => ?_, fun j hj k hk => ?_, fun j hj k hk => ?_⟩
  all_goals
    rcases cas j hj with hj | rfl
  · exact h.nod j hj
  · rw [h0]; simp
  · obtain ⟨h1, h2⟩ := h.mem j hj c hc
    refine ⟨by simp; omega, ?_⟩
    rw [gN_push, if_pos h1]; exact h2
  · rw [h0] at hc; simp at hc
  · rw [gN_push, if_pos hj]; exact h.fst j hj
  · rw [gN_push, if_neg (by omega), if_pos rfl, h0]; exact hf
  · rw [gN_push, if_pos hj]; exact h.lst j hj
  · rw [gN_push, if_neg (by omega), if_pos rfl, h0]; exact hl
  · rw [gN_push, if_pos (h.mem j hj _ (List.getElem_mem hk)).1]; exact h.nxt j hj k hk
  · rw [h0] at hk; simp at hk
  · rw [gN_push, if_pos (h.mem j hj _ (List.getElem_mem hk)).1]; exact h.prv j hj k hk
  · rw [h0] at hk; simp at hk
theorem upI_gN (l : List Nd) (i : Nat) (hi : i < l.length) : upI l i = if (gN l i).up = -1 then (gN l i).host else (gN l i).up := by
  rw [upI, List.getElem?_eq_getElem hi, show gN l i = l[i] from getD_of hi]
/-- Some way up from a node leads to another. -/
def Abv (l : List Nd) (x o : Int) : Prop := ∃ f, aboveL l f x o = true
theorem abv_fuel {l : List Nd} {rk : Nat → Nat} (hU : Ranked l rk) (o : Nat) : ∀ (f : Nat) (j f' : Nat), j < l.length → rk j + 1 < f' → aboveL l f j o = true → aboveL l f' j o = true := by
  intro f
  induction f with
  | zero => intro j f' _ _ h; simp [aboveL] at h
  | succ f ih =>
    intro j f' hj hf h
    obtain ⟨f', rfl⟩ : ∃ m, f' = m + 1 := ⟨f' - 1, by omega⟩
    rw [aboveL] at h ⊢
    by_cases hjo : (j : Int) = o
    · rw [if_pos hjo]
    · rw [if_neg hjo, if_neg (by omega)] at h ⊢
      simp only [Int.toNat_natCast] at h ⊢
      rcases hU j hj with h1 | ⟨k, h1, h2, h3⟩
      · rw [h1] at h
        cases f with
        | zero => simp [aboveL] at h
        | succ f => rw [aboveL, if_neg (by omega), if_pos rfl] at h; cases h
      · rw [h1] at h ⊢
        exact ih k f' h2 (by omega) h
theorem abv_step {l : List Nd} (j o : Nat) (hjo : j ≠ o) : Abv l j o ↔ Abv l (upI l j) o := by
  have hne : ¬ ((j : Int) = o) := by omega
  constructor
  · rintro ⟨f, h⟩
    cases f with
    | zero => simp [aboveL] at h
    | succ f =>
      rw [aboveL, if_neg hne, if_neg (by omega)] at h
      exact ⟨f, by simpa using h⟩
  · rintro ⟨f, h⟩
    exact ⟨f + 1, by rw [aboveL, if_neg hne, if_neg (by omega)]; simpa using h⟩
theorem abv_none {l : List Nd} {o : Nat} : ¬ Abv l (-1) o := by
  rintro ⟨f, h⟩
  cases f with
  | zero => simp [aboveL] at h
  | succ f => rw [aboveL, if_neg (by omega), if_pos rfl] at h; cases h
open Classical in
/-- The ranks behind a link. -/
noncomputable def rkLink (l : List Nd) (rk : Nat → Nat) (u i : Nat) : Nat → Nat := fun j => if Abv l j i then rk j + rk u + 1 else rk j
theorem Ranked.link {l : List Nd} {rk : Nat → Nat} {ks : Nat → List Nat} (hU : Ranked l rk) (h : Good l ks) (u i f : Nat) (hui : u ≠ i) (hu : u < l.length) (hi : i < l.length) (hf : rk u + 1 < f) (hup : (gN l i).up = -1) (hab : aboveL l f u i = false) : Ranked (linkL l u i) (rkLink l rk u i) := by
  have hp : (gN l u).lst = -1 ∨ ∃ p : Nat, (gN l u).lst = p ∧ p ≠ i ∧ p < l.length := by
    rcases h.lst_or u hu with ⟨_, h1⟩ | ⟨hk, h1⟩
    · exact .inl h1
    · refine .inr ⟨_, h1, fun e => ?_, (h.mem u hu _ (List.getElem_mem hk)).1⟩
      have := (h.mem u hu _ (List.getElem_mem hk)).2
      rw [e, hup] at this
      omega
  have G := linkL_get l u i hui hi hu hp
  have hnab : ¬ Abv l u i := fun ⟨f', h'⟩ => by
    have := abv_fuel hU i f' u f hu hf h'
    rw [hab] at this
    cases this
  intro j hj
  rw [linkL_len] at hj
  rw [upI_gN _ _ (by rw [linkL_len]; exact hj), G j hj, linkL_len]
  dsimp only
  by_cases hji : j = i
  · subst hji
    right
    refine ⟨u, ?_, hu, ?_⟩
    · rw [if_pos rfl, if_neg (by omega)]
    · unfold rkLink
      rw [if_neg hnab, if_pos ⟨1, by rw [aboveL, if_pos rfl]⟩]
      omega
  · rw [if_neg hji]
    have hs := abv_step (l := l) j i hji
    rcases hU j hj with h1 | ⟨k, h1, h2, h3⟩
    · left
      rw [upI_gN _ _ hj] at h1
      exact h1
    · right
      rw [h1] at hs
      rw [upI_gN _ _ hj] at h1
      refine ⟨k, h1, h2, ?_⟩
      unfold rkLink
      by_cases hk : Abv l k i
      · rw [if_pos hk, if_pos (hs.2 hk)]; omega
      · rw [if_neg hk, if_neg (fun e => hk (hs.1 e))]; exact h3
end Go.Proofs.YthfdiinfeljeeaaGreatDoor
/- The reference's arena in memory. -/
namespace Go.Proofs.YthfdiinfeljeeaaGreatDoor
open Go.RowKit
def intsV (xs : List Nat) : List Value := xs.map fun (x : Nat) => Value.int .i64 (x : Int)
/-- A node of the reference as it lies in memory. -/
structure On where
  kind : Int
  space : Int
  name : ByteArray
  al : List A4
  aa : Option Addr
  ac : Nat
  data : ByteArray
  sys : ByteArray
  inn : Int
  host : Int
  up : Int
  ks : List Nat
  ka : Option Addr
  kc : Nat
def On.arr (n : On) : Array Value := #[.int .i64 n.kind, .int .i64 n.space, .string n.name, .slice n.aa n.al.length n.ac, .string n.data, .string n.sys, .int .i64 n.inn, .int .i64 n.host, .int .i64 n.up, .slice n.ka n.ks.length n.kc]
def On.cells (n : On) : List Value := n.arr.toList
theorem On.len (n : On) : n.cells.length = 10 := rfl
def flatO (l : List On) : List Value := l.flatMap On.cells
theorem flatO_len (l : List On) : (flatO l).length = l.length * 10 := by
  induction l with
  | nil => rfl
  | cons x l ih => simp only [flatO, List.flatMap_cons, List.length_append, List.length_cons, On.len] at ih ⊢; omega
theorem flatO_snoc (l : List On) (n : On) : flatO (l ++ [n]) = flatO l ++ n.cells := by simp [flatO]
theorem flatO_get : ∀ (l : List On) (i j : Nat) (hi : i < l.length), j < 10 → (flatO l)[i * 10 + j]? = (l[i]).cells[j]?
  | [], i, j, hi, _ => by simp at hi
  | x :: l, 0, j, _, hj => by
    rw [show flatO (x :: l) = x.cells ++ flatO l from rfl, List.getElem?_append_left (by rw [On.len]; omega)]
    simp
  | x :: l, i + 1, j, hi, hj => by
    rw [show flatO (x :: l) = x.cells ++ flatO l from rfl, List.getElem?_append_right (by rw [On.len]; omega), On.len, show (i + 1) * 10 + j - 10 = i * 10 + j by omega, flatO_get l i j (by simpa using hi) hj]
    rfl
theorem flatO_set : ∀ (l : List On) (i j : Nat) (v : Value) (n : On) (hi : i < l.length), j < 10 → n.cells = (l[i]).cells.set j v → (flatO l).set (i * 10 + j) v = flatO (l.set i n)
  | [], i, j, _, _, hi, _, _ => by simp at hi
  | x :: l, 0, j, v, n, _, hj, h => by
    rw [show flatO (x :: l) = x.cells ++ flatO l from rfl, List.set_append_left _ _ (by rw [On.len]; omega)]
    rw [show flatO ((x :: l).set 0 n) = n.cells ++ flatO l from rfl, h]
    simp
  | x :: l, i + 1, j, v, n, hi, hj, h => by
    rw [show flatO (x :: l) = x.cells ++ flatO l from rfl, List.set_append_right _ _ (by rw [On.len]; omega), On.len, show (i + 1) * 10 + j - 10 = i * 10 + j by omega, flatO_set l i j v n (by simpa using hi) hj h]
    rfl
/-- Attributes and children lie in blocks of their own. -/
def AtO (w : World) (n : On) : Prop :=
  ((n.aa = none ∧ n.al = [] ∧ n.ac = 0) ∨ ∃ b cs, n.aa = some ⟨b, 0, none⟩ ∧ w.heap[b]? = some (.cells cs 80 (0, 0)) ∧ cellsA n.al <+: cs.toList) ∧
  ((n.ka = none ∧ n.ks = [] ∧ n.kc = 0) ∨ ∃ b cs, n.ka = some ⟨b, 0, none⟩ ∧ w.heap[b]? = some (.cells cs 3 (0, 0)) ∧ intsV n.ks <+: cs.toList)
/-- The reference's arena. -/
structure Or (w : World) (B p g cap : Nat) (l : List On) : Prop where
  row : w.heap[p]? = some (.cells #[.slice (some ⟨g, 0, none⟩) l.length cap] 62 (0, 0))
  own : w.ownsRow B 59 10 (.slice (some ⟨g, 0, none⟩) l.length cap) l.length (flatO l)
  at_ : ∀ n ∈ l, AtO w n
  pos : 0 < l.length
  base : B ≤ p
theorem AtO.fr {w w' : World} {n : On} {B : Nat} {T : List Nat} (h : AtO w n) (hf : Fr B T w w') (h1 : 80 ∉ T) (h2 : 3 ∉ T) : AtO w' n :=
  ⟨h.1.imp id fun ⟨b, cs, e1, e2, e3⟩ => ⟨b, cs, e1, hf.blk e2 h1, e3⟩, h.2.imp id fun ⟨b, cs, e1, e2, e3⟩ => ⟨b, cs, e1, hf.blk e2 h2, e3⟩⟩
theorem Or.fr {w w' : World} {B B' p g cap : Nat} {l : List On} {T : List Nat} (h : Or w B p g cap l) (hf : Fr B' T w w') (h1 : 59 ∉ T) (h2 : 62 ∉ T) (h3 : 80 ∉ T) (h4 : 3 ∉ T) : Or w' B p g cap l :=
  ⟨hf.blk h.row h2, own_fr h.own hf h1, fun n hn => (h.at_ n hn).fr hf h3 h4, h.pos, h.base⟩
theorem Or.below {w w' : World} {B p g cap : Nat} {l : List On} (h : Or w B p g cap l) (hb : Below w.heap.size w w') : Or w' B p g cap l :=
  h.fr (T := []) (Fr.of_below (Nat.le_refl _) hb) (by simp) (by simp) (by simp) (by simp)
section
variable {w : World} {B p g cap : Nat} {l : List On}
theorem Or.cell (h : Or w B p g cap l) : w.cell? ⟨p, 0, none⟩ = some (.slice (some ⟨g, 0, none⟩) l.length cap) := blk_cells h.row 0
end
end Go.Proofs.YthfdiinfeljeeaaGreatDoor
/- The reference's arena: is there such a node, may it have children, is a text too long; a node is added. -/
namespace Go.Proofs.YthfdiinfeljeeaaGreatDoor
open Go.RowKit
section
variable {w w' : World} {B p g cap : Nat} {l : List On}
theorem Or.frozen (h : Or w B p g cap l) : w.frozen? ⟨p, 0, none⟩ = false := blk_free h.row 0
theorem Or.at (h : Or w B p g cap l) (i j : Nat) (hi : i < l.length) (hj : j < 10) : w.cell? ⟨g, i * 10 + j, none⟩ = (l[i]).cells[j]? := by
  rw [h.own.cellAt _ (by omega)]
  exact flatO_get l i j hi hj
theorem Or.free (h : Or w B p g cap l) (k : Nat) : w.frozen? ⟨g, k, none⟩ = false := h.own.frozenAt k
theorem Or.drewN (h : Or w B p g cap l) (n : Nat) : Or (w.drewN n) B p g cap l := h.below ⟨rfl, rfl, rfl, Nat.le_refl _, fun _ _ => rfl⟩
end
theorem is46 (B p g cap : Nat) (l : List On) (i : Int) (w : World) (h : Or w B p g cap l) : Calls Tryz.prog 46 #[.pointer (some ⟨p, 0, none⟩), .int .i64 i] w fun e w' => e = .returned (.bool (decide (0 ≤ i ∧ i < l.length))) ∧ w = w' := by
  have hc := h.cell
  by_cases h0 : 0 ≤ i
  · have h0b : decide (i ≥ 0) = true := decide_eq_true h0
    have HE := Go.Lib.hid (show decide (0 ≤ i ∧ i < l.length) = decide (i < (l.length : Int)) by simp [h0])
    clear h0
    go_enter Tryz.func46, Tryz.ntmps46
    go_wp2
    go_ret
    exact ⟨ret_bool HE.out.symm, rfl⟩
  · have h0b : decide (i ≥ 0) = false := decide_eq_false h0
    have HE := Go.Lib.hid (show decide (0 ≤ i ∧ i < l.length) = false by simp [h0])
    clear h0
    go_enter Tryz.func46, Tryz.ntmps46
    go_wp2
    go_ret
    exact ⟨ret_bool HE.out.symm, rfl⟩
theorem parent47 (B p g cap : Nat) (l : List On) (i : Nat) (w : World) (h : Or w B p g cap l) (hi : i < l.length) : Calls Tryz.prog 47 #[.pointer (some ⟨p, 0, none⟩), .int .i64 (i : Int)] w fun e w' => e = .returned (.bool (parB (l[i]).kind)) ∧ w = w' := by
  have hc := h.cell
  have k0 := h.at i 0 hi (by omega)
  rw [Nat.add_zero, show (l[i]).cells[0]? = some (.int .i64 (l[i]).kind) from rfl] at k0
  have i0 : (0 : Int) ≤ i := by omega
  have i1 : (i : Int) < l.length := by omega
  clear h
  generalize (l[i]).kind = k at *
  unfold parB
  generalize h0 : (k == 0) = b0
  generalize h1 : (k == 1) = b1
  generalize h5 : (k == 5) = b5
  rcases b0 with _ | _ <;> rcases b1 with _ | _
  all_goals
    go_enter Tryz.func47, Tryz.ntmps47
    go_wp2
    go_ret
    exact ⟨rfl, rfl⟩
theorem long39 (oa : Option Addr) (c : Nat) (S : List ByteArray) (w : World) (hS : RdS w oa S) (hsz : ∀ s ∈ S, s.size ≤ 1048576) (hSl : S.length ≤ 100000) : Calls Tryz.prog 39 #[.slice oa S.length c] w fun e w' => e = .returned (.bool false) ∧ w = w' := by
  go_enter Tryz.func39, Tryz.ntmps39
  go_wp2_with fail
  go_loop [3] (fun v3 => ∃ k : Nat, v3 = .int .i64 k ∧ k ≤ S.length) (fun v3 => S.length - (intOf v3).toNat)
  case atStart => exact ⟨0, rfl, Nat.zero_le _⟩
  case round =>
    obtain ⟨k, rfl, hk⟩ := hrel
    by_cases hlt : k < S.length
    · obtain ⟨b, off, rfl, hc⟩ := hS k hlt
      have hs := hsz S[k] (List.getElem_mem hlt)
      generalize S[k] = s at *
      go_wp2
      go_round
      case rel => exact ⟨k + 1, by go_num, by omega⟩
      case measure => simp [intOf]; omega
    · obtain rfl : k = S.length := by omega
      clear hlt hk hS hsz
      go_wp2
      go_ret
      exact ⟨rfl, rfl⟩
end Go.Proofs.YthfdiinfeljeeaaGreatDoor
/- A node is added to the reference's arena. -/
namespace Go.Proofs.YthfdiinfeljeeaaGreatDoor
open Go.RowKit
theorem Tryz.info59 : (Tryz.prog.info? 59).map (fun i => (i.zero, i.size, i.bytes)) = some (some (.agg #[.int .i64 0, .int .i64 0, .string ⟨#[]⟩, .slice none 0 0, .string ⟨#[]⟩, .string ⟨#[]⟩, .int .i64 0, .int .i64 0, .int .i64 0, .slice none 0 0]), 10, 136) := by kernel_rfl
theorem On.one (n : On) : ∀ u ∈ n.cells, u.oneCell' = true := fun u hu => by
  simp [On.cells, On.arr] at hu
  rcases hu with rfl | rfl | rfl | rfl | rfl | rfl | rfl | rfl | rfl | rfl <;> rfl
def Ora (w : World) (B p : Nat) (l : List On) : Prop := ∃ g cap, Or w B p g cap l
section
variable {ops : Array Oper} {o : Oper} {a : Act} {K : Act → World → Prop} {Q : Exit → Act → World → Prop} {E : Prop}
theorem step_pushO {W : World} (hgd : o.guard = none) (s x : Operand) (ho : o.op = .call { callee := .builtin .append, args := #[s, x], argTypes := #[60, 60] })
    (n : On) (l : List On) (B g cap : Nat) (hs : a.eval s = .slice (some ⟨g, 0, none⟩) l.length cap) (hx : a.eval x = .slice (some ⟨W.heap.size, 0, none⟩) 1 1)
    (HO : W.ownsRow B 59 10 (.slice (some ⟨g, 0, none⟩) l.length cap) l.length (flatO l)) (hB : B ≤ W.heap.size) (hl : l.length ≤ 1000000)
    (h : ∀ g' cap' w', w'.ownsRow B 59 10 (.slice (some ⟨g', 0, none⟩) (l.length + 1) cap') (l.length + 1) (flatO (l ++ [n])) → Fr B [59] W w' → K (a.put o.dst (.slice (some ⟨g', 0, none⟩) (l.length + 1) cap')) w') :
    if Region.wanted o (yielded ops a.tmps) = true then Oper.wp Tryz.prog o a (W.alloc (.cells n.arr 59)) K Q else E := by
  obtain ⟨i0, hi, hz0, hz1, hz2⟩ := info_parts Tryz.info59
  refine step_append_lies _ hgd s x 60 ho B 59 i0 _ 10 136 Tryz.underlying60 hi hz0 hz1 hz2 rfl (by omega) _ l.length (flatO l) hs (HO.alloc _) ⟨W.heap.size, 0, none⟩ 1 1 n.cells hx rfl
    (World.news_of_block (cs := n.arr) (t := 59) (fr := (0, 0)) (heap_alloc_new W _)) n.one (by omega) (by simp only [maxLen]; omega) (by omega) (by simp; omega) (W.heap.size + 1) (by simp) ?_
  intro g' cap' w' hown hg hat hlt
  refine h g' cap' w' (by rw [flatO_snoc]; exact hown) ?_
  refine ((Fr.refl B [59] W).alloc hB _).grown hg (fun k hk => ?_) hB
  obtain rfl : k = g := by simpa [Value.ownBlock] using hk.symm
  obtain ⟨cs, hcs⟩ := own_blk HO
  exact ⟨own_base HO k rfl, .inr ⟨cs, 59, (0, 0), at_old hcs _, by simp⟩⟩
end
def rootO (n : On) : On := { n with inn := -1, host := -1, up := -1 }
theorem Or.pushed {W1 w3 : World} {B p g cap g2 cap2 : Nat} {l : List On} {n : On} {x : Value} (hA : Or W1 B p g cap l) (hn : AtO W1 n) (hf : Fr B [59, 62] W1 w3) (hp3 : w3.heap[p]? = some (.cells #[x] 62 (0, 0)))
    (hown : w3.ownsRow B 59 10 (.slice (some ⟨g2, 0, none⟩) (l.length + 1) cap2) (l.length + 1) (flatO (l ++ [rootO n]))) :
    Or (w3.setCell ⟨p, 0, none⟩ (.slice (some ⟨g2, 0, none⟩) (l.length + 1) cap2)) B p g2 cap2 (l ++ [rootO n]) ∧ Fr B [59, 62] W1 (w3.setCell ⟨p, 0, none⟩ (.slice (some ⟨g2, 0, none⟩) (l.length + 1) cap2)) := by
  have hs : Fr B [62] w3 (w3.setCell ⟨p, 0, none⟩ (.slice (some ⟨g2, 0, none⟩) (l.length + 1) cap2)) := (Fr.refl B [62] w3).set hp3 (by decide) hA.base _
  have hF : Fr B [59, 62] W1 (w3.setCell ⟨p, 0, none⟩ (.slice (some ⟨g2, 0, none⟩) (l.length + 1) cap2)) := hf.trans (hs.mono (by simp))
  refine ⟨⟨?_, ?_, fun m hm => ?_, by simp, hA.base⟩, hF⟩
  · rw [List.length_append]
    exact set_blk hp3 _
  · rw [List.length_append]
    exact own_fr hown hs (by decide)
  · rcases List.mem_append.1 hm with h | h
    · exact (hA.at_ m h).fr hF (by decide) (by decide)
    · obtain rfl : m = rootO n := by simpa using h
      exact AtO.fr (n := rootO n) (show AtO W1 (rootO n) from hn) hF (by decide) (by decide)
set_option maxHeartbeats 4000000 in
set_option maxRecDepth 100000 in
theorem add40 (B p g cap : Nat) (l : List On) (n : On) (w : World) (h : Or w B p g cap l) (hB : B ≤ w.heap.size) (hl : l.length < 32768) (hn : AtO w n) :
    Calls Tryz.prog 40 #[.pointer (some ⟨p, 0, none⟩), .agg n.arr] w
    fun e w' => e = .returned (.tuple #[.int .i64 l.length, .int .i64 0]) ∧ Ora w' B p (l ++ [rootO n]) ∧ Fr B [59, 62] w w' := by
  unfold On.arr
  have hll : decide ((l.length : Int) ≥ 32768) = false := decide_eq_false (by omega)
  have hn1 := at_new w (.cells #[.int .i64 n.kind, .int .i64 n.space, .string n.name, .slice n.aa n.al.length n.ac, .string n.data, .string n.sys, .int .i64 n.inn, .int .i64 n.host, .int .i64 n.up, .slice n.ka n.ks.length n.kc] 59) _ rfl
  have hc := (h.below (bal (Below.refl _ _) (.cells #[.int .i64 n.kind, .int .i64 n.space, .string n.name, .slice n.aa n.al.length n.ac, .string n.data, .string n.sys, .int .i64 n.inn, .int .i64 n.host, .int .i64 n.up, .slice n.ka n.ks.length n.kc] 59))).cell
  have hf := blk_free hn1
  have lp := blk_lt h.row
  have lnb := blk_lt hn1
  have hlt1 : p < (w.alloc (.cells #[.int .i64 n.kind, .int .i64 n.space, .string n.name, .slice n.aa n.al.length n.ac, .string n.data, .string n.sys, .int .i64 n.inn, .int .i64 n.host, .int .i64 n.up, .slice n.ka n.ks.length n.kc] 59)).heap.size := by simp; omega
  go_enter Tryz.func40, Tryz.ntmps40
  go_wp2_with fail
  have e8 := at_new w (.cells #[.int .i64 n.kind, .int .i64 n.space, .string n.name, .slice n.aa n.al.length n.ac, .string n.data, .string n.sys, .int .i64 (-1), .int .i64 (-1), .int .i64 (-1), .slice n.ka n.ks.length n.kc] 59) _ rfl
  have hb4 := bal (Below.refl _ w) (.cells #[.int .i64 n.kind, .int .i64 n.space, .string n.name, .slice n.aa n.al.length n.ac, .string n.data, .string n.sys, .int .i64 (-1), .int .i64 (-1), .int .i64 (-1), .slice n.ka n.ks.length n.kc] 59)
  clear hn1 hc hf lnb hlt1
  generalize w.alloc (.cells #[.int .i64 n.kind, .int .i64 n.space, .string n.name, .slice n.aa n.al.length n.ac, .string n.data, .string n.sys, .int .i64 (-1), .int .i64 (-1), .int .i64 (-1), .slice n.ka n.ks.length n.kc] 59) = W4 at *
  have hA4 := h.below hb4
  have hF4 : Fr B [59, 62] w W4 := Fr.of_below hB hb4
  have hat4 := hn.fr hF4 (by decide) (by decide)
  have hB4 : B ≤ W4.heap.size := Nat.le_trans hB hb4.size
  have ho4 := (hA4.drewN 1).own
  have hp4 := hA4.row
  have hpc := hA4.cell
  have hnc := blk_cells e8
  have k0 := hnc 0
  have k1 := hnc 1
  have k2 := hnc 2
  have k3 := hnc 3
  have k4 := hnc 4
  have k5 := hnc 5
  have k6 := hnc 6
  have k7 := hnc 7
  have k8 := hnc 8
  have k9 := hnc 9
  have lp4 := blk_lt hp4
  have ln4 := blk_lt e8
  clear hnc h hn e8 hb4
  go_region_law
    (refine at_dst 22 rfl ?_; refine step_pushO rfl (.tmp 19) (.tmp 21) rfl (rootO n) l B g cap (by rfl) (by rfl) ho4 hB4 (by omega) ?_; intro g2 cap2 w3 hown3 hf3; have hp3 := hf3.blk hp4 (by decide); have hc3 := blk_cells hp3 0; have hz3 := blk_free hp3 0)
  all_goals
    obtain ⟨hR, hF⟩ := Or.pushed hA4 hat4 (((Fr.refl B [59, 62] W4).drewN 1).trans (hf3.mono (by simp))) hp3 hown3
    have HR := Go.Lib.hid (show Ora _ B p _ from ⟨_, _, hR⟩)
    have HF := Go.Lib.hid (hF4.trans hF)
    clear hR hF hown3 hf3 ho4 hat4 hA4 hF4 hp4
    go_wp2
    go_ret2
    exact ⟨rfl, HR.out, HF.out⟩
end Go.Proofs.YthfdiinfeljeeaaGreatDoor
/- The reference's arena: a new one; texts, comments, fragments; a cell of a node is stored. -/
namespace Go.Proofs.YthfdiinfeljeeaaGreatDoor
open Go.RowKit
def kindO (k : Int) (s : ByteArray) : On := ⟨k, 0, ⟨#[]⟩, [], none, 0, s, ⟨#[]⟩, 0, 0, 0, [], none, 0⟩
theorem kindO_at (k : Int) (s : ByteArray) (w : World) : AtO w (kindO k s) := ⟨.inl ⟨rfl, rfl, rfl⟩, .inl ⟨rfl, rfl, rfl⟩⟩
set_option maxRecDepth 100000 in
theorem text17 (B p g cap : Nat) (l : List On) (s : ByteArray) (w : World) (h : Or w B p g cap l) (hB : B ≤ w.heap.size) (hl : l.length < 32768) (hs : s.size ≤ 1048576) :
    Calls Tryz.prog 17 #[.pointer (some ⟨p, 0, none⟩), .string s] w
    fun e w' => e = .returned (.tuple #[.int .i64 l.length, .int .i64 0]) ∧ Ora w' B p (l ++ [rootO (kindO 2 s)]) ∧ Fr B [59, 62] w w' := by
  have hf : Fr B [59, 62] w (w.alloc (.cells #[.string s] 9)) := (Fr.refl _ _ _).alloc hB _
  have hA := h.below (bal (Below.refl _ _) (.cells #[.string s] 9))
  have hB1 : B ≤ (w.alloc (.cells #[.string s] 9)).heap.size := by simp; omega
  have L := long39 _ 1 [s] _ (rdS_one w s) (by simpa using hs) (by simp)
  have A := add40 B p g cap l (kindO 2 s) _ hA hB1 hl (kindO_at _ _ _)
  go_enter Tryz.func17, Tryz.ntmps17
  go_wp2_with fail
  refine L.mono ?_
  rintro e w1 ⟨rfl, rfl⟩
  go_wp2_with fail
  refine A.mono ?_
  rintro e w1 ⟨rfl, hr, hf1⟩
  go_wp2
  go_ret2
  exact ⟨rfl, hr, hf.trans hf1⟩
set_option maxRecDepth 100000 in
theorem comment19 (B p g cap : Nat) (l : List On) (s : ByteArray) (w : World) (h : Or w B p g cap l) (hB : B ≤ w.heap.size) (hl : l.length < 32768) (hs : s.size ≤ 1048576) :
    Calls Tryz.prog 19 #[.pointer (some ⟨p, 0, none⟩), .string s] w
    fun e w' => e = .returned (.tuple #[.int .i64 l.length, .int .i64 0]) ∧ Ora w' B p (l ++ [rootO (kindO 3 s)]) ∧ Fr B [59, 62] w w' := by
  have hf : Fr B [59, 62] w (w.alloc (.cells #[.string s] 9)) := (Fr.refl _ _ _).alloc hB _
  have hA := h.below (bal (Below.refl _ _) (.cells #[.string s] 9))
  have hB1 : B ≤ (w.alloc (.cells #[.string s] 9)).heap.size := by simp; omega
  have L := long39 _ 1 [s] _ (rdS_one w s) (by simpa using hs) (by simp)
  have A := add40 B p g cap l (kindO 3 s) _ hA hB1 hl (kindO_at _ _ _)
  go_enter Tryz.func19, Tryz.ntmps19
  go_wp2_with fail
  refine L.mono ?_
  rintro e w1 ⟨rfl, rfl⟩
  go_wp2_with fail
  refine A.mono ?_
  rintro e w1 ⟨rfl, hr, hf1⟩
  go_wp2
  go_ret2
  exact ⟨rfl, hr, hf.trans hf1⟩
set_option maxRecDepth 100000 in
theorem fragment41 (B p g cap : Nat) (l : List On) (w : World) (h : Or w B p g cap l) (hB : B ≤ w.heap.size) (hl : l.length < 32768) :
    Calls Tryz.prog 41 #[.pointer (some ⟨p, 0, none⟩)] w
    fun e w' => e = .returned (.tuple #[.int .i64 l.length, .int .i64 0]) ∧ Ora w' B p (l ++ [rootO (kindO 5 ⟨#[]⟩)]) ∧ Fr B [59, 62] w w' := by
  have A := add40 B p g cap l (kindO 5 ⟨#[]⟩) w h hB hl (kindO_at _ _ _)
  go_enter Tryz.func41, Tryz.ntmps41
  go_wp2_with fail
  refine A.mono ?_
  rintro e w1 ⟨rfl, hr, hf1⟩
  go_wp2
  go_ret2
  exact ⟨rfl, hr, hf1⟩
set_option maxRecDepth 100000 in
theorem new11 (B : Nat) (w : World) (hB : B ≤ w.heap.size) : Calls Tryz.prog 11 #[] w fun e w' => ∃ p, e = .returned (.pointer (some ⟨p, 0, none⟩)) ∧ Ora w' B p [rootO (kindO 0 ⟨#[]⟩)] ∧ w.heap.size ≤ p ∧ Below w.heap.size w w' := by
  go_enter Tryz.func11, Tryz.ntmps11
  go_wp2
  go_ret
  have hown := World.ownsRow_lit (base := B) (e := 59) (size := 10) w (rootO (kindO 0 ⟨#[]⟩)).arr 1 (by omega) (by decide) rfl
  refine ⟨w.heap.size + 1, rfl, ⟨w.heap.size, 1, at_new _ _ _ (by simp), hown.alloc (.cells #[.slice (some ⟨w.heap.size, 0, none⟩) 1 1] 62), fun n hn => ?_, by simp, by omega⟩, by omega, bal (bal (Below.refl _ _) _) _⟩
  obtain rfl : n = rootO (kindO 0 ⟨#[]⟩) := by simpa using hn
  exact ⟨.inl ⟨rfl, rfl, rfl⟩, .inl ⟨rfl, rfl, rfl⟩⟩
section
variable {w w' : World} {B p g cap : Nat} {l : List On}
theorem Or.gfr (h : Or w B p g cap l) (k : Nat) (v : Value) : Fr B [59] w (w.setCell ⟨g, k, none⟩ v) := by
  obtain ⟨cs, hcs⟩ := own_blk h.own
  exact (Fr.refl _ _ _).set hcs (by simp) (own_base h.own g rfl) v
/-- A cell of a node is stored. -/
theorem Or.set (h : Or w B p g cap l) (i j : Nat) (v : Value) (n : On) (hi : i < l.length) (hj : j < 10) (hn : n.cells = (l[i]).cells.set j v) (ha : AtO w n) :
    Or (w.setCell ⟨g, i * 10 + j, none⟩ v) B p g cap (l.set i n) ∧ Fr B [59] w (w.setCell ⟨g, i * 10 + j, none⟩ v) := by
  have hf := h.gfr (i * 10 + j) v
  have hs := (h.own.stored (i * 10 + j) v).1
  rw [flatO_set l i j v n hi hj hn] at hs
  refine ⟨⟨?_, ?_, fun m hm => ?_, by simpa using h.pos, h.base⟩, hf⟩
  · rw [List.length_set]
    exact hf.blk h.row (by decide)
  · rw [List.length_set]
    exact hs
  · rcases List.mem_or_eq_of_mem_set hm with hm | rfl
    · exact (h.at_ m hm).fr hf (by decide) (by decide)
    · exact ha.fr hf (by decide) (by decide)
end
end Go.Proofs.YthfdiinfeljeeaaGreatDoor
/- The reference's arena: is a node above another one? -/
namespace Go.Proofs.YthfdiinfeljeeaaGreatDoor
open Go.RowKit
/-- One step up: the parent, or of a fragment its template. -/
def upO (l : List On) (i : Nat) : Int := match l[i]? with
  | some n => if n.up = -1 then n.host else n.up
  | none => -1
def aboveO (l : List On) : Nat → Int → Int → Bool
  | 0, _, _ => false
  | f + 1, i, o => if i = o then true else if i = -1 then false else aboveO l f (upO l i.toNat) o
/-- No node is above itself: there is a rank. -/
def RankedO (l : List On) (rk : Nat → Nat) : Prop := ∀ i, i < l.length → upO l i = -1 ∨ ∃ j : Nat, upO l i = j ∧ j < l.length ∧ rk j < rk i
set_option maxHeartbeats 2000000 in
set_option maxRecDepth 100000 in
theorem above48 (B p g cap : Nat) (l : List On) (rk : Nat → Nat) (i o f : Nat) (w : World) (h : Or w B p g cap l) (hU : RankedO l rk) (hi : i < l.length) (ho : o < l.length) (hf : rk i + 1 < f) :
    Calls Tryz.prog 48 #[.pointer (some ⟨p, 0, none⟩), .int .i64 i, .int .i64 o] w fun e w' => e = .returned (.bool (aboveO l f i o)) ∧ w = w' := by
  have hi1 : decide (0 ≤ (i : Int) ∧ (i : Int) < l.length) = true := decide_eq_true ⟨by omega, by omega⟩
  have ho1 : decide (0 ≤ (o : Int) ∧ (o : Int) < l.length) = true := decide_eq_true ⟨by omega, by omega⟩
  have H1 := is46 B p g cap l i w h
  have H2 := is46 B p g cap l o w h
  rw [hi1] at H1
  rw [ho1] at H2
  clear hi1 ho1
  have HU := Go.Lib.hid hU
  have hc := h.cell
  clear hU
  go_enter Tryz.func48, Tryz.ntmps48
  go_wp2_with fail
  refine H1.mono ?_
  rintro e w1 ⟨rfl, rfl⟩
  go_wp2_with fail
  refine H2.mono ?_
  rintro e w1 ⟨rfl, rfl⟩
  clear H1 H2
  go_wp2_with fail
  go_loop [1, 7] (fun v1 v7 => ∃ (x : Int) (f' : Nat), v1 = .int .i64 x ∧ (x = -1 ∨ ∃ j : Nat, x = j ∧ j < l.length ∧ rk j + 1 < f') ∧ 0 < f' ∧ Go.RowKit.Hid (aboveO l f' x o = aboveO l f i o)) (fun v1 _ => rkI rk v1)
  case atStart => exact ⟨i, f, rfl, .inr ⟨i, rfl, hi, hf⟩, by omega, rfl⟩
  case round =>
    obtain ⟨x, f', rfl, hx, hf', hfx⟩ := hrel
    obtain ⟨f', rfl⟩ : ∃ m, f' = m + 1 := ⟨f' - 1, by omega⟩
    by_cases hxo : x = o
    · subst hxo
      have HR := Go.Lib.hid (show aboveO l f i o = true by rw [← hfx.out, aboveO, if_pos rfl])
      have hne2 : ((o : Int) != -1) = true := by rw [bne, beq_eq_false_iff_ne.2 (by omega)]; rfl
      go_wp2
      go_ret
      exact ⟨ret_bool HR.out.symm, rfl⟩
    · have hne : (x == (o : Int)) = false := by rw [beq_eq_false_iff_ne]; exact hxo
      rcases hx with rfl | ⟨j, rfl, hj, hjf⟩
      · have HR := Go.Lib.hid (show aboveO l f i o = false by rw [← hfx.out, aboveO, if_neg hxo, if_pos rfl])
        clear hxo
        go_wp2
        go_ret
        exact ⟨ret_bool HR.out.symm, rfl⟩
      · have k7 := h.at j 7 hj (by omega)
        have k8 := h.at j 8 hj (by omega)
        have hup : upO l j = if (l[j]).up = -1 then (l[j]).host else (l[j]).up := by rw [upO, List.getElem?_eq_getElem hj]
        have hst : aboveO l f' (upO l j) o = aboveO l f i o := by rw [← hfx.out, aboveO, if_neg hxo, if_neg (by omega)]; rfl
        have hnx := HU.out j hj
        rw [hup] at hst hnx
        clear hup hxo
        obtain ⟨n, hn⟩ : ∃ n, n = l[j] := ⟨_, rfl⟩
        rw [← hn] at hst hnx k7 k8
        clear hn
        have HS := Go.Lib.hid hst
        have j0 : (0 : Int) ≤ j := by omega
        have j1 : (j : Int) < l.length := by omega
        have jn : ((j : Int) != -1) = true := by rw [bne, beq_eq_false_iff_ne.2 (by omega)]; rfl
        clear hst
        rw [show n.cells[7]? = some (.int .i64 n.host) from rfl] at k7
        rw [show n.cells[8]? = some (.int .i64 n.up) from rfl] at k8
        by_cases hu : n.up = -1
        · rw [if_pos hu] at hnx
          have HS2 := Go.Lib.hid (show aboveO l f' n.host o = aboveO l f i o by rw [← HS.out, if_pos hu])
          rw [hu] at k8
          clear hu
          go_wp2
          go_round
          case rel =>
            refine ⟨n.host, f', rfl, ?_, by omega, HS2⟩
            rcases hnx with h1 | ⟨j', h1, h2, h3⟩
            · exact .inl h1
            · exact .inr ⟨j', h1, h2, by omega⟩
          case measure =>
            rcases hnx with h1 | ⟨j', h1, h2, h3⟩
            · rw [h1]; simp only [rkI]; rw [if_pos (by omega), if_neg (by omega)]; omega
            · rw [h1]; simp only [rkI]; rw [if_neg (by omega), if_neg (by omega)]; simp only [Int.toNat_natCast]; omega
        · rw [if_neg hu] at hnx
          have HS2 := Go.Lib.hid (show aboveO l f' n.up o = aboveO l f i o by rw [← HS.out, if_neg hu])
          have hub : (n.up == -1) = false := by rw [beq_eq_false_iff_ne]; exact hu
          clear hu
          go_wp2
          go_round
          case rel =>
            refine ⟨n.up, f', rfl, ?_, by omega, HS2⟩
            rcases hnx with h1 | ⟨j', h1, h2, h3⟩
            · exact .inl h1
            · exact .inr ⟨j', h1, h2, by omega⟩
          case measure =>
            rcases hnx with h1 | ⟨j', h1, h2, h3⟩
            · rw [h1]; simp only [rkI]; rw [if_pos (by omega), if_neg (by omega)]; omega
            · rw [h1]; simp only [rkI]; rw [if_neg (by omega), if_neg (by omega)]; simp only [Int.toNat_natCast]; omega
end Go.Proofs.YthfdiinfeljeeaaGreatDoor
/- The reference's arena: a node becomes the last child of another one. -/
namespace Go.Proofs.YthfdiinfeljeeaaGreatDoor
open Go.RowKit
theorem AtO.kid {w : World} {n : On} (h : AtO w n) (k : Nat) (hk : k < n.ks.length) : ∃ b, n.ka = some ⟨b, 0, none⟩ ∧ w.cell? ⟨b, k, none⟩ = some (.int .i64 (n.ks[k] : Nat)) := by
  rcases h.2 with ⟨_, h2, _⟩ | ⟨b, cs, h1, h2, h3⟩
  · rw [h2] at hk; simp at hk
  · refine ⟨b, h1, ?_⟩
    rw [blk_cells h2 k]
    obtain ⟨r, hr⟩ := h3
    have : cs.toList[k]? = some (Value.int .i64 (n.ks[k] : Nat)) := by
      rw [← hr, List.getElem?_append_left (by simpa [intsV] using hk)]
      simp [intsV, hk]
    simpa using this
theorem intsV_snoc (xs : List Nat) (k : Nat) (h : k < xs.length) : intsV (xs.take k) ++ [.int .i64 (xs[k] : Nat)] = intsV (xs.take (k + 1)) := by
  rw [List.take_succ_eq_append_getElem h]
  unfold intsV
  rw [List.map_append]
  rfl
theorem own_kids {w : World} {B n : Nat} {v : Value} {ks : List Nat} (h : w.ownsRow B 3 1 v (n + 1) (intsV ks)) : ∃ b c, v = .slice (some ⟨b, 0, none⟩) (n + 1) c ∧ B ≤ b ∧ ∃ cs, w.heap[b]? = some (.cells cs 3 (0, 0)) ∧ intsV ks <+: cs.toList := by
  rcases h.2 with ⟨_, h0⟩ | ⟨g, cap, cur, rfl, hb, hg, _, _, _, ht⟩
  · omega
  · exact ⟨g, cap, rfl, hb, cur, hg, by rw [← ht]; exact List.take_prefix _ _⟩
def kidO (n : On) (j : Nat) (b c : Nat) : On := { n with ks := n.ks ++ [j], ka := some ⟨b, 0, none⟩, kc := c }
set_option maxHeartbeats 4000000 in
set_option maxRecDepth 100000 in
theorem link15 (B p g cap : Nat) (l : List On) (rk : Nat → Nat) (f u i : Nat) (w : World) (h : Or w B p g cap l) (hB : B ≤ w.heap.size) (hU : RankedO l rk) (hu : u < l.length) (hi : i < l.length) (hf : rk u + 1 < f) (hui : u ≠ i)
    (hk : parB (l[u]).kind = true) (h0 : (l[i]).kind ≠ 0) (h5 : (l[i]).kind ≠ 5) (hup : (l[i]).up = -1) (hab : aboveO l f u i = false) (hkl : (l[u]).ks.length ≤ 1000000) :
    Calls Tryz.prog 15 #[.pointer (some ⟨p, 0, none⟩), .int .i64 u, .int .i64 i, .int .i64 (-1)] w
    fun e w' => ∃ b c, e = .returned (.int .i64 0) ∧ Or w' B p g cap ((l.set u (kidO l[u] i b c)).set i { l[i] with up := u }) ∧ Fr B [59, 62] w w' := by
  have H1 := is46 B p g cap l u w h
  have H2 := is46 B p g cap l i w h
  rw [decide_eq_true ⟨by omega, by omega⟩] at H1 H2
  have P := parent47 B p g cap l u w h hu
  rw [hk] at P
  have A := above48 B p g cap l rk u i f w h hU hu hi hf
  rw [hab] at A
  have hc := h.cell
  have k0 := h.at i 0 hi (by omega)
  have k8 := h.at i 8 hi (by omega)
  have k9 := h.at u 9 hu (by omega)
  rw [Nat.add_zero] at k0
  rw [show (l[i]).cells[0]? = some (.int .i64 (l[i]).kind) from rfl] at k0
  rw [show (l[i]).cells[8]? = some (.int .i64 (l[i]).up) from rfl, hup] at k8
  rw [show (l[u]).cells[9]? = some (.slice (l[u]).ka (l[u]).ks.length (l[u]).kc) from rfl] at k9
  have q0 : ((l[i]).kind == 0) = false := by rw [beq_eq_false_iff_ne]; exact h0
  have q5 : ((l[i]).kind == 5) = false := by rw [beq_eq_false_iff_ne]; exact h5
  have u0 : (0 : Int) ≤ u := by omega
  have u1 : (u : Int) < l.length := by omega
  have i0 : (0 : Int) ≤ i := by omega
  have i1 : (i : Int) < l.length := by omega
  have hat := h.at_ _ (List.getElem_mem hu)
  have KID := hat.kid
  have KSN := intsV_snoc (l[u]).ks
  obtain ⟨n, hn⟩ : ∃ n, n = l[u] := ⟨_, rfl⟩
  rw [← hn] at k9 hkl hat KID KSN
  generalize hki : (l[i]).kind = ki at *
  have HN := Go.Lib.hid (⟨hn, hui⟩ : n = l[u] ∧ u ≠ i)
  have HU := Go.Lib.hid (⟨hU, hup⟩ : RankedO l rk ∧ (l[i]).up = -1)
  clear hn hki hui hU hup hk hab h0 h5 hat
  go_enter Tryz.func15, Tryz.ntmps15
  go_wp2_with (first
    | (go_at_call 46; (with_reducible refine H1.mono ?_); rintro e w1 ⟨rfl, rfl⟩)
    | (go_at_call 46; (with_reducible refine H2.mono ?_); rintro e w1 ⟨rfl, rfl⟩)
    | (go_at_call 47; refine P.mono ?_; rintro e w1 ⟨rfl, rfl⟩)
    | (go_at_call 48; refine A.mono ?_; rintro e w1 ⟨rfl, rfl⟩))
  clear H1 H2 P A k0 k8 k9
  go_loopw [9, 11] (fun v9 v11 wr => ∃ k : Nat, k ≤ n.ks.length ∧ v11 = .int .i64 k ∧ Below w.heap.size w wr ∧ wr.ownsRow w.heap.size 3 1 v9 k (intsV (n.ks.take k))) (fun _ v11 _ => n.ks.length - (intOf v11).toNat)
  case atStart => exact ⟨0, Nat.zero_le _, rfl, Below.refl _ _, World.ownsRow_nil _ _ _ _⟩
  case round =>
    obtain ⟨k, hk, rfl, hB1, hown⟩ := hrel
    have hbs := hB1.size
    by_cases hlt : k < n.ks.length
    · obtain ⟨b, hka, hkc⟩ := KID k hlt
      have HS := Go.Lib.hid (KSN k hlt)
      have hkr := bcl hB1 hkc
      have hne : (((n.ks[k] : Nat) : Int) == -1) = false := by rw [beq_eq_false_iff_ne]; omega
      rw [hka]
      generalize n.ks[k] = x at *
      clear KID KSN hka hkc
      go_wp2_with (at_builtin; refine step_append_many (w0 := w) rfl w.heap.size (.tmp 111) (.tmp 116) 57 3 (.int .i64 0) 1 8 rfl Tryz.underlying57 Tryz.info3 rfl (by decide) (by decide) _ k _ 1 (intsV (n.ks.take k)) #[.int .i64 x] rfl rfl rfl rfl (by simp [Value.oneCell']) hown hB1 hbs (by omega) ?_; intro v2 w2 hown2 hB2)
      go_roundw
      case rel => exact ⟨k + 1, by omega, by go_num, hB2, by rw [← HS.out]; exact hown2⟩
      case measure => simp [intOf]; omega
    · obtain rfl : k = n.ks.length := by omega
      rw [List.take_of_length_le (Nat.le_refl _)] at hown
      have hbs := hB1.size
      clear KID KSN hlt hk
      have HX := Go.Lib.hid (show ∀ v2 w2, w2.ownsRow w.heap.size 3 1 v2 (n.ks.length + 1) (intsV n.ks ++ [.int .i64 i]) → Below w.heap.size w w2 → ∃ b c, v2 = .slice (some ⟨b, 0, none⟩) (n.ks.length + 1) c ∧ Or w2 B p g cap l ∧ (∃ v, w2.cell? ⟨g, u * 10 + 9, none⟩ = some v) ∧ Or (w2.setCell ⟨g, u * 10 + 9, none⟩ (.slice (some ⟨b, 0, none⟩) (n.ks.length + 1) c)) B p g cap (l.set u (kidO l[u] i b c)) ∧ (∃ v, (w2.setCell ⟨g, u * 10 + 9, none⟩ (.slice (some ⟨b, 0, none⟩) (n.ks.length + 1) c)).cell? ⟨g, i * 10 + 8, none⟩ = some v) ∧ Or ((w2.setCell ⟨g, u * 10 + 9, none⟩ (.slice (some ⟨b, 0, none⟩) (n.ks.length + 1) c)).setCell ⟨g, i * 10 + 8, none⟩ (.int .i64 u)) B p g cap ((l.set u (kidO l[u] i b c)).set i { l[i] with up := u }) ∧ Fr B [59, 62] w ((w2.setCell ⟨g, u * 10 + 9, none⟩ (.slice (some ⟨b, 0, none⟩) (n.ks.length + 1) c)).setCell ⟨g, i * 10 + 8, none⟩ (.int .i64 u)) by
        intro v2 w2 ho hb
        obtain ⟨hn, hui⟩ := HN.out
        obtain ⟨b, c, rfl, _, cs, hcs, hpre⟩ := own_kids (ks := n.ks ++ [i]) (by simpa [intsV] using ho)
        have hA2 := h.below hb
        obtain ⟨hO1, hF1⟩ := hA2.set u 9 (.slice (some ⟨b, 0, none⟩) (n.ks.length + 1) c) (kidO l[u] i b c) hu (by omega) (by rw [hn]; simp [kidO, On.cells, On.arr]) ⟨(hA2.at_ _ (List.getElem_mem hu)).1, .inr ⟨b, cs, rfl, hcs, by rw [hn] at hpre; exact hpre⟩⟩
        have hi1 : i < (l.set u (kidO l[u] i b c)).length := by rw [List.length_set]; exact hi
        have e1 : (l.set u (kidO l[u] i b c))[i] = l[i] := List.getElem_set_ne hui _
        obtain ⟨hO2, hF2⟩ := hO1.set i 8 (.int .i64 u) { l[i] with up := u } hi1 (by omega) (by rw [e1]; rfl) (by have := hO1.at_ _ (List.getElem_mem hi1); rw [e1] at this; exact this)
        exact ⟨b, c, rfl, hA2, ⟨_, hA2.at u 9 hu (by omega)⟩, hO1, ⟨_, hO1.at i 8 hi1 (by omega)⟩, hO2, (Fr.of_below hB hb).trans ((hF1.trans hF2).mono (by simp))⟩)
      go_wp2_with (at_builtin; refine step_append_many (w0 := w) rfl w.heap.size (.tmp 120) (.tmp 122) 57 3 (.int .i64 0) 1 8 rfl Tryz.underlying57 Tryz.info3 rfl (by decide) (by decide) _ n.ks.length _ 1 (intsV n.ks) #[.int .i64 i] rfl rfl rfl rfl (by simp [Value.oneCell']) hown hB1 hbs (by omega) ?_; intro v2 w2 hown2 hB2; obtain ⟨b, c, rfl, hA2, ⟨x9, hx9⟩, hO1, ⟨x8, hx8⟩, hO2, hF2⟩ := HX.out v2 w2 hown2 hB2; have hc2 := hA2.cell; have hc3 := hO1.cell; have y9 := hA2.free (u * 10 + 9); have y8 := hO1.free (i * 10 + 8); rw [List.length_set] at hc3; have HR := Go.Lib.hid hO2; have HF := Go.Lib.hid hF2; clear hO2 hF2 hA2 hO1 hown hown2 hB1 hbs hB2)
      go_ret
      exact ⟨rfl, ⟨b, c, HR.out⟩, HF.out⟩
end Go.Proofs.YthfdiinfeljeeaaGreatDoor
/- The reference's arena: what a link refuses. -/
namespace Go.Proofs.YthfdiinfeljeeaaGreatDoor
open Go.RowKit
/-- What a link of the reference answers. -/
def linkE (l : List On) (f : Nat) (u i : Int) : Int :=
  if ¬ (0 ≤ u ∧ u < l.length) ∨ ¬ (0 ≤ i ∧ i < l.length) then 6
  else if parB ((l[u.toNat]?.map On.kind).getD 0) = false ∨ (l[i.toNat]?.map On.kind).getD 0 = 0 ∨ (l[i.toNat]?.map On.kind).getD 0 = 5 then 10
  else if (l[i.toNat]?.map On.up).getD 0 ≠ -1 ∨ aboveO l f u i = true then 11
  else 0
set_option maxHeartbeats 4000000 in
set_option maxRecDepth 100000 in
theorem link15_err (B p g cap : Nat) (l : List On) (rk : Nat → Nat) (f : Nat) (u i : Int) (w : World) (h : Or w B p g cap l) (hU : RankedO l rk) (hf : ∀ j, j < l.length → rk j + 1 < f) (hne : linkE l f u i ≠ 0) :
    Calls Tryz.prog 15 #[.pointer (some ⟨p, 0, none⟩), .int .i64 u, .int .i64 i, .int .i64 (-1)] w
    fun e w' => e = .returned (.int .i64 (linkE l f u i)) ∧ w = w' := by
  have HU := Go.Lib.hid (⟨hU, hf, hne⟩ : RankedO l rk ∧ (∀ j, j < l.length → rk j + 1 < f) ∧ linkE l f u i ≠ 0)
  clear hU hf hne
  have H1 := is46 B p g cap l u w h
  have H2 := is46 B p g cap l i w h
  by_cases hu : 0 ≤ u ∧ u < l.length
  · rw [decide_eq_true hu] at H1
    by_cases hi : 0 ≤ i ∧ i < l.length
    · rw [decide_eq_true hi] at H2
      obtain ⟨u, rfl⟩ : ∃ v : Nat, u = v := ⟨u.toNat, by omega⟩
      obtain ⟨i, rfl⟩ : ∃ v : Nat, i = v := ⟨i.toNat, by omega⟩
      have hu' : u < l.length := by omega
      have hi' : i < l.length := by omega
      have HE := Go.Lib.hid (show linkE l f u i = _ by unfold linkE; rw [if_neg (fun h => h.elim (fun h => h hu) (fun h => h hi))])
      simp only [Int.toNat_natCast, List.getElem?_eq_getElem hu', List.getElem?_eq_getElem hi', Option.map_some, Option.getD_some] at HE
      have hc := h.cell
      have k0 := h.at i 0 hi' (by omega)
      have k8 := h.at i 8 hi' (by omega)
      rw [Nat.add_zero] at k0
      rw [show (l[i]).cells[0]? = some (.int .i64 (l[i]).kind) from rfl] at k0
      rw [show (l[i]).cells[8]? = some (.int .i64 (l[i]).up) from rfl] at k8
      have P := parent47 B p g cap l u w h hu'
      have u0 : (0 : Int) ≤ u := by omega
      have u1 : (u : Int) < l.length := by omega
      have i0 : (0 : Int) ≤ i := by omega
      have i1 : (i : Int) < l.length := by omega
      have A := above48 B p g cap l rk u i f w h HU.out.1 hu' hi' (HU.out.2.1 u hu')
      clear hu hi
      by_cases hk : parB (l[u]).kind = false ∨ (l[i]).kind = 0 ∨ (l[i]).kind = 5
      · have HE2 := Go.Lib.hid (HE.out.trans (if_pos hk))
        cases hp : parB (l[u]).kind with
        | false =>
          rw [hp] at P
          clear hk hp
          go_enter Tryz.func15, Tryz.ntmps15
          go_wp2_with (first
            | (go_at_call 46; (with_reducible refine H1.mono ?_); rintro e w1 ⟨rfl, rfl⟩)
            | (go_at_call 46; (with_reducible refine H2.mono ?_); rintro e w1 ⟨rfl, rfl⟩)
            | (go_at_call 47; refine P.mono ?_; rintro e w1 ⟨rfl, rfl⟩)
            | (go_at_call 48; refine A.mono ?_; rintro e w1 ⟨rfl, rfl⟩))
          go_ret
          exact ⟨by rw [HE2.out]; rfl, rfl⟩
        | true =>
          rw [hp] at P
          rcases hk with hk | hk | hk
          · rw [hp] at hk; cases hk
          · have q0 : ((l[i]).kind == 0) = true := by rw [hk]; rfl
            clear hk hp
            go_enter Tryz.func15, Tryz.ntmps15
            go_wp2_with (first
              | (go_at_call 46; (with_reducible refine H1.mono ?_); rintro e w1 ⟨rfl, rfl⟩)
              | (go_at_call 46; (with_reducible refine H2.mono ?_); rintro e w1 ⟨rfl, rfl⟩)
              | (go_at_call 47; refine P.mono ?_; rintro e w1 ⟨rfl, rfl⟩)
              | (go_at_call 48; refine A.mono ?_; rintro e w1 ⟨rfl, rfl⟩))
            go_ret
            exact ⟨by rw [HE2.out]; rfl, rfl⟩
          · have q0 : ((l[i]).kind == 0) = false := by rw [hk]; rfl
            have q5 : ((l[i]).kind == 5) = true := by rw [hk]; rfl
            clear hk hp
            go_enter Tryz.func15, Tryz.ntmps15
            go_wp2_with (first
              | (go_at_call 46; (with_reducible refine H1.mono ?_); rintro e w1 ⟨rfl, rfl⟩)
              | (go_at_call 46; (with_reducible refine H2.mono ?_); rintro e w1 ⟨rfl, rfl⟩)
              | (go_at_call 47; refine P.mono ?_; rintro e w1 ⟨rfl, rfl⟩)
              | (go_at_call 48; refine A.mono ?_; rintro e w1 ⟨rfl, rfl⟩))
            go_ret
            exact ⟨by rw [HE2.out]; rfl, rfl⟩
      · have HE1 := Go.Lib.hid (HE.out.trans (if_neg hk))
        cases hp : parB (l[u]).kind with
        | false => exact absurd (.inl hp) hk
        | true =>
          rw [hp] at P
          have q0 : ((l[i]).kind == 0) = false := by rw [beq_eq_false_iff_ne]; exact fun e => hk (.inr (.inl e))
          have q5 : ((l[i]).kind == 5) = false := by rw [beq_eq_false_iff_ne]; exact fun e => hk (.inr (.inr e))
          clear hk hp
          by_cases hup : (l[i]).up = -1
          · rw [hup] at k8
            cases hab : aboveO l f u i with
            | true =>
              rw [hab] at A
              have HE2 := Go.Lib.hid (HE1.out.trans (if_pos (.inr hab)))
              clear hup hab
              go_enter Tryz.func15, Tryz.ntmps15
              go_wp2_with (first
                | (go_at_call 46; (with_reducible refine H1.mono ?_); rintro e w1 ⟨rfl, rfl⟩)
                | (go_at_call 46; (with_reducible refine H2.mono ?_); rintro e w1 ⟨rfl, rfl⟩)
                | (go_at_call 47; refine P.mono ?_; rintro e w1 ⟨rfl, rfl⟩)
                | (go_at_call 48; refine A.mono ?_; rintro e w1 ⟨rfl, rfl⟩))
              go_ret
              exact ⟨by rw [HE2.out]; rfl, rfl⟩
            | false => exact absurd (HE1.out.trans (if_neg (fun h => h.elim (fun h => h hup) (fun h => by rw [hab] at h; cases h)))) HU.out.2.2
          · have HE2 := Go.Lib.hid (HE1.out.trans (if_pos (.inl hup)))
            have qu : ((l[i]).up != -1) = true := by rw [bne, beq_eq_false_iff_ne.2 hup]; rfl
            clear hup A
            go_enter Tryz.func15, Tryz.ntmps15
            go_wp2_with (first
              | (go_at_call 46; (with_reducible refine H1.mono ?_); rintro e w1 ⟨rfl, rfl⟩)
              | (go_at_call 46; (with_reducible refine H2.mono ?_); rintro e w1 ⟨rfl, rfl⟩)
              | (go_at_call 47; refine P.mono ?_; rintro e w1 ⟨rfl, rfl⟩))
            go_ret
            exact ⟨by rw [HE2.out]; rfl, rfl⟩
    · rw [decide_eq_false hi] at H2
      have HE2 := Go.Lib.hid (show linkE l f u i = 6 by unfold linkE; rw [if_pos (.inr hi)])
      clear hu hi
      go_enter Tryz.func15, Tryz.ntmps15
      go_wp2_with (first
        | (go_at_call 46; (with_reducible refine H1.mono ?_); rintro e w1 ⟨rfl, rfl⟩)
        | (go_at_call 46; (with_reducible refine H2.mono ?_); rintro e w1 ⟨rfl, rfl⟩))
      go_ret
      exact ⟨by rw [HE2.out]; rfl, rfl⟩
  · rw [decide_eq_false hu] at H1
    have HE2 := Go.Lib.hid (show linkE l f u i = 6 by unfold linkE; rw [if_pos (.inl hu)])
    clear hu
    go_enter Tryz.func15, Tryz.ntmps15
    go_wp2_with (first
      | (go_at_call 46; (with_reducible refine H1.mono ?_); rintro e w1 ⟨rfl, rfl⟩))
    go_ret
    exact ⟨by rw [HE2.out]; rfl, rfl⟩
end Go.Proofs.YthfdiinfeljeeaaGreatDoor
/- Plain: both arenas are alike, and stay so. -/
namespace Go.Proofs.YthfdiinfeljeeaaGreatDoor
set_option linter.unusedSimpArgs false
def on0 : On := kindO 0 ⟨#[]⟩
abbrev gO (m : List On) (i : Nat) : On := m.getD i on0
theorem gO_of {m : List On} {i : Nat} (h : i < m.length) : m.getD i on0 = m[i] := by
  rw [List.getD_eq_getElem?_getD, List.getElem?_eq_getElem h]
  rfl
theorem gO_push (m : List On) (n : On) (j : Nat) : gO (m ++ [n]) j = if j < m.length then gO m j else if j = m.length then n else on0 := by
  unfold gO
  rw [List.getD_eq_getElem?_getD, List.getD_eq_getElem?_getD]
  by_cases h : j < m.length
  · rw [if_pos h, List.getElem?_append_left h]
  · rw [if_neg h, List.getElem?_append_right (by omega)]
    by_cases h2 : j = m.length
    · subst h2; simp
    · rw [if_neg h2, List.getElem?_eq_none (by simp; omega)]; rfl
theorem gO_set (m : List On) (k j : Nat) (n : On) : gO (m.set k n) j = if k = j ∧ j < m.length then n else gO m j := by
  unfold gO
  rw [List.getD_eq_getElem?_getD, List.getD_eq_getElem?_getD, List.getElem?_set]
  by_cases hj : j < m.length
  · by_cases hk : k = j
    · subst hk; simp [hj]
    · simp [hk, hj]
  · by_cases hk : k = j
    · subst hk
      rw [if_pos rfl, if_neg (by omega), if_neg (by omega), List.getElem?_eq_none (by omega)]
    · simp [hk]
structure Sim (n : Nd) (o : On) : Prop where
  kind : o.kind = n.kind
  space : o.space = n.space
  name : o.name = n.name
  al : o.al = n.al
  data : o.data = n.data
  sys : o.sys = n.sys
  inn : o.inn = n.inn
  host : o.host = n.host
  up : o.up = n.up
structure Alike (l : List Nd) (m : List On) (ks : Nat → List Nat) : Prop where
  len : m.length = l.length
  good : Good l ks
  sim : ∀ i, i < l.length → Sim (gN l i) (gO m i)
  kids : ∀ i, i < l.length → (gO m i).ks = ks i
  out : ∀ i, l.length ≤ i → ks i = []
theorem Alike.up {l : List Nd} {m : List On} {ks : Nat → List Nat} (h : Alike l m ks) (i : Nat) : upO m i = upI l i := by
  by_cases hi : i < l.length
  · have hm : i < m.length := by rw [h.len]; exact hi
    have s := h.sim i hi
    rw [show gN l i = l[i] from getD_of hi, show gO m i = m[i] from gO_of hm] at s
    rw [upO, upI, List.getElem?_eq_getElem hi, List.getElem?_eq_getElem hm]
    dsimp only
    rw [s.up, s.host]
  · rw [upO, upI, List.getElem?_eq_none (show m.length ≤ i by rw [h.len]; omega), List.getElem?_eq_none (show l.length ≤ i by omega)]
theorem Alike.above {l : List Nd} {m : List On} {ks : Nat → List Nat} (h : Alike l m ks) : ∀ (f : Nat) (x o : Int), aboveO m f x o = aboveL l f x o
  | 0, _, _ => rfl
  | f + 1, x, o => by
    rw [aboveO, aboveL, h.up, h.above f]
theorem Alike.ranked {l : List Nd} {m : List On} {ks : Nat → List Nat} (h : Alike l m ks) {rk : Nat → Nat} (hU : Ranked l rk) : RankedO m rk := fun i hi => by
  rw [h.len] at hi
  rcases hU i hi with h1 | ⟨j, h1, h2, h3⟩
  · exact .inl ((h.up i).trans h1)
  · exact .inr ⟨j, (h.up i).trans h1, by rw [h.len]; exact h2, h3⟩
/-- Both links answer alike. -/
theorem Alike.linkE {l : List Nd} {m : List On} {ks : Nat → List Nat} (h : Alike l m ks) (f : Nat) (u i : Int) : linkE m f u i = (linkR l f u i).1 := by
  unfold Proofs.YthfdiinfeljeeaaGreatDoor.linkE linkR
  rw [h.len]
  by_cases h1 : ¬ (0 ≤ u ∧ u < l.length) ∨ ¬ (0 ≤ i ∧ i < l.length)
  · rw [if_pos h1, if_pos h1]
  · rw [if_neg h1, if_neg h1]
    have hu : u.toNat < l.length := by omega
    have hi : i.toNat < l.length := by omega
    have su := h.sim u.toNat hu
    have si := h.sim i.toNat hi
    have eu : m[u.toNat]? = some (gO m u.toNat) := by rw [show gO m u.toNat = m[u.toNat]'(by rw [h.len]; exact hu) from gO_of _]; exact List.getElem?_eq_getElem _
    have ei : m[i.toNat]? = some (gO m i.toNat) := by rw [show gO m i.toNat = m[i.toNat]'(by rw [h.len]; exact hi) from gO_of _]; exact List.getElem?_eq_getElem _
    rw [eu, ei, Option.map_some, Option.map_some, Option.map_some, Option.getD_some, Option.getD_some, Option.getD_some, su.kind, si.kind, si.up, h.above]
    split
    · rfl
    · split <;> rfl
theorem Alike.push {l : List Nd} {m : List On} {ks : Nat → List Nat} (h : Alike l m ks) (n : Nd) (o : On) (hs : Sim n o) (hf : n.fst = -1) (hl : n.lst = -1) (hk : o.ks = []) : Alike (l ++ [n]) (m ++ [o]) ks := by
  refine ⟨by simp [h.len], h.good.push n hf hl (h.out _ (Nat.le_refl _)), fun i hi => ?_, fun i hi => ?_, fun i hi => h.out i (by simp at hi; omega)⟩
  all_goals
    rcases (show i < l.length ∨ i = l.length by simp at hi; omega) with hi | rfl
  · rw [gN_push, gO_push, if_pos hi, if_pos (by rw [h.len]; exact hi)]; exact h.sim i hi
  · rw [gN_push, gO_push, h.len, if_neg (by omega), if_pos rfl, if_neg (by omega), if_pos rfl]; exact hs
  · rw [gO_push, if_pos (by rw [h.len]; exact hi)]; exact h.kids i hi
  · rw [gO_push, h.len, if_neg (by omega), if_pos rfl, hk, h.out _ (Nat.le_refl _)]
theorem Alike.link {l : List Nd} {m : List On} {ks : Nat → List Nat} (h : Alike l m ks) (u i b c : Nat) (hui : u ≠ i) (hu : u < l.length) (hi : i < l.length) (hup : (gN l i).up = -1) :
    Alike (linkL l u i) ((m.set u (kidO (gO m u) i b c)).set i { gO m i with up := u }) (ksLink ks u i) := by
  have hp : (gN l u).lst = -1 ∨ ∃ p : Nat, (gN l u).lst = p ∧ p ≠ i ∧ p < l.length := by
    rcases h.good.lst_or u hu with ⟨_, h1⟩ | ⟨hk, h1⟩
    · exact .inl h1
    · refine .inr ⟨_, h1, fun e => ?_, (h.good.mem u hu _ (List.getElem_mem hk)).1⟩
      have := (h.good.mem u hu _ (List.getElem_mem hk)).2
      rw [e, hup] at this
      omega
  have G := linkL_get l u i hui hi hu hp
  refine ⟨by rw [linkL_len]; simp [h.len], h.good.link u i hui hu hi hup, fun j hj => ?_, fun j hj => ?_, fun j hj => ?_⟩
  all_goals rw [linkL_len] at hj
  · have s := h.sim j hj
    have hjm : j < m.length := by rw [h.len]; exact hj
    by_cases hji : j = i
    · subst hji
      have e : gO ((m.set u (kidO (gO m u) j b c)).set j { gO m j with up := u }) j = { gO m j with up := u } := by
        rw [gO_set, if_pos ⟨rfl, by rw [List.length_set]; exact hjm⟩]
      rw [e, G j hj]
      exact ⟨s.kind, s.space, s.name, s.al, s.data, s.sys, s.inn, s.host, by simp⟩
    · by_cases hju : j = u
      · subst hju
        have e : gO ((m.set j (kidO (gO m j) i b c)).set i { gO m i with up := j }) j = kidO (gO m j) i b c := by
          rw [gO_set, if_neg (fun e => hji e.1.symm), gO_set, if_pos ⟨rfl, hjm⟩]
        rw [e, G j hj]
        exact ⟨s.kind, s.space, s.name, s.al, s.data, s.sys, s.inn, s.host, by simp only [if_neg hji]; exact s.up⟩
      · have e : gO ((m.set u (kidO (gO m u) i b c)).set i { gO m i with up := u }) j = gO m j := by
          rw [gO_set, if_neg (fun e => hji e.1.symm), gO_set, if_neg (fun e => hju e.1.symm)]
        rw [e, G j hj]
        exact ⟨s.kind, s.space, s.name, s.al, s.data, s.sys, s.inn, s.host, by simp only [if_neg hji]; exact s.up⟩
  · have k := h.kids j hj
    rw [gO_set, gO_set, List.length_set, h.len]
    unfold ksLink
    by_cases hji : j = i
    · subst hji
      rw [if_pos ⟨rfl, hj⟩, if_neg (Ne.symm hui)]
      exact k
    · rw [if_neg (fun e => hji e.1.symm)]
      by_cases hju : j = u
      · subst hju
        rw [if_pos ⟨rfl, hj⟩, if_pos rfl, ← k]
        rfl
      · rw [if_neg (fun e => hju e.1.symm), if_neg hju]
        exact k
  · unfold ksLink
    rw [if_neg (by omega)]
    exact h.out j hj
end Go.Proofs.YthfdiinfeljeeaaGreatDoor
/- A new template; too many attributes. -/
namespace Go.Proofs.YthfdiinfeljeeaaGreatDoor
open Go.RowKit
set_option maxHeartbeats 4000000 in
set_option maxRecDepth 100000 in
theorem element12t (B p : Nat) (l : List Nd) (name : ByteArray) (oa : Option Addr) (c : Nat) (L : List A4) (w : World) (h : Ar w B p l) (hB : B ≤ w.heap.size) (hl : l.length + 1 < 32767) (hL : L.length ≤ 1024) (hR : RdA w oa L) (hn : name.size ≤ 1048576)
    (hsz : ∀ s ∈ txtA L, s.size ≤ 1048576) (ht : (name.data.toList == tmplW) = true) :
    Calls Tryz.prog 12 #[.pointer (some ⟨p, 0, none⟩), .int .i64 0, .string name, .slice oa L.length c] w
    fun e w' => ∃ b, e = .returned (.tuple #[.int .i64 l.length, .int .i64 0]) ∧ Ar w' B p (elemL true (elN 0 name L b) l) ∧ Fr B [74, 78] w w' := by
  have HT : (name.toList == [116, 101, 109, 112, 108, 97, 116, 101]) = true := by rw [tl]; exact ht
  clear ht
  go_enter Tryz.func12, Tryz.ntmps12
  go_wp2_with (go_at_call 35; refine (none35 B p l _ h).mono ?_; rintro e w1 ⟨rfl, rfl⟩)
  go_loopw [10, 36] (fun v10 v36 wr => ∃ k : Nat, k ≤ L.length ∧ v36 = .int .i64 k ∧ Below w.heap.size w wr ∧ wr.ownsRow w.heap.size 9 1 v10 (1 + 3 * k) (strs (name :: txtA (L.take k)))) (fun _ v36 _ => L.length - (intOf v36).toNat)
  case atStart => exact ⟨0, Nat.zero_le _, rfl, bal (Below.refl _ _) _, by simpa [strs, txtA] using World.ownsRow_lit (base := w.heap.size) (e := 9) (size := 1) w #[.string name] 1 (Nat.le_refl _) (by decide) rfl⟩
  case round =>
    obtain ⟨k, hk, rfl, hB1, hown⟩ := hrel
    by_cases hlt : k < L.length
    · obtain ⟨b, off, rfl, hc⟩ := (hR.below hB1) (by rintro rfl; simp at hlt)
      obtain ⟨c0, c1, c2, c3⟩ := hc k hlt
      have HST := Go.Lib.hid (txt_snoc name L k hlt)
      have hbs := hB1.size
      have hl3 : (1 + 3 * k + 3) * 16 ≤ 140737488355328 := by omega
      obtain ⟨x, hx⟩ : ∃ x, x = L[k] := ⟨_, rfl⟩
      rw [← hx] at c0 c1 c2 c3 HST
      clear hx hc
      go_wp2_with (at_builtin; refine step_append_many (w0 := w) rfl w.heap.size (.tmp 40) (.tmp 47) 39 9 (.string ⟨#[]⟩) 1 16 rfl Tryz.underlying39 Tryz.info9 rfl (by decide) (by decide) u10 (1 + 3 * k) _ 3 (strs (name :: txtA (L.take k))) #[.string x.pre, .string x.nm, .string x.va] rfl rfl (by simp) rfl (by simp [Value.oneCell']) (hown.alloc _) (bal hB1 _) (by simp; omega) hl3 ?_; intro v2 w2 hown2 hB2)
      go_roundw
      case rel => exact ⟨k + 1, by omega, by go_num, hB2, by rw [← HST.out, show 1 + 3 * (k + 1) = 1 + 3 * k + 3 by omega]; exact hown2⟩
      case measure => simp [intOf]; omega
    · obtain rfl : k = L.length := by omega
      rw [List.take_of_length_le (Nat.le_refl _)] at hown
      obtain ⟨ot, ct, rfl⟩ := own_slice hown
      obtain ⟨hrs, hrl⟩ := rdS_own hown
      have hAr := h.fr (Fr.of_below (T := []) (Nat.le_refl _) hB1) (by simp) (by simp) (by simp)
      have hRN := (hR.below hB1).news
      have hf1 : Fr B [74, 78] w wr := Fr.of_below hB hB1
      have hO := own37 oa c L wr hRN (by omega)
      obtain ⟨g0, cap0, hA0⟩ := hAr.open_
      have hpc := hA0.cell
      have hfull : ((l.length : Int) == 32767) = false := by rw [beq_eq_false_iff_ne]; omega
      have hb2 := bal (Below.refl wr.heap.size wr) (.cells (cellsA L).toArray 80)
      have hAt : AtA (wr.alloc (.cells (cellsA L).toArray 80)) (elN 0 name L wr.heap.size) := .inr ⟨wr.heap.size, rfl, rfl, at_new _ _ _ rfl⟩
      have hB2 : B ≤ (wr.alloc (.cells (cellsA L).toArray 80)).heap.size := by have := hB1.size; simp; omega
      have A := add36 B p l (elN 0 name L wr.heap.size) ot ct (name :: txtA L) _ (hAr.below hb2) hB2 (by omega) hAt (hrs.below hb2) (by
        intro s hs
        rcases List.mem_cons.1 hs with rfl | hs
        · exact hn
        · exact hsz s hs) (by rw [← hrl]; omega)
      rw [← hrl] at A
      have hf2 : Fr B [74, 78] w (wr.alloc (.cells (cellsA L).toArray 80)) := hf1.alloc hB _
      have hnb : wr.heap.size = wr.heap.size := rfl
      clear hrs hown hrl hb2 hAt hRN hnb hR hsz hf1 hB1 hk hlt
      go_wp2_with fail
      refine hO.mono ?_
      rintro e w2 ⟨rfl, rfl⟩
      clear hO
      go_wp2_with fail
      refine A.mono ?_
      rintro e w3 ⟨rfl, hr3, hf3⟩
      have hB3 : B ≤ w3.heap.size := Nat.le_trans hB2 hf3.size
      clear hpc hfull hA0
      have hf := hf2.trans hf3
      have F := fragment38 B p _ w3 hr3 hB3 (by simp; omega)
      rw [List.length_append, show ([blankN (elN 0 name L wr.heap.size)] : List Nd).length = 1 from rfl] at F
      obtain ⟨n, hnE⟩ : ∃ n, n = elN 0 name L wr.heap.size := ⟨_, rfl⟩
      rw [← hnE] at F A hr3
      have HN := Go.Lib.hid hnE
      clear hnE
      clear hf2 hf3 hr3 hAr
      go_wp2_with fail
      refine F.mono ?_
      rintro e w4 ⟨rfl, hr4, hf4⟩
      have hf' := hf.trans hf4
      clear hf hf4 F
      obtain ⟨g, cap, hO4⟩ := hr4.open_
      have hlen : (l ++ [blankN n] ++ [blankN (kindN 5 ⟨#[]⟩)]).length = l.length + 2 := by simp
      have hc := hO4.cell
      rw [hlen] at hc
      have c1 := hO4.at l.length 11 (by omega) (by omega)
      have c2 := hO4.at (l.length + 1) 12 (by omega) (by omega)
      have f1 := hO4.free (l.length * 13 + 11)
      have f2 := hO4.free ((l.length + 1) * 13 + 12)
      rw [show ((l ++ [blankN n] ++ [blankN (kindN 5 ⟨#[]⟩)])[l.length]'(by omega)).cells[11]? = some (.int .i64 (-1)) by simp; rfl] at c1
      rw [show ((l ++ [blankN n] ++ [blankN (kindN 5 ⟨#[]⟩)])[l.length + 1]'(by omega)).cells[12]? = some (.int .i64 (-1)) by simp; rfl] at c2
      have i0 : (0 : Int) ≤ l.length := by omega
      have i1 : (l.length : Int) < (l.length + 2 : Nat) := by omega
      have i2 : (0 : Int) ≤ (l.length + 1 : Nat) := by omega
      have i3 : ((l.length + 1 : Nat) : Int) < (l.length + 2 : Nat) := by omega
      have HLEN := Go.Lib.hid hlen
      clear hlen
      go_wp2
      go_region
      have hlen := HLEN.out
      have e1 : (l ++ [blankN n] ++ [blankN (kindN 5 ⟨#[]⟩)])[l.length]'(by omega) = blankN n := by simp
      obtain ⟨hO5, hf5⟩ := hO4.set l.length 11 (.int .i64 ((l.length : Int) + 1)) { blankN n with inn := l.length + 1 } (by omega) (by omega) (by rw [e1]; rfl) (by rw [e1]; exact ⟨rfl, rfl, rfl⟩)
      have e2 : ((l ++ [blankN n] ++ [blankN (kindN 5 ⟨#[]⟩)]).set l.length { blankN n with inn := l.length + 1 })[l.length + 1]'(by rw [List.length_set]; omega) = blankN (kindN 5 ⟨#[]⟩) := by simp
      obtain ⟨hO6, hf6⟩ := hO5.set (l.length + 1) 12 (.int .i64 (l.length : Int)) { blankN (kindN 5 ⟨#[]⟩) with host := l.length } (by rw [List.length_set]; omega) (by omega) (by rw [e2]; rfl) (by rw [e2]; exact ⟨rfl, rfl, rfl⟩)
      have hO7 := hO6.drewN 1
      have hf7 := (hf'.trans (hf5.trans hf6)).drewN 1
      rw [show ((l ++ [blankN n] ++ [blankN (kindN 5 ⟨#[]⟩)]).set l.length { blankN n with inn := l.length + 1 }).set (l.length + 1) { blankN (kindN 5 ⟨#[]⟩) with host := l.length } = elemL true n l by simp [elemL]] at hO7
      have HR := Go.Lib.hid hO7.shut
      have HF := Go.Lib.hid hf7
      clear hO4 hO5 hO6 hO7 hf5 hf6 hf7 hf' hc c1 c2 f1 f2 e1 e2 hlen hr4
      go_wp2
      go_ret2
      exact ⟨wr.heap.size, rfl, by rw [← HN.out]; exact HR.out, HF.out⟩
theorem element12_long (B p : Nat) (l : List Nd) (name : ByteArray) (oa : Option Addr) (n c : Nat) (w : World) (h : Ar w B p l) (hL : 1024 < n) (hm : n ≤ 140737488355328) :
    Calls Tryz.prog 12 #[.pointer (some ⟨p, 0, none⟩), .int .i64 0, .string name, .slice oa n c] w
    fun e w' => e = .returned (.tuple #[.int .i64 0, .int .i64 2]) ∧ w = w' := by
  have h0 : decide ((n : Int) > 1024) = true := decide_eq_true (by omega)
  go_enter Tryz.func12, Tryz.ntmps12
  go_wp2_with (go_at_call 35; refine (none35 B p l _ h).mono ?_; rintro e w1 ⟨rfl, rfl⟩)
  go_ret2
  exact ⟨rfl, rfl⟩
end Go.Proofs.YthfdiinfeljeeaaGreatDoor
/- The reference's arena: a new element. -/
namespace Go.Proofs.YthfdiinfeljeeaaGreatDoor
open Go.RowKit
section
set_option maxRecDepth 100000
variable {ops : Array Oper} {rest : List Oper} {o : Oper} {a : Act} {Q : Exit → Act → World → Prop}
/-- 'append([]T{}, l...)' of attributes. -/
theorem step_app_attrs {w0 W : World} (hgd : o.guard = none) (base : Nat) (s x : Operand) (ho : o.op = .call { callee := .builtin .append, args := #[s, x], argTypes := #[22, 22] })
    (v : Value) (L : List A4) (oa : Option Addr) (c : Nat) (hs : a.eval s = v) (hx : a.eval x = .slice oa L.length c) (hR : RdN W oa L) (hc : oa = none → L = [] ∧ c = 0)
    (HO : W.ownsRow base 80 4 v 0 []) (HB : Below base w0 W) (hbase : base ≤ W.heap.size) (hl : L.length ≤ 1024)
    (h : ∀ v1 w1, w1.ownsRow base 80 4 v1 L.length (cellsA L) → Below base w0 w1 → wpList Tryz.prog ops Q rest (a.put o.dst v1) w1) :
    wpList Tryz.prog ops Q (o :: rest) a W := by
  obtain ⟨i0, hi, hz0, hz1, hz2⟩ := info_parts Tryz.info80
  cases oa with
  | none =>
    obtain ⟨rfl, rfl⟩ := hc rfl
    exact wpList_append_own_none hgd s x 22 ho base 80 i0 4 Tryz.underlying22 hi v 0 [] hs HO hx (h v W HO HB)
  | some ad =>
    refine wpList_append_own W hgd s x 22 ho base 80 i0 _ 4 56 Tryz.underlying22 hi hz0 hz1 hz2 rfl (by decide) v 0 [] hs HO ad L.length c (cellsA L) hx (cellsA_length L) (fun j u hu => ?_) (oneAs L) (by simp only [maxLen]; omega) (by omega) hbase ?_
    · obtain ⟨ad', e, hcc⟩ := hR j u hu
      injection e with e
      subst e
      exact hcc
    · intro v1 w1 hown hg _
      exact h v1 w1 (by simpa using hown) (HB.grown hg hbase (own_base HO))
end
theorem own_attrs {w : World} {B : Nat} {v : Value} {L : List A4} (h : w.ownsRow B 80 4 v L.length (cellsA L)) : ∃ aa ac, v = .slice aa L.length ac ∧ ((aa = none ∧ L = [] ∧ ac = 0) ∨ ∃ b cs, aa = some ⟨b, 0, none⟩ ∧ w.heap[b]? = some (.cells cs 80 (0, 0)) ∧ cellsA L <+: cs.toList) := by
  rcases h.2 with ⟨hv, h0⟩ | ⟨g, cap, cur, rfl, hb, hg, _, _, _, ht⟩
  · exact ⟨none, 0, by rw [hv, h0], .inl ⟨rfl, List.length_eq_zero_iff.1 h0, rfl⟩⟩
  · exact ⟨_, cap, rfl, .inr ⟨g, cur, rfl, hg, by rw [← ht]; exact List.take_prefix _ _⟩⟩
theorem rdS_three (w : World) (s1 s2 s3 : ByteArray) : RdS (w.alloc (.cells #[.string s1, .string s2, .string s3] 9)) (some ⟨w.heap.size, 0, none⟩) [s1, s2, s3] := fun j hj => by
  refine ⟨_, 0, rfl, ?_⟩
  have h := blk_cells (at_new w (.cells #[.string s1, .string s2, .string s3] 9) _ rfl)
  rcases (show j = 0 ∨ j = 1 ∨ j = 2 by simp at hj; omega) with rfl | rfl | rfl
  · exact h 0
  · exact h 1
  · exact h 2
/-- An element that is made. -/
def elO (sp : Int) (name : ByteArray) (L : List A4) (aa : Option Addr) (ac : Nat) : On := ⟨1, sp, name, L, aa, ac, ⟨#[]⟩, ⟨#[]⟩, 0, 0, 0, [], none, 0⟩
/-- The arena behind a new element. -/
def elemO (t : Bool) (n : On) (l : List On) : List On := if t = true then l ++ [{ rootO n with inn := l.length + 1 }] ++ [{ rootO (kindO 5 ⟨#[]⟩) with host := l.length }] else l ++ [rootO n]
theorem txt_mem {L : List A4} {k : Nat} (h : k < L.length) : L[k].pre ∈ txtA L ∧ L[k].nm ∈ txtA L ∧ L[k].va ∈ txtA L := by
  unfold txtA
  refine ⟨?_, ?_, ?_⟩ <;> exact List.mem_flatMap.2 ⟨L[k], List.getElem_mem h, by simp⟩
end Go.Proofs.YthfdiinfeljeeaaGreatDoor
/- The reference's arena: a new element. -/
namespace Go.Proofs.YthfdiinfeljeeaaGreatDoor
open Go.RowKit
set_option maxHeartbeats 1000000 in
set_option maxRecDepth 100000 in
theorem element13 (B p g cap : Nat) (l : List On) (name : ByteArray) (oa : Option Addr) (c : Nat) (L : List A4) (w : World) (h : Or w B p g cap l) (hB : B ≤ w.heap.size) (hl : l.length + 1 < 32767) (hL : L.length ≤ 1024) (hR : RdA w oa L) (hc0 : oa = none → L = [] ∧ c = 0) (hn : name.size ≤ 1048576)
    (hsz : ∀ s ∈ txtA L, s.size ≤ 1048576) (ht : (name.data.toList == tmplW) = false) :
    Calls Tryz.prog 13 #[.pointer (some ⟨p, 0, none⟩), .int .i64 0, .string name, .slice oa L.length c] w
    fun e w' => ∃ aa ac, e = .returned (.tuple #[.int .i64 l.length, .int .i64 0]) ∧ Ora w' B p (elemO false (elO 0 name L aa ac) l) ∧ Fr B [59, 62] w w' := by
  have HT : (name.toList == [116, 101, 109, 112, 108, 97, 116, 101]) = false := by rw [tl]; exact ht
  clear ht
  go_enter Tryz.func13, Tryz.ntmps13
  go_wp2_with fail
  go_loopw [10] (fun v10 wr => ∃ k : Nat, k ≤ L.length ∧ v10 = .int .i64 k ∧ Below w.heap.size w wr) (fun v10 _ => L.length - (intOf v10).toNat)
  case atStart => exact ⟨0, Nat.zero_le _, rfl, Below.refl _ _⟩
  case round =>
    obtain ⟨k, hk, rfl, hB1⟩ := hrel
    have hbs := hB1.size
    by_cases hlt : k < L.length
    · obtain ⟨b, off, rfl, hc⟩ := (hR.below hB1) (by rintro rfl; simp at hlt)
      obtain ⟨c0, c1, c2, c3⟩ := hc k hlt
      obtain ⟨z1, z2, z3⟩ := txt_mem hlt
      have z1 := hsz _ z1
      have z2 := hsz _ z2
      have z3 := hsz _ z3
      obtain ⟨x, hx⟩ : ∃ x, x = L[k] := ⟨_, rfl⟩
      rw [← hx] at c0 c1 c2 c3 z1 z2 z3
      have HS := long39 _ 3 [x.pre, x.nm, x.va] ((wr.alloc (.cells #[.string x.pre, .string x.nm, .string x.va] 9)).drew) ((rdS_three wr x.pre x.nm x.va).below ⟨rfl, rfl, rfl, Nat.le_refl _, fun _ _ => rfl⟩) (by simp; exact ⟨z1, z2, z3⟩) (by simp)
      have hBd : Below w.heap.size w ((wr.alloc (.cells #[.string x.pre, .string x.nm, .string x.va] 9)).drew) := (bal hB1 _).trans ⟨rfl, rfl, rfl, Nat.le_refl _, fun _ _ => rfl⟩
      clear hx hc
      go_wp2_with fail
      go_region_law
        (go_simp; go_at_call 39; refine HS.mono ?_; rintro e w1 ⟨rfl, rfl⟩)
      all_goals
        go_wp2
        go_roundw
        case rel => exact ⟨k + 1, by omega, by go_num, hBd⟩
        case measure => simp [intOf]; omega
    · obtain rfl : k = L.length := by omega
      have HRN := ((hR.below hB1).news).below (bal (Below.refl _ _) (.cells #[] 80))
      have hlen := (h.below hB1).cell
      have HO := World.ownsRow_lit (base := w.heap.size) (e := 80) (size := 4) wr #[] 0 hbs (by decide) rfl
      have HBA := bal hB1 (.cells #[] 80)
      have hbs2 : w.heap.size ≤ (wr.alloc (.cells #[] 80)).heap.size := by simp; omega
      have HX := Go.Lib.hid (show ∀ v1 w1, w1.ownsRow w.heap.size 80 4 v1 L.length (cellsA L) → Below w.heap.size w w1 → ∃ aa ac, v1 = .slice aa L.length ac ∧ Calls Tryz.prog 40 #[.pointer (some ⟨p, 0, none⟩), .agg (elO 0 name L aa ac).arr] w1
          fun e w' => e = .returned (.tuple #[.int .i64 l.length, .int .i64 0]) ∧ Ora w' B p (l ++ [rootO (elO 0 name L aa ac)]) ∧ Fr B [59, 62] w w' by
        intro v1 w1 ho hb
        obtain ⟨aa, ac, rfl, hat⟩ := own_attrs ho
        refine ⟨aa, ac, rfl, (add40 B p g cap l (elO 0 name L aa ac) w1 (h.below hb) (Nat.le_trans hB hb.size) (by omega) ⟨hat, .inl ⟨rfl, rfl, rfl⟩⟩).mono ?_⟩
        rintro e w2 ⟨rfl, h1, h2⟩
        exact ⟨rfl, h1, (Fr.of_below hB hb).trans h2⟩)
      clear hR hk hlt hsz h hB1 hbs
      go_wp2_with (at_builtin; refine step_app_attrs (w0 := w) rfl w.heap.size (.tmp 73) (.tmp 74) rfl _ L oa c rfl rfl HRN hc0 HO HBA hbs2 hL ?_; intro v1 w1 hown1 hbw1; obtain ⟨aa, ac, rfl, HC⟩ := HX.out v1 w1 hown1 hbw1; clear HX hown1 hbw1 HO HBA hbs2 HRN hlen)
      dsimp only [elO, On.arr] at HC
      refine HC.mono ?_
      rintro e w2 ⟨rfl, hr2, hf2⟩
      go_wp2
      go_ret2
      exact ⟨aa, ac, rfl, hr2, hf2⟩
end Go.Proofs.YthfdiinfeljeeaaGreatDoor
/- The reference's arena: a new template; too many attributes. -/
namespace Go.Proofs.YthfdiinfeljeeaaGreatDoor
open Go.RowKit
set_option maxHeartbeats 1000000 in
set_option maxRecDepth 100000 in
theorem element13t (B p g cap : Nat) (l : List On) (name : ByteArray) (oa : Option Addr) (c : Nat) (L : List A4) (w : World) (h : Or w B p g cap l) (hB : B ≤ w.heap.size) (hl : l.length + 1 < 32767) (hL : L.length ≤ 1024) (hR : RdA w oa L) (hc0 : oa = none → L = [] ∧ c = 0) (hn : name.size ≤ 1048576)
    (hsz : ∀ s ∈ txtA L, s.size ≤ 1048576) (ht : (name.data.toList == tmplW) = true) :
    Calls Tryz.prog 13 #[.pointer (some ⟨p, 0, none⟩), .int .i64 0, .string name, .slice oa L.length c] w
    fun e w' => ∃ aa ac, e = .returned (.tuple #[.int .i64 l.length, .int .i64 0]) ∧ Ora w' B p (elemO true (elO 0 name L aa ac) l) ∧ Fr B [59, 62] w w' := by
  have HT : (name.toList == [116, 101, 109, 112, 108, 97, 116, 101]) = true := by rw [tl]; exact ht
  clear ht
  go_enter Tryz.func13, Tryz.ntmps13
  go_wp2_with fail
  go_loopw [10] (fun v10 wr => ∃ k : Nat, k ≤ L.length ∧ v10 = .int .i64 k ∧ Below w.heap.size w wr) (fun v10 _ => L.length - (intOf v10).toNat)
  case atStart => exact ⟨0, Nat.zero_le _, rfl, Below.refl _ _⟩
  case round =>
    obtain ⟨k, hk, rfl, hB1⟩ := hrel
    have hbs := hB1.size
    by_cases hlt : k < L.length
    · obtain ⟨b, off, rfl, hc⟩ := (hR.below hB1) (by rintro rfl; simp at hlt)
      obtain ⟨c0, c1, c2, c3⟩ := hc k hlt
      obtain ⟨z1, z2, z3⟩ := txt_mem hlt
      have z1 := hsz _ z1
      have z2 := hsz _ z2
      have z3 := hsz _ z3
      obtain ⟨x, hx⟩ : ∃ x, x = L[k] := ⟨_, rfl⟩
      rw [← hx] at c0 c1 c2 c3 z1 z2 z3
      have HS := long39 _ 3 [x.pre, x.nm, x.va] ((wr.alloc (.cells #[.string x.pre, .string x.nm, .string x.va] 9)).drew) ((rdS_three wr x.pre x.nm x.va).below ⟨rfl, rfl, rfl, Nat.le_refl _, fun _ _ => rfl⟩) (by simp; exact ⟨z1, z2, z3⟩) (by simp)
      have hBd : Below w.heap.size w ((wr.alloc (.cells #[.string x.pre, .string x.nm, .string x.va] 9)).drew) := (bal hB1 _).trans ⟨rfl, rfl, rfl, Nat.le_refl _, fun _ _ => rfl⟩
      clear hx hc
      go_wp2_with fail
      go_region_law
        (go_simp; go_at_call 39; refine HS.mono ?_; rintro e w1 ⟨rfl, rfl⟩)
      all_goals
        go_wp2
        go_roundw
        case rel => exact ⟨k + 1, by omega, by go_num, hBd⟩
        case measure => simp [intOf]; omega
    · obtain rfl : k = L.length := by omega
      have HRN := ((hR.below hB1).news).below (bal (Below.refl _ _) (.cells #[] 80))
      have hlen := (h.below hB1).cell
      have HO := World.ownsRow_lit (base := w.heap.size) (e := 80) (size := 4) wr #[] 0 hbs (by decide) rfl
      have HBA := bal hB1 (.cells #[] 80)
      have hbs2 : w.heap.size ≤ (wr.alloc (.cells #[] 80)).heap.size := by simp; omega
      have HX := Go.Lib.hid (show ∀ v1 w1, w1.ownsRow w.heap.size 80 4 v1 L.length (cellsA L) → Below w.heap.size w w1 → ∃ aa ac, v1 = .slice aa L.length ac ∧ Calls Tryz.prog 40 #[.pointer (some ⟨p, 0, none⟩), .agg (elO 0 name L aa ac).arr] w1
          fun e w' => e = .returned (.tuple #[.int .i64 l.length, .int .i64 0]) ∧ Ora w' B p (l ++ [rootO (elO 0 name L aa ac)]) ∧ Fr B [59, 62] w w' by
        intro v1 w1 ho hb
        obtain ⟨aa, ac, rfl, hat⟩ := own_attrs ho
        refine ⟨aa, ac, rfl, (add40 B p g cap l (elO 0 name L aa ac) w1 (h.below hb) (Nat.le_trans hB hb.size) (by omega) ⟨hat, .inl ⟨rfl, rfl, rfl⟩⟩).mono ?_⟩
        rintro e w2 ⟨rfl, h1, h2⟩
        exact ⟨rfl, h1, (Fr.of_below hB hb).trans h2⟩)
      have hfull : decide ((l.length : Int) + 2 > 32768) = false := decide_eq_false (by omega)
      clear hR hk hlt hsz h hB1 hbs
      go_wp2_with (at_builtin; refine step_app_attrs (w0 := w) rfl w.heap.size (.tmp 73) (.tmp 74) rfl _ L oa c rfl rfl HRN hc0 HO HBA hbs2 hL ?_; intro v1 w1 hown1 hbw1; obtain ⟨aa, ac, rfl, HC⟩ := HX.out v1 w1 hown1 hbw1; clear HX hown1 hbw1 HO HBA hbs2 HRN hlen)
      obtain ⟨n, hn⟩ : ∃ n, n = elO 0 name L aa ac := ⟨_, rfl⟩
      have HN := Go.Lib.hid hn
      rw [← hn] at HC
      have HC := hn ▸ HC
      clear hn
      dsimp only [elO, On.arr] at HC
      refine HC.mono ?_
      rintro e w2 ⟨rfl, hr2, hf2⟩
      rw [show (⟨1, 0, name, L, aa, ac, ⟨#[]⟩, ⟨#[]⟩, 0, 0, 0, [], none, 0⟩ : On) = n from HN.out.symm] at hr2
      obtain ⟨g1, cap1, hO1⟩ := hr2
      have F := fragment41 B p g1 cap1 _ w2 hO1 (Nat.le_trans hB hf2.size) (by simp; omega)
      rw [List.length_append, show ([rootO n] : List On).length = 1 from rfl] at F
      clear hO1 HC
      go_wp2_with fail
      refine F.mono ?_
      rintro e w3 ⟨rfl, ⟨g2, cap2, hO2⟩, hf3⟩
      have hf := hf2.trans hf3
      clear hf2 hf3 F
      have hlen2 : (l ++ [rootO n] ++ [rootO (kindO 5 ⟨#[]⟩)]).length = l.length + 2 := by simp
      have hc := hO2.cell
      rw [hlen2] at hc
      have e1 : (l ++ [rootO n] ++ [rootO (kindO 5 ⟨#[]⟩)])[l.length]'(by omega) = rootO n := by simp
      have c1 := hO2.at l.length 6 (by omega) (by omega)
      rw [e1, show (rootO n).cells[6]? = some (.int .i64 (-1)) from rfl] at c1
      have f1 := hO2.free (l.length * 10 + 6)
      obtain ⟨hO3, hf3⟩ := hO2.set l.length 6 (.int .i64 ((l.length : Int) + 1)) { rootO n with inn := l.length + 1 } (by omega) (by omega) (by rw [e1]; rfl) (by have := hO2.at_ _ (List.getElem_mem (show l.length < _ by omega)); rw [e1] at this; exact this)
      have hl3 : ((l ++ [rootO n] ++ [rootO (kindO 5 ⟨#[]⟩)]).set l.length { rootO n with inn := l.length + 1 }).length = l.length + 2 := by simp
      have e2 : ((l ++ [rootO n] ++ [rootO (kindO 5 ⟨#[]⟩)]).set l.length { rootO n with inn := l.length + 1 })[l.length + 1]'(by omega) = rootO (kindO 5 ⟨#[]⟩) := by simp
      have hc3 := hO3.cell
      rw [hl3] at hc3
      have c2 := hO3.at (l.length + 1) 7 (by omega) (by omega)
      rw [e2, show (rootO (kindO 5 ⟨#[]⟩)).cells[7]? = some (.int .i64 (-1)) from rfl] at c2
      have f2 := hO3.free ((l.length + 1) * 10 + 7)
      obtain ⟨hO4, hf4⟩ := hO3.set (l.length + 1) 7 (.int .i64 (l.length : Int)) { rootO (kindO 5 ⟨#[]⟩) with host := l.length } (by omega) (by omega) (by rw [e2]; rfl) (by have := hO3.at_ _ (List.getElem_mem (show l.length + 1 < _ by omega)); rw [e2] at this; exact this)
      rw [show ((l ++ [rootO n] ++ [rootO (kindO 5 ⟨#[]⟩)]).set l.length { rootO n with inn := l.length + 1 }).set (l.length + 1) { rootO (kindO 5 ⟨#[]⟩) with host := l.length } = elemO true n l by simp [elemO]] at hO4
      have i0 : (0 : Int) ≤ l.length := by omega
      have i1 : (l.length : Int) < (l.length + 2 : Nat) := by omega
      have i2 : (0 : Int) ≤ (l.length + 1 : Nat) := by omega
      have i3 : ((l.length + 1 : Nat) : Int) < (l.length + 2 : Nat) := by omega
      have HR := Go.Lib.hid (show Ora _ B p _ from ⟨_, _, hO4⟩)
      have HF := Go.Lib.hid (hf.trans ((hf3.trans hf4).mono (by simp)))
      clear hO2 hO3 hO4 hf3 hf4 hf e1 e2 hlen2 hl3
      go_wp2
      go_ret2
      exact ⟨aa, ac, rfl, by rw [← HN.out]; exact HR.out, HF.out⟩
theorem element13_long (B p g cap : Nat) (l : List On) (name : ByteArray) (oa : Option Addr) (n c : Nat) (w : World) (_h : Or w B p g cap l) (hL : 1024 < n) (_hm : n ≤ 140737488355328) :
    Calls Tryz.prog 13 #[.pointer (some ⟨p, 0, none⟩), .int .i64 0, .string name, .slice oa n c] w
    fun e w' => e = .returned (.tuple #[.int .i64 0, .int .i64 2]) ∧ w = w' := by
  have h0 : decide ((n : Int) > 1024) = true := decide_eq_true (by omega)
  go_enter Tryz.func13, Tryz.ntmps13
  go_wp2
  go_ret2
  exact ⟨rfl, rfl⟩
end Go.Proofs.YthfdiinfeljeeaaGreatDoor
/- Plain: what is made is alike in both arenas; ranks of what is made. -/
namespace Go.Proofs.YthfdiinfeljeeaaGreatDoor
set_option linter.unusedSimpArgs false
theorem sim_kind (k : Int) (s : ByteArray) : Sim (blankN (kindN k s)) (rootO (kindO k s)) := ⟨rfl, rfl, rfl, rfl, rfl, rfl, rfl, rfl, rfl⟩
theorem sim_el (sp : Int) (name : ByteArray) (L : List A4) (b : Nat) (aa : Option Addr) (ac : Nat) : Sim (blankN (elN sp name L b)) (rootO (elO sp name L aa ac)) := ⟨rfl, rfl, rfl, rfl, rfl, rfl, rfl, rfl, rfl⟩
/-- Both arenas at their start. -/
theorem Alike.start : Alike [blankN (kindN 0 ⟨#[]⟩)] [rootO (kindO 0 ⟨#[]⟩)] (fun _ => []) := by
  refine ⟨rfl, ⟨fun _ _ => by simp, fun _ _ _ h => by simp at h, fun i hi => ?_, fun i hi => ?_, fun _ _ _ h => by simp at h, fun _ _ _ h => by simp at h⟩, fun i hi => ?_, fun i hi => ?_, fun _ _ => rfl⟩
  all_goals
    obtain rfl : i = 0 := by simpa using hi
  · rfl
  · rfl
  · exact sim_kind 0 _
  · rfl
theorem Alike.elem {l : List Nd} {m : List On} {ks : Nat → List Nat} (h : Alike l m ks) (t : Bool) (name : ByteArray) (L : List A4) (b : Nat) (aa : Option Addr) (ac : Nat) : Alike (elemL t (elN 0 name L b) l) (elemO t (elO 0 name L aa ac) m) ks := by
  unfold elemL elemO
  rw [h.len]
  cases t with
  | false =>
    simp only [Bool.false_eq_true, if_false]
    exact h.push _ _ (sim_el 0 name L b aa ac) rfl rfl rfl
  | true =>
    simp only [if_true]
    exact (h.push _ _ ⟨rfl, rfl, rfl, rfl, rfl, rfl, rfl, rfl, rfl⟩ rfl rfl rfl).push _ _ ⟨rfl, rfl, rfl, rfl, rfl, rfl, rfl, rfl, rfl⟩ rfl rfl rfl
theorem upI_push (l : List Nd) (n : Nd) (j : Nat) : upI (l ++ [n]) j = if j < l.length then upI l j else if j = l.length then (if n.up = -1 then n.host else n.up) else -1 := by
  unfold upI
  by_cases h : j < l.length
  · rw [if_pos h, List.getElem?_append_left h]
  · rw [if_neg h, List.getElem?_append_right (by omega)]
    by_cases h2 : j = l.length
    · subst h2; simp
    · rw [if_neg h2, List.getElem?_eq_none (by simp; omega)]
/-- A node's way up. -/
def upv (n : Nd) : Int := if n.up = -1 then n.host else n.up
def rkPush (l : List Nd) (rk : Nat → Nat) (n : Nd) (j : Nat) : Nat := if j = l.length then rk (upv n).toNat + 1 else rk j
/-- A node more: its way up leads nowhere, or to a node that was there. -/
theorem Ranked.push {l : List Nd} {rk : Nat → Nat} (hU : Ranked l rk) (n : Nd) (hn : upv n = -1 ∨ ∃ j : Nat, upv n = j ∧ j < l.length) : Ranked (l ++ [n]) (rkPush l rk n) := by
  intro j hj
  rw [upI_push]
  rcases (show j < l.length ∨ j = l.length by simp at hj; omega) with hj | rfl
  · rw [if_pos hj]
    rcases hU j hj with h1 | ⟨k, h1, h2, h3⟩
    · exact .inl h1
    · refine .inr ⟨k, h1, by simp; omega, ?_⟩
      unfold rkPush
      rw [if_neg (by omega), if_neg (by omega)]
      exact h3
  · rw [if_neg (by omega), if_pos rfl]
    rcases hn with h1 | ⟨k, h1, h2⟩
    · exact .inl h1
    · refine .inr ⟨k, h1, by simp; omega, ?_⟩
      unfold rkPush
      rw [if_neg (by omega), if_pos rfl, h1]
      exact Nat.lt_succ_self _
theorem Ranked.elem {l : List Nd} {rk : Nat → Nat} (hU : Ranked l rk) (t : Bool) (n : Nd) : ∃ rk', Ranked (elemL t (blankN n) l) rk' := by
  unfold elemL
  cases t with
  | false =>
    simp only [Bool.false_eq_true, if_false]
    exact ⟨_, hU.push _ (.inl rfl)⟩
  | true =>
    simp only [if_true]
    exact ⟨_, (hU.push _ (.inl rfl)).push _ (.inr ⟨l.length, rfl, by simp⟩)⟩
theorem Ranked.kind {l : List Nd} {rk : Nat → Nat} (hU : Ranked l rk) (k : Int) (s : ByteArray) : ∃ rk', Ranked (l ++ [blankN (kindN k s)]) rk' := ⟨_, hU.push _ (.inl rfl)⟩
theorem Ranked.start : Ranked [blankN (kindN 0 ⟨#[]⟩)] (fun _ => 0) := fun i hi => by
  obtain rfl : i = 0 := by simpa using hi
  exact .inl rfl
/-- A link that is made. -/
theorem linkR_ok (l : List Nd) (f : Nat) (u i : Int) (h : (linkR l f u i).1 = 0) : ∃ u' i' : Nat, u = u' ∧ i = i' ∧ u' < l.length ∧ i' < l.length ∧ parB (gN l u').kind = true ∧ (gN l i').kind ≠ 0 ∧ (gN l i').kind ≠ 5 ∧ (gN l i').up = -1 ∧ aboveL l f u i = false ∧ (linkR l f u i).2 = linkL l u' i' := by
  unfold linkR at h ⊢
  by_cases h1 : ¬ (0 ≤ u ∧ u < l.length) ∨ ¬ (0 ≤ i ∧ i < l.length)
  · rw [if_pos h1] at h; cases h
  · rw [if_neg h1] at h ⊢
    obtain ⟨u', rfl⟩ : ∃ u' : Nat, u = u' := ⟨u.toNat, by omega⟩
    obtain ⟨i', rfl⟩ : ∃ i' : Nat, i = i' := ⟨i.toNat, by omega⟩
    simp only [Int.toNat_natCast] at h ⊢
    by_cases h2 : parB (l.getD u' nd0).kind = false ∨ (l.getD i' nd0).kind = 0 ∨ (l.getD i' nd0).kind = 5
    · rw [if_pos h2] at h; cases h
    · rw [if_neg h2] at h ⊢
      by_cases h3 : (l.getD i' nd0).up ≠ -1 ∨ aboveL l f u' i' = true
      · rw [if_pos h3] at h; cases h
      · rw [if_neg h3]
        refine ⟨u', i', rfl, rfl, by omega, by omega, ?_, fun e => h2 (.inr (.inl e)), fun e => h2 (.inr (.inr e)), ?_, ?_, rfl⟩
        · cases hp : parB (l.getD u' nd0).kind with
          | true => rfl
          | false => exact absurd (.inl hp) h2
        · exact Classical.byContradiction fun e => h3 (.inl e)
        · cases hp : aboveL l f u' i' with
          | false => rfl
          | true => exact absurd (.inr hp) h3
end Go.Proofs.YthfdiinfeljeeaaGreatDoor
/- Both arenas: a link in the one and in the other. -/
namespace Go.Proofs.YthfdiinfeljeeaaGreatDoor
open Go.RowKit
set_option linter.unusedSimpArgs false
theorem nodup_bound : ∀ (n : Nat) (xs : List Nat), xs.Nodup → (∀ x ∈ xs, x < n) → xs.length ≤ n
  | 0, xs, _, h => by
    cases xs with
    | nil => exact Nat.le_refl _
    | cons x r => exact absurd (h x (by simp)) (by omega)
  | n + 1, xs, hn, h => by
    by_cases hm : n ∈ xs
    · have h1 := nodup_bound n (xs.erase n) (hn.erase n) fun x hx => by
        have h2 := (hn.mem_erase_iff).1 hx
        have := h x h2.2
        have := h2.1
        omega
      rw [List.length_erase_of_mem hm] at h1
      omega
    · have h1 := nodup_bound n xs hn fun x hx => by
        have := h x hx
        have : x ≠ n := fun e => hm (e ▸ hx)
        omega
      omega
theorem linkR_err (l : List Nd) (f : Nat) (u i : Int) (h : (linkR l f u i).1 ≠ 0) : (linkR l f u i).2 = l := by
  unfold linkR at h ⊢
  by_cases h1 : ¬ (0 ≤ u ∧ u < l.length) ∨ ¬ (0 ≤ i ∧ i < l.length)
  · rw [if_pos h1]
  · rw [if_neg h1] at h ⊢
    by_cases h2 : parB (l.getD u.toNat nd0).kind = false ∨ (l.getD i.toNat nd0).kind = 0 ∨ (l.getD i.toNat nd0).kind = 5
    · rw [if_pos h2]
    · rw [if_neg h2] at h ⊢
      by_cases h3 : (l.getD i.toNat nd0).up ≠ -1 ∨ aboveL l f u i = true
      · rw [if_pos h3]
      · rw [if_neg h3] at h
        exact absurd rfl h
/-- Both arenas, alike. -/
structure Two (l : List Nd) (m : List On) : Prop where
  al : ∃ ks, Alike l m ks
  rk : ∃ rk, Ranked l rk
/-- A fuel that serves every node. -/
theorem fuel (l : List Nd) (rk : Nat → Nat) : ∃ f, ∀ i, i < l.length → rk i + 1 < f := by
  have : ∀ n, ∃ f, ∀ i, i < n → rk i + 1 < f := fun n => by
    induction n with
    | zero => exact ⟨0, fun i hi => by omega⟩
    | succ n ih =>
      obtain ⟨f, hf⟩ := ih
      refine ⟨f + rk n + 2, fun i hi => ?_⟩
      by_cases h : i < n
      · have := hf i h; omega
      · obtain rfl : i = n := by omega
        omega
  exact this l.length
theorem Two.link14 {B p q : Nat} {l : List Nd} {m : List On} {w : World} (h : Two l m) (ha : Ar w B p l) (ho : Ora w B q m) (hB : B ≤ w.heap.size) (u i : Int) :
    ∃ f rk, Ranked l rk ∧ (∀ j, j < l.length → rk j + 1 < f) ∧ Calls Tryz.prog 14 #[.pointer (some ⟨p, 0, none⟩), .int .i64 u, .int .i64 i, .int .i64 (-1)] w fun e w' => e = .returned (.int .i64 (linkR l f u i).1) ∧ Ar w' B p (linkR l f u i).2 ∧ Ora w' B q m ∧ Fr B [74, 78] w w' := by
  obtain ⟨ks, hk⟩ := h.al
  obtain ⟨rk, hr⟩ := h.rk
  obtain ⟨f, hf⟩ := fuel l rk
  obtain ⟨g, cap, hO⟩ := ha.open_
  obtain ⟨g2, cap2, hO2⟩ := ho
  refine ⟨f, rk, hr, hf, (Proofs.YthfdiinfeljeeaaGreatDoor.link14 B p g cap l rk f u i w hO hB hr hf fun j hj => ?_).mono ?_⟩
  · have e : gN l j = l[j] := getD_of hj
    rw [← e]
    rcases hk.good.lst_or j hj with ⟨_, h1⟩ | ⟨hk2, h1⟩
    · exact .inl h1
    · have := (hk.good.mem j hj _ (List.getElem_mem hk2)).1
      exact .inr ⟨by omega, by omega⟩
  · rintro e w1 ⟨rfl, h1, h2⟩
    exact ⟨rfl, h1.shut, ⟨g2, cap2, hO2.fr h2 (by decide) (by decide) (by decide) (by decide)⟩, h2⟩
theorem Two.link15 {B q : Nat} {l : List Nd} {m : List On} {w : World} (h : Two l m) (ho : Ora w B q m) (hB : B ≤ w.heap.size) (hl : l.length ≤ 1000000) (u i : Int) (f : Nat) (rk : Nat → Nat) (hr : Ranked l rk) (hf : ∀ j, j < l.length → rk j + 1 < f) :
    Calls Tryz.prog 15 #[.pointer (some ⟨q, 0, none⟩), .int .i64 u, .int .i64 i, .int .i64 (-1)] w fun e w' => ∃ m', e = .returned (.int .i64 (linkR l f u i).1) ∧ Ora w' B q m' ∧ Two (linkR l f u i).2 m' ∧ Fr B [59, 62] w w' := by
  obtain ⟨ks, hk⟩ := h.al
  obtain ⟨g, cap, hO⟩ := ho
  have hE := hk.linkE f u i
  by_cases h0 : (linkR l f u i).1 = 0
  · obtain ⟨u', i', rfl, rfl, hu, hi, h1, h2, h3, h4, h5, h6⟩ := linkR_ok l f u i h0
    have hui : u' ≠ i' := by
      rintro rfl
      have := hf u' hu
      obtain ⟨f', rfl⟩ : ∃ k, f = k + 1 := ⟨f - 1, by omega⟩
      rw [aboveL, if_pos rfl] at h5
      cases h5
    have hum : u' < m.length := by rw [hk.len]; exact hu
    have him : i' < m.length := by rw [hk.len]; exact hi
    have su := hk.sim u' hu
    have si := hk.sim i' hi
    have eu : gO m u' = m[u'] := gO_of hum
    have ei : gO m i' = m[i'] := gO_of him
    have hkl : (m[u']).ks.length ≤ 1000000 := by
      rw [← eu, hk.kids u' hu]
      have := nodup_bound l.length (ks u') (hk.good.nod u' hu) fun c hc => (hk.good.mem u' hu c hc).1
      omega
    have C := Proofs.YthfdiinfeljeeaaGreatDoor.link15 B q g cap m rk f u' i' w hO hB (hk.ranked hr) hum him (hf u' hu) hui (by rw [← eu, su.kind]; exact h1) (by rw [← ei, si.kind]; exact h2) (by rw [← ei, si.kind]; exact h3) (by rw [← ei, si.up]; exact h4) (by rw [hk.above]; exact h5) hkl
    refine C.mono ?_
    rintro e w1 ⟨b, c, rfl, hO1, hf1⟩
    refine ⟨_, by rw [h0], ⟨g, cap, hO1⟩, ?_, hf1⟩
    rw [h6]
    have A := hk.link u' i' b c hui hu hi h4
    rw [eu, ei] at A
    exact ⟨⟨ksLink ks u' i', A⟩, ⟨_, hr.link hk.good u' i' f hui hu hi (hf u' hu) h4 h5⟩⟩
  · have C := link15_err B q g cap m rk f u i w hO (hk.ranked hr) (by rw [hk.len]; exact hf) (by rw [hE]; exact h0)
    refine C.mono ?_
    rintro e w1 ⟨rfl, rfl⟩
    exact ⟨m, by rw [hE], ⟨g, cap, hO⟩, by rw [linkR_err l f u i h0]; exact h, Fr.refl _ _ _⟩
end Go.Proofs.YthfdiinfeljeeaaGreatDoor
/- Both arenas: an element, a text, a comment. -/
namespace Go.Proofs.YthfdiinfeljeeaaGreatDoor
open Go.RowKit
def tmplB (name : ByteArray) : Bool := name.data.toList == tmplW
theorem el12 (B p : Nat) (l : List Nd) (name : ByteArray) (oa : Option Addr) (c : Nat) (L : List A4) (w : World) (h : Ar w B p l) (hB : B ≤ w.heap.size) (hl : l.length + 1 < 32767) (hL : L.length ≤ 1024) (hR : RdA w oa L) (hn : name.size ≤ 1048576) (hsz : ∀ s ∈ txtA L, s.size ≤ 1048576) :
    Calls Tryz.prog 12 #[.pointer (some ⟨p, 0, none⟩), .int .i64 0, .string name, .slice oa L.length c] w
    fun e w' => ∃ b, e = .returned (.tuple #[.int .i64 l.length, .int .i64 0]) ∧ Ar w' B p (elemL (tmplB name) (elN 0 name L b) l) ∧ Fr B [74, 78] w w' := by
  cases ht : tmplB name with
  | true => exact element12t B p l name oa c L w h hB hl hL hR hn hsz ht
  | false => exact element12 B p l name oa c L w h hB hl hL hR hn hsz ht
theorem el13 (B p : Nat) (l : List On) (name : ByteArray) (oa : Option Addr) (c : Nat) (L : List A4) (w : World) (h : Ora w B p l) (hB : B ≤ w.heap.size) (hl : l.length + 1 < 32767) (hL : L.length ≤ 1024) (hR : RdA w oa L) (hc0 : oa = none → L = [] ∧ c = 0) (hn : name.size ≤ 1048576) (hsz : ∀ s ∈ txtA L, s.size ≤ 1048576) :
    Calls Tryz.prog 13 #[.pointer (some ⟨p, 0, none⟩), .int .i64 0, .string name, .slice oa L.length c] w
    fun e w' => ∃ aa ac, e = .returned (.tuple #[.int .i64 l.length, .int .i64 0]) ∧ Ora w' B p (elemO (tmplB name) (elO 0 name L aa ac) l) ∧ Fr B [59, 62] w w' := by
  obtain ⟨g, cap, hO⟩ := h
  cases ht : tmplB name with
  | true => exact element13t B p g cap l name oa c L w hO hB hl hL hR hc0 hn hsz ht
  | false => exact element13 B p g cap l name oa c L w hO hB hl hL hR hc0 hn hsz ht
theorem Two.start : Two [blankN (kindN 0 ⟨#[]⟩)] [rootO (kindO 0 ⟨#[]⟩)] := ⟨⟨_, Alike.start⟩, ⟨_, Ranked.start⟩⟩
theorem Two.elem {l : List Nd} {m : List On} (h : Two l m) (t : Bool) (name : ByteArray) (L : List A4) (b : Nat) (aa : Option Addr) (ac : Nat) : Two (elemL t (elN 0 name L b) l) (elemO t (elO 0 name L aa ac) m) := by
  obtain ⟨ks, hk⟩ := h.al
  obtain ⟨rk, hr⟩ := h.rk
  exact ⟨⟨ks, hk.elem t name L b aa ac⟩, hr.elem t (elN 0 name L b)⟩
theorem Two.kind {l : List Nd} {m : List On} (h : Two l m) (k : Int) (s : ByteArray) : Two (l ++ [blankN (kindN k s)]) (m ++ [rootO (kindO k s)]) := by
  obtain ⟨ks, hk⟩ := h.al
  obtain ⟨rk, hr⟩ := h.rk
  exact ⟨⟨ks, hk.push _ _ (sim_kind k s) rfl rfl rfl⟩, hr.kind k s⟩
theorem Two.len {l : List Nd} {m : List On} (h : Two l m) : m.length = l.length := by
  obtain ⟨ks, hk⟩ := h.al
  exact hk.len
theorem Ar.keep {w w' : World} {B p : Nat} {l : List Nd} (h : Ar w B p l) (hf : Fr B [59, 62] w w') : Ar w' B p l := h.fr hf (by decide) (by decide) (by decide)
theorem Ora.keep {w w' : World} {B p : Nat} {l : List On} (h : Ora w B p l) (hf : Fr B [74, 78] w w') : Ora w' B p l := by
  obtain ⟨g, cap, hO⟩ := h
  exact ⟨g, cap, hO.fr hf (by decide) (by decide) (by decide) (by decide)⟩
end Go.Proofs.YthfdiinfeljeeaaGreatDoor
/- Plain: how long the lists are. -/
namespace Go.Proofs.YthfdiinfeljeeaaGreatDoor
theorem linkR_len (l : List Nd) (f : Nat) (u i : Int) : (linkR l f u i).2.length = l.length := by
  unfold linkR
  split
  · rfl
  · split
    · rfl
    · split
      · rfl
      · dsimp only
        rw [joinL_len, joinL_len, List.length_modify]
theorem elemL_len (t : Bool) (n : Nd) (l : List Nd) : (elemL t n l).length ≤ l.length + 2 := by
  unfold elemL
  cases t <;> simp
theorem elemO_len (t : Bool) (n : On) (l : List On) : (elemO t n l).length ≤ l.length + 2 := by
  unfold elemO
  cases t <;> simp
/-- Where a made node lies. -/
theorem elemL_at (t : Bool) (n : Nd) (l : List Nd) : gN (elemL t n l) l.length = { blankN n with inn := if t = true then (l.length : Int) + 1 else -1 } := by
  unfold elemL
  cases t with
  | false =>
    simp only [Bool.false_eq_true, if_false]
    rw [gN_push, if_neg (by omega), if_pos rfl]
    rfl
  | true =>
    simp only [if_true]
    rw [gN_push, if_pos (by simp), gN_push, if_neg (by omega), if_pos rfl]
end Go.Proofs.YthfdiinfeljeeaaGreatDoor
/- The one child of a node: what its iterator hands on. -/
namespace Go.Proofs.YthfdiinfeljeeaaGreatDoor
open Go.RowKit Go.Shelf
attribute [local go_sem] Oper.semAt_some
theorem below_grown {W W' : World} (h : Below W.heap.size W W') : W.grownBy W' none := ⟨h.os, h.tape, h.output, h.size, fun i hi _ => h.block i hi⟩
/-- How many children the iterator hands on. -/
def oneN (n : Nd) : Nat := if n.fst ≠ -1 ∧ n.fst = n.lst then 1 else 0
set_option maxRecDepth 100000 in
set_option maxHeartbeats 4000000 in
theorem only_stops (m : Nat) (hm : 1 ≤ m) (B p g cap : Nat) (l : List Nd) (nd : Nd) (bb b1 b2 c : Nat) (W0 : World) (hA : ArO W0 B p g cap l) (hk1 : W0.heap[b1]? = some (.cells (nd.look bb) 52 (0, 0))) (hk2 : W0.heap[b2]? = some (.cells #[.pointer (some ⟨p, 0, none⟩)] 24 (0, 0)))
    (hc : nd.fst ≠ -1 ∧ nd.fst = nd.lst → nd.fst = (c : Int) ∧ c < l.length) (hal : ∀ n ∈ l, n.al.length ≤ 1024) :
    SeqStopsK Fence.wide m Tryz.prog 52 #[.pointer (some ⟨b1, 0, none⟩), .pointer (some ⟨b2, 0, none⟩)] (fun b : Nat => #[.agg ((gN l c).look b)]) (fun _ _ => True) (fun ys => ys.length = oneN nd) (fun pre => pre.length = 1) (oneN nd) W0 := by
  intro ly J Jx W hW hJ hJx hY h0
  have hA := hA.below hW
  have hk1 := bblk hW hk1
  have hk2 := bblk hW hk2
  have q7 := blk_cells hk1 7
  have q8 := blk_cells hk1 8
  have qp := blk_cells hk2 0
  rw [show (nd.look bb)[7]? = some (.int .i64 nd.fst) from rfl] at q7
  rw [show (nd.look bb)[8]? = some (.int .i64 nd.lst) from rfl] at q8
  unfold oneN at *
  refine callsIn_of_wp Tryz.func52 rfl trivial ?_ rfl
  simp only [Tryz.ntmps52, List.size_toArray, List.length_cons, List.length_nil, Nat.reduceAdd, Nat.reduceSub, Array.replicate_succ, Array.replicate_zero, List.push_toArray, List.append_toArray, List.nil_append, List.cons_append]
  by_cases h1 : nd.fst ≠ -1 ∧ nd.fst = nd.lst
  · obtain ⟨e1, hcl⟩ := hc h1
    rw [if_pos h1] at *
    have e2 : nd.lst = (c : Int) := by rw [← h1.2, e1]
    rw [e1] at q7
    rw [e2] at q8
    have hne : ((c : Int) != -1) = true := bne_iff_ne.2 (by omega)
    have hN := node21 B p g cap l c W hA hcl (hal _ (List.getElem_mem hcl))
    rw [show gN l c = l[c] from getD_of hcl] at hY
    unfold NodePost Nd.look at hN
    unfold Nd.look at hY
    generalize l[c] = nc at *
    have hJe := fun W' (h : Below W.heap.size W W') => hJ [] W W' none h0 (below_grown h) (fun r e => by cases e)
    clear h1 hA hc hal hk1 hk2
    gi_wp2_with (refine ⟨trivial, ?_⟩; gi_at_call 21; refine (callsIn_wide.2 hN).mono ?_; rintro e w1 ⟨b, rfl, hb, hle, hw1⟩; obtain ⟨fn, tmps, assign, body, hy, hR⟩ := hY [] b _ (hJe _ (bal hw1 (.cells #[.int .i64 nc.kind, .int .i64 nc.space, .string nc.name, .slice (some ⟨b, 0, none⟩) nc.al.length nc.al.length, .string nc.data, .string nc.sys, .int .i64 nc.up, .int .i64 nc.fst, .int .i64 nc.lst, .int .i64 nc.prv, .int .i64 nc.nxt, .int .i64 nc.inn] 52))) (by simp))
    refine hR.mono ?_
    rintro e W3 (⟨rfl, hJ3, -⟩ | ⟨rfl, hJx3⟩)
    · gi_wp2
      go_end0
      exact ⟨⟨_, rfl⟩, .inl ⟨[b], rfl, hJ3⟩⟩
    · gi_wp2
      go_end0
      exact ⟨⟨_, rfl⟩, .inr ⟨[b], rfl, hJx3⟩⟩
  · rw [if_neg h1] at *
    have h00 := h0
    clear hY hJ hJx hA hal hk1 hk2
    by_cases e1 : nd.fst = -1
    · rw [e1] at q7
      clear h1 hc
      gi_wp2
      go_end0
      exact ⟨⟨_, rfl⟩, .inl ⟨[], rfl, h00⟩⟩
    · have e2 : nd.fst ≠ nd.lst := fun h => h1 ⟨e1, h⟩
      have hne : (nd.fst != -1) = true := bne_iff_ne.2 e1
      have hne2 : (nd.fst == nd.lst) = false := beq_eq_false_iff_ne.2 e2
      clear h1 hc
      gi_wp2
      go_end0
      exact ⟨⟨_, rfl⟩, .inl ⟨[], rfl, h00⟩⟩
end Go.Proofs.YthfdiinfeljeeaaGreatDoor
/- The program's walk: what is still to be visited. -/
namespace Go.Proofs.YthfdiinfeljeeaaGreatDoor
open Go.RowKit
structure V3 where
  id : Nat
  depth : Int
  inl : Bool
abbrev V3.c (v : V3) : Array Value := #[.int .i64 (v.id : Int), .int .i64 v.depth, .bool v.inl]
def flatV (V : List V3) : List Value := V.flatMap fun v => v.c.toList
theorem flatV_len (V : List V3) : (flatV V).length = V.length * 3 := by
  induction V with
  | nil => rfl
  | cons x V ih => simp only [flatV, List.flatMap_cons, List.length_append, List.length_cons] at ih ⊢; rw [ih]; simp; omega
theorem flatV_snoc (V : List V3) (v : V3) : flatV (V ++ [v]) = flatV V ++ v.c.toList := by simp [flatV]
theorem Tryz.info109 : (Tryz.prog.info? 109).map (fun i => (i.zero, i.size, i.bytes)) = some (some (.agg #[.int .i64 0, .int .i64 0, .bool false]), 3, 24) := by kernel_rfl
section
variable {ops : Array Oper} {rest : List Oper} {o : Oper} {a : Act} {Q : Exit → Act → World → Prop}
/-- One more visit is put behind the others. -/
theorem step_app_visit {W : World} (hgd : o.guard = none) (s x : Operand) (ho : o.op = .call { callee := .builtin .append, args := #[s, x], argTypes := #[122, 122] })
    (v : V3) (V : List V3) (B g cap n : Nat) (hn : n = V.length) (hs : a.eval s = .slice (some ⟨g, 0, none⟩) n cap) (hx : a.eval x = .slice (some ⟨W.heap.size, 0, none⟩) 1 1)
    (HO : W.ownsRow B 109 3 (.slice (some ⟨g, 0, none⟩) n cap) n (flatV V)) (hB : B ≤ W.heap.size) (hl : V.length ≤ 1000000)
    (h : ∀ g' cap' w', w'.ownsRow B 109 3 (.slice (some ⟨g', 0, none⟩) (n + 1) cap') (n + 1) (flatV (V ++ [v])) → Fr B [109] W w' → wpList Tryz.prog ops Q rest (a.put o.dst (.slice (some ⟨g', 0, none⟩) (n + 1) cap')) w') :
    wpList Tryz.prog ops Q (o :: rest) a (W.alloc (.cells v.c 109)) := by
  obtain ⟨i0, hi, hzz⟩ := Option.map_eq_some_iff.1 Tryz.info109
  simp only [Prod.mk.injEq] at hzz
  obtain ⟨hz0, hz1, hz2⟩ := hzz
  subst hn
  refine wpList_append_own (w := W.alloc (.cells v.c 109)) hgd s x 122 ho B 109 i0 (.agg #[.int .i64 0, .int .i64 0, .bool false]) 3 24 Tryz.underlying122 hi hz0 hz1 hz2 rfl (by decide) _ V.length (flatV V) hs (HO.alloc _) ⟨W.heap.size, 0, none⟩ 1 1 v.c.toList hx rfl
    (World.news_of_block (cs := v.c) (t := 109) (fr := (0, 0)) (heap_alloc_new W _)) (fun u hu => by simp at hu; rcases hu with rfl | rfl | rfl <;> rfl) (by simp only [maxLen]; omega) (by omega) (by simp; omega) ?_
  intro v1 w1 hown hg _
  obtain ⟨oa, c', rfl⟩ := own_slice hown
  have hnn : ∃ g', oa = some ⟨g', 0, none⟩ := by
    rcases hown.2 with ⟨_, h0⟩ | ⟨g', _, _, hv, _⟩
    · omega
    · injection hv with e _ _
      exact ⟨g', e⟩
  obtain ⟨g', rfl⟩ := hnn
  refine h g' c' w1 (by rw [flatV_snoc]; exact hown) ?_
  refine ((Fr.refl B [109] W).alloc hB _).grown hg (fun k hk => ?_) hB
  obtain rfl : k = g := by simpa [Value.ownBlock] using hk.symm
  obtain ⟨cs, hcs⟩ := own_blk HO
  refine ⟨own_base HO k (by simp [Value.ownBlock]), .inr ⟨cs, 109, (0, 0), ?_, by simp⟩⟩
  rw [heap_alloc_old _ _ (blk_lt hcs)]
  exact hcs
end
end Go.Proofs.YthfdiinfeljeeaaGreatDoor
/- The program's walk: a node's children are put on the list. -/
namespace Go.Proofs.YthfdiinfeljeeaaGreatDoor
open Go.RowKit
structure Todo (w : World) (B tb : Nat) (V : List V3) : Prop where
  ex : ∃ g cap, w.heap[tb]? = some (.cells #[.slice (some ⟨g, 0, none⟩) V.length cap] 122 (0, 0)) ∧ w.ownsRow B 109 3 (.slice (some ⟨g, 0, none⟩) V.length cap) V.length (flatV V)
  base : B ≤ tb
theorem Todo.fr {w w' : World} {B B' tb : Nat} {V : List V3} {T : List Nat} (h : Todo w B tb V) (hf : Fr B' T w w') (h1 : 109 ∉ T) (h2 : 122 ∉ T) : Todo w' B tb V := by
  obtain ⟨g, cap, e1, e2⟩ := h.ex
  exact ⟨⟨g, cap, hf.blk e1 h2, own_fr e2 hf h1⟩, h.base⟩
theorem Todo.below {w w' : World} {B tb : Nat} {V : List V3} (h : Todo w B tb V) (hb : Below w.heap.size w w') : Todo w' B tb V := h.fr (T := []) (Fr.of_below (Nat.le_refl _) hb) (by simp) (by simp)
theorem ArO.keep2 {w w' : World} {B p g cap : Nat} {l : List Nd} {B' : Nat} (h : ArO w B p g cap l) (hf : Fr B' [109, 122] w w') : ArO w' B p g cap l :=
  ⟨hf.blk h.row (by decide), own_fr h.own hf (by decide), fun n hn => (h.at_ n hn).fr hf (by decide), h.pos, h.base⟩
abbrev mkV (depth : Int) (inl : Bool) (xs : List Nat) : List V3 := xs.map fun c => ⟨c, depth, inl⟩
set_option maxHeartbeats 4000000 in
set_option maxRecDepth 100000 in
theorem add74 (BA p g cap : Nat) (l : List Nd) (ca B tb : Nat) (V : List V3) (id : Nat) (depth : Int) (inl : Bool) (xs : List Nat) (w : World) (hA : ArO w BA p g cap l) (hid : id < l.length) (hch : Chain l (l[id]).fst xs) (hxl : xs.length ≤ 100000) (hVl : V.length + xs.length ≤ 900000)
    (hca : w.heap[ca]? = some (.cells #[.pointer (some ⟨p, 0, none⟩)] 24 (0, 0))) (hT : Todo w B tb V) (hB : B ≤ w.heap.size) :
    Calls Tryz.prog 74 #[.int .i64 (id : Int), .int .i64 depth, .bool inl, .pointer (some ⟨ca, 0, none⟩), .pointer (some ⟨tb, 0, none⟩)] w fun e w' => e = .returned (.tuple #[]) ∧ Todo w' B tb (V ++ mkV depth inl xs) ∧ Fr B [109, 122] w w' := by
  have K := kids25 BA p g cap l id xs w hA hid hch (by omega)
  have hca0 := blk_cells hca 0
  go_enter Tryz.func74, Tryz.ntmps74
  go_wp2_with fail
  refine K.mono ?_
  rintro e w1 ⟨v, rfl, hown, hb1⟩
  obtain ⟨oa, c, rfl⟩ := own_slice hown
  have hT1 := hT.below hb1
  have hf1 : Fr B [109, 122] w w1 := Fr.of_below hB hb1
  have hB1 := Nat.le_trans hB hb1.size
  clear K hT hca0
  go_wp2
  go_loopw [9, 14] (fun v9 v14 wr => ∃ i : Nat, v14 = .int .i64 i ∧ i ≤ xs.length ∧ Todo wr B tb (V ++ mkV depth inl (xs.take i)) ∧ Fr B [109, 122] w1 wr) (fun _ v14 _ => xs.length - (intOf v14).toNat)
  case atStart => exact ⟨0, rfl, Nat.zero_le _, by simpa using hT1, Fr.refl _ _ _⟩
  case round =>
    clear hT1
    obtain ⟨i, rfl, hi, hT, hf⟩ := hrel
    by_cases hlt : i < xs.length
    · obtain ⟨gt, ct, ht, hrow⟩ := hT.ex
      have hownr := own_fr hown hf (by decide)
      obtain ⟨gk, rfl, hck⟩ : ∃ gk, oa = some ⟨gk, 0, none⟩ ∧ wr.cell? ⟨gk, i, none⟩ = some (.int .i64 (xs[i] : Nat)) := by
        rcases hownr.2 with ⟨_, h0⟩ | ⟨gk, _, _, hv, _⟩
        · omega
        · injection hv with e1 e2 e3
          subst e1
          refine ⟨gk, rfl, ?_⟩
          rw [hownr.cellAt i (by omega)]
          simp [ints, hlt]
      have ct0 := blk_cells ht 0
      have hl3 : (V ++ mkV depth inl (xs.take i)).length ≤ 1000000 := by simp; omega
      have hB2 := Nat.le_trans hB1 hf.size
      have htk : V ++ mkV depth inl (xs.take (i + 1)) = (V ++ mkV depth inl (xs.take i)) ++ [⟨xs[i], depth, inl⟩] := by
        rw [List.take_succ_eq_append_getElem hlt, mkV, List.map_append, List.append_assoc]; rfl
      have HT := Go.Lib.hid htk
      clear htk hownr
      generalize hcx : xs[i] = cx at *
      have hnl : (V ++ mkV depth inl (xs.take i)).length = (V ++ mkV depth inl (xs.take i)).length := rfl
      generalize V ++ mkV depth inl (xs.take i) = V1 at *
      go_wp2_with (at_builtin; refine step_app_visit rfl (.tmp 18) (.tmp 23) rfl ⟨cx, depth, inl⟩ V1 B gt ct V1.length rfl rfl rfl hrow hB2 hl3 ?_; intro g2 c2 w2 hown2 hf2; have ht2 := hf2.blk ht (by decide); have ct2 := blk_cells ht2 0; have cf2 := blk_free ht2 0)
      have hf3 : Fr B [122] w2 (w2.setCell ⟨tb, 0, none⟩ (.slice (some ⟨g2, 0, none⟩) (V1.length + 1) c2)) := (Fr.refl B [122] w2).set ht2 (by simp) hT.base _
      have HN : Todo (w2.setCell ⟨tb, 0, none⟩ (.slice (some ⟨g2, 0, none⟩) (V1.length + 1) c2)) B tb (V1 ++ [⟨cx, depth, inl⟩]) := ⟨⟨g2, c2, by rw [List.length_append, List.length_singleton]; exact set_blk ht2 _, by rw [List.length_append, List.length_singleton]; exact own_fr hown2 hf3 (by decide)⟩, hT.base⟩
      have hf4 := hf.trans ((hf2.mono (T' := [109, 122]) (by simp)).trans (hf3.mono (by simp)))
      go_roundw
      case rel => exact ⟨i + 1, by go_num, by omega, by rw [HT.out]; exact HN, hf4⟩
      case measure => simp [intOf]; omega
    · obtain rfl : i = xs.length := by omega
      rw [List.take_of_length_le (Nat.le_refl _)] at hT
      have HT := Go.Lib.hid hT
      clear hT
      go_wp2
      go_end0
      exact ⟨rfl, HT.out, hf1.trans hf⟩
end Go.Proofs.YthfdiinfeljeeaaGreatDoor
/- The library contracts that this seat leans on, each one application of a theorem of the shelf. -/
namespace Go.Proofs
open Go.Shelf
def Tryz.lays160_ren : Go.Shelf.Ren := ⟨fun | 160 => 72 | 232 => 94 | 231 => 93 | 227 => 95 | 234 => 97 | 233 => 96 | 236 => 99 | 235 => 98 | 228 => 110 | 271 => 113 | 151 => 112 | 197 => 111 | 120 => 124 | 152 => 108 | 260 => 123 | 137 => 119 | 119 => 120 | 224 => 121 | 225 => 122 | 217 => 129 | 266 => 135 | n => n, fun | 9 => 9 | 4 => 4 | 3 => 3 | 5 => 5 | 117 => 149 | 116 => 148 | 0 => 0 | 124 => 152 | 21 => 21 | 105 => 162 | 46 => 144 | 119 => 140 | 139 => 143 | 138 => 142 | n => n, fun | 3 => 0 | 4 => 1 | n => n⟩
theorem Tryz.lays160 : Go.Proofs.Lays.n160 Tryz.prog Tryz.lays160_ren := {
  mixed := by kernel_rfl
  f119 := Tryz.func120.trans (congrArg some (by kernel_rfl))
  f120 := Tryz.func124.trans (congrArg some (by kernel_rfl))
  f137 := Tryz.func119.trans (congrArg some (by kernel_rfl))
  f151 := Tryz.func112.trans (congrArg some (by kernel_rfl))
  f152 := Tryz.func108.trans (congrArg some (by kernel_rfl))
  f160 := Tryz.func72.trans (congrArg some (by kernel_rfl))
  f197 := Tryz.func111.trans (congrArg some (by kernel_rfl))
  f217 := Tryz.func129.trans (congrArg some (by kernel_rfl))
  f224 := Tryz.func121.trans (congrArg some (by kernel_rfl))
  f225 := Tryz.func122.trans (congrArg some (by kernel_rfl))
  f227 := Tryz.func95.trans (congrArg some (by kernel_rfl))
  f228 := Tryz.func110.trans (congrArg some (by kernel_rfl))
  f231 := Tryz.func93.trans (congrArg some (by kernel_rfl))
  f232 := Tryz.func94.trans (congrArg some (by kernel_rfl))
  f233 := Tryz.func96.trans (congrArg some (by kernel_rfl))
  f234 := Tryz.func97.trans (congrArg some (by kernel_rfl))
  f235 := Tryz.func98.trans (congrArg some (by kernel_rfl))
  f236 := Tryz.func99.trans (congrArg some (by kernel_rfl))
  f260 := Tryz.func123.trans (congrArg some (by kernel_rfl))
  f266 := Tryz.func135.trans (congrArg some (by kernel_rfl))
  f271 := Tryz.func113.trans (congrArg some (by kernel_rfl))
  t0 := Tryz.underlying0
  a0 := Tryz.isAgg0
  z0 := Tryz.sizeOf0
  v0 := Tryz.zeroValue0
  t3 := Tryz.underlying3
  a3 := Tryz.isAgg3
  z3 := Tryz.sizeOf3
  v3 := Tryz.zeroValue3
  t4 := Tryz.underlying4
  a4 := Tryz.isAgg4
  z4 := Tryz.sizeOf4
  v4 := Tryz.zeroValue4
  t5 := Tryz.underlying5
  a5 := Tryz.isAgg5
  z5 := Tryz.sizeOf5
  v5 := Tryz.zeroValue5
  t9 := Tryz.underlying9
  a9 := Tryz.isAgg9
  z9 := Tryz.sizeOf9
  v9 := Tryz.zeroValue9
  t21 := Tryz.underlying21
  a21 := Tryz.isAgg21
  z21 := Tryz.sizeOf21
  v21 := Tryz.zeroValue21
  t46 := Tryz.underlying144
  a46 := Tryz.isAgg144
  z46 := Tryz.sizeOf144
  v46 := Tryz.zeroValue144
  t105 := Tryz.underlying162
  a105 := Tryz.isAgg162
  z105 := Tryz.sizeOf162
  v105 := Tryz.zeroValue162
  t116 := Tryz.underlying148
  a116 := Tryz.isAgg148
  z116 := Tryz.sizeOf148
  t117 := Tryz.underlying149
  a117 := Tryz.isAgg149
  z117 := Tryz.sizeOf149
  v117 := Tryz.zeroValue149
  t119 := Tryz.underlying140
  a119 := Tryz.isAgg140
  z119 := Tryz.sizeOf140
  t124 := Tryz.underlying152
  a124 := Tryz.isAgg152
  z124 := Tryz.sizeOf152
  v124 := Tryz.zeroValue152
  t138 := Tryz.underlying142
  a138 := Tryz.isAgg142
  z138 := Tryz.sizeOf142
  v138 := Tryz.zeroValue142
  t139 := Tryz.underlying143
  a139 := Tryz.isAgg143
  z139 := Tryz.sizeOf143
  v139 := Tryz.zeroValue143
  g3 := by kernel_rfl
  g4 := by kernel_rfl }
def Tryz.lays119_ren : Go.Shelf.Ren := ⟨fun | 119 => 120 | n => n, fun | 21 => 21 | 4 => 4 | n => n, fun | n => n⟩
theorem Tryz.lays119 : Go.Proofs.Lays.n119 Tryz.prog Tryz.lays119_ren := {
  mixed := by kernel_rfl
  f119 := Tryz.func120.trans (congrArg some (by kernel_rfl))
  t4 := Tryz.underlying4
  a4 := Tryz.isAgg4
  z4 := Tryz.sizeOf4
  v4 := Tryz.zeroValue4
  t21 := Tryz.underlying21
  a21 := Tryz.isAgg21
  z21 := Tryz.sizeOf21
  v21 := Tryz.zeroValue21 }
/-- utf8.ValidRune: "ValidRune reports whether r can be legally encoded as UTF-8. Code points that are out of range or a surrogate half are illegal.": IT RETURNS 'Lib.validRune r'; the world is as it was. (LAID: no walk: one application.) -/
theorem Tryz.utf8_ValidRune (r : Int) (w : World) :
    Calls Tryz.prog 120 #[.int .i32 r] w fun e w' => e = .returned (.bool (Lib.validRune r)) ∧ w' = w := Any.utf8_ValidRune Tryz.lays119 r w
def Tryz.lays137_ren : Go.Shelf.Ren := ⟨fun | 137 => 119 | 217 => 129 | 266 => 135 | n => n, fun | 9 => 9 | 5 => 5 | 3 => 3 | n => n, fun | n => n⟩
theorem Tryz.lays137 : Go.Proofs.Lays.n137 Tryz.prog Tryz.lays137_ren := {
  mixed := by kernel_rfl
  f137 := Tryz.func119.trans (congrArg some (by kernel_rfl))
  f217 := Tryz.func129.trans (congrArg some (by kernel_rfl))
  f266 := Tryz.func135.trans (congrArg some (by kernel_rfl))
  t3 := Tryz.underlying3
  a3 := Tryz.isAgg3
  z3 := Tryz.sizeOf3
  v3 := Tryz.zeroValue3
  t5 := Tryz.underlying5
  a5 := Tryz.isAgg5
  z5 := Tryz.sizeOf5
  v5 := Tryz.zeroValue5
  t9 := Tryz.underlying9
  a9 := Tryz.isAgg9
  z9 := Tryz.sizeOf9
  v9 := Tryz.zeroValue9 }
open Go.RowKit in
/-- strings.IndexByte: "IndexByte returns the index of the first instance of c in s, or -1 if c is not present in s.": IT RETURNS 'Lib.indexByte s c'; the world is as it was. (LAID: no walk: one application.) -/
theorem Tryz.strings_IndexByte (s : ByteArray) (c : Int) (w : World) :
    Calls Tryz.prog 119 #[.string s, .int .u8 c] w fun e w' => e = .returned (.int .i64 (Lib.indexByte s.data.toList c.toNat.toUInt8)) ∧ w' = w := Any.strings_IndexByte Tryz.lays137 s c w
def Tryz.lays144_ren : Go.Shelf.Ren := ⟨fun | 144 => 102 | 143 => 116 | 219 => 125 | 217 => 129 | 225 => 122 | 224 => 121 | 267 => 130 | 266 => 135 | 314 => 136 | n => n, fun | 9 => 9 | 4 => 4 | 3 => 3 | 5 => 5 | 46 => 144 | 146 => 182 | 51 => 181 | n => n, fun | 1 => 2 | n => n⟩
theorem Tryz.lays144 : Go.Proofs.Lays.n144 Tryz.prog Tryz.lays144_ren := {
  mixed := by kernel_rfl
  f143 := Tryz.func116.trans (congrArg some (by kernel_rfl))
  f144 := Tryz.func102.trans (congrArg some (by kernel_rfl))
  f217 := Tryz.func129.trans (congrArg some (by kernel_rfl))
  f219 := Tryz.func125.trans (congrArg some (by kernel_rfl))
  f224 := Tryz.func121.trans (congrArg some (by kernel_rfl))
  f225 := Tryz.func122.trans (congrArg some (by kernel_rfl))
  f266 := Tryz.func135.trans (congrArg some (by kernel_rfl))
  f267 := Tryz.func130.trans (congrArg some (by kernel_rfl))
  f314 := Tryz.func136.trans (congrArg some (by kernel_rfl))
  t3 := Tryz.underlying3
  a3 := Tryz.isAgg3
  z3 := Tryz.sizeOf3
  v3 := Tryz.zeroValue3
  t4 := Tryz.underlying4
  a4 := Tryz.isAgg4
  z4 := Tryz.sizeOf4
  v4 := Tryz.zeroValue4
  t5 := Tryz.underlying5
  a5 := Tryz.isAgg5
  z5 := Tryz.sizeOf5
  v5 := Tryz.zeroValue5
  t9 := Tryz.underlying9
  a9 := Tryz.isAgg9
  z9 := Tryz.sizeOf9
  v9 := Tryz.zeroValue9
  t46 := Tryz.underlying144
  a46 := Tryz.isAgg144
  z46 := Tryz.sizeOf144
  v46 := Tryz.zeroValue144
  t51 := Tryz.underlying181
  a51 := Tryz.isAgg181
  z51 := Tryz.sizeOf181
  v51 := Tryz.zeroValue181
  t146 := Tryz.underlying182
  a146 := Tryz.isAgg182
  z146 := Tryz.sizeOf182
  v146 := Tryz.zeroValue182
  g1 := by kernel_rfl }
open Go.RowKit Go.Lib in
/-- strings.Contains: "Contains reports whether substr is within s.": IT RETURNS 'Lib.contains s substr'; the world is as it was. (LAID: no walk: one application.) -/
theorem Tryz.strings_Contains (s sub : ByteArray) (m : Int) (w : World) (hs : s.size < 4294967281) (hm : w.cell? ⟨2, 0, none⟩ = some (.int .i64 m)) :
    Calls Tryz.prog 102 #[.string s, .string sub] w fun e w' => e = .returned (.bool (Lib.contains s.data.toList sub.data.toList)) ∧ w' = w := Any.strings_Contains Tryz.lays144 s sub m w hs hm
def Tryz.lays99_ren : Go.Shelf.Ren := ⟨fun | 99 => 100 | 206 => 114 | n => n, fun | 9 => 9 | 4 => 4 | 3 => 3 | n => n, fun | n => n⟩
theorem Tryz.lays99 : Go.Proofs.Lays.n99 Tryz.prog Tryz.lays99_ren := {
  mixed := by kernel_rfl
  f99 := Tryz.func100.trans (congrArg some (by kernel_rfl))
  f206 := Tryz.func114.trans (congrArg some (by kernel_rfl))
  t3 := Tryz.underlying3
  a3 := Tryz.isAgg3
  z3 := Tryz.sizeOf3
  v3 := Tryz.zeroValue3
  t4 := Tryz.underlying4
  a4 := Tryz.isAgg4
  z4 := Tryz.sizeOf4
  v4 := Tryz.zeroValue4
  t9 := Tryz.underlying9
  a9 := Tryz.isAgg9
  z9 := Tryz.sizeOf9
  v9 := Tryz.zeroValue9 }
open Go.RowKit Go.Lib in
/-- strings.HasPrefix: "HasPrefix reports whether the string s begins with prefix.": IT RETURNS 'Lib.hasPrefix s prefix'; the world is as it was. (LAID: no walk: one application.) -/
theorem Tryz.strings_HasPrefix (s p : ByteArray) (w : World) :
    Calls Tryz.prog 100 #[.string s, .string p] w fun e w' => e = .returned (.bool (Lib.hasPrefix s.data.toList p.data.toList)) ∧ w' = w := Any.strings_HasPrefix Tryz.lays99 s p w
def Tryz.lays100_ren : Go.Shelf.Ren := ⟨fun | 100 => 101 | 207 => 115 | n => n, fun | 9 => 9 | 4 => 4 | 3 => 3 | n => n, fun | n => n⟩
theorem Tryz.lays100 : Go.Proofs.Lays.n100 Tryz.prog Tryz.lays100_ren := {
  mixed := by kernel_rfl
  f100 := Tryz.func101.trans (congrArg some (by kernel_rfl))
  f207 := Tryz.func115.trans (congrArg some (by kernel_rfl))
  t3 := Tryz.underlying3
  a3 := Tryz.isAgg3
  z3 := Tryz.sizeOf3
  v3 := Tryz.zeroValue3
  t4 := Tryz.underlying4
  a4 := Tryz.isAgg4
  z4 := Tryz.sizeOf4
  v4 := Tryz.zeroValue4
  t9 := Tryz.underlying9
  a9 := Tryz.isAgg9
  z9 := Tryz.sizeOf9
  v9 := Tryz.zeroValue9 }
open Go.RowKit Go.Lib in
/-- strings.HasSuffix: "HasSuffix reports whether the string s ends with suffix.": IT RETURNS 'Lib.hasSuffix s suffix'; the world is as it was. ('hs': no Go string is longer: a caller has it of every string that it was handed.) (LAID: no walk: one application.) -/
theorem Tryz.strings_HasSuffix (s p : ByteArray) (w : World) (hs : s.size ≤ 9223372036854775807) :
    Calls Tryz.prog 101 #[.string s, .string p] w fun e w' => e = .returned (.bool (Lib.hasSuffix s.data.toList p.data.toList)) ∧ w' = w := Any.strings_HasSuffix Tryz.lays100 s p w hs
def Tryz.lays152_ren : Go.Shelf.Ren := ⟨fun | 152 => 108 | 137 => 119 | 119 => 120 | 224 => 121 | 225 => 122 | 217 => 129 | 266 => 135 | n => n, fun | 9 => 9 | 21 => 21 | 3 => 3 | 4 => 4 | 5 => 5 | 0 => 0 | 46 => 144 | n => n, fun | n => n⟩
theorem Tryz.lays152 : Go.Proofs.Lays.n152 Tryz.prog Tryz.lays152_ren := {
  mixed := by kernel_rfl
  f119 := Tryz.func120.trans (congrArg some (by kernel_rfl))
  f137 := Tryz.func119.trans (congrArg some (by kernel_rfl))
  f152 := Tryz.func108.trans (congrArg some (by kernel_rfl))
  f217 := Tryz.func129.trans (congrArg some (by kernel_rfl))
  f224 := Tryz.func121.trans (congrArg some (by kernel_rfl))
  f225 := Tryz.func122.trans (congrArg some (by kernel_rfl))
  f266 := Tryz.func135.trans (congrArg some (by kernel_rfl))
  t0 := Tryz.underlying0
  a0 := Tryz.isAgg0
  z0 := Tryz.sizeOf0
  v0 := Tryz.zeroValue0
  t3 := Tryz.underlying3
  a3 := Tryz.isAgg3
  z3 := Tryz.sizeOf3
  v3 := Tryz.zeroValue3
  t4 := Tryz.underlying4
  a4 := Tryz.isAgg4
  z4 := Tryz.sizeOf4
  v4 := Tryz.zeroValue4
  t5 := Tryz.underlying5
  a5 := Tryz.isAgg5
  z5 := Tryz.sizeOf5
  v5 := Tryz.zeroValue5
  t9 := Tryz.underlying9
  a9 := Tryz.isAgg9
  z9 := Tryz.sizeOf9
  v9 := Tryz.zeroValue9
  t21 := Tryz.underlying21
  a21 := Tryz.isAgg21
  z21 := Tryz.sizeOf21
  v21 := Tryz.zeroValue21
  t46 := Tryz.underlying144
  a46 := Tryz.isAgg144
  z46 := Tryz.sizeOf144
  v46 := Tryz.zeroValue144 }
open Go.RowKit Go.Lib in
theorem Tryz.strings_IndexRune_ascii (s : ByteArray) (r : Int) (w : World) (h0 : 0 ≤ r) (h1 : r < 128) :
    Calls Tryz.prog 108 #[.string s, .int .i32 r] w fun e w' => e = .returned (.int .i64 (Lib.indexByte s.data.toList r.toNat.toUInt8)) ∧ w' = w := Any.strings_IndexRune_ascii Tryz.lays152 s r w h0 h1
def Tryz.lays226_ren : Go.Shelf.Ren := ⟨fun | 226 => 109 | n => n, fun | 3 => 3 | 4 => 4 | n => n, fun | n => n⟩
theorem Tryz.lays226 : Go.Proofs.Lays.n226 Tryz.prog Tryz.lays226_ren := {
  mixed := by kernel_rfl
  f226 := Tryz.func109.trans (congrArg some (by kernel_rfl))
  t3 := Tryz.underlying3
  a3 := Tryz.isAgg3
  z3 := Tryz.sizeOf3
  v3 := Tryz.zeroValue3
  t4 := Tryz.underlying4
  a4 := Tryz.isAgg4
  z4 := Tryz.sizeOf4
  v4 := Tryz.zeroValue4 }
open Go.RowKit Go.Lib in
theorem Tryz.strings_shouldUseASCIISet (n : Int) (w : World) :
    Calls Tryz.prog 109 #[.int .i64 n] w fun e w' => e = .returned (.bool (decide (8 < n))) ∧ w' = w := Any.strings_shouldUseASCIISet Tryz.lays226 n w
def Tryz.lays153_ren : Go.Shelf.Ren := ⟨fun | 153 => 92 | 152 => 108 | 226 => 109 | 227 => 95 | 228 => 110 | 137 => 119 | 119 => 120 | 224 => 121 | 225 => 122 | 217 => 129 | 266 => 135 | n => n, fun | 9 => 9 | 3 => 3 | 4 => 4 | 5 => 5 | 21 => 21 | 117 => 149 | 116 => 148 | 0 => 0 | 46 => 144 | 124 => 152 | n => n, fun | n => n⟩
theorem Tryz.lays153 : Go.Proofs.Lays.n153 Tryz.prog Tryz.lays153_ren := {
  mixed := by kernel_rfl
  f119 := Tryz.func120.trans (congrArg some (by kernel_rfl))
  f137 := Tryz.func119.trans (congrArg some (by kernel_rfl))
  f152 := Tryz.func108.trans (congrArg some (by kernel_rfl))
  f153 := Tryz.func92.trans (congrArg some (by kernel_rfl))
  f217 := Tryz.func129.trans (congrArg some (by kernel_rfl))
  f224 := Tryz.func121.trans (congrArg some (by kernel_rfl))
  f225 := Tryz.func122.trans (congrArg some (by kernel_rfl))
  f226 := Tryz.func109.trans (congrArg some (by kernel_rfl))
  f227 := Tryz.func95.trans (congrArg some (by kernel_rfl))
  f228 := Tryz.func110.trans (congrArg some (by kernel_rfl))
  f266 := Tryz.func135.trans (congrArg some (by kernel_rfl))
  t0 := Tryz.underlying0
  a0 := Tryz.isAgg0
  z0 := Tryz.sizeOf0
  v0 := Tryz.zeroValue0
  t3 := Tryz.underlying3
  a3 := Tryz.isAgg3
  z3 := Tryz.sizeOf3
  v3 := Tryz.zeroValue3
  t4 := Tryz.underlying4
  a4 := Tryz.isAgg4
  z4 := Tryz.sizeOf4
  v4 := Tryz.zeroValue4
  t5 := Tryz.underlying5
  a5 := Tryz.isAgg5
  z5 := Tryz.sizeOf5
  v5 := Tryz.zeroValue5
  t9 := Tryz.underlying9
  a9 := Tryz.isAgg9
  z9 := Tryz.sizeOf9
  v9 := Tryz.zeroValue9
  t21 := Tryz.underlying21
  a21 := Tryz.isAgg21
  z21 := Tryz.sizeOf21
  v21 := Tryz.zeroValue21
  t46 := Tryz.underlying144
  a46 := Tryz.isAgg144
  z46 := Tryz.sizeOf144
  v46 := Tryz.zeroValue144
  t116 := Tryz.underlying148
  a116 := Tryz.isAgg148
  z116 := Tryz.sizeOf148
  t117 := Tryz.underlying149
  a117 := Tryz.isAgg149
  z117 := Tryz.sizeOf149
  v117 := Tryz.zeroValue149
  t124 := Tryz.underlying152
  a124 := Tryz.isAgg152
  z124 := Tryz.sizeOf152
  v124 := Tryz.zeroValue152 }
open Go.RowKit Go.Lib in
theorem Tryz.strings_IndexAny_long (hv116 : ∀ w, (zeroValue 148).run Tryz.prog w = .ok (.agg (Array.replicate 256 (.bool false))) w) (s chars : ByteArray) (w : World) (h2 : 2 ≤ chars.size) (h8 : 8 < s.size) (hs : s.size < 4294967281) (hcs : chars.size < 4294967281) (hascii : ∀ (j : Nat) b, chars.data.toList[j]? = some b → b.toNat < 128) :
    Calls Tryz.prog 92 #[.string s, .string chars] w fun e w' => e = .returned (.int .i64 (Lib.indexAny s.data.toList chars.data.toList)) ∧ w' = ((w.alloc (.cells (Lib.setCells chars.data.toList) 148)).alloc (.cells (Lib.setCells chars.data.toList) 148)) := Any.strings_IndexAny_long Tryz.lays153 hv116 (by kernel_rfl) s chars w h2 h8 hs hcs hascii
def Tryz.lays260_ren : Go.Shelf.Ren := ⟨fun | 260 => 123 | n => n, fun | 9 => 9 | 21 => 21 | 3 => 3 | 4 => 4 | 5 => 5 | 119 => 140 | 0 => 0 | 46 => 144 | 139 => 143 | 138 => 142 | n => n, fun | 3 => 0 | 4 => 1 | n => n⟩
theorem Tryz.lays260 : Go.Proofs.Lays.n260 Tryz.prog Tryz.lays260_ren := {
  mixed := by kernel_rfl
  f260 := Tryz.func123.trans (congrArg some (by kernel_rfl))
  t0 := Tryz.underlying0
  a0 := Tryz.isAgg0
  z0 := Tryz.sizeOf0
  v0 := Tryz.zeroValue0
  t3 := Tryz.underlying3
  a3 := Tryz.isAgg3
  z3 := Tryz.sizeOf3
  v3 := Tryz.zeroValue3
  t4 := Tryz.underlying4
  a4 := Tryz.isAgg4
  z4 := Tryz.sizeOf4
  v4 := Tryz.zeroValue4
  t5 := Tryz.underlying5
  a5 := Tryz.isAgg5
  z5 := Tryz.sizeOf5
  v5 := Tryz.zeroValue5
  t9 := Tryz.underlying9
  a9 := Tryz.isAgg9
  z9 := Tryz.sizeOf9
  v9 := Tryz.zeroValue9
  t21 := Tryz.underlying21
  a21 := Tryz.isAgg21
  z21 := Tryz.sizeOf21
  v21 := Tryz.zeroValue21
  t46 := Tryz.underlying144
  a46 := Tryz.isAgg144
  z46 := Tryz.sizeOf144
  v46 := Tryz.zeroValue144
  t119 := Tryz.underlying140
  a119 := Tryz.isAgg140
  z119 := Tryz.sizeOf140
  t138 := Tryz.underlying142
  a138 := Tryz.isAgg142
  z138 := Tryz.sizeOf142
  v138 := Tryz.zeroValue142
  t139 := Tryz.underlying143
  a139 := Tryz.isAgg143
  z139 := Tryz.sizeOf143
  v139 := Tryz.zeroValue143
  g3 := by kernel_rfl
  g4 := by kernel_rfl }
def Tryz.lays196_ren : Go.Shelf.Ren := ⟨fun | 196 => 70 | 259 => 91 | n => n, fun | 9 => 9 | 4 => 4 | 3 => 3 | 5 => 5 | 12 => 12 | 119 => 140 | 0 => 0 | 46 => 144 | 139 => 143 | 138 => 142 | 53 => 159 | n => n, fun | 3 => 0 | 4 => 1 | n => n⟩
theorem Tryz.lays196 : Go.Proofs.Lays.n196 Tryz.prog Tryz.lays196_ren := {
  mixed := by kernel_rfl
  f196 := Tryz.func70.trans (congrArg some (by kernel_rfl))
  f259 := Tryz.func91.trans (congrArg some (by kernel_rfl))
  t0 := Tryz.underlying0
  a0 := Tryz.isAgg0
  z0 := Tryz.sizeOf0
  v0 := Tryz.zeroValue0
  t3 := Tryz.underlying3
  a3 := Tryz.isAgg3
  z3 := Tryz.sizeOf3
  v3 := Tryz.zeroValue3
  t4 := Tryz.underlying4
  a4 := Tryz.isAgg4
  z4 := Tryz.sizeOf4
  v4 := Tryz.zeroValue4
  t5 := Tryz.underlying5
  a5 := Tryz.isAgg5
  z5 := Tryz.sizeOf5
  v5 := Tryz.zeroValue5
  t9 := Tryz.underlying9
  a9 := Tryz.isAgg9
  z9 := Tryz.sizeOf9
  v9 := Tryz.zeroValue9
  t12 := Tryz.underlying12
  a12 := Tryz.isAgg12
  z12 := Tryz.sizeOf12
  v12 := Tryz.zeroValue12
  t46 := Tryz.underlying144
  a46 := Tryz.isAgg144
  z46 := Tryz.sizeOf144
  v46 := Tryz.zeroValue144
  t53 := Tryz.underlying159
  a53 := Tryz.isAgg159
  z53 := Tryz.sizeOf159
  v53 := Tryz.zeroValue159
  t119 := Tryz.underlying140
  a119 := Tryz.isAgg140
  z119 := Tryz.sizeOf140
  t138 := Tryz.underlying142
  a138 := Tryz.isAgg142
  z138 := Tryz.sizeOf142
  v138 := Tryz.zeroValue142
  t139 := Tryz.underlying143
  a139 := Tryz.isAgg143
  z139 := Tryz.sizeOf143
  v139 := Tryz.zeroValue143
  g3 := by kernel_rfl
  g4 := by kernel_rfl }
end Go.Proofs
/- What a row's proof wants of arguments by value: structs taken apart, and what is left of them behind the call. -/
namespace Go.Proofs.YthfdiinfeljeeaaGreatDoor
open Go.Joins Go.ChangeShapes Go.WideShapes Go.RowKit Go.Deep Go.ChangeAt
open Go.ChangeMaps (open_string shut_string)

theorem own : ownKnob Tryz.prog.godebug = none := by kernel_rfl
theorem laidOut : laidOutB Tryz.prog = true := by kernel_rfl
theorem trod_lt {H : Type} {enc : TypeId × Value → H} {P : Program} {t : TypeId} {W : World} {v : Value} {d : DataW H} {ps : List MemPlace} (h : DataW.Trod enc P W 0 (fun _ => true) true t v d ps) : ∀ x ∈ ps, x.block < W.heap.size := by
  obtain ⟨m, hm⟩ := h
  exact DataW.trod_lt m _ _ _ hm
theorem slice_shape {H : Type} {enc : TypeId × Value → H} {P : Program} {w : World} {base : Nat} {spare : Nat → Bool} {held : Bool} {t e : TypeId} {fuel : Nat} {v : Value} {x : DataW H × List MemPlace} (ht : P.underlying t = some (.slice e)) (h : DataW.trod enc P w base spare held fuel t [v] = some x) :
    ∃ a n c, [v] = [.slice a n c] := by
  rcases open_slice ht h with ⟨h0, _⟩ | ⟨a, len, cap, _, _, _, _, h0, _⟩
  · exact ⟨_, _, _, h0⟩
  · exact ⟨_, _, _, h0⟩
/-- A string in a struct that came in is within the form's reach. -/
theorem sized_field {H : Type} {P : Program} {ts : List TypeId} {ds : List (DataW H)} {j i : Nat} {t u : TypeId} {fs : List TypeId} {F : Array Field} {parts : List (DataW H)} {bytes : List UInt8}
    (h : (DataW.weightsEach P ts ds).all (· ≤ reachBytes) = true) (ht : ts[j]? = some t) (hd : ds[j]? = some (.agg parts)) (hu : P.underlying t = some (.struct F)) (hF : F.toList.map (·.type) = fs) (hi : fs[i]? = some u) (hp : parts[i]? = some (.lit (.string bytes))) :
    bytes.length ≤ 140737488351232 := by
  subst hF
  have h1 : bytes.length ∈ DataW.weightsEach P (F.toList.map (·.type)) parts := DataW.weights_mem_each hi hp _ (by simp [DataW.weights])
  have := List.all_eq_true.1 h _ (DataW.weights_mem_each ht hd bytes.length (by simpa [DataW.weights, hu] using h1))
  exact of_decide_eq_true this
section
variable {H : Type} {enc : TypeId × Value → H} {P : Program} {w : World} {base : Nat} {spare : Nat → Bool} {held : Bool}
theorem open_agg9 {r : Reach} {b0 : Nat} {t : TypeId} {f0 f1 f2 f3 f4 f5 f6 f7 f8 : Field} {v : Value} {d : DataW H} {p : List MemPlace} (hs : P.underlying t = some (.struct #[f0, f1, f2, f3, f4, f5, f6, f7, f8])) (hone : oneCellFields P #[f0, f1, f2, f3, f4, f5, f6, f7, f8] = true) (hC : P.cellsOf t = 9)
    (hv : Value.okWide P w r b0 t v) (h : DataW.Trod enc P w base spare held t v d p) :
    ∃ (v0 v1 v2 v3 v4 v5 v6 v7 v8 : Value) (y0 y1 y2 y3 y4 y5 y6 y7 y8 : DataW H × List MemPlace) (n : Nat), v = .agg #[v0, v1, v2, v3, v4, v5, v6, v7, v8] ∧ d = .agg [y0.1, y1.1, y2.1, y3.1, y4.1, y5.1, y6.1, y7.1, y8.1] ∧
      DataW.trod enc P w base spare held n f0.type [v0] = some y0 ∧ DataW.trod enc P w base spare held n f1.type [v1] = some y1 ∧ DataW.trod enc P w base spare held n f2.type [v2] = some y2 ∧ DataW.trod enc P w base spare held n f3.type [v3] = some y3 ∧ DataW.trod enc P w base spare held n f4.type [v4] = some y4 ∧ DataW.trod enc P w base spare held n f5.type [v5] = some y5 ∧ DataW.trod enc P w base spare held n f6.type [v6] = some y6 ∧ DataW.trod enc P w base spare held n f7.type [v7] = some y7 ∧ DataW.trod enc P w base spare held n f8.type [v8] = some y8 := by
  obtain ⟨cs, rfl, hsz⟩ := okWide_struct hs hv
  obtain ⟨l⟩ := cs
  match l, hsz.trans hC with
  | [c0, c1, c2, c3, c4, c5, c6, c7, c8], _ =>
    obtain ⟨fuel, hf⟩ := h
    obtain ⟨xs, n, _, hx, _, hlen, hg⟩ := DataW.trod_struct hs hf
    obtain ⟨o0, k0⟩ := hone_of hone 0 f0 rfl
    obtain ⟨o1, k1⟩ := hone_of hone 1 f1 rfl
    obtain ⟨o2, k2⟩ := hone_of hone 2 f2 rfl
    obtain ⟨o3, k3⟩ := hone_of hone 3 f3 rfl
    obtain ⟨o4, k4⟩ := hone_of hone 4 f4 rfl
    obtain ⟨o5, k5⟩ := hone_of hone 5 f5 rfl
    obtain ⟨o6, k6⟩ := hone_of hone 6 f6 rfl
    obtain ⟨o7, k7⟩ := hone_of hone 7 f7 rfl
    obtain ⟨o8, k8⟩ := hone_of hone 8 f8 rfl
    match xs, hlen with
    | [y0, y1, y2, y3, y4, y5, y6, y7, y8], _ =>
      simp only [Prod.mk.injEq] at hx
      exact ⟨c0, c1, c2, c3, c4, c5, c6, c7, c8, y0, y1, y2, y3, y4, y5, y6, y7, y8, n, rfl, by simpa using hx.1, by simpa [Value.cells, o0, k0] using hg 0 f0 rfl, by simpa [Value.cells, o1, k1] using hg 1 f1 rfl, by simpa [Value.cells, o2, k2] using hg 2 f2 rfl, by simpa [Value.cells, o3, k3] using hg 3 f3 rfl, by simpa [Value.cells, o4, k4] using hg 4 f4 rfl, by simpa [Value.cells, o5, k5] using hg 5 f5 rfl, by simpa [Value.cells, o6, k6] using hg 6 f6 rfl, by simpa [Value.cells, o7, k7] using hg 7 f7 rfl, by simpa [Value.cells, o8, k8] using hg 8 f8 rfl⟩
end
end Go.Proofs.YthfdiinfeljeeaaGreatDoor
/- The witness of a row that may list variables, with a condition of its own or none. -/
namespace Go.Proofs.YthfdiinfeljeeaaGreatDoor
open Go.Joins Go.ChangeShapes Go.WideShapes Go.RowKit Go.Deep Go.ChangeAt
theorem wit_row {H : Type} {enc : TypeId × Value → H} {C : Checked} {os : Os} {f : FuncId} {fn : Func} {s : OpenSpec} {conds : List PathCond} {apart : Bool} {laid : List (String × DataW Unit)} (w0 : World) (args : Array Value) (hos : w0.os = os)
    (hsh : (w0.forCall (fun _ _ => 0) ⟨#[], args, []⟩).Shaped C.prog)
    (hok : Input.okWideB C.prog (w0.forCall (fun _ _ => 0) ⟨#[], args, []⟩) f ⟨#[], args, []⟩ = true)
    (hrow : s.preRow enc C.prog fn conds apart laid (w0.forCall (fun _ _ => 0) ⟨#[], args, []⟩).memory args) :
    ∃ (w : World) (tape : Tape) (i : Input), w.os = os ∧ (w.forCall tape i).Shaped C.prog ∧ i.vars = [] ∧ Input.okWide C.prog (w.forCall tape i) .any w.heap.size f i ∧
      s.preRow enc C.prog fn conds apart laid (w.forCall tape i).memory i.args ∧ ({ } : Assume).holds C.prog (lone (Frame.enter C.prog f i.args .normal) [] (w.forCall tape i)) :=
  ⟨w0, fun _ _ => 0, ⟨#[], args, []⟩, hos, hsh, (Input.okWide_of_okWideB (base := 0) hok).1, (Input.okWide_of_okWideB hok).2, hrow, by
    simp only [Assume.holds]
    exact ⟨by simp, by simp, fun _ => Modest.zero, by simp, by simp⟩⟩
/-- The listed variables laid on any world that holds the program's variables. -/
theorem laidMet_layOn {P : Program} {w0 : World} {laid : List (String × DataW Unit)} (args : Array Value) (hf : w0.layFits P laid [] = true) (hi : w0.layIfaces P laid (w0.layVars P laid) = true) :
    laidMet P laid ((w0.layVars P laid).forCall (fun _ _ => 0) ⟨#[], args, []⟩).memory := by
  have e1 : (laid.filter fun x => (laid.map (·.1)).contains x.1) = laid := List.filter_eq_self.2 fun x hx => List.contains_iff_mem.2 (List.mem_map.2 ⟨x, hx, rfl⟩)
  have e2 : (laid.filter fun x => !(laid.map (·.1)).contains x.1) = [] := List.filter_eq_nil_iff.2 fun x hx => by rw [List.contains_iff_mem.2 (List.mem_map.2 ⟨x, hx, rfl⟩)]; simp
  have h : laidMet P laid (w0.layVars P laid) := laidMet_layVars (w0 := w0) (laid.map (·.1)) [] (by rw [e1]) (by rw [e1]; exact hf) (by rw [e1]; exact hi) (by rw [e2]; exact LaidIn.none)
  exact h.of_heap (by simp [World.memory, World.forCall, Input.heap])
theorem get_some {α : Type} {o : Option α} (h : o.isSome = true) : o = some (o.get h) := (Option.some_get h).symm
end Go.Proofs.YthfdiinfeljeeaaGreatDoor
