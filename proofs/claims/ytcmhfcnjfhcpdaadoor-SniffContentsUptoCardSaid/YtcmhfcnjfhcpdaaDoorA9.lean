/- What a meta's attributes say: plainly; a look-up among truths. -/
import Derived.Test.YtcmhfcnjfhcpdaaDoorA4
import Derived.Test.YtcmhfcnjfhcpdaaDoorA8
import Derived.Maps.OwnSet
namespace Go
open Go.Maps (Keyed)
theorem plainElem_bool_inv {H : Type} {P : Program} {e : TypeId} (he : P.underlying e = some .bool) {v : Value} {z : DataW H × List MemPlace} (h : plainElem P e v = some z) : ∃ x, v = .bool x ∧ z = (.lit (.bool x), []) := by
  unfold plainElem at h
  rw [he] at h
  cases v <;> simp at h
  exact ⟨_, rfl, h.symm⟩
/-- A look-up among truths whose answer is known. -/
theorem wpList_lookup_own_bool {H : Type} {P : Program} (w : World) {ops : Array Oper} {rest : List Oper} {o : Oper} {a : Act} {Q : Exit → Act → World → Prop}
    (hg : o.guard = none) (m x : Operand) (t : TypeId) (hop : o.op = Op.lookup t m x false)
    (k e : TypeId) (K : Keyed P k) (ht : P.underlying t = some (.map k e)) (he : P.underlying e = some .bool) (hz : (zeroValue e).run P w = .ok (.bool false) w) (b n : Nat) (D : DataW H)
    (hm : a.eval m = .map (some b)) (hown : w.ownsMap P k (plainElem P e) b n D) (key : Value) (kl : Lit) (hx : a.eval x = key) (hkey : keyOf P k key = some kl) (c : Bool) (hc : D.atKey kl (.lit (.bool false)) = .lit (.bool c))
    (hK : wpList P ops Q rest (a.put o.dst (.bool c)) w) :
    wpList P ops Q (o :: rest) a w := by
  refine wpList_plain hg fun K' hK' => ?_
  obtain ⟨v, ps, hrun, hv⟩ := hown.lookup K ht hz (plainElem_bool he false) hkey
  obtain ⟨x', rfl, hx'⟩ := plainElem_bool_inv he hv
  have e1 : x' = c := by
    have h1 := congrArg Prod.fst hx'
    rw [hc] at h1
    simpa using h1.symm
  subst e1
  unfold Oper.wp
  simp [execOp, hop, hm, hx, hrun, Result.andThen]
  exact hK' _ _ hK
end Go
namespace Go.Proofs.YtcmhfcnjfhcpdaaDoor
open Go.RowKit
def heW : List UInt8 := [104, 116, 116, 112, 45, 101, 113, 117, 105, 118]
def ctW : List UInt8 := [99, 111, 110, 116, 101, 110, 116]
def tyW : List UInt8 := [99, 111, 110, 116, 101, 110, 116, 45, 116, 121, 112, 101]
structure Cs where
  enc : Int
  pragma : Bool
  need : Bool
  there : Bool
  seen : List (List UInt8)
def cs0 : Cs := ⟨-1, false, false, false, []⟩
def csOf (v : List UInt8) : Int × Int := ofL (low (trimBl v))
/-- What one attribute says. -/
def csStep (s : Cs) (n v : List UInt8) : Cs :=
  if n ∈ s.seen then s
  else if n = heW then ⟨s.enc, decide (v = tyW), s.need, s.there, n :: s.seen⟩
  else if n = ctW then
    match contT v with
    | none => ⟨s.enc, s.pragma, s.need, s.there, n :: s.seen⟩
    | some c => if s.there = true then ⟨s.enc, s.pragma, s.need, s.there, n :: s.seen⟩ else if (csOf c).2 = 0 then ⟨(csOf c).1, s.pragma, true, true, n :: s.seen⟩ else ⟨s.enc, s.pragma, s.need, s.there, n :: s.seen⟩
  else if n = csW then ⟨if (csOf v).2 = 0 then (csOf v).1 else -1, s.pragma, false, true, n :: s.seen⟩
  else ⟨s.enc, s.pragma, s.need, s.there, n :: s.seen⟩
def csL (L : List UInt8) : Nat → Nat → Cs → Cs × Nat
  | 0, i, s => (s, i)
  | f + 1, i, s => match attrF L i with
    | (none, j) => (s, j)
    | (some (n, v), j) => csL L f j (csStep s n v)
def csEnd (s : Cs) : Int := if s.there = false ∨ (s.need = true ∧ s.pragma = false) ∨ s.enc < 0 then -1 else metaF s.enc
theorem attr_le (L : List UInt8) (i : Nat) (hi : i ≤ L.length) : i ≤ (attrF L i).2 ∧ (attrF L i).2 ≤ L.length ∧ ∀ x, (attrF L i).1 = some x → i < (attrF L i).2 := by
  unfold attrF
  have a1 := run_le isSl L i hi
  generalize run isSl L i = i1 at a1 ⊢
  dsimp only
  by_cases c1 : L.length ≤ i1
  · rw [if_pos c1]; exact ⟨a1.1, a1.2, fun x h => by cases h⟩
  rw [if_neg c1]
  by_cases c2 : L.getD i1 0 = 62
  · rw [if_pos c2]; exact ⟨by dsimp only; omega, by dsimp only; omega, fun x h => by cases h⟩
  rw [if_neg c2]
  have a3 := run_le nIs L (i1 + 1) (by omega)
  generalize run nIs L (i1 + 1) = i3 at a3 ⊢
  by_cases c3 : L.length ≤ i3
  · rw [if_pos c3]; exact ⟨by dsimp only; omega, by dsimp only; omega, fun x h => by cases h⟩
  rw [if_neg c3]
  have a4 := run_le isBl L i3 (by omega)
  generalize run isBl L i3 = i4 at a4 ⊢
  by_cases c4 : L.length ≤ i4
  · rw [if_pos c4]; exact ⟨by dsimp only; omega, by dsimp only; omega, fun x h => by cases h⟩
  rw [if_neg c4]
  by_cases c5 : L.getD i4 0 ≠ 61
  · rw [if_pos c5]; exact ⟨by dsimp only; omega, by dsimp only; omega, fun x h => by dsimp only; omega⟩
  rw [if_neg c5]
  have a5 := run_le isBl L (i4 + 1) (by omega)
  generalize run isBl L (i4 + 1) = i5 at a5 ⊢
  by_cases c6 : L.length ≤ i5
  · rw [if_pos c6]; exact ⟨by dsimp only; omega, by dsimp only; omega, fun x h => by cases h⟩
  rw [if_neg c6]
  by_cases c7 : L.getD i5 0 = 34 ∨ L.getD i5 0 = 39
  · rw [if_pos c7]
    have a6 := run_le (· != L.getD i5 0) L (i5 + 1) (by omega)
    generalize run (· != L.getD i5 0) L (i5 + 1) = i6 at a6 ⊢
    by_cases c8 : i6 < L.length
    · rw [if_pos c8]; exact ⟨by dsimp only; omega, by dsimp only; omega, fun x h => by dsimp only; omega⟩
    · rw [if_neg c8]; exact ⟨by dsimp only; omega, by dsimp only; omega, fun x h => by cases h⟩
  · rw [if_neg c7]
    have a7 := run_le nTe L i5 (by omega)
    generalize run nTe L i5 = i7 at a7 ⊢
    by_cases c8 : L.length ≤ i7
    · rw [if_pos c8]; exact ⟨by dsimp only; omega, by dsimp only; omega, fun x h => by cases h⟩
    · rw [if_neg c8]; exact ⟨by dsimp only; omega, by dsimp only; omega, fun x h => by dsimp only; omega⟩
/-- How long a name and a value are. -/
theorem attr_len (L : List UInt8) (i : Nat) (n v : List UInt8) (h : (attrF L i).1 = some (n, v)) : n.length ≤ L.length + 1 ∧ v.length ≤ L.length := by
  have tl : ∀ (p : UInt8 → Bool) (k : Nat), ((L.drop k).takeWhile p).length ≤ L.length := fun p k => by
    have h1 := tw_le p (L.drop k)
    rw [List.length_drop] at h1
    omega
  unfold attrF at h
  dsimp only at h
  split at h
  · cases h
  split at h
  · cases h
  split at h
  · cases h
  split at h
  · cases h
  split at h
  · injection h with h; injection h with h1 h2; subst h1; subst h2
    exact ⟨by simp only [List.length_cons]; have := tl nIs (run isSl L i + 1); omega, by simp⟩
  split at h
  · cases h
  split at h
  · split at h
    · injection h with h; injection h with h1 h2; subst h1; subst h2
      exact ⟨by simp only [List.length_cons]; have := tl nIs (run isSl L i + 1); omega, tl _ _⟩
    · cases h
  · split at h
    · cases h
    · injection h with h; injection h with h1 h2; subst h1; subst h2
      exact ⟨by simp only [List.length_cons]; have := tl nIs (run isSl L i + 1); omega, tl _ _⟩
theorem cs_le (L : List UInt8) : ∀ (f i : Nat) (s : Cs), i ≤ L.length → i ≤ (csL L f i s).2 ∧ (csL L f i s).2 ≤ L.length
  | 0, i, s, h => ⟨Nat.le_refl _, h⟩
  | f + 1, i, s, h => by
    have a := attr_le L i h
    unfold csL
    generalize attrF L i = r at a ⊢
    obtain ⟨o, j⟩ := r
    cases o with
    | none => exact ⟨a.1, a.2.1⟩
    | some x =>
      have ih := cs_le L f j (csStep s x.1 x.2) a.2.1
      have := a.1
      dsimp only at this ih ⊢
      exact ⟨by omega, ih.2⟩
theorem St.grown {sb : Nat} {w w' : World} (h : St sb w w') : w.grownBy w' (some sb) := ⟨h.os, h.tape, h.output, h.size, fun k hk hn => h.block k hk (fun e => hn (by rw [e]))⟩
theorem Sc.grown {w w' : World} {sb g : Nat} {L : List UInt8} {i mb : Nat} (h : Sc w sb g L i) (hg : w.grownBy w' (some mb)) (h1 : mb ≠ sb) (h2 : mb ≠ g) : Sc w' sb g L i :=
  ⟨(hg.block _ h.lt (by simpa using Ne.symm h1)).trans h.row, (hg.block _ h.ltg (by simpa using Ne.symm h2)).trans h.bytes, h.ne, h.small⟩
theorem St.grownBy {sb mb : Nat} {w0 w w' : World} (h : St sb w0 w) (hg : w.grownBy w' (some mb)) (hm : w0.heap.size ≤ mb) : St sb w0 w' :=
  ⟨hg.os.trans h.os, hg.tape.trans h.tape, hg.output.trans h.output, Nat.le_trans h.size hg.size, fun k hk hn => (hg.block k (Nat.lt_of_lt_of_le hk h.size) (by intro e; injection e with e; omega)).trans (h.block k hk hn)⟩
end Go.Proofs.YtcmhfcnjfhcpdaaDoor
