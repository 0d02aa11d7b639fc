/- UTF-16's bytes of code points that may be, read again: plain laws; and an append that keeps another row. -/
import Derived.Test.YtmfifaigphnbmaaE3
import Derived.Test.YtmfifaigphnbmaaE4
namespace Go.Proofs.Ytmfifaigphnbmaa
open Go.RowKit
def valid (r : Int) : Bool := decide (0 ≤ r) && decide (r ≤ 1114111) && !(decide (55296 ≤ r) && decide (r ≤ 57343))
theorem valid_iff (r : Int) : valid r = true ↔ 0 ≤ r ∧ r ≤ 1114111 ∧ ¬ (55296 ≤ r ∧ r ≤ 57343) := by
  simp only [valid, Bool.and_eq_true, Bool.not_eq_true', Bool.and_eq_false_iff, decide_eq_true_eq, decide_eq_false_iff_not]
  omega
def units (r : Int) : List Int := if 65536 ≤ r then [55296 + (r - 65536) / 1024, 56320 + (r - 65536) % 1024] else [r]
def lowB8 (u : Int) : UInt8 := UInt8.ofNat (u % 256).toNat
def highB8 (u : Int) : UInt8 := UInt8.ofNat (u / 256).toNat
theorem lowB8_val (u : Int) : ((lowB8 u).toNat : Int) = u % 256 := by
  rw [lowB8, UInt8.toNat_ofNat']
  omega
theorem highB8_val (u : Int) (h0 : 0 ≤ u) (h1 : u < 65536) : ((highB8 u).toNat : Int) = u / 256 := by
  rw [highB8, UInt8.toNat_ofNat']
  omega
def ub (big : Bool) (u : Int) : List UInt8 := if big then [highB8 u, lowB8 u] else [lowB8 u, highB8 u]
theorem ub_length (big : Bool) (u : Int) : (ub big u).length = 2 := by cases big <;> rfl
def enc16 (big : Bool) (l : List Int) : List UInt8 := (l.filter valid).flatMap fun r => (units r).flatMap (ub big)
theorem units_range (r : Int) (h : valid r = true) : ∀ u ∈ units r, 0 ≤ u ∧ u < 65536 := by
  obtain ⟨h1, h2, h3⟩ := (valid_iff r).1 h
  intro u hu
  unfold units at hu
  split at hu
  · simp at hu
    rcases hu with rfl | rfl <;> omega
  · simp at hu
    subst hu
    omega
theorem units_length (r : Int) : 1 ≤ (units r).length ∧ (units r).length ≤ 2 := by
  unfold units
  split <;> simp
/-- A unit read by a decoder that waits for a byte, of a leader or none. -/
theorem unit_read (big : Bool) (lead u : Int) (h0 : 0 ≤ u) (h1 : u < 65536) : run (U16.step big) ⟨-1, lead⟩ (nums (ub big u)) =
    (if 0 ≤ lead then (if 56320 ≤ u ∧ u ≤ 57343 then (⟨-1, -1⟩, [65536 + (lead - 55296) * 1024 + u - 56320]) else ((U16.fresh u).1, 65533 :: (U16.fresh u).2)) else U16.fresh u) := by
  have hl := lowB8_val u
  have hh := highB8_val u h0 h1
  have s1 : ∀ c, U16.step big ⟨-1, lead⟩ c = (⟨c, lead⟩, []) := fun c => by
    rw [U16.step]
    exact if_pos (show (-1 : Int) < 0 by decide)
  obtain ⟨a, b, hab, ha0, hu⟩ : ∃ a b : Int, nums (ub big u) = [a, b] ∧ 0 ≤ a ∧ U16.unit big ⟨a, lead⟩ b = u := by
    cases big
    · exact ⟨(lowB8 u).toNat, (highB8 u).toNat, rfl, by omega, by show ((lowB8 u).toNat : Int) + 256 * (highB8 u).toNat = u; omega⟩
    · exact ⟨(highB8 u).toNat, (lowB8 u).toNat, rfl, by omega, by show 256 * ((highB8 u).toNat : Int) + (lowB8 u).toNat = u; omega⟩
  have s2 : U16.step big ⟨a, lead⟩ b = (if 0 ≤ lead then (if 56320 ≤ u ∧ u ≤ 57343 then (⟨-1, -1⟩, [65536 + (lead - 55296) * 1024 + u - 56320]) else ((U16.fresh u).1, 65533 :: (U16.fresh u).2)) else U16.fresh u) := by
    rw [U16.step, if_neg (by show ¬ a < 0; omega), hu]
  rw [hab]
  simp only [run, s1, List.nil_append, List.append_nil]
  rw [s2]
theorem nums_append (a b : List UInt8) : nums (a ++ b) = nums a ++ nums b := by simp [nums]
theorem rune_read (big : Bool) (r : Int) (h : valid r = true) : run (U16.step big) U16.zero (nums ((units r).flatMap (ub big))) = (U16.zero, [r]) := by
  obtain ⟨h1, h2, h3⟩ := (valid_iff r).1 h
  unfold units U16.zero
  split
  · simp only [List.flatMap_cons, List.flatMap_nil, List.append_nil]
    rw [nums_append, run_append, unit_read big (-1) _ (by omega) (by omega), if_neg (by decide)]
    have hf : U16.fresh (55296 + (r - 65536) / 1024) = (⟨-1, 55296 + (r - 65536) / 1024⟩, []) := by
      unfold U16.fresh
      rw [if_neg (by omega), if_pos (by omega)]
    rw [hf]
    dsimp only
    rw [unit_read big _ _ (by omega) (by omega), if_pos (by omega), if_pos (by omega)]
    simp only [List.nil_append, Prod.mk.injEq, List.cons.injEq, and_true, true_and]
    omega
  · simp only [List.flatMap_cons, List.flatMap_nil, List.append_nil]
    rw [unit_read big (-1) _ (by omega) (by omega), if_neg (by decide)]
    unfold U16.fresh
    rw [if_neg (by omega), if_neg (by omega)]
theorem enc16_read (big : Bool) (l : List Int) : run (U16.step big) U16.zero (nums (enc16 big l)) = (U16.zero, l.filter valid) := by
  unfold enc16
  induction l with
  | nil => rfl
  | cons r t ih =>
    cases hv : valid r
    · rw [List.filter_cons_of_neg (by simp [hv])]
      exact ih
    · rw [List.filter_cons_of_pos hv, List.flatMap_cons, nums_append, run_append, rune_read big r hv]
      dsimp only
      rw [ih]
      rfl
theorem enc16_len (big : Bool) (l : List Int) : (enc16 big l).length ≤ 4 * l.length := by
  unfold enc16
  induction l with
  | nil => simp
  | cons r t ih =>
    have h2 : ((units r).flatMap (ub big)).length ≤ 4 := by
      unfold units
      split <;> simp [ub_length]
    cases hv : valid r
    · rw [List.filter_cons_of_neg (by simp [hv])]
      rw [List.length_cons]; omega
    · rw [List.filter_cons_of_pos hv, List.flatMap_cons, List.length_append, List.length_cons]
      omega
theorem toldt_16 (l : List Int) : toldt (enc16 true l) = l.filter valid := by
  rw [toldt, enc16_read]
  simp [U16.fin, U16.zero]
theorem toldf_16 (l : List Int) : toldf (enc16 false l) = l.filter valid := by
  rw [toldf, enc16_read]
  simp [U16.fin, U16.zero]
theorem enc16_snoc (big : Bool) (l : List Int) (r : Int) : enc16 big (l ++ [r]) = enc16 big l ++ (if valid r then (units r).flatMap (ub big) else []) := by
  unfold enc16
  rw [List.filter_append, List.flatMap_append]
  cases hv : valid r <;> simp [List.filter, hv]
theorem filter_snoc (l : List Int) (r : Int) : (l ++ [r]).filter valid = l.filter valid ++ (if valid r then [r] else []) := by
  rw [List.filter_append]
  cases hv : valid r <;> simp [List.filter, hv]
/-- What another slice owns it owns behind an append. -/
theorem own_other {W w1 : World} {base base' e e' size size' n n' : Nat} {u v : Value} {xs ys : List Value} (h : W.ownsRow base e size u n xs) (hv : W.ownsRow base' e' size' v n' ys) (he : e ≠ e') (hg : W.grownBy w1 v.ownBlock) : w1.ownsRow base e size u n xs := by
  refine ⟨h.1, h.2.imp id ?_⟩
  rintro ⟨g, cap, cur, hu, hb, hh, r⟩
  refine ⟨g, cap, cur, hu, hb, ?_, r⟩
  refine (hg.block g (blk_lt hh) ?_).trans hh
  intro hgv
  rcases hv.2 with ⟨rfl, _⟩ | ⟨g', cap', cur', rfl, _, hh', _⟩
  · simp [Value.ownBlock] at hgv
  · obtain rfl : g = g' := by simpa [Value.ownBlock] using hgv
    rw [hh] at hh'
    simp at hh'
    exact he hh'.2
theorem RdR.other {W w1 : World} {base' e' size' n' : Nat} {g : Nat} {v : Value} {ys : List Value} {X : List Int} (h : RdR W (some ⟨g, 0, none⟩) X) (_hv : W.ownsRow base' e' size' v n' ys) (hne : v.ownBlock ≠ some g) (hg : W.grownBy w1 v.ownBlock) : RdR w1 (some ⟨g, 0, none⟩) X := fun j hj => by
  obtain ⟨ad, h1, h2⟩ := h j hj
  refine ⟨ad, h1, ?_⟩
  cases h1
  have hb : (Addr.add ⟨g, 0, none⟩ j).block = g := by unfold Addr.add; split <;> rfl
  have hlt := World.block_lt_of_cell? W _ h2
  have hbk := hg.block (Addr.add ⟨g, 0, none⟩ j).block hlt (by rw [hb]; exact Ne.symm hne)
  rw [← h2]
  unfold World.cell?
  rw [hbk]
section
variable {P : Program} {ops : Array Oper} {rest : List Oper} {o : Oper} {a : Act} {Q : Exit → Act → World → Prop}
/-- 'append(out, xs...)' as in KitD, and what it grew. -/
theorem step_append_grown {w0 W : World} (hgd : o.guard = none) (base : Nat) (s x : Operand) (t e : TypeId) (z : Value) (size bytes : Nat)
    (ho : o.op = .call { callee := .builtin .append, args := #[s, x], argTypes := #[t, t] })
    (ht : P.underlying t = some (.slice e)) (hinfo : (P.info? e).map (fun i => (i.zero, i.size, i.bytes)) = some (some z, size, bytes)) (hz : z.cells.size = size) (hs0 : 0 < size) (hb0 : 0 < bytes)
    (v : Value) (n m c : Nat) (ad : Addr) (xs news : List Value) (hs : a.eval s = v) (hx : a.eval x = .slice (some ad) m c) (hnl : news.length = m * size)
    (hrd : ∀ j u, news[j]? = some u → W.cell? (ad.add j) = some u) (h1 : ∀ u ∈ news, u.oneCell' = true)
    (HO : W.ownsRow base e size v n xs) (HB : Below base w0 W) (hbase : base ≤ W.heap.size) (hl : (n + m) * bytes ≤ 140737488355328)
    (h : ∀ v1 w1, w1.ownsRow base e size v1 (n + m) (xs ++ news) → Below base w0 w1 → W.grownBy w1 v.ownBlock → wpList P ops Q rest (a.put o.dst v1) w1) :
    wpList P ops Q (o :: rest) a W := by
  obtain ⟨i0, hi, hzz⟩ := Option.map_eq_some_iff.1 hinfo
  simp only [Prod.mk.injEq] at hzz
  obtain ⟨hz0, hz1, hz2⟩ := hzz
  have hlen : n + m ≤ 140737488355328 := Nat.le_trans (Nat.le_mul_of_pos_right _ hb0) hl
  refine wpList_append_own (w := W) hgd s x t ho base e i0 z size bytes ht hi hz0 hz1 hz2 hz hs0 v n xs hs HO ad m c news hx hnl hrd h1 (by simp only [maxLen]; omega) hl hbase ?_
  intro v1 w1 hown hg _
  exact h v1 w1 hown (HB.grown hg hbase (own_base HO)) hg
end
end Go.Proofs.Ytmfifaigphnbmaa
