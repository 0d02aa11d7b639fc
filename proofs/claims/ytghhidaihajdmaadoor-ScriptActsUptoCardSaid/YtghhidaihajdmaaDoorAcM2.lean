/- Texts of one seat, merged: lemmas and contracts that the law leans on. -/
import Derived.Test.YtghhidaihajdmaaDoorAcM1
import Derived.ChangeSlices
import Derived.Deep.RegionLaw
import Derived.Laws.BytesArg
import Derived.Deep.LoopGhost
import Derived.Deep.RegionHeld
import Derived.Lib.Strings
import Derived.Lib.AtoiTie
import Derived.Lib.AtoiAllCases
import Derived.Lib.SplitLaws
import Derived.Lib.IndexBytes
import Derived.Test.YtghhidaihajdmaaDoorPScriptActsx7
import Derived.Test.YtghhidaihajdmaaDoorRows
import Derived.Lib.LaidU8
import Derived.MakeChecks
import Derived.Stop.LaidErr
import Derived.HandedShaped
import Derived.Deep.DeepHandedRow
import Derived.Lay
import Derived.LaidMore
import Derived.Stop.Joined
/- Bytes in a slice, read: among the arguments, cut, taken. -/
namespace Go.Proofs.YtghhidaihajdmaaDoor
open Go.RowKit Go.ChangeShapes
/-- Bytes as numbers. -/
def nums (l : List UInt8) : List Int := l.map fun b => (b.toNat : Int)
theorem nums_length (l : List UInt8) : (nums l).length = l.length := by simp [nums]
/-- The bytes L lie at the slice's place. -/
def RdB (w : World) (oa : Option Addr) (L : List UInt8) : Prop := ∀ j (h : j < L.length), ∃ ad, oa = some ad ∧ w.cell? (ad.add j) = some (.int .u8 (L[j]).toNat)
theorem RdB.below {w w1 : World} {oa : Option Addr} {L : List UInt8} (h : RdB w oa L) (hb : Below w.heap.size w w1) : RdB w1 oa L := fun j hj => by
  obtain ⟨ad, h1, h2⟩ := h j hj
  exact ⟨ad, h1, bcl hb h2⟩
theorem RdB.cut {w : World} {oa : Option Addr} {L : List UInt8} (h : RdB w oa L) (k : Nat) : RdB w (oa.map (·.add k)) (L.drop k) := fun j hj => by
  rw [List.length_drop] at hj
  obtain ⟨ad, rfl, hc⟩ := h (k + j) (by omega)
  refine ⟨_, rfl, ?_⟩
  rw [show (ad.add k).add j = ad.add (k + j) by unfold Addr.add; by_cases hk : k = 0 <;> by_cases hj : j = 0 <;> simp [hk, hj, Nat.add_assoc], hc]
  simp
theorem RdB.cut_at {w : World} {ad : Addr} {L : List UInt8} (h : RdB w (some ad) L) (k : Nat) (hk : 0 < k) : RdB w (some ⟨ad.block, ad.off + k, none⟩) (L.drop k) := by
  have := h.cut k
  rwa [Option.map_some, show ad.add k = ⟨ad.block, ad.off + k, none⟩ by unfold Addr.add; rw [if_neg (by omega)]] at this
theorem RdB.take {w : World} {oa : Option Addr} {L : List UInt8} (h : RdB w oa L) (k : Nat) : RdB w oa (L.take k) := fun j hj => by
  rw [List.length_take] at hj
  obtain ⟨ad, h1, h2⟩ := h j (by omega)
  exact ⟨ad, h1, by rw [h2, List.getElem_take]⟩
theorem RdB.cut_cap {w : World} {oa : Option Addr} {L : List UInt8} (h : RdB w oa L) (k cap : Nat) (hc : L.length ≤ cap) : RdB w (if cap = k then oa else oa.map (·.add k)) (L.drop k) := by
  by_cases e : cap = k
  · rw [if_pos e]
    exact fun j hj => by rw [List.length_drop] at hj; omega
  · rw [if_neg e]
    exact h.cut k
theorem own_read {w : World} {base e n m c : Nat} {oa : Option Addr} {xs : List Value} (h : w.ownsRow base e 1 (.slice oa m c) n xs) : m = n ∧ ∀ j u, xs[j]? = some u → ∃ ad, oa = some ad ∧ w.cell? (ad.add j) = some u := by
  obtain ⟨h1, h2⟩ := h
  rcases h2 with ⟨hv, h0⟩ | ⟨g, cap, cur, hv, _, hh, _, _, _, ht⟩
  · injection hv with e1 e2 e3
    subst h0 e2
    refine ⟨rfl, fun j u hu => ?_⟩
    have : xs = [] := List.eq_nil_of_length_eq_zero (by simpa using h1)
    rw [this] at hu
    cases hu
  · injection hv with e1 e2 e3
    subst e1 e2
    refine ⟨rfl, fun j u hu => ⟨_, rfl, ?_⟩⟩
    have hj : j < xs.length := by
      rcases Nat.lt_or_ge j xs.length with h' | h'
      · exact h'
      · rw [List.getElem?_eq_none h'] at hu; cases hu
    have ha : (Addr.add ⟨g, 0, none⟩ j) = ⟨g, j, none⟩ := by
      unfold Addr.add
      split
      · next h0 => subst h0; rfl
      · simp
    rw [ha, blk_cells hh, ← hu, ← ht, List.getElem?_take, if_pos (by omega)]
    simp
theorem u8_of {n : Int} (h : (Lit.int .u8 n).wf = true) : ∃ b : UInt8, n = (b.toNat : Int) := by
  have h2 : 0 ≤ n ∧ n < 256 := by
    have e1 : IntKind.u8.min = 0 := rfl
    have e2 : IntKind.u8.max = 255 := rfl
    simp [Lit.wf, e1, e2] at h
    omega
  refine ⟨UInt8.ofNat n.toNat, ?_⟩
  rw [UInt8.toNat_ofNat']
  omega
theorem open_bytes {H : Type} {enc : TypeId × Value → H} {P : Program} {w : World} {spare : Nat → Bool} {held : Bool} {t e : TypeId} {fuel : Nat} {v : Value} {x : DataW H × List MemPlace} (ht : P.underlying t = some (.slice e)) (he : P.underlying e = some (.int .u8)) (hc : P.cellsOf e = 1)
    (h : DataW.trod enc P w 0 spare held fuel t [v] = some x) : ∃ oa n cap L, v = .slice oa n cap ∧ n = L.length ∧ n ≤ maxLen ∧ RdB w oa L ∧ (x.1 = .nil ∧ L = [] ∨ ∃ r, x.1 = .slice (lits .u8 (nums L)) r) := by
  rcases open_ints ht he hc h with ⟨hv, rfl⟩ | ⟨a, len, cap, zs, hv, _, hlc, hcm, hzl, rfl, hcell, hwf⟩
  · simp only [List.cons.injEq, and_true] at hv
    exact ⟨none, 0, 0, [], hv, rfl, Nat.zero_le _, (fun j hj => absurd hj (by simp)), .inl ⟨rfl, rfl⟩⟩
  · simp only [List.cons.injEq, and_true] at hv
    have hz : len ≤ zs.length := by rw [hzl]; split <;> omega
    obtain ⟨L, hL⟩ : ∃ L : List UInt8, zs.take len = nums L := by
      have hall : ∀ n ∈ zs.take len, (Lit.int .u8 n).wf = true := fun n hn => hwf n (List.mem_of_mem_take hn)
      generalize zs.take len = zt at hall
      clear hv hlc hcm hzl hcell hwf hz
      induction zt with
      | nil => exact ⟨[], rfl⟩
      | cons n r ih =>
        obtain ⟨b, hb⟩ := u8_of (hall n List.mem_cons_self)
        obtain ⟨L, hL⟩ := ih fun m hm => hall m (List.mem_cons_of_mem _ hm)
        exact ⟨b :: L, by rw [hL, hb]; rfl⟩
    have hlen : len = L.length := by
      have := congrArg List.length hL
      rw [List.length_take, nums_length] at this
      omega
    refine ⟨some a, len, cap, L, hv, hlen, Nat.le_trans hlc hcm, fun j hj => ⟨a, rfl, ?_⟩, .inr ⟨_, by rw [hL]⟩⟩
    rw [hcell j (by omega)]
    have h1 : (zs.take len)[j]? = (nums L)[j]? := by rw [hL]
    rw [List.getElem?_take, if_pos (by omega)] at h1
    have h2 : (nums L)[j]? = some ((L[j]).toNat : Int) := by simp [nums, hj]
    rw [h2] at h1
    rw [List.getD_eq_getElem?_getD, h1]
    rfl
theorem open_bytesv {H : Type} {enc : TypeId × Value → H} {P : Program} {w : World} {spare : Nat → Bool} {held : Bool} {r : Reach} {b0 : Nat} {t e : TypeId} {v : Value} {d : DataW H} {p : List MemPlace} (ht : P.underlying t = some (.slice e)) (he : P.underlying e = some (.int .u8)) (hc : P.cellsOf e = 1)
    (hv : Value.okWide P w r b0 t v) (h : DataW.Trod enc P w 0 spare held t v d p) : ∃ oa n cap L, v = .slice oa n cap ∧ n = L.length ∧ n ≤ maxLen ∧ RdB w oa L ∧ (d = .nil ∧ L = [] ∨ ∃ r, d = .slice (lits .u8 (nums L)) r) := by
  obtain ⟨a, len, cap, rfl⟩ := Go.WideShapes.okWide_slice ht hv
  obtain ⟨fuel, hf⟩ := h
  exact open_bytes ht he hc (x := (d, p)) hf
theorem open_bytesc {H : Type} {enc : TypeId × Value → H} {P : Program} {w : World} {spare : Nat → Bool} {held : Bool} {r : Reach} {b0 : Nat} {t e : TypeId} {v : Value} {d : DataW H} {p : List MemPlace} (ht : P.underlying t = some (.slice e)) (he : P.underlying e = some (.int .u8)) (hc : P.cellsOf e = 1)
    (hv : Value.okWide P w r b0 t v) (h : DataW.Trod enc P w 0 spare held t v d p) : ∃ oa n cap L, v = .slice oa n cap ∧ n = L.length ∧ n ≤ maxLen ∧ n ≤ cap ∧ RdB w oa L ∧ (d = .nil ∧ L = [] ∨ ∃ r, d = .slice (lits .u8 (nums L)) r) := by
  obtain ⟨oa, n, cap, L, rfl, h1, h2, h3, h4⟩ := open_bytesv ht he hc hv h
  refine ⟨oa, n, cap, L, rfl, h1, h2, ?_, h3, h4⟩
  obtain ⟨fuel, hf⟩ := h
  rcases open_ints (x := (d, p)) ht he hc hf with ⟨hv2, _⟩ | ⟨a, len, cap2, zs, hv2, _, hlc, _⟩
  · have : Value.slice oa n cap = .slice none 0 0 := by simpa [Value.cells] using hv2
    injection this with e1 e2 e3
    omega
  · have : Value.slice oa n cap = .slice (some a) len cap2 := by simpa [Value.cells] using hv2
    injection this with e1 e2 e3
    omega
end Go.Proofs.YtghhidaihajdmaaDoor
/- The reference's small digits. -/
namespace Go.Proofs.YtghhidaihajdmaaDoor
open Go.RowKit
theorem Tryd.info5 : (Tryd.prog.info? 5).map (fun i => (i.zero, i.size, i.bytes)) = some (some (.int .u8 0), 1, 1) := by kernel_rfl
section
variable {P : Program} {ops : Array Oper} {rest : List Oper} {o : Oper} {a : Act} {Q : Exit → Act → World → Prop}
theorem step_append2_wanted {E : Prop} {K : Act → World → Prop} {w0 W : World} (hgd : o.guard = none) (base : Nat) (s x : Operand) (t e : TypeId) (z : Value) (size bytes : Nat)
    (ho : o.op = .call { callee := .builtin .append, args := #[s, x], argTypes := #[t, t] })
    (ht : P.underlying t = some (.slice e)) (hinfo : (P.info? e).map (fun i => (i.zero, i.size, i.bytes)) = some (some z, size, bytes)) (hz : z.cells.size = size) (hs0 : 0 < size) (hb0 : 0 < bytes)
    (v : Value) (n m : Nat) (xs : List Value) (cs : Array Value) (hs : a.eval s = v) (hx : a.eval x = .slice (some ⟨m, 0, none⟩) 2 2) (hm : m = W.heap.size) (hcs : cs.size = 2 * size) (h1 : ∀ u ∈ cs.toList, u.oneCell' = true)
    (HO : W.ownsRow base e size v n xs) (HB : Below base w0 W) (hbase : base ≤ W.heap.size) (hl : (n + 2) * bytes ≤ 140737488355328)
    (h : ∀ v1 w1, w1.ownsRow base e size v1 (n + 2) (xs ++ cs.toList) → Below base w0 w1 → K (a.put o.dst v1) w1) :
    if Region.wanted o (yielded ops a.tmps) = true then Oper.wp P o a (W.alloc (.cells cs e)) K Q else E := by
  rw [if_pos (by simp [Region.wanted, hgd])]
  subst hm
  obtain ⟨i0, hi, hzz⟩ := Option.map_eq_some_iff.1 hinfo
  simp only [Prod.mk.injEq] at hzz
  obtain ⟨hz0, hz1, hz2⟩ := hzz
  have hlen : n + 2 ≤ 140737488355328 := Nat.le_trans (Nat.le_mul_of_pos_right _ hb0) hl
  exact wp_append_own (W.alloc (.cells cs e)) s x t ho base e i0 z size bytes ht hi hz0 hz1 hz2 hz hs0 v n xs hs (HO.alloc _) ⟨W.heap.size, 0, none⟩ 2 2 cs.toList hx (by simp [hcs])
    (World.news_of_block (cs := cs) (t := e) (fr := (0, 0)) (heap_alloc_new W _)) h1 (by simp only [maxLen]; omega) hl (by simp; omega)
    (fun v1 w1 hown hg _ => h v1 w1 hown ((HB.alloc hbase _).grown hg (by simp; omega) (own_base HO)))
theorem at_dst (k : Nat) {X Y : Prop} (_h : o.dst = some k) (hx : if Region.wanted o (yielded ops a.tmps) = true then X else Y) : if Region.wanted o (yielded ops a.tmps) = true then X else Y := hx
end
theorem dig_at' (k : Nat) (h : k < 16) : ((ByteArray.mk #[48, 49, 50, 51, 52, 53, 54, 55, 56, 57, 97, 98, 99, 100, 101, 102])[k]'h) = digs.getD k 0 := by
  rw [List.getD_eq_getElem?_getD, List.getElem?_eq_getElem (show k < digs.length from h)]
  rfl
theorem wrap_u8 (n : Int) (h0 : 0 ≤ n) (h1 : n < 256) : IntKind.u8.wrap n = n := by rw [IntKind.wrap_u8]; omega
set_option maxRecDepth 100000 in
theorem own_conv {w : World} {base m c : Nat} {oa : Option Addr} {L : List UInt8} (h : w.ownsRow base 5 1 (.slice oa m c) m (u8s L)) : (convert 37 9 (.slice oa m c)).run Tryd.prog w = .ok (.string (mkS L)) w := by
  have hm : m = L.length := by have := h.1; rw [u8s_length] at this; omega
  rcases h.2 with ⟨hv, h0⟩ | ⟨g, cap, cur, hv, _⟩
  · injection hv with e1 e2 e3
    subst e1
    have : L = [] := List.eq_nil_of_length_eq_zero (by omega)
    subst this
    exact run_convert_bytes_nil w 37 5 Tryd.underlying37 Tryd.underlying5 _ _ 9 Tryd.underlying9
  · injection hv with e1 e2 e3
    subst e1
    rw [← strOfNums_u8]
    refine run_convert_bytes_arg w 37 5 Tryd.underlying37 Tryd.underlying5 g 0 m c _ (by simp [hm]) (fun i hi => ?_) 9 Tryd.underlying9
    obtain ⟨ad, had, hc⟩ := (own_read h).2 i (.int .u8 (L[i]'(by omega)).toNat) (by simp [u8s, show i < L.length by omega])
    cases had
    rw [show (⟨g, 0 + i, none⟩ : Addr) = Addr.add ⟨g, 0, none⟩ i by unfold Addr.add; split <;> simp_all, hc]
    simp [List.getD_eq_getElem?_getD, show i < L.length by omega]
set_option maxRecDepth 100000 in
theorem digits19 (s : ByteArray) (w : World) (hs : s.size ≤ 65536) : Calls Tryd.prog 19 #[.string s] w fun e w' => e = .returned (.string (mkS (hexL s.data.toList))) ∧ Below w.heap.size w w' := by
  go_enter Tryd.func19, Tryd.ntmps19
  go_wp2_with fail
  go_loopw [4, 5] (fun v4 v5 wr => ∃ i : Nat, v5 = .int .i64 i ∧ i ≤ s.size ∧ wr.ownsRow w.heap.size 5 1 v4 (2 * i) (u8s (hexL (s.data.toList.take i))) ∧ Below w.heap.size w wr) (fun _ v5 _ => s.size - (intOf v5).toNat)
  case atStart => exact ⟨0, rfl, Nat.zero_le _, own_nil w w.heap.size 5 1, Below.refl _ w⟩
  case round =>
    obtain ⟨i, rfl, hi, hown, hbw⟩ := hrel
    by_cases hlt : i < s.size
    · have H := hexL_take s.data.toList i (by rw [dlen]; exact hlt)
      rw [show s.data.toList[i]'(by rw [dlen]; exact hlt) = s[i] by rw [Array.getElem_toList]; rfl] at H
      have HX := Go.Lib.hid H
      clear H
      have hb8 := s[i].toNat_lt
      obtain ⟨d, hd⟩ : ∃ d : Nat, d = s[i].toNat / 16 := ⟨_, rfl⟩
      obtain ⟨e, he⟩ : ∃ e : Nat, e = s[i].toNat % 16 := ⟨_, rfl⟩
      have hdi : (s[i].toNat : Int) / 16 = (d : Int) := by omega
      have hei : (s[i].toNat : Int).tmod 16 = (e : Int) := by rw [Int.tmod_eq_emod_of_nonneg (by omega)]; omega
      have hd16 : (d : Int) < 16 := by omega
      have he16 : (e : Int) < 16 := by omega
      have hwd : IntKind.u8.wrap (d : Int) = d := wrap_u8 _ (by omega) (by omega)
      have hwe : IntKind.u8.wrap (e : Int) = e := wrap_u8 _ (by omega) (by omega)
      have hone : ∀ u ∈ (#[Value.int .u8 (digs.getD d 0).toNat, .int .u8 (digs.getD e 0).toNat] : Array Value).toList, u.oneCell' = true := by
        intro u hu
        rcases (show u = _ ∨ u = _ by simpa using hu) with rfl | rfl <;> rfl
      have hdn : d < 16 := by omega
      have hen : e < 16 := by omega
      have HE := Go.Lib.hid (show hexB s[i] = [digs.getD d 0, digs.getD e 0] by rw [hexB, ← hd, ← he])
      clear hd he
      have hd1 := dig_at' d hdn
      have hd2 := dig_at' e hen
      generalize digs.getD d 0 = x at *
      generalize digs.getD e 0 = y at *
      have hownd : wr.drew.ownsRow w.heap.size 5 1 u4 (2 * i) (u8s (hexL (s.data.toList.take i))) := hown
      have hbwd : Below w.heap.size w wr.drew := bdr hbw 1
      go_wp2_with fail
      go_region_law (first
        | (refine at_dst 26 rfl ?_; go_must (refine step_append2_wanted rfl w.heap.size (.tmp 12) (.tmp 25) 37 5 (.int .u8 0) 1 1 rfl Tryd.underlying37 Tryd.info5 rfl (by decide) (by decide) u4 (2 * i) _ _ #[.int .u8 x.toNat, .int .u8 y.toNat] rfl rfl rfl rfl hone hownd hbwd hbw.size (by omega) ?_; intro v1 w3 hown3 hB3)))
      all_goals have HO3 := Go.Lib.hid hown3
      all_goals clear hown3 hown hownd hone
      all_goals go_wp2
      all_goals go_roundw
      all_goals first
        | (case measure => simp [intOf]; omega)
        | (case rel =>
            refine ⟨i + 1, by go_num, by omega, ?_, hB3⟩
            have := HO3.out
            rw [HX.out, HE.out]
            simpa [u8s, Nat.mul_add] using this)
    · obtain rfl : i = s.size := by omega
      rw [List.take_of_length_le (by rw [dlen]; exact Nat.le_refl _)] at hown
      obtain ⟨oa, c, rfl⟩ := own_slice hown
      have hcv := own_conv hown
      go_wp2
      go_ret
      exact ⟨rfl, hbw⟩
end Go.Proofs.YtghhidaihajdmaaDoor
/- Acts as lines, plainly. -/
namespace Go.Proofs.YtghhidaihajdmaaDoor
open Go.RowKit
theorem Tryd.info9 : (Tryd.prog.info? 9).map (fun i => (i.zero, i.size, i.bytes)) = some (some (.string ByteArray.empty), 1, 16) := by kernel_rfl
/-- Is it a place? -/
def inP (n : Int) : Bool := decide (-1 ≤ n) && decide (n ≤ 99999)
def allP (l : List Int) : Bool := l.all inP
def strV (n : Int) : Value := .string (mkS (numL n))
def lineL (k : Nat) (a b c : Int) (t m : List UInt8) : List UInt8 :=
  [97, 99, 116, 32] ++ actNames.getD k [] ++ [32] ++ (numL a ++ [32] ++ numL b ++ [32] ++ numL c) ++ [32, 61] ++ hexL t ++ [32, 61] ++ hexL m
/-- The line of an act, and the number of its error. -/
def printL (k a b c : Int) (t m : List UInt8) : List UInt8 × Int :=
  if ¬ (0 ≤ k ∧ k < 12 ∧ allP [a, b, c] = true) then ([], 4)
  else if 65536 < t.length ∨ 65536 < m.length then ([], 2)
  else if 65536 < (lineL k.toNat a b c t m).length then ([], 2)
  else (lineL k.toNat a b c t m, 0)
theorem take3 (a b c : Int) (i : Nat) (h : i < 3) : ∃ n, [a, b, c].take (i + 1) = [a, b, c].take i ++ [n] ∧ (#[Value.int .i64 a, .int .i64 b, .int .i64 c] : Array Value)[i]? = some (.int .i64 n) ∧ (n = a ∨ n = b ∨ n = c) := by
  rcases (show i = 0 ∨ i = 1 ∨ i = 2 by omega) with rfl | rfl | rfl
  · exact ⟨a, rfl, rfl, .inl rfl⟩
  · exact ⟨b, rfl, rfl, .inr (.inl rfl)⟩
  · exact ⟨c, rfl, rfl, .inr (.inr rfl)⟩
theorem numL_len (n : Int) (h : inP n = true) : (numL n).length ≤ 6 := by
  simp [inP] at h
  unfold numL
  split
  · simp
  · rw [Lib.itoa, if_neg (by omega)]
    exact dec_len 5 n.toNat (by omega)
theorem oneStr (s : ByteArray) : ∀ u ∈ (#[Value.string s] : Array Value).toList, u.oneCell' = true := by
  intro u hu
  rcases (show u = _ by simpa using hu) with rfl
  rfl
theorem join3 (a b c : List UInt8) : Lib.join [a, b, c] [32] = a ++ [32] ++ b ++ [32] ++ c := by
  simp [Lib.join]
end Go.Proofs.YtghhidaihajdmaaDoor
/- The program's print of an act. Printed by genS4.py. -/
namespace Go.Proofs.YtghhidaihajdmaaDoor
open Go.RowKit
theorem wpAnyH_mono {P : Program} {ops : Array Oper} {Q : Exit → Act → World → Prop} {md : Region.Mode} {S S' : World → Prop} (hS : ∀ w, S' w → S w) : ∀ {fuel : Nat} {listed : Array Bool} {a : Act} {w : World}, wpAnyH P md ops Q S' fuel listed a w → wpAnyH P md ops Q S fuel listed a w
  | 0, _, _, _, h => h
  | _ + 1, _, _, _, h => ⟨h.1, fun i hi => wpOp_mono (fun _ _ h' => ⟨hS _ h'.1, wpAnyH_mono hS h'.2⟩) (h.2 i hi)⟩
theorem own_cap {w : World} {base e size n c : Nat} {oa : Option Addr} {xs : List Value} (h : w.ownsRow base e size (.slice oa n c) n xs) : n ≤ c := by
  rcases h.2 with ⟨hv, h0⟩ | ⟨g, cap, cur, hv, _, _, hc, _⟩
  · omega
  · simp only [Value.slice.injEq] at hv
    omega
set_option maxRecDepth 100000 in
set_option maxHeartbeats 8000000 in
theorem print6 (k a b c : Int) (t m : ByteArray) (w : World) (hT : Tabs w) (hk0 : -9223372036854775808 ≤ k) (hk1 : k ≤ 9223372036854775807) (ha0 : -9223372036854775808 ≤ a) (ha1 : a ≤ 9223372036854775807) (hq0 : -9223372036854775808 ≤ b) (hq1 : b ≤ 9223372036854775807) (hc0 : -9223372036854775808 ≤ c) (hc1 : c ≤ 9223372036854775807) : Calls Tryd.prog 6 #[.agg #[.int .i64 k, .int .i64 a, .int .i64 b, .int .i64 c, .string t, .string m]] w fun e w' => e = .returned (.tuple #[.string (mkS (printL k a b c t.data.toList m.data.toList).1), .int .i64 (printL k a b c t.data.toList m.data.toList).2]) ∧ Below w.heap.size w w' := by
  have hb0 : Below w.heap.size w (w.alloc (.cells #[.int .i64 k, .int .i64 a, .int .i64 b, .int .i64 c, .string t, .string m] 23)) := (Below.refl _ w).alloc (Nat.le_refl _) _
  have hT1 := hT.below hb0
  have hcs := blk_cells (at_new w (.cells #[.int .i64 k, .int .i64 a, .int .i64 b, .int .i64 c, .string t, .string m] 23) _ rfl)
  have c0 : (w.alloc (.cells #[.int .i64 k, .int .i64 a, .int .i64 b, .int .i64 c, .string t, .string m] 23)).cell? ⟨w.heap.size, 0, none⟩ = some (.int .i64 k) := hcs 0
  have c1 : (w.alloc (.cells #[.int .i64 k, .int .i64 a, .int .i64 b, .int .i64 c, .string t, .string m] 23)).cell? ⟨w.heap.size, 1, none⟩ = some (.int .i64 a) := hcs 1
  have c2 : (w.alloc (.cells #[.int .i64 k, .int .i64 a, .int .i64 b, .int .i64 c, .string t, .string m] 23)).cell? ⟨w.heap.size, 2, none⟩ = some (.int .i64 b) := hcs 2
  have c3 : (w.alloc (.cells #[.int .i64 k, .int .i64 a, .int .i64 b, .int .i64 c, .string t, .string m] 23)).cell? ⟨w.heap.size, 3, none⟩ = some (.int .i64 c) := hcs 3
  have c4 : (w.alloc (.cells #[.int .i64 k, .int .i64 a, .int .i64 b, .int .i64 c, .string t, .string m] 23)).cell? ⟨w.heap.size, 4, none⟩ = some (.string t) := hcs 4
  have c5 : (w.alloc (.cells #[.int .i64 k, .int .i64 a, .int .i64 b, .int .i64 c, .string t, .string m] 23)).cell? ⟨w.heap.size, 5, none⟩ = some (.string m) := hcs 5
  clear hcs
  have POST : ∀ e w', (e = Ending.returned (.tuple #[.string (mkS (printL k a b c t.data.toList m.data.toList).1), .int .i64 (printL k a b c t.data.toList m.data.toList).2]) ∧ Below w.heap.size w w') → _ := fun e w' h => h
  obtain ⟨R, hR⟩ : ∃ R, R = printL k a b c t.data.toList m.data.toList := ⟨_, rfl⟩
  rw [← hR]
  have HR := Go.Lib.hid hR
  clear hR POST
  go_enter Tryd.func6, Tryd.ntmps6
  go_wp2_with fail
  generalize w.alloc (.cells #[.int .i64 k, .int .i64 a, .int .i64 b, .int .i64 c, .string t, .string m] 23) = W1 at *
  have hgs := hb0.size
  generalize hg : w.heap.size = g at *
  have hTd : Tabs W1.drew := hT1.below (bdr (Below.refl _ W1) 1)
  by_cases hk : 0 ≤ k
  · obtain ⟨K, rfl⟩ : ∃ K : Nat, k = K := ⟨k.toNat, by omega⟩
    have i0' : W1.drew.cell? ⟨g, 0, none⟩ = some (.int .i64 K) := c0
    go_region_held (fun W => W.cell? ⟨g, 0, none⟩ = some (.int .i64 K)) (assumption)
      (first
        | (go_at_call 13; refine (names13 W1.drew hTd).mono ?_; rintro e w2 ⟨rfl, hw2⟩; have hb2 : Below W1.heap.size W1 w2 := (by rw [hw2]; exact (bdr (Below.refl _ W1) 1).alloc (Nat.le_refl _) _); clear hw2; have d0 := bcl hb2 c0; have d1 := bcl hb2 c1; have d2 := bcl hb2 c2; have d3 := bcl hb2 c3))
    all_goals (next =>
      have hT2 : ∀ W, Below W1.heap.size W1 W → Tabs W := fun W h => hT1.below h
      go_wp2_with fail
      have hb3 : Below W1.heap.size W1 (w2.alloc (.cells #[.int .i64 a, .int .i64 b, .int .i64 c] 3)) := hb2.alloc hb2.size _
      have hl3 := blk_cells (at_new w2 (.cells #[.int .i64 a, .int .i64 b, .int .i64 c] 3) _ rfl)
      have HL3 := Go.Lib.hid hl3
      clear hl3 d1 d2 d3
      generalize hw3 : w2.alloc (.cells #[.int .i64 a, .int .i64 b, .int .i64 c] 3) = W3 at *
      have hs3 : w2.heap.size < W3.heap.size := by rw [← hw3]; simp
      generalize w2.heap.size = g3 at *
      clear hw3
      go_loopw [4, 5, 7, 8, 28] (fun v4 v5 _ _ v28 wr => ∃ i : Nat, v28 = .int .i64 i ∧ i ≤ 3 ∧ v4 = .bool (decide ((K : Int) < 12) && allP ([a, b, c].take i)) ∧ wr.ownsRow W3.heap.size 9 1 v5 i (([a, b, c].take i).map strV) ∧ Below W3.heap.size W3 wr) (fun _ _ _ _ v28 _ => 3 - (intOf v28).toNat)
      case atStart => exact ⟨0, rfl, by omega, by simp [allP], own_nil W3 _ 9 1, Below.refl _ W3⟩
      case round =>
        obtain ⟨i, rfl, hi, rfl, hown, hbw⟩ := hrel
        have hbw1 := hb3.trans (hbw.mono hb3.size)
        by_cases hlt : i < 3
        · obtain ⟨n, ht3, hn3, habc⟩ := take3 a b c i hlt
          have hn := bcl hbw ((HL3.out i).trans hn3)
          have hn0 : -9223372036854775808 ≤ n := by omega
          have hn1 : n ≤ 9223372036854775807 := by omega
          have HT3 := Go.Lib.hid ht3
          clear ht3 hn3 habc
          generalize hF : (decide ((K : Int) < 12) && allP ([a, b, c].take i)) = F at *
          have HF := Go.Lib.hid hF
          clear hF
          go_wp2_with fail
          refine (itoa14 n hn0 hn1 wr (hT2 wr hbw1)).mono ?_
          rintro e w4 ⟨rfl, hb4⟩
          have hbw4 := hbw.trans (hb4.mono hbw.size)
          have hown4 := own_below hown hb4
          clear hown hn
          have hni : n ≠ -1 → mkS (Lib.itoa n) = mkS (numL n) := fun h => by rw [numL, if_neg h]
          have hn45 : n = -1 → mkS [45] = mkS (numL n) := fun h => by rw [numL, if_pos h]
          have hap : (decide ((K : Int) < 12) && allP ([a, b, c].take (i + 1))) = (F && inP n) := by rw [HT3.out, ← HF.out]; simp [allP, Bool.and_assoc]
          have HAP := Go.Lib.hid hap
          clear hap
          have hcase : n = -1 ∨ n < -1 ∨ (n ≠ -1 ∧ -1 < n ∧ n ≤ 99999) ∨ (n ≠ -1 ∧ -1 < n ∧ 99999 < n) := by omega
          have HNI := Go.Lib.hid hni
          have HN45 := Go.Lib.hid hn45
          have HOWN := Go.Lib.hid hown4
          clear hni hn45 hown4 HF
          rcases hcase with rfl | hx | ⟨hx, hy, hz⟩ | ⟨hx, hy, hz⟩
          all_goals cases F
          all_goals go_wp2_with (at_builtin; refine step_append rfl W3.heap.size (.tmp 45) (.tmp 47) 43 9 (.string ByteArray.empty) 1 16 rfl Tryd.underlying43 Tryd.info9 rfl (by decide) (by decide) u5 i _ _ _ rfl rfl rfl rfl (oneStr _) HOWN.out hbw4 hbw4.size (by omega) ?_; intro v1 w5 hown5 hb5)
          all_goals have HOWN5 := Go.Lib.hid hown5
          all_goals clear hown5
          all_goals go_roundw
          all_goals first
            | (case measure => simp [intOf]; omega)
            | (case rel =>
                refine ⟨i + 1, by go_num, by omega, ?_, ?_, hb5⟩
                · rw [HAP.out]
                  simp [inP]
                  try omega
                · rw [HT3.out, List.map_append]
                  have h5 := HOWN5.out
                  first
                    | (have e := HNI.out (by omega); rw [e] at h5; exact h5)
                    | exact h5)
        · obtain rfl : i = 3 := by omega
          obtain ⟨oa, cp, rfl⟩ := own_slice hown
          have d0 := bcl hbw1 c0
          have d4 := bcl hbw1 c4
          have d5 := bcl hbw1 c5
          rw [show [a, b, c].take 3 = [a, b, c] from rfl] at hown ⊢
          have HOWN := Go.Lib.hid hown
          clear hown
          cases hF : (decide ((K : Int) < 12) && allP [a, b, c])
          · have hRF : R = ([], 4) := by
              rw [HR.out, printL, if_pos]
              intro h
              simp [h.2.2, h.2.1] at hF
            go_wp2
            go_ret2
            exact ⟨by first | rfl | (rw [hRF]; rfl), by first | exact hb0.trans (hbw1.mono hgs) | (rw [hg]; exact hb0.trans (hbw1.mono hgs))⟩
          · have hk12 : (K : Int) < 12 := by simp at hF; exact hF.1
            have hall : allP [a, b, c] = true := by simp at hF; exact hF.2
            by_cases hlen : 65536 < t.size ∨ 65536 < m.size
            · have hRF : R = ([], 2) := by rw [HR.out, printL, if_neg (by simp [hk, hk12, hall]), if_pos (by rw [dlen, dlen]; exact hlen)]
              have hx : 65536 < t.size ∨ (¬ 65536 < t.size ∧ 65536 < m.size) := by omega
              rcases hx with hx | ⟨hx, hy⟩
              all_goals go_wp2
              all_goals go_ret2
              all_goals exact ⟨by first | rfl | (rw [hRF]; rfl), by first | exact hb0.trans (hbw1.mono hgs) | (rw [hg]; exact hb0.trans (hbw1.mono hgs))⟩
            · have hx : ¬ 65536 < t.size := by omega
              have hy : ¬ 65536 < m.size := by omega
              have hK : K < 12 := by omega
              have hTr : Tabs wr.drew := hT2 _ (bdr hbw1 1)
              have hwd0 : Below wr.heap.size wr wr.drew := bdr (Below.refl _ wr) 1
              have hia : inP a = true := by simp [allP] at hall; exact hall.1
              have hib : inP b = true := by simp [allP] at hall; exact hall.2.1
              have hic : inP c = true := by simp [allP] at hall; exact hall.2.2
              have hla := numL_len a hia
              have hlb := numL_len b hib
              have hlc := numL_len c hic
              have hnl := act_len K hK
              have HJ : ∀ W, Below wr.heap.size wr W → Calls Tryd.prog 15 #[.slice oa 3 cp, .string ⟨#[32]⟩] W fun e w' => e = .returned (.string (mkS (numL a ++ [32] ++ numL b ++ [32] ++ numL c))) ∧ Below W.heap.size W w' := fun W hW => by
                have hO := own_below HOWN.out hW
                obtain ⟨gj, rfl, _⟩ := own_form hO (by omega)
                have hj := Tryd.strings_Join gj 0 cp [mkS (numL a), mkS (numL b), mkS (numL c)] ⟨#[32]⟩ W (fun j x hx => by
                  obtain ⟨ad, had, hc⟩ := (own_read hO).2 j (.string x) (by
                    rcases j with _ | _ | _ | j
                    · simp at hx; subst hx; rfl
                    · simp at hx; subst hx; rfl
                    · simp at hx; subst hx; rfl
                    · simp at hx)
                  cases had
                  rwa [show Addr.add ⟨gj, 0, none⟩ j = ⟨gj, 0 + j, none⟩ by unfold Addr.add; split <;> simp_all] at hc) (own_lt hO gj rfl) (by simp) (own_cap hO) (by
                    show (Lib.join [numL a, numL b, numL c] [32]).length ≤ _
                    rw [join3]
                    simp
                    omega)
                refine hj.mono ?_
                rintro e w' ⟨rfl, hb⟩
                exact ⟨by
                  show Ending.returned (Value.string ⟨(Lib.join [numL a, numL b, numL c] [32]).toArray⟩) = _
                  rw [join3]; rfl, hb⟩
              have HXt := fun W => hex16 t W (by omega)
              have HXm := fun W => hex16 m W (by omega)
              have N13 := names13 wr.drew hTr
              have hline : mkS (lineL K a b c t.data.toList m.data.toList) = ⟨#[97, 99, 116, 32]⟩ ++ mkS (actNames.getD K []) ++ ⟨#[32]⟩ ++ mkS (numL a ++ [32] ++ numL b ++ [32] ++ numL c) ++ ⟨#[32, 61]⟩ ++ mkS (hexL t.data.toList) ++ ⟨#[32, 61]⟩ ++ mkS (hexL m.data.toList) := by
                apply ByteArray.ext
                simp [mkS, lineL]
              have hsum : (lineL K a b c t.data.toList m.data.toList).length = 4 + (mkS (actNames.getD K [])).size + 1 + (mkS (numL a ++ [32] ++ numL b ++ [32] ++ numL c)).size + 2 + (mkS (hexL t.data.toList)).size + 2 + (mkS (hexL m.data.toList)).size := by
                simp [mkS_size, lineL]
                omega
              have hz1 : (mkS (actNames.getD K [])).size ≤ 6 := hnl
              have hz2 : (mkS (numL a ++ [32] ++ numL b ++ [32] ++ numL c)).size ≤ 20 := by rw [mkS_size]; simp; omega
              have hz3 : (mkS (hexL t.data.toList)).size ≤ 131072 := by rw [mkS_size, hexL_len, dlen]; omega
              have hz4 : (mkS (hexL m.data.toList)).size ≤ 131072 := by rw [mkS_size, hexL_len, dlen]; omega
              have hRF : R = if 65536 < (lineL K a b c t.data.toList m.data.toList).length then ([], 2) else (lineL K a b c t.data.toList m.data.toList, 0) := by
                rw [HR.out, printL, if_neg (by simp [hk, hk12, hall]), if_neg (by rw [dlen, dlen]; exact hlen)]
                rfl
              have hact : ∀ W, W = wr.drew.alloc (.cells (strs actNames) 9) → W.cell? ⟨wr.heap.size, K, none⟩ = some (.string (mkS (actNames.getD K []))) := fun W h => by rw [h]; exact act_at wr.drew K hK
              have HACT := Go.Lib.hid hact
              generalize lineL K a b c t.data.toList m.data.toList = LL at *
              generalize mkS (actNames.getD K []) = nm at *
              generalize mkS (numL a ++ [32] ++ numL b ++ [32] ++ numL c) = J at *
              generalize mkS (hexL t.data.toList) = X at *
              generalize mkS (hexL m.data.toList) = Y at *
              have q1 : ¬ 9223372036854775807 < 4 + nm.size := by omega
              have q2 : ¬ 9223372036854775807 < 4 + nm.size + 1 := by omega
              have q3 : ¬ 9223372036854775807 < 4 + nm.size + 1 + J.size := by omega
              have q4 : ¬ 9223372036854775807 < 4 + nm.size + 1 + J.size + 2 := by omega
              have q5 : ¬ 9223372036854775807 < 4 + nm.size + 1 + J.size + 2 + X.size := by omega
              have q6 : ¬ 9223372036854775807 < 4 + nm.size + 1 + J.size + 2 + X.size + 2 := by omega
              have q7 : ¬ 9223372036854775807 < 4 + nm.size + 1 + J.size + 2 + X.size + 2 + Y.size := by omega
              have HRF := Go.Lib.hid hRF
              have HLINE := Go.Lib.hid hline
              have HJ2 := Go.Lib.hid HJ
              have HXt2 := Go.Lib.hid HXt
              have HXm2 := Go.Lib.hid HXm
              clear hRF hline HJ HXt HXm hact hia hib hic hla hlb hlc hnl hF hall hlen HR HOWN HL3 hbw hb3 hs3 hi hlt
              have i0 : wr.drew.cell? ⟨g, 0, none⟩ = some (.int .i64 K) := d0
              have i4 : wr.drew.cell? ⟨g, 4, none⟩ = some (.string t) := d4
              have i5 : wr.drew.cell? ⟨g, 5, none⟩ = some (.string m) := d5
              go_wp2_with fail
              refine wp_region_held_drew (S := (fun W => W.cell? ⟨g, 0, none⟩ = some (.int .i64 K) ∧ W.cell? ⟨g, 4, none⟩ = some (.string t) ∧ W.cell? ⟨g, 5, none⟩ = some (.string m))) (by kernel_rfl) ⟨i0, i4, i5⟩ (fun hHeld => ?_)
              refine wpAnyH_take (i := 1) (v := ?_) rfl (by kernel_rfl) (by kernel_rfl) (by kernel_rfl) (fun _ _ _ h => h) (Or.inl ⟨by rfl, ?_⟩) (by assumption) ?_
              rotate_left
              · intro w hSw; (try dsimp only at hSw); (try go_simp); all_goals (with_reducible rfl)
              try simp only [Act.put, List.setIfInBounds_toArray]
              refine wpAnyH_take (i := 2) (v := ?_) rfl (by kernel_rfl) (by kernel_rfl) (by kernel_rfl) (fun _ _ _ h => h) (Or.inl ⟨by rfl, ?_⟩) (by assumption) ?_
              rotate_left
              · intro w hSw; (try dsimp only at hSw); (try go_simp); all_goals (with_reducible rfl)
              try simp only [Act.put]
              refine wpAnyH_take (i := 7) (v := ?_) rfl (by kernel_rfl) (by kernel_rfl) (by kernel_rfl) (fun _ _ _ h => h) (Or.inl ⟨by rfl, ?_⟩) (by assumption) ?_
              rotate_left
              · intro w hSw; (try dsimp only at hSw); (try go_simp); all_goals (with_reducible rfl)
              try simp only [Act.put]
              refine wpAnyH_take (i := 11) (v := ?_) rfl (by kernel_rfl) (by kernel_rfl) (by kernel_rfl) (fun _ _ _ h => h) (Or.inl ⟨by rfl, ?_⟩) (by assumption) ?_
              rotate_left
              · intro w hSw; (try dsimp only at hSw); (try go_simp); all_goals (with_reducible rfl)
              try simp only [Act.put]
              refine wpAnyH_take (i := 12) (v := ?_) rfl (by kernel_rfl) (by kernel_rfl) (by kernel_rfl) (fun _ _ _ h => h) (Or.inl ⟨by rfl, ?_⟩) (by assumption) ?_
              rotate_left
              · intro w hSw; (try dsimp only at hSw); (try go_simp); all_goals (with_reducible rfl)
              try simp only [Act.put]
              refine wpAnyH_take (i := 16) (v := ?_) rfl (by kernel_rfl) (by kernel_rfl) (by kernel_rfl) (fun _ _ _ h => h) (Or.inl ⟨by rfl, ?_⟩) (by assumption) ?_
              rotate_left
              · intro w hSw; (try dsimp only at hSw); (try go_simp); all_goals (with_reducible rfl)
              try simp only [Act.put]
              refine wpAnyH_take (i := 17) (v := ?_) rfl (by kernel_rfl) (by kernel_rfl) (by kernel_rfl) (fun _ _ _ h => h) (Or.inl ⟨by rfl, ?_⟩) (by assumption) ?_
              rotate_left
              · intro w hSw; (try dsimp only at hSw); (try go_simp); all_goals (with_reducible rfl)
              try simp only [Act.put]
              refine wpAnyH_ready (rs := [0]) (by kernel_rfl) (by simp) ?_
              refine AllReadyH.cons rfl (fun K hK => ?_) AllReadyH.nil
              go_simp
              go_wp2_with (go_at_call 13; refine N13.mono ?_; rintro e w6 ⟨rfl, hw6⟩; have hb6 : Below wr.heap.size wr w6 := (by rw [hw6]; exact hwd0.alloc (Nat.le_refl _) _); have hn6 := HACT.out w6 hw6; clear hw6; have e0 := bcl hb6 d0; have e4 := bcl hb6 d4; have e5 := bcl hb6 d5)
              refine hK.out _ _ (⟨e0, e4, e5⟩) (fun hHeld => ?_)
              clear hK K
              refine wpAnyH_mono (S' := (fun W => W.cell? ⟨wr.heap.size, K, none⟩ = some (.string nm) ∧ W.cell? ⟨g, 0, none⟩ = some (.int .i64 K) ∧ W.cell? ⟨g, 4, none⟩ = some (.string t) ∧ W.cell? ⟨g, 5, none⟩ = some (.string m))) (fun W h => h.2) ?_
              have hHeld1 : (fun W => W.cell? ⟨wr.heap.size, K, none⟩ = some (.string nm) ∧ W.cell? ⟨g, 0, none⟩ = some (.int .i64 K) ∧ W.cell? ⟨g, 4, none⟩ = some (.string t) ∧ W.cell? ⟨g, 5, none⟩ = some (.string m)) w6 := ⟨hn6, e0, e4, e5⟩
              clear hHeld
              refine wpAnyH_take (i := 3) (v := ?_) rfl (by kernel_rfl) (by kernel_rfl) (by kernel_rfl) (fun _ _ _ h => h) (Or.inl ⟨by rfl, ?_⟩) (by assumption) ?_
              rotate_left
              · intro w hSw; (try dsimp only at hSw); (try go_simp); all_goals (with_reducible rfl)
              try simp only [Act.put, List.setIfInBounds_toArray]
              refine wpAnyH_take (i := 4) (v := ?_) rfl (by kernel_rfl) (by kernel_rfl) (by kernel_rfl) (fun _ _ _ h => h) (Or.inl ⟨by rfl, ?_⟩) (by assumption) ?_
              rotate_left
              · intro w hSw; (try dsimp only at hSw); (try go_simp); all_goals (with_reducible rfl)
              try simp only [Act.put]
              refine wpAnyH_take (i := 5) (v := ?_) rfl (by kernel_rfl) (by kernel_rfl) (by kernel_rfl) (fun _ _ _ h => h) (Or.inl ⟨by rfl, ?_⟩) (by assumption) ?_
              rotate_left
              · intro w hSw; (try dsimp only at hSw); (try go_simp); all_goals (with_reducible rfl)
              try simp only [Act.put]
              refine wpAnyH_take (i := 6) (v := ?_) rfl (by kernel_rfl) (by kernel_rfl) (by kernel_rfl) (fun _ _ _ h => h) (Or.inl ⟨by rfl, ?_⟩) (by assumption) ?_
              rotate_left
              · intro w hSw; (try dsimp only at hSw); (try go_simp); all_goals (with_reducible rfl)
              try simp only [Act.put]
              refine wpAnyH_ready (rs := [8]) (by kernel_rfl) (by simp) ?_
              refine AllReadyH.cons rfl (fun K hK => ?_) AllReadyH.nil
              go_simp
              go_wp2_with (go_at_call 15; refine (HJ2.out w6 hb6).mono ?_; rintro e w7 ⟨rfl, hb7⟩; have hb67 := btr hb6 hb7; have hn7 := bcl hb7 hn6; have f0 := bcl hb67 d0; have f4 := bcl hb67 d4; have f5 := bcl hb67 d5)
              refine hK.out _ _ (⟨hn7, f0, f4, f5⟩) (fun hHeld => ?_)
              clear hK K
              refine wpAnyH_take (i := 9) (v := ?_) rfl (by kernel_rfl) (by kernel_rfl) (by kernel_rfl) (fun _ _ _ h => h) (Or.inl ⟨by rfl, ?_⟩) (by assumption) ?_
              rotate_left
              · intro w hSw; (try dsimp only at hSw); (try go_simp); all_goals (with_reducible rfl)
              try simp only [Act.put, List.setIfInBounds_toArray]
              refine wpAnyH_take (i := 10) (v := ?_) rfl (by kernel_rfl) (by kernel_rfl) (by kernel_rfl) (fun _ _ _ h => h) (Or.inl ⟨by rfl, ?_⟩) (by assumption) ?_
              rotate_left
              · intro w hSw; (try dsimp only at hSw); (try go_simp); all_goals (with_reducible rfl)
              try simp only [Act.put]
              refine wpAnyH_ready (rs := [13]) (by kernel_rfl) (by simp) ?_
              refine AllReadyH.cons rfl (fun K hK => ?_) AllReadyH.nil
              go_simp
              go_wp2_with (go_at_call 16; refine (HXt2.out w7).mono ?_; rintro e w8 ⟨rfl, hb8⟩; have hb78 := btr hb67 hb8; have hn8 := bcl hb8 hn7; have g0 := bcl hb78 d0; have g4 := bcl hb78 d4; have g5 := bcl hb78 d5)
              refine hK.out _ _ (⟨hn8, g0, g4, g5⟩) (fun hHeld => ?_)
              clear hK K
              refine wpAnyH_take (i := 14) (v := ?_) rfl (by kernel_rfl) (by kernel_rfl) (by kernel_rfl) (fun _ _ _ h => h) (Or.inl ⟨by rfl, ?_⟩) (by assumption) ?_
              rotate_left
              · intro w hSw; (try dsimp only at hSw); (try go_simp); all_goals (with_reducible rfl)
              try simp only [Act.put, List.setIfInBounds_toArray]
              refine wpAnyH_take (i := 15) (v := ?_) rfl (by kernel_rfl) (by kernel_rfl) (by kernel_rfl) (fun _ _ _ h => h) (Or.inl ⟨by rfl, ?_⟩) (by assumption) ?_
              rotate_left
              · intro w hSw; (try dsimp only at hSw); (try go_simp); all_goals (with_reducible rfl)
              try simp only [Act.put]
              refine wpAnyH_ready (rs := [18]) (by kernel_rfl) (by simp) ?_
              refine AllReadyH.cons rfl (fun K hK => ?_) AllReadyH.nil
              go_simp
              go_wp2_with (go_at_call 16; refine (HXm2.out w8).mono ?_; rintro e w9 ⟨rfl, hb9⟩; have hb89 := btr hb78 hb9; have hn9 := bcl hb9 hn8; have j0 := bcl hb89 d0; have j4 := bcl hb89 d4; have j5 := bcl hb89 d5)
              refine hK.out _ _ (⟨hn9, j0, j4, j5⟩) (fun hHeld => ?_)
              clear hK K
              refine wpAnyH_take (i := 19) (v := ?_) rfl (by kernel_rfl) (by kernel_rfl) (by kernel_rfl) (fun _ _ _ h => h) (Or.inl ⟨by rfl, ?_⟩) (by assumption) ?_
              rotate_left
              · intro w hSw; (try dsimp only at hSw); (try go_simp); all_goals (with_reducible rfl)
              try simp only [Act.put, List.setIfInBounds_toArray]
              refine wpAnyH_take (i := 20) (v := ?_) rfl (by kernel_rfl) (by kernel_rfl) (by kernel_rfl) (fun _ _ _ h => h) (Or.inl ⟨by rfl, ?_⟩) (by assumption) ?_
              rotate_left
              · intro w hSw; (try dsimp only at hSw); (try go_simp); all_goals (with_reducible rfl)
              try simp only [Act.put]
              refine wpAnyH_done (by kernel_rfl) ?_ _
              all_goals have HB9 : Below g w w9 := hb0.trans ((btr hbw1 hb89).mono hgs)
              by_cases hbig : 65536 < LL.length
              · have hRF2 : R = ([], 2) := by rw [HRF.out, if_pos hbig]
                have HR2 := Go.Lib.hid hRF2
                clear hRF2
                rw [hsum] at hbig
                go_wp2
                go_ret2
                exact ⟨by rw [HR2.out]; rfl, by first | exact HB9 | (rw [hg]; exact HB9)⟩
              · have hRF2 : R = (LL, 0) := by rw [HRF.out, if_neg hbig]
                have HR2 := Go.Lib.hid hRF2
                clear hRF2
                rw [hsum] at hbig
                go_wp2
                go_ret2
                exact ⟨by rw [HR2.out, HLINE.out]; rfl, by first | exact HB9 | (rw [hg]; exact HB9)⟩)
  · have hd : decide (0 ≤ k) = false := by simp; omega
    go_quiet (skip)
    generalize hW2 : W1.drewN nq = w2 at *
    have hb2 : Below W1.heap.size W1 w2 := by rw [← hW2]; exact bdr (Below.refl _ W1) nq
    clear hW2
    have d1 := bcl hb2 c1
    have d2 := bcl hb2 c2
    have d3 := bcl hb2 c3
    go_wp2
    have hT2 : ∀ W, Below W1.heap.size W1 W → Tabs W := fun W h => hT1.below h
    go_wp2_with fail
    have hb3 : Below W1.heap.size W1 (w2.alloc (.cells #[.int .i64 a, .int .i64 b, .int .i64 c] 3)) := hb2.alloc hb2.size _
    have hl3 := blk_cells (at_new w2 (.cells #[.int .i64 a, .int .i64 b, .int .i64 c] 3) _ rfl)
    have HL3 := Go.Lib.hid hl3
    clear hl3 d1 d2 d3
    generalize hw3 : w2.alloc (.cells #[.int .i64 a, .int .i64 b, .int .i64 c] 3) = W3 at *
    have hs3 : w2.heap.size < W3.heap.size := by rw [← hw3]; simp
    generalize w2.heap.size = g3 at *
    clear hw3
    go_loopw [4, 5, 7, 8, 28] (fun v4 v5 _ _ v28 wr => ∃ i : Nat, v28 = .int .i64 i ∧ i ≤ 3 ∧ v4 = .bool (false && allP ([a, b, c].take i)) ∧ wr.ownsRow W3.heap.size 9 1 v5 i (([a, b, c].take i).map strV) ∧ Below W3.heap.size W3 wr) (fun _ _ _ _ v28 _ => 3 - (intOf v28).toNat)
    case atStart => exact ⟨0, rfl, by omega, by simp [allP], own_nil W3 _ 9 1, Below.refl _ W3⟩
    case round =>
      obtain ⟨i, rfl, hi, rfl, hown, hbw⟩ := hrel
      have hbw1 := hb3.trans (hbw.mono hb3.size)
      by_cases hlt : i < 3
      · obtain ⟨n, ht3, hn3, habc⟩ := take3 a b c i hlt
        have hn := bcl hbw ((HL3.out i).trans hn3)
        have hn0 : -9223372036854775808 ≤ n := by omega
        have hn1 : n ≤ 9223372036854775807 := by omega
        have HT3 := Go.Lib.hid ht3
        clear ht3 hn3 habc
        generalize hF : (false && allP ([a, b, c].take i)) = F at *
        have HF := Go.Lib.hid hF
        clear hF
        go_wp2_with fail
        refine (itoa14 n hn0 hn1 wr (hT2 wr hbw1)).mono ?_
        rintro e w4 ⟨rfl, hb4⟩
        have hbw4 := hbw.trans (hb4.mono hbw.size)
        have hown4 := own_below hown hb4
        clear hown hn
        have hni : n ≠ -1 → mkS (Lib.itoa n) = mkS (numL n) := fun h => by rw [numL, if_neg h]
        have hn45 : n = -1 → mkS [45] = mkS (numL n) := fun h => by rw [numL, if_pos h]
        have hap : (false && allP ([a, b, c].take (i + 1))) = (F && inP n) := by rw [HT3.out, ← HF.out]; simp [allP]
        have HAP := Go.Lib.hid hap
        clear hap
        have hcase : n = -1 ∨ n < -1 ∨ (n ≠ -1 ∧ -1 < n ∧ n ≤ 99999) ∨ (n ≠ -1 ∧ -1 < n ∧ 99999 < n) := by omega
        have HNI := Go.Lib.hid hni
        have HN45 := Go.Lib.hid hn45
        have HOWN := Go.Lib.hid hown4
        clear hni hn45 hown4 HF
        rcases hcase with rfl | hx | ⟨hx, hy, hz⟩ | ⟨hx, hy, hz⟩
        all_goals cases F
        all_goals go_wp2_with (at_builtin; refine step_append rfl W3.heap.size (.tmp 45) (.tmp 47) 43 9 (.string ByteArray.empty) 1 16 rfl Tryd.underlying43 Tryd.info9 rfl (by decide) (by decide) u5 i _ _ _ rfl rfl rfl rfl (oneStr _) HOWN.out hbw4 hbw4.size (by omega) ?_; intro v1 w5 hown5 hb5)
        all_goals have HOWN5 := Go.Lib.hid hown5
        all_goals clear hown5
        all_goals go_roundw
        all_goals first
          | (case measure => simp [intOf]; omega)
          | (case rel =>
              refine ⟨i + 1, by go_num, by omega, ?_, ?_, hb5⟩
              · rw [HAP.out]
                simp [inP]
                try omega
              · rw [HT3.out, List.map_append]
                have h5 := HOWN5.out
                first
                  | (have e := HNI.out (by omega); rw [e] at h5; exact h5)
                  | exact h5)
      · obtain rfl : i = 3 := by omega
        obtain ⟨oa, cp, rfl⟩ := own_slice hown
        have d0 := bcl hbw1 c0
        have d4 := bcl hbw1 c4
        have d5 := bcl hbw1 c5
        rw [show [a, b, c].take 3 = [a, b, c] from rfl] at hown ⊢
        have HOWN := Go.Lib.hid hown
        clear hown
        have hRF : R = ([], 4) := by rw [HR.out, printL, if_pos (by omega)]
        go_wp2
        go_ret2
        exact ⟨by first | rfl | (rw [hRF]; rfl), by first | exact hb0.trans (hbw1.mono hgs) | (rw [hg]; exact hb0.trans (hbw1.mono hgs))⟩
end Go.Proofs.YtghhidaihajdmaaDoor
/- The reference's print of an act. Printed by genS5.py. -/
namespace Go.Proofs.YtghhidaihajdmaaDoor
open Go.RowKit
theorem place17p (n : Int) (h0 : -9223372036854775808 ≤ n) (h1 : n ≤ 9223372036854775807) (w : World) : Calls Tryd.prog 17 #[.int .i64 n] w fun e w' => e = .returned (.tuple #[.string (if inP n then mkS (numL n) else ⟨#[]⟩), .bool (inP n)]) ∧ Below w.heap.size w w' := by
  have h := place17 n h0 h1 w
  have e : decide (-1 ≤ n ∧ n ≤ 99999) = inP n := by unfold inP; simp
  refine h.mono ?_
  rintro e w' ⟨rfl, hb⟩
  refine ⟨?_, hb⟩
  rw [e]
  by_cases hp : -1 ≤ n ∧ n ≤ 99999
  · rw [if_pos hp, if_pos (by rw [← e]; exact decide_eq_true hp)]
  · rw [if_neg hp, if_neg (by rw [← e]; simp only [hp]; decide)]
set_option maxRecDepth 100000 in
set_option maxHeartbeats 8000000 in
theorem print7 (k a b c : Int) (t m : ByteArray) (w : World) (hk0 : -9223372036854775808 ≤ k) (hk1 : k ≤ 9223372036854775807) (ha0 : -9223372036854775808 ≤ a) (ha1 : a ≤ 9223372036854775807) (hq0 : -9223372036854775808 ≤ b) (hq1 : b ≤ 9223372036854775807) (hc0 : -9223372036854775808 ≤ c) (hc1 : c ≤ 9223372036854775807) : Calls Tryd.prog 7 #[.agg #[.int .i64 k, .int .i64 a, .int .i64 b, .int .i64 c, .string t, .string m]] w fun e w' => e = .returned (.tuple #[.string (mkS (printL k a b c t.data.toList m.data.toList).1), .int .i64 (printL k a b c t.data.toList m.data.toList).2]) ∧ Below w.heap.size w w' := by
  have hb0 : Below w.heap.size w (w.alloc (.cells #[.int .i64 k, .int .i64 a, .int .i64 b, .int .i64 c, .string t, .string m] 23)) := (Below.refl _ w).alloc (Nat.le_refl _) _
  have hcs := blk_cells (at_new w (.cells #[.int .i64 k, .int .i64 a, .int .i64 b, .int .i64 c, .string t, .string m] 23) _ rfl)
  have c0 : (w.alloc (.cells #[.int .i64 k, .int .i64 a, .int .i64 b, .int .i64 c, .string t, .string m] 23)).cell? ⟨w.heap.size, 0, none⟩ = some (.int .i64 k) := hcs 0
  have c1 : (w.alloc (.cells #[.int .i64 k, .int .i64 a, .int .i64 b, .int .i64 c, .string t, .string m] 23)).cell? ⟨w.heap.size, 1, none⟩ = some (.int .i64 a) := hcs 1
  have c2 : (w.alloc (.cells #[.int .i64 k, .int .i64 a, .int .i64 b, .int .i64 c, .string t, .string m] 23)).cell? ⟨w.heap.size, 2, none⟩ = some (.int .i64 b) := hcs 2
  have c3 : (w.alloc (.cells #[.int .i64 k, .int .i64 a, .int .i64 b, .int .i64 c, .string t, .string m] 23)).cell? ⟨w.heap.size, 3, none⟩ = some (.int .i64 c) := hcs 3
  have c4 : (w.alloc (.cells #[.int .i64 k, .int .i64 a, .int .i64 b, .int .i64 c, .string t, .string m] 23)).cell? ⟨w.heap.size, 4, none⟩ = some (.string t) := hcs 4
  have c5 : (w.alloc (.cells #[.int .i64 k, .int .i64 a, .int .i64 b, .int .i64 c, .string t, .string m] 23)).cell? ⟨w.heap.size, 5, none⟩ = some (.string m) := hcs 5
  clear hcs
  obtain ⟨R, hR⟩ : ∃ R, R = printL k a b c t.data.toList m.data.toList := ⟨_, rfl⟩
  rw [← hR]
  have HR := Go.Lib.hid hR
  clear hR
  obtain ⟨sa, hsa⟩ : ∃ s : ByteArray, s = if inP a then mkS (numL a) else ⟨#[]⟩ := ⟨_, rfl⟩
  obtain ⟨pa, hpa⟩ : ∃ p, p = inP a := ⟨_, rfl⟩
  have P1 : ∀ W, Calls Tryd.prog 17 #[.int .i64 a] W fun e w' => e = .returned (.tuple #[.string sa, .bool pa]) ∧ Below W.heap.size W w' := fun W => by rw [hsa, hpa]; exact place17p a ha0 ha1 W
  obtain ⟨sb, hsb⟩ : ∃ s : ByteArray, s = if inP b then mkS (numL b) else ⟨#[]⟩ := ⟨_, rfl⟩
  obtain ⟨pb, hpb⟩ : ∃ p, p = inP b := ⟨_, rfl⟩
  have P2 : ∀ W, Calls Tryd.prog 17 #[.int .i64 b] W fun e w' => e = .returned (.tuple #[.string sb, .bool pb]) ∧ Below W.heap.size W w' := fun W => by rw [hsb, hpb]; exact place17p b hq0 hq1 W
  obtain ⟨sc, hsc⟩ : ∃ s : ByteArray, s = if inP c then mkS (numL c) else ⟨#[]⟩ := ⟨_, rfl⟩
  obtain ⟨pc, hpc⟩ : ∃ p, p = inP c := ⟨_, rfl⟩
  have P3 : ∀ W, Calls Tryd.prog 17 #[.int .i64 c] W fun e w' => e = .returned (.tuple #[.string sc, .bool pc]) ∧ Below W.heap.size W w' := fun W => by rw [hsc, hpc]; exact place17p c hc0 hc1 W
  have hgs := hb0.size
  have hcase : (k < 0 ∨ (0 ≤ k ∧ 11 < k) ∨ (0 ≤ k ∧ k ≤ 11 ∧ inP a = false) ∨ (0 ≤ k ∧ k ≤ 11 ∧ inP a = true ∧ inP b = false) ∨ (0 ≤ k ∧ k ≤ 11 ∧ inP a = true ∧ inP b = true ∧ inP c = false)) ∨ (0 ≤ k ∧ k ≤ 11 ∧ inP a = true ∧ inP b = true ∧ inP c = true) := by
    cases inP a <;> cases inP b <;> cases inP c <;> simp <;> omega
  rcases hcase with hbad | ⟨hk, hk11, hia, hib, hic⟩
  · have hRF : R = ([], 4) := by
      rw [HR.out, printL, if_pos]
      intro h
      have h3 := h.2.2
      simp [allP] at h3
      rcases hbad with hx | ⟨_, hx⟩ | ⟨_, _, hx⟩ | ⟨_, _, _, hx⟩ | ⟨_, _, _, _, hx⟩
      · omega
      · omega
      · rw [hx] at h3; simp at h3
      · rw [hx] at h3; simp at h3
      · rw [hx] at h3; simp at h3
    have HRF := Go.Lib.hid hRF
    clear hRF
    rw [← hpa, ← hpb, ← hpc] at hbad
    clear hpa hpb hpc hsa hsb hsc
    rcases hbad with hx | ⟨hk, hx⟩ | ⟨hk, hk11, hx⟩ | ⟨hk, hk11, hia, hx⟩ | ⟨hk, hk11, hia, hib, hx⟩
    all_goals
      go_enter Tryd.func7, Tryd.ntmps7
      go_wp2_with fail
      generalize w.alloc (.cells #[.int .i64 k, .int .i64 a, .int .i64 b, .int .i64 c, .string t, .string m] 23) = W1 at *
      generalize hg : w.heap.size = g at *
      refine (P1 _).mono ?_
      rintro e w2 ⟨rfl, hb2⟩
      have d2 := bcl hb2 c2
      go_wp2_with fail
      refine (P2 _).mono ?_
      rintro e w3 ⟨rfl, hb3⟩
      have hb13 := btr hb2 hb3
      have d3 := bcl hb13 c3
      go_wp2_with fail
      refine (P3 _).mono ?_
      rintro e wr ⟨rfl, hb4⟩
      have hbw1 := btr hb13 hb4
      have d0 := bcl hbw1 c0
      have d4 := bcl hbw1 c4
      have d5 := bcl hbw1 c5
      have HB := hb0.trans (hbw1.mono hgs)
      clear P1 P2 P3 hb2 hb3 hb4 hb13 d2 d3 c0 c1 c2 c3 c4 c5
      go_wp2_with fail
      all_goals go_wp2
      all_goals go_ret2
      all_goals exact ⟨by rw [HRF.out]; rfl, by first | exact HB | (rw [hg]; exact HB)⟩
  · obtain ⟨K, rfl⟩ : ∃ K : Nat, k = K := ⟨k.toNat, by omega⟩
    rw [if_pos hia] at hsa
    rw [if_pos hib] at hsb
    rw [if_pos hic] at hsc
    rw [hia] at hpa
    rw [hib] at hpb
    rw [hic] at hpc
    subst hpa hpb hpc
    have HSA := Go.Lib.hid hsa
    have HSB := Go.Lib.hid hsb
    have HSC := Go.Lib.hid hsc
    clear hsa hsb hsc
    have hall : allP [a, b, c] = true := by simp [allP, hia, hib, hic]
    by_cases hlen : 65536 < t.size ∨ 65536 < m.size
    · have hRF : R = ([], 2) := by rw [HR.out, printL, if_neg (by simp [hk, hall]; omega), if_pos (by rw [dlen, dlen]; exact hlen)]
      have HRF := Go.Lib.hid hRF
      clear hRF
      have hx : 65536 < t.size ∨ (¬ 65536 < t.size ∧ 65536 < m.size) := by omega
      rcases hx with hx | ⟨hx, hy⟩
      all_goals
        go_enter Tryd.func7, Tryd.ntmps7
        go_wp2_with fail
        generalize w.alloc (.cells #[.int .i64 K, .int .i64 a, .int .i64 b, .int .i64 c, .string t, .string m] 23) = W1 at *
        generalize hg : w.heap.size = g at *
        refine (P1 _).mono ?_
        rintro e w2 ⟨rfl, hb2⟩
        have d2 := bcl hb2 c2
        go_wp2_with fail
        refine (P2 _).mono ?_
        rintro e w3 ⟨rfl, hb3⟩
        have hb13 := btr hb2 hb3
        have d3 := bcl hb13 c3
        go_wp2_with fail
        refine (P3 _).mono ?_
        rintro e wr ⟨rfl, hb4⟩
        have hbw1 := btr hb13 hb4
        have d0 := bcl hbw1 c0
        have d4 := bcl hbw1 c4
        have d5 := bcl hbw1 c5
        have HB := hb0.trans (hbw1.mono hgs)
        clear P1 P2 P3 hb2 hb3 hb4 hb13 d2 d3 c0 c1 c2 c3 c4 c5
        go_wp2_with fail
        all_goals go_wp2
        all_goals go_ret2
        all_goals exact ⟨by rw [HRF.out]; rfl, by first | exact HB | (rw [hg]; exact HB)⟩
    · have hx : ¬ 65536 < t.size := by omega
      have hy : ¬ 65536 < m.size := by omega
      go_enter Tryd.func7, Tryd.ntmps7
      go_wp2_with fail
      generalize w.alloc (.cells #[.int .i64 K, .int .i64 a, .int .i64 b, .int .i64 c, .string t, .string m] 23) = W1 at *
      generalize hg : w.heap.size = g at *
      refine (P1 _).mono ?_
      rintro e w2 ⟨rfl, hb2⟩
      have d2 := bcl hb2 c2
      go_wp2_with fail
      refine (P2 _).mono ?_
      rintro e w3 ⟨rfl, hb3⟩
      have hb13 := btr hb2 hb3
      have d3 := bcl hb13 c3
      go_wp2_with fail
      refine (P3 _).mono ?_
      rintro e wr ⟨rfl, hb4⟩
      have hbw1 := btr hb13 hb4
      have d0 := bcl hbw1 c0
      have d4 := bcl hbw1 c4
      have d5 := bcl hbw1 c5
      have HB := hb0.trans (hbw1.mono hgs)
      clear P1 P2 P3 hb2 hb3 hb4 hb13 d2 d3 c0 c1 c2 c3 c4 c5
      go_wp2_with fail
      have hK : K < 12 := by omega
      have hk12 : (K : Int) < 12 := by omega
      have hwd0 : Below wr.heap.size wr wr.drew := bdr (Below.refl _ wr) 1
      have hza : sa.size ≤ 6 := by rw [HSA.out]; exact numL_len a hia
      have hzb : sb.size ≤ 6 := by rw [HSB.out]; exact numL_len b hib
      have hzc : sc.size ≤ 6 := by rw [HSC.out]; exact numL_len c hic
      have HXt := fun W => digits19 t W (by omega)
      have HXm := fun W => digits19 m W (by omega)
      have N18 := names18 wr.drew
      have hline : mkS (lineL K a b c t.data.toList m.data.toList) = ⟨#[97, 99, 116, 32]⟩ ++ mkS (actNames.getD K []) ++ ⟨#[32]⟩ ++ sa ++ ⟨#[32]⟩ ++ sb ++ ⟨#[32]⟩ ++ sc ++ ⟨#[32, 61]⟩ ++ mkS (hexL t.data.toList) ++ ⟨#[32, 61]⟩ ++ mkS (hexL m.data.toList) := by
        rw [HSA.out, HSB.out, HSC.out]
        apply ByteArray.ext
        simp [mkS, lineL]
      have hsum : (lineL K a b c t.data.toList m.data.toList).length = 4 + (mkS (actNames.getD K [])).size + 1 + sa.size + 1 + sb.size + 1 + sc.size + 2 + (mkS (hexL t.data.toList)).size + 2 + (mkS (hexL m.data.toList)).size := by
        rw [HSA.out, HSB.out, HSC.out]
        simp [mkS_size, lineL]
        omega
      have hz1 : (mkS (actNames.getD K [])).size ≤ 6 := act_len K hK
      have hz3 : (mkS (hexL t.data.toList)).size ≤ 131072 := by rw [mkS_size, hexL_len, dlen]; omega
      have hz4 : (mkS (hexL m.data.toList)).size ≤ 131072 := by rw [mkS_size, hexL_len, dlen]; omega
      have hRF : R = if 65536 < (lineL K a b c t.data.toList m.data.toList).length then ([], 2) else (lineL K a b c t.data.toList m.data.toList, 0) := by
        rw [HR.out, printL, if_neg (by simp [hall]; omega), if_neg (by rw [dlen, dlen]; exact hlen)]
        rfl
      have hact : ∀ W, W = wr.drew.alloc (.cells (strs actNames) 9) → W.cell? ⟨wr.heap.size, K, none⟩ = some (.string (mkS (actNames.getD K []))) := fun W h => by rw [h]; exact act_at wr.drew K hK
      have HACT := Go.Lib.hid hact
      generalize lineL K a b c t.data.toList m.data.toList = LL at *
      generalize mkS (actNames.getD K []) = nm at *
      generalize mkS (hexL t.data.toList) = X at *
      generalize mkS (hexL m.data.toList) = Y at *
      have q1 : ¬ 9223372036854775807 < 4 + nm.size := by omega
      have q2 : ¬ 9223372036854775807 < 4 + nm.size + 1 := by omega
      have q3 : ¬ 9223372036854775807 < 4 + nm.size + 1 + sa.size := by omega
      have q4 : ¬ 9223372036854775807 < 4 + nm.size + 1 + sa.size + 1 := by omega
      have q5 : ¬ 9223372036854775807 < 4 + nm.size + 1 + sa.size + 1 + sb.size := by omega
      have q6 : ¬ 9223372036854775807 < 4 + nm.size + 1 + sa.size + 1 + sb.size + 1 := by omega
      have q7 : ¬ 9223372036854775807 < 4 + nm.size + 1 + sa.size + 1 + sb.size + 1 + sc.size := by omega
      have q8 : ¬ 9223372036854775807 < 4 + nm.size + 1 + sa.size + 1 + sb.size + 1 + sc.size + 2 := by omega
      have q9 : ¬ 9223372036854775807 < 4 + nm.size + 1 + sa.size + 1 + sb.size + 1 + sc.size + 2 + X.size := by omega
      have q10 : ¬ 9223372036854775807 < 4 + nm.size + 1 + sa.size + 1 + sb.size + 1 + sc.size + 2 + X.size + 2 := by omega
      have q11 : ¬ 9223372036854775807 < 4 + nm.size + 1 + sa.size + 1 + sb.size + 1 + sc.size + 2 + X.size + 2 + Y.size := by omega
      have HRF := Go.Lib.hid hRF
      have HLINE := Go.Lib.hid hline
      have HXt2 := Go.Lib.hid HXt
      have HXm2 := Go.Lib.hid HXm
      clear hRF hline HXt HXm hact hia hib hic hall hlen HR
      have i0 : wr.drew.cell? ⟨g, 0, none⟩ = some (.int .i64 K) := d0
      have i4 : wr.drew.cell? ⟨g, 4, none⟩ = some (.string t) := d4
      have i5 : wr.drew.cell? ⟨g, 5, none⟩ = some (.string m) := d5
      refine wp_region_held_drew (S := (fun W => W.cell? ⟨g, 0, none⟩ = some (.int .i64 K) ∧ W.cell? ⟨g, 4, none⟩ = some (.string t) ∧ W.cell? ⟨g, 5, none⟩ = some (.string m))) (by kernel_rfl) ⟨i0, i4, i5⟩ (fun hHeld => ?_)
      refine wpAnyH_take (i := 1) (v := ?_) rfl (by kernel_rfl) (by kernel_rfl) (by kernel_rfl) (fun _ _ _ h => h) (Or.inl ⟨by rfl, ?_⟩) (by assumption) ?_
      rotate_left
      · intro w hSw; (try dsimp only at hSw); (try go_simp); all_goals (with_reducible rfl)
      try simp only [Act.put, List.setIfInBounds_toArray]
      refine wpAnyH_take (i := 2) (v := ?_) rfl (by kernel_rfl) (by kernel_rfl) (by kernel_rfl) (fun _ _ _ h => h) (Or.inl ⟨by rfl, ?_⟩) (by assumption) ?_
      rotate_left
      · intro w hSw; (try dsimp only at hSw); (try go_simp); all_goals (with_reducible rfl)
      try simp only [Act.put]
      refine wpAnyH_take (i := 7) (v := ?_) rfl (by kernel_rfl) (by kernel_rfl) (by kernel_rfl) (fun _ _ _ h => h) (Or.inl ⟨by rfl, ?_⟩) (by assumption) ?_
      rotate_left
      · intro w hSw; (try dsimp only at hSw); (try go_simp); all_goals (with_reducible rfl)
      try simp only [Act.put]
      refine wpAnyH_take (i := 10) (v := ?_) rfl (by kernel_rfl) (by kernel_rfl) (by kernel_rfl) (fun _ _ _ h => h) (Or.inl ⟨by rfl, ?_⟩) (by assumption) ?_
      rotate_left
      · intro w hSw; (try dsimp only at hSw); (try go_simp); all_goals (with_reducible rfl)
      try simp only [Act.put]
      refine wpAnyH_take (i := 13) (v := ?_) rfl (by kernel_rfl) (by kernel_rfl) (by kernel_rfl) (fun _ _ _ h => h) (Or.inl ⟨by rfl, ?_⟩) (by assumption) ?_
      rotate_left
      · intro w hSw; (try dsimp only at hSw); (try go_simp); all_goals (with_reducible rfl)
      try simp only [Act.put]
      refine wpAnyH_take (i := 16) (v := ?_) rfl (by kernel_rfl) (by kernel_rfl) (by kernel_rfl) (fun _ _ _ h => h) (Or.inl ⟨by rfl, ?_⟩) (by assumption) ?_
      rotate_left
      · intro w hSw; (try dsimp only at hSw); (try go_simp); all_goals (with_reducible rfl)
      try simp only [Act.put]
      refine wpAnyH_take (i := 17) (v := ?_) rfl (by kernel_rfl) (by kernel_rfl) (by kernel_rfl) (fun _ _ _ h => h) (Or.inl ⟨by rfl, ?_⟩) (by assumption) ?_
      rotate_left
      · intro w hSw; (try dsimp only at hSw); (try go_simp); all_goals (with_reducible rfl)
      try simp only [Act.put]
      refine wpAnyH_take (i := 21) (v := ?_) rfl (by kernel_rfl) (by kernel_rfl) (by kernel_rfl) (fun _ _ _ h => h) (Or.inl ⟨by rfl, ?_⟩) (by assumption) ?_
      rotate_left
      · intro w hSw; (try dsimp only at hSw); (try go_simp); all_goals (with_reducible rfl)
      try simp only [Act.put]
      refine wpAnyH_take (i := 22) (v := ?_) rfl (by kernel_rfl) (by kernel_rfl) (by kernel_rfl) (fun _ _ _ h => h) (Or.inl ⟨by rfl, ?_⟩) (by assumption) ?_
      rotate_left
      · intro w hSw; (try dsimp only at hSw); (try go_simp); all_goals (with_reducible rfl)
      try simp only [Act.put]
      refine wpAnyH_ready (rs := [0]) (by kernel_rfl) (by simp) ?_
      refine AllReadyH.cons rfl (fun K hK => ?_) AllReadyH.nil
      go_simp
      go_wp2_with (go_at_call 18; refine N18.mono ?_; rintro e w6 ⟨rfl, hw6⟩; have hb6 : Below wr.heap.size wr w6 := (by rw [hw6]; exact hwd0.alloc (Nat.le_refl _) _); have hn6 := HACT.out w6 hw6; clear hw6; have e0 := bcl hb6 d0; have e4 := bcl hb6 d4; have e5 := bcl hb6 d5)
      refine hK.out _ _ (⟨e0, e4, e5⟩) (fun hHeld => ?_)
      clear hK K
      refine wpAnyH_mono (S' := (fun W => W.cell? ⟨wr.heap.size, K, none⟩ = some (.string nm) ∧ W.cell? ⟨g, 0, none⟩ = some (.int .i64 K) ∧ W.cell? ⟨g, 4, none⟩ = some (.string t) ∧ W.cell? ⟨g, 5, none⟩ = some (.string m))) (fun W h => h.2) ?_
      have hHeld1 : (fun W => W.cell? ⟨wr.heap.size, K, none⟩ = some (.string nm) ∧ W.cell? ⟨g, 0, none⟩ = some (.int .i64 K) ∧ W.cell? ⟨g, 4, none⟩ = some (.string t) ∧ W.cell? ⟨g, 5, none⟩ = some (.string m)) w6 := ⟨hn6, e0, e4, e5⟩
      clear hHeld
      refine wpAnyH_take (i := 3) (v := ?_) rfl (by kernel_rfl) (by kernel_rfl) (by kernel_rfl) (fun _ _ _ h => h) (Or.inl ⟨by rfl, ?_⟩) (by assumption) ?_
      rotate_left
      · intro w hSw; (try dsimp only at hSw); (try go_simp); all_goals (with_reducible rfl)
      try simp only [Act.put, List.setIfInBounds_toArray]
      refine wpAnyH_take (i := 4) (v := ?_) rfl (by kernel_rfl) (by kernel_rfl) (by kernel_rfl) (fun _ _ _ h => h) (Or.inl ⟨by rfl, ?_⟩) (by assumption) ?_
      rotate_left
      · intro w hSw; (try dsimp only at hSw); (try go_simp); all_goals (with_reducible rfl)
      try simp only [Act.put]
      refine wpAnyH_take (i := 5) (v := ?_) rfl (by kernel_rfl) (by kernel_rfl) (by kernel_rfl) (fun _ _ _ h => h) (Or.inl ⟨by rfl, ?_⟩) (by assumption) ?_
      rotate_left
      · intro w hSw; (try dsimp only at hSw); (try go_simp); all_goals (with_reducible rfl)
      try simp only [Act.put]
      refine wpAnyH_take (i := 6) (v := ?_) rfl (by kernel_rfl) (by kernel_rfl) (by kernel_rfl) (fun _ _ _ h => h) (Or.inl ⟨by rfl, ?_⟩) (by assumption) ?_
      rotate_left
      · intro w hSw; (try dsimp only at hSw); (try go_simp); all_goals (with_reducible rfl)
      try simp only [Act.put]
      refine wpAnyH_take (i := 8) (v := ?_) rfl (by kernel_rfl) (by kernel_rfl) (by kernel_rfl) (fun _ _ _ h => h) (Or.inl ⟨by rfl, ?_⟩) (by assumption) ?_
      rotate_left
      · intro w hSw; (try dsimp only at hSw); (try go_simp); all_goals (with_reducible rfl)
      try simp only [Act.put]
      refine wpAnyH_take (i := 9) (v := ?_) rfl (by kernel_rfl) (by kernel_rfl) (by kernel_rfl) (fun _ _ _ h => h) (Or.inl ⟨by rfl, ?_⟩) (by assumption) ?_
      rotate_left
      · intro w hSw; (try dsimp only at hSw); (try go_simp); all_goals (with_reducible rfl)
      try simp only [Act.put]
      refine wpAnyH_take (i := 11) (v := ?_) rfl (by kernel_rfl) (by kernel_rfl) (by kernel_rfl) (fun _ _ _ h => h) (Or.inl ⟨by rfl, ?_⟩) (by assumption) ?_
      rotate_left
      · intro w hSw; (try dsimp only at hSw); (try go_simp); all_goals (with_reducible rfl)
      try simp only [Act.put]
      refine wpAnyH_take (i := 12) (v := ?_) rfl (by kernel_rfl) (by kernel_rfl) (by kernel_rfl) (fun _ _ _ h => h) (Or.inl ⟨by rfl, ?_⟩) (by assumption) ?_
      rotate_left
      · intro w hSw; (try dsimp only at hSw); (try go_simp); all_goals (with_reducible rfl)
      try simp only [Act.put]
      refine wpAnyH_take (i := 14) (v := ?_) rfl (by kernel_rfl) (by kernel_rfl) (by kernel_rfl) (fun _ _ _ h => h) (Or.inl ⟨by rfl, ?_⟩) (by assumption) ?_
      rotate_left
      · intro w hSw; (try dsimp only at hSw); (try go_simp); all_goals (with_reducible rfl)
      try simp only [Act.put]
      refine wpAnyH_take (i := 15) (v := ?_) rfl (by kernel_rfl) (by kernel_rfl) (by kernel_rfl) (fun _ _ _ h => h) (Or.inl ⟨by rfl, ?_⟩) (by assumption) ?_
      rotate_left
      · intro w hSw; (try dsimp only at hSw); (try go_simp); all_goals (with_reducible rfl)
      try simp only [Act.put]
      refine wpAnyH_ready (rs := [18]) (by kernel_rfl) (by simp) ?_
      refine AllReadyH.cons rfl (fun K hK => ?_) AllReadyH.nil
      go_simp
      go_wp2_with (go_at_call 19; refine (HXt2.out w6).mono ?_; rintro e w7 ⟨rfl, hb7⟩; have hb67 := btr hb6 hb7; have hn7 := bcl hb7 hn6; have f0 := bcl hb67 d0; have f4 := bcl hb67 d4; have f5 := bcl hb67 d5)
      refine hK.out _ _ (⟨hn7, f0, f4, f5⟩) (fun hHeld => ?_)
      clear hK K
      refine wpAnyH_take (i := 19) (v := ?_) rfl (by kernel_rfl) (by kernel_rfl) (by kernel_rfl) (fun _ _ _ h => h) (Or.inl ⟨by rfl, ?_⟩) (by assumption) ?_
      rotate_left
      · intro w hSw; (try dsimp only at hSw); (try go_simp); all_goals (with_reducible rfl)
      try simp only [Act.put, List.setIfInBounds_toArray]
      refine wpAnyH_take (i := 20) (v := ?_) rfl (by kernel_rfl) (by kernel_rfl) (by kernel_rfl) (fun _ _ _ h => h) (Or.inl ⟨by rfl, ?_⟩) (by assumption) ?_
      rotate_left
      · intro w hSw; (try dsimp only at hSw); (try go_simp); all_goals (with_reducible rfl)
      try simp only [Act.put]
      refine wpAnyH_ready (rs := [23]) (by kernel_rfl) (by simp) ?_
      refine AllReadyH.cons rfl (fun K hK => ?_) AllReadyH.nil
      go_simp
      go_wp2_with (go_at_call 19; refine (HXm2.out w7).mono ?_; rintro e w8 ⟨rfl, hb8⟩; have hb78 := btr hb67 hb8; have hn8 := bcl hb8 hn7; have g0 := bcl hb78 d0; have g4 := bcl hb78 d4; have g5 := bcl hb78 d5)
      refine hK.out _ _ (⟨hn8, g0, g4, g5⟩) (fun hHeld => ?_)
      clear hK K
      refine wpAnyH_take (i := 24) (v := ?_) rfl (by kernel_rfl) (by kernel_rfl) (by kernel_rfl) (fun _ _ _ h => h) (Or.inl ⟨by rfl, ?_⟩) (by assumption) ?_
      rotate_left
      · intro w hSw; (try dsimp only at hSw); (try go_simp); all_goals (with_reducible rfl)
      try simp only [Act.put, List.setIfInBounds_toArray]
      refine wpAnyH_take (i := 25) (v := ?_) rfl (by kernel_rfl) (by kernel_rfl) (by kernel_rfl) (fun _ _ _ h => h) (Or.inl ⟨by rfl, ?_⟩) (by assumption) ?_
      rotate_left
      · intro w hSw; (try dsimp only at hSw); (try go_simp); all_goals (with_reducible rfl)
      try simp only [Act.put]
      refine wpAnyH_done (by kernel_rfl) ?_ _
      have HB9 : Below g w w8 := hb0.trans ((btr hbw1 hb78).mono hgs)
      by_cases hbig : 65536 < LL.length
      · have hRF2 : R = ([], 2) := by rw [HRF.out, if_pos hbig]
        have HR2 := Go.Lib.hid hRF2
        clear hRF2
        rw [hsum] at hbig
        go_wp2
        go_ret2
        exact ⟨by rw [HR2.out]; rfl, by first | exact HB9 | (rw [hg]; exact HB9)⟩
      · have hRF2 : R = (LL, 0) := by rw [HRF.out, if_neg hbig]
        have HR2 := Go.Lib.hid hRF2
        clear hRF2
        rw [hsum] at hbig
        go_wp2
        go_ret2
        exact ⟨by rw [HR2.out, HLINE.out]; rfl, by first | exact HB9 | (rw [hg]; exact HB9)⟩
end Go.Proofs.YtghhidaihajdmaaDoor
/- Lemmas on strings as the walk spells them: comparisons, beginnings. -/
namespace Go.Proofs.YtghhidaihajdmaaDoor
open Go.RowKit

theorem tl (s : ByteArray) : s.toList = s.data.toList := ByteArray.toList_eq s
theorem tl_mkS (l : List UInt8) : (mkS l).toList = l := by rw [tl]; rfl
theorem extract_tl (s : ByteArray) (a b : Nat) : (s.extract a b).toList = (s.data.toList.drop a).take (b - a) := by
  rw [tl]
  simp [ByteArray.data_extract]
theorem take_beq (id p : List UInt8) (_h : p.length ≤ id.length) : (id.take p.length == p) = p.isPrefixOf id := by
  rw [Bool.eq_iff_iff, beq_iff_eq, List.isPrefixOf_iff_prefix, List.prefix_iff_eq_take]
  exact eq_comm
/-- The walk's 's[:n] == p'. -/
theorem cut_beq (s : ByteArray) (p : List UInt8) (n : Nat) (hn : n = p.length) (h : n ≤ s.size) : ((s.extract 0 n).toList == p) = p.isPrefixOf s.data.toList := by
  subst hn
  rw [extract_tl, List.drop_zero, Nat.sub_zero, take_beq _ _ (by rw [dlen]; exact h)]
theorem prefix_len {p l : List UInt8} (h : p.isPrefixOf l = true) : p.length ≤ l.length := (List.isPrefixOf_iff_prefix.1 h).length_le
theorem not_prefix {p l : List UInt8} (h : ¬ p.length ≤ l.length) : p.isPrefixOf l = false := by
  cases e : p.isPrefixOf l with
  | false => rfl
  | true => exact absurd (prefix_len e) h
end Go.Proofs.YtghhidaihajdmaaDoor
/- The law of acts as lines, walked. -/
namespace Go.Proofs.YtghhidaihajdmaaDoor
open Go.RowKit
theorem print_awake : printL 0 1 0 (-1) [] [] = ([97, 99, 116, 32, 97, 112, 112, 101, 110, 100, 32, 49, 32, 48, 32, 45, 32, 61, 32, 61], 0) := by
  simp [printL, lineL, allP, inP, numL, Lib.itoa, Lib.decDigits, hexL, actNames]
theorem awake8 (w : World) (hT : Tabs w) : Calls Tryd.prog 8 #[] w fun e w' => e = .returned (.bool true) ∧ Below w.heap.size w w' := by
  have P := fun (W : World) (h : Tabs W) => print6 0 1 0 (-1) ⟨#[]⟩ ⟨#[]⟩ W h (by decide) (by decide) (by decide) (by decide) (by decide) (by decide) (by decide) (by decide)
  rw [show (⟨#[]⟩ : ByteArray).data.toList = [] from rfl, print_awake] at P
  have htl := tl_mkS [97, 99, 116, 32, 97, 112, 112, 101, 110, 100, 32, 49, 32, 48, 32, 45, 32, 61, 32, 61]
  go_enter Tryd.func8, Tryd.ntmps8
  go_wp2_with fail
  refine (P w hT).mono ?_
  rintro e w1 ⟨rfl, hb1⟩
  go_wp2
  go_ret
  exact ⟨rfl, hb1⟩
theorem scriptPrints3 (k a b c : Int) (t m : ByteArray) (w : World) (hT : Tabs w) (hk0 : -9223372036854775808 ≤ k) (hk1 : k ≤ 9223372036854775807) (ha0 : -9223372036854775808 ≤ a) (ha1 : a ≤ 9223372036854775807) (hq0 : -9223372036854775808 ≤ b) (hq1 : b ≤ 9223372036854775807) (hc0 : -9223372036854775808 ≤ c) (hc1 : c ≤ 9223372036854775807) : Calls Tryd.prog 3 #[.agg #[.int .i64 k, .int .i64 a, .int .i64 b, .int .i64 c, .string t, .string m]] w fun e w' => e = .returned (.bool true) ∧ Below w.heap.size w w' := by
  have P := fun (W : World) (h : Tabs W) => print6 k a b c t m W h hk0 hk1 ha0 ha1 hq0 hq1 hc0 hc1
  have P' := fun (W : World) => print7 k a b c t m W hk0 hk1 ha0 ha1 hq0 hq1 hc0 hc1
  generalize (printL k a b c t.data.toList m.data.toList).1 = s at *
  generalize (printL k a b c t.data.toList m.data.toList).2 = n at *
  have hb0 : Below w.heap.size w (w.alloc (.cells #[.int .i64 k, .int .i64 a, .int .i64 b, .int .i64 c, .string t, .string m] 23)) := (Below.refl _ w).alloc (Nat.le_refl _) _
  have hT1 := hT.below hb0
  have hcs := blk_cells (at_new w (.cells #[.int .i64 k, .int .i64 a, .int .i64 b, .int .i64 c, .string t, .string m] 23) _ rfl)
  have c0 : (w.alloc (.cells #[.int .i64 k, .int .i64 a, .int .i64 b, .int .i64 c, .string t, .string m] 23)).cell? ⟨w.heap.size, 0, none⟩ = some (.int .i64 k) := hcs 0
  have c1 : (w.alloc (.cells #[.int .i64 k, .int .i64 a, .int .i64 b, .int .i64 c, .string t, .string m] 23)).cell? ⟨w.heap.size, 1, none⟩ = some (.int .i64 a) := hcs 1
  have c2 : (w.alloc (.cells #[.int .i64 k, .int .i64 a, .int .i64 b, .int .i64 c, .string t, .string m] 23)).cell? ⟨w.heap.size, 2, none⟩ = some (.int .i64 b) := hcs 2
  have c3 : (w.alloc (.cells #[.int .i64 k, .int .i64 a, .int .i64 b, .int .i64 c, .string t, .string m] 23)).cell? ⟨w.heap.size, 3, none⟩ = some (.int .i64 c) := hcs 3
  have c4 : (w.alloc (.cells #[.int .i64 k, .int .i64 a, .int .i64 b, .int .i64 c, .string t, .string m] 23)).cell? ⟨w.heap.size, 4, none⟩ = some (.string t) := hcs 4
  have c5 : (w.alloc (.cells #[.int .i64 k, .int .i64 a, .int .i64 b, .int .i64 c, .string t, .string m] 23)).cell? ⟨w.heap.size, 5, none⟩ = some (.string m) := hcs 5
  clear hcs
  have hgs := hb0.size
  go_enter Tryd.func3, Tryd.ntmps3
  go_wp2_with fail
  generalize (w.alloc (.cells #[.int .i64 k, .int .i64 a, .int .i64 b, .int .i64 c, .string t, .string m] 23)) = W1 at *
  generalize hg : w.heap.size = g at *
  refine (P W1 hT1).mono ?_
  rintro e w1 ⟨rfl, hb1⟩
  have d0 := bcl hb1 c0
  have d1 := bcl hb1 c1
  have d2 := bcl hb1 c2
  have d3 := bcl hb1 c3
  have d4 := bcl hb1 c4
  have d5 := bcl hb1 c5
  go_wp2_with fail
  refine (P' w1).mono ?_
  rintro e w2 ⟨rfl, hb2⟩
  have hb12 := btr hb1 hb2
  go_wp2_with fail
  refine (awake8 w2 (hT1.below hb12)).mono ?_
  rintro e w3 ⟨rfl, hb3⟩
  go_wp2
  go_ret
  exact ⟨rfl, by first | exact hb0.trans ((btr hb12 hb3).mono hgs) | (rw [hg]; exact hb0.trans ((btr hb12 hb3).mono hgs))⟩
end Go.Proofs.YtghhidaihajdmaaDoor
/- The printed texts, read again. -/
namespace Go.Proofs.YtghhidaihajdmaaDoor
open Go.RowKit
/-- The digit at place p. -/
def nib (b : UInt8) (p : Nat) : Nat := if p % 2 = 0 then b.toNat / 16 else b.toNat % 16
theorem nib_lt (b : UInt8) (p : Nat) : nib b p < 16 := by
  have := b.toNat_lt
  unfold nib
  split <;> omega
theorem hexL_at (l : List UInt8) : ∀ (p : Nat) (h : p / 2 < l.length), (hexL l)[p]? = some (digs.getD (nib l[p / 2] p) 0) := by
  induction l with
  | nil => intro p h; simp at h
  | cons b t ih =>
    intro p h
    rw [show hexL (b :: t) = digs.getD (b.toNat / 16) 0 :: digs.getD (b.toNat % 16) 0 :: hexL t from rfl]
    rcases p with _ | _ | p
    · rfl
    · rfl
    · have h2 : p / 2 < t.length := by simp at h; omega
      have e : (p + 2) / 2 = p / 2 + 1 := by omega
      rw [List.getElem?_cons_succ, List.getElem?_cons_succ, ih p h2]
      simp only [e, List.getElem_cons_succ]
      unfold nib
      rw [show (p + 1 + 1) % 2 = p % 2 by omega]
theorem dig_ascii (k : Nat) (h : k < 16) : (digs.getD k 0).toNat < 128 ∧ Lib.indexByte digs (digs.getD k 0) = (k : Int) := by
  rcases (show k = 0 ∨ k = 1 ∨ k = 2 ∨ k = 3 ∨ k = 4 ∨ k = 5 ∨ k = 6 ∨ k = 7 ∨ k = 8 ∨ k = 9 ∨ k = 10 ∨ k = 11 ∨ k = 12 ∨ k = 13 ∨ k = 14 ∨ k = 15 by omega) with rfl | rfl | rfl | rfl | rfl | rfl | rfl | rfl | rfl | rfl | rfl | rfl | rfl | rfl | rfl | rfl <;> decide
theorem join_fin : ∀ b : Fin 256, bits BinOp.or IntKind.i64 (wrap64 (((b.val : Nat) : Int) / 16 * 16)) ((b.val % 16 : Nat) : Int) % 256 = ((b.val : Nat) : Int) := by decide +kernel
theorem join_nib (n : Nat) (h : n < 256) : bits BinOp.or IntKind.i64 (wrap64 ((n : Int) / 16 * 16)) ((n % 16 : Nat) : Int) % 256 = (n : Int) := join_fin ⟨n, h⟩
theorem own_iterAt {w : World} {base e size n k pos : Nat} {v : Value} {xs : List Value} {s : ByteArray} (h : w.ownsRow base e size v n xs) (hk : k < base) : (w.iterAt k s pos).ownsRow base e size v n xs := by
  refine ⟨h.1, ?_⟩
  rcases h.2 with h' | ⟨g, cap, cur, hv, hb, hh, r⟩
  · exact .inl h'
  · exact .inr ⟨g, cap, cur, hv, hb, by simp only [World.iterAt]; rw [Array.getElem?_setIfInBounds_ne (by omega)]; exact hh, r⟩
/-- The half byte that is held at place p. -/
def halfAt (l : List UInt8) (p : Nat) : Int := if p % 2 = 0 then -1 else ((l.getD (p / 2) 0).toNat / 16 : Nat)
set_option maxRecDepth 100000 in
theorem text35 (t : ByteArray) (w : World) (hs : t.size ≤ 65536) : Calls Tryd.prog 35 #[.string (mkS (61 :: hexL t.data.toList))] w fun e w' => e = .returned (.tuple #[.string t, .bool true]) ∧ Below w.heap.size w w' := by
  have C := Tryd.strings_CutPrefix (mkS (61 :: hexL t.data.toList)) ⟨#[61]⟩ w
  rw [mkS_data, show (⟨#[61]⟩ : ByteArray).data.toList = [61] from rfl, show Lib.trimPrefix (61 :: hexL t.data.toList) [61] = hexL t.data.toList by simp [Lib.trimPrefix, Lib.hasPrefix], show Lib.hasPrefix (61 :: hexL t.data.toList) [61] = true by simp [Lib.hasPrefix]] at C
  obtain ⟨s, hS⟩ : ∃ s : ByteArray, s = ⟨(hexL t.data.toList).toArray⟩ := ⟨_, rfl⟩
  rw [← hS] at C
  have HS := Go.Lib.hid hS
  clear hS
  go_enter Tryd.func35, Tryd.ntmps35
  go_wp2_with fail
  refine C.mono ?_
  rintro e w1 ⟨rfl, rfl⟩
  go_wp2_with fail
  have hS := HS.out
  have hsz : s.size = 2 * t.size := by rw [hS]; show (hexL t.data.toList).length = _; rw [hexL_len, dlen]
  have hat : ∀ p (h : p < s.size) (hi : p / 2 < t.size), s[p] = digs.getD (nib t[p / 2] p) 0 := fun p h hi => by
    have h1 := hexL_at t.data.toList p (by rw [dlen]; exact hi)
    subst hS
    have h2 : (hexL t.data.toList)[p]? = some ((hexL t.data.toList)[p]'h) := List.getElem?_eq_getElem h
    rw [h1] at h2
    have h3 := Option.some.inj h2
    rw [show (t.data.toList[p / 2]'(by rw [dlen]; exact hi)) = t[p / 2] by rw [Array.getElem_toList]; rfl] at h3
    rw [h3]
    rfl
  have HAT := Go.Lib.hid hat
  clear hat hS C HS
  go_loopw [6, 7, 9, 10] (fun v6 v7 _ _ wr => ∃ p : Nat, wr.heap[w1.heap.size]? = some (.stringIter s p) ∧ p ≤ 2 * t.size ∧ v7 = .int .i64 (halfAt t.data.toList p) ∧ wr.ownsRow (w1.heap.size + 1) 5 1 v6 (p / 2) (u8s (t.data.toList.take (p / 2))) ∧ Below w1.heap.size w1 wr) (fun _ _ _ _ wr => s.size - wr.iterPos w1.heap.size)
  case atStart => exact ⟨0, World.iter_heap w1 s 0, by omega, rfl, own_nil _ _ 5 1, (Below.refl _ w1).alloc (Nat.le_refl _) _⟩
  case round =>
    obtain ⟨p, hit, hp, rfl, hown, hbw⟩ := hrel
    by_cases hlt : p < s.size
    · have hi : p / 2 < t.size := by omega
      have hb := HAT.out p hlt hi
      have hk := nib_lt t[p / 2] p
      obtain ⟨ha, hix⟩ := dig_ascii _ hk
      have hnx : ∀ ty, (Instr.next (.pointer (some ⟨w1.heap.size, 0, none⟩)) true ty).run Tryd.prog wr = _ := fun ty => Lib.run_next_ascii_at wr w1.heap.size s p ty hit hlt (by rw [hb]; exact ha)
      simp only [hb] at hnx
      have I46 : ∀ W, Calls Tryd.prog 46 #[.string ⟨#[48, 49, 50, 51, 52, 53, 54, 55, 56, 57, 97, 98, 99, 100, 101, 102]⟩, .int .u8 (digs.getD (nib t[p / 2] p) 0).toNat] W fun e w' => e = .returned (.int .i64 (nib t[p / 2] p)) ∧ w' = W := fun W => by
        have h := Tryd.strings_IndexByte ⟨#[48, 49, 50, 51, 52, 53, 54, 55, 56, 57, 97, 98, 99, 100, 101, 102]⟩ (digs.getD (nib t[p / 2] p) 0).toNat W
        rw [show ((((digs.getD (nib t[p / 2] p) 0).toNat : Nat) : Int).toNat.toUInt8) = digs.getD (nib t[p / 2] p) 0 by simp, show (⟨#[48, 49, 50, 51, 52, 53, 54, 55, 56, 57, 97, 98, 99, 100, 101, 102]⟩ : ByteArray).data.toList = digs from rfl, hix] at h
        exact h
      obtain ⟨q, hq⟩ : ∃ q, q = nib t[p / 2] p := ⟨_, rfl⟩
      rw [← hq] at I46 hk
      simp only [← hq] at hnx ha
      have HQ := Go.Lib.hid hq
      clear hq hix hb
      generalize digs.getD q 0 = x at *
      go_wp2_with fail
      refine (I46 _).mono ?_
      rintro e w2 ⟨rfl, rfl⟩
      clear I46
      have hit2 := Lib.iterAt_heap wr w1.heap.size s p (p + 1) hit
      have hbw2 := Lib.below_iterAt hbw (k := w1.heap.size) (Nat.le_refl _) s (p + 1)
      have hown2 : (wr.iterAt w1.heap.size s (p + 1)).ownsRow (w1.heap.size + 1) 5 1 u6 (p / 2) (u8s (t.data.toList.take (p / 2))) := own_iterAt hown (Nat.lt_succ_self _)
      have hgd : t.data.toList.getD (p / 2) 0 = t[p / 2] := by
        rw [List.getD_eq_getElem?_getD, List.getElem?_eq_getElem (by rw [dlen]; exact hi), Option.getD_some, Array.getElem_toList]
        rfl
      by_cases hpar : p % 2 = 0
      · have hh : halfAt t.data.toList p = -1 := by rw [halfAt, if_pos hpar]
        rw [hh]
        go_wp2
        refine ⟨⟨p + 1, hit2, by omega, ?_, ?_, hbw2⟩, ?_⟩
        · rw [halfAt, if_neg (by omega), HQ.out, nib, if_pos hpar, show (p + 1) / 2 = p / 2 by omega]
          rw [hgd]
        · rw [show (p + 1) / 2 = p / 2 by omega]
          exact hown2
        · simp only [World.iterPos, hit2, hit]
          omega
      · have hh : halfAt t.data.toList p = ((t[p / 2].toNat / 16 : Nat) : Int) := by rw [halfAt, if_neg hpar, hgd]
        rw [hh]
        have hj : bits BinOp.or IntKind.i64 (wrap64 ((t[p / 2].toNat : Int) / 16 * 16)) (q : Int) % 256 = (t[p / 2].toNat : Int) := by
          rw [HQ.out, nib, if_neg hpar]
          exact join_nib _ t[p / 2].toNat_lt
        have HJ := Go.Lib.hid hj
        clear hj
        have hone : ∀ y : Int, ∀ u ∈ (#[Value.int .u8 y] : Array Value).toList, u.oneCell' = true := by
          intro y u hu
          rcases (show u = _ by simpa using hu) with rfl
          rfl
        have hs1 : w1.heap.size + 1 ≤ (wr.iterAt w1.heap.size s (p + 1)).heap.size := by
          rw [Lib.iterAt_size]
          exact (Array.getElem?_eq_some_iff.1 hit).1
        have hbw3 : Below (w1.heap.size + 1) (wr.iterAt w1.heap.size s (p + 1)) (wr.iterAt w1.heap.size s (p + 1)) := Below.refl _ _
        go_wp2_with (at_builtin; refine step_append rfl (w1.heap.size + 1) (.tmp 24) (.tmp 30) 37 5 (.int .u8 0) 1 1 rfl Tryd.underlying37 Tryd.info5 rfl (by decide) (by decide) u6 (p / 2) _ _ #[_] rfl rfl rfl rfl (hone _) hown2 hbw3 hs1 (by omega) ?_; intro v1 w5 hown5 hb5)
        have hit5 : w5.heap[w1.heap.size]? = some (.stringIter s (p + 1)) := (hb5.block _ (Nat.lt_succ_self _)).trans hit2
        have hp2 : (p + 1) / 2 = p / 2 + 1 := by omega
        refine ⟨⟨p + 1, hit5, by omega, ?_, ?_, hbw2.trans (hb5.mono (Nat.le_succ _))⟩, ?_⟩
        · rw [halfAt, if_pos (by omega)]
        · rw [hp2, List.take_succ_eq_append_getElem (by rw [dlen]; exact hi)]
          rw [HJ.out] at hown5
          rw [show (t.data.toList[p / 2]'(by rw [dlen]; exact hi)) = t[p / 2] by rw [Array.getElem_toList]; rfl]
          simpa [u8s] using hown5
        · simp only [World.iterPos, hit5, hit]
          omega
    · obtain rfl : p = 2 * t.size := by omega
      have hh : halfAt t.data.toList (2 * t.size) = -1 := by rw [halfAt, if_pos (by omega)]
      rw [show 2 * t.size / 2 = t.size by omega, List.take_of_length_le (by rw [dlen]; exact Nat.le_refl _)] at hown
      rw [hh]
      obtain ⟨oa, cp, rfl⟩ := own_slice hown
      have hcv := own_conv hown
      rw [mkS_self] at hcv
      have hnx : ∀ ty, (Instr.next (.pointer (some ⟨w1.heap.size, 0, none⟩)) true ty).run Tryd.prog wr = _ := fun ty => Lib.run_next_end_at wr w1.heap.size s (2 * t.size) ty hit hlt
      clear hown
      go_wp2
      go_ret2
      exact ⟨rfl, hbw⟩
end Go.Proofs.YtghhidaihajdmaaDoor
/- The printed numbers, read again. -/
namespace Go.Proofs.YtghhidaihajdmaaDoor
open Go.RowKit
theorem digit_of (d : Nat) (h : d < 10) : Lib.digitVal (UInt8.ofNat (48 + d)) = some d := by
  have e : (UInt8.ofNat (48 + d)).toNat = 48 + d := by rw [UInt8.toNat_ofNat']; omega
  unfold Lib.digitVal
  rw [e, if_pos (by omega)]
  simp
theorem decFrom_snoc (l : List UInt8) (b : UInt8) (d : Nat) (hb : Lib.digitVal b = some d) : ∀ acc n, Lib.decFrom acc l = some n → Lib.decFrom acc (l ++ [b]) = some (n * 10 + d) := by
  induction l with
  | nil => intro acc n h; simp only [Lib.decFrom, Option.some.injEq] at h; subst h; simp [Lib.decFrom, hb]
  | cons a t ih =>
    intro acc n h
    rw [List.cons_append]
    simp only [Lib.decFrom] at h ⊢
    cases ha : Lib.digitVal a with
    | none => simp [ha] at h
    | some e => simp only [ha] at h ⊢; exact ih _ n h
theorem decFrom_digits (n : Nat) : Lib.decFrom 0 (Lib.decDigits n) = some n := by
  induction n using Nat.strongRecOn with
  | ind n ih =>
    rw [dec_step]
    by_cases h : n < 10
    · rw [if_pos h]
      simp only [Lib.decFrom, digit_of (n % 10) (by omega)]
      congr 1
      omega
    · rw [if_neg h, decFrom_snoc _ _ _ (digit_of (n % 10) (by omega)) 0 (n / 10) (ih (n / 10) (by omega))]
      congr 1
      omega
theorem dec_head (n : Nat) : ∃ d r, d < 10 ∧ Lib.decDigits n = UInt8.ofNat (48 + d) :: r := by
  induction n using Nat.strongRecOn with
  | ind n ih =>
    rw [dec_step]
    by_cases h : n < 10
    · exact ⟨n % 10, [], by omega, by rw [if_pos h]⟩
    · obtain ⟨d, r, hd, hr⟩ := ih (n / 10) (by omega)
      exact ⟨d, r ++ [UInt8.ofNat (48 + n % 10)], hd, by rw [if_neg h, hr]; rfl⟩
theorem atoi_digits (n : Nat) : Lib.atoi (Lib.decDigits n) = some (n : Int) := by
  obtain ⟨d, r, hd, hr⟩ := dec_head n
  have h := decFrom_digits n
  have hb : (UInt8.ofNat (48 + d)).toNat = 48 + d := by rw [UInt8.toNat_ofNat']; omega
  have h1 : (UInt8.ofNat (48 + d) == 45) = false := by rw [beq_eq_false_iff_ne]; intro e; rw [e] at hb; simp at hb; omega
  have h2 : (UInt8.ofNat (48 + d) == 43) = false := by rw [beq_eq_false_iff_ne]; intro e; rw [e] at hb; simp at hb; omega
  rw [hr] at h ⊢
  clear hr hb
  generalize UInt8.ofNat (48 + d) = c at *
  simp only [Lib.atoi, h1, h2, Lib.decNat]
  simp [h]
set_option maxRecDepth 100000 in
theorem number36 (n : Nat) (w : World) (hn : n ≤ 99999) (hT : Tabs w) : Calls Tryd.prog 36 #[.string (mkS (Lib.decDigits n))] w fun e w' => e = .returned (.tuple #[.int .i64 n, .bool true]) ∧ Below w.heap.size w w' := by
  have hl := dec_len 4 n (by omega)
  have A := Tryd.strconv_Atoi (mkS (Lib.decDigits n)) n (by rw [mkS_size]; omega) (by rw [mkS_data]; exact atoi_digits n) w
  have I := fun (W : World) (h : Tabs W) => itoa14 n (by omega) (by omega) W h
  rw [show Lib.itoa (n : Int) = Lib.decDigits n by rw [Lib.itoa, if_neg (by omega)]; rfl] at I
  have hz : (mkS (Lib.decDigits n)).size ≤ 5 := hl
  generalize mkS (Lib.decDigits n) = s at *
  clear hl
  go_enter Tryd.func36, Tryd.ntmps36
  go_wp2_with fail
  refine A.mono ?_
  rintro e w1 ⟨rfl, t, rfl⟩
  have hb1 := conv_below w 5 t
  go_wp2_with fail
  refine (I _ (hT.below hb1)).mono ?_
  rintro e w2 ⟨rfl, hb2⟩
  go_wp2
  go_ret2
  exact ⟨rfl, btr hb1 hb2⟩
end Go.Proofs.YtghhidaihajdmaaDoor
/- The printed places, read again. -/
namespace Go.Proofs.YtghhidaihajdmaaDoor
open Go.RowKit
theorem place44 (n : Int) (w : World) (h : inP n = true) (hT : Tabs w) : Calls Tryd.prog 44 #[.string (mkS (numL n))] w fun e w' => e = .returned (.tuple #[.int .i64 n, .bool true]) ∧ Below w.heap.size w w' := by
  simp [inP] at h
  by_cases hm : n = -1
  · subst hm
    rw [show mkS (numL (-1)) = ⟨#[45]⟩ from rfl]
    go_enter Tryd.func44, Tryd.ntmps44
    go_wp2
    go_ret2
    exact ⟨rfl, Below.refl _ w⟩
  · obtain ⟨k, rfl⟩ : ∃ k : Nat, n = k := ⟨n.toNat, by omega⟩
    have N := number36 k w (by omega) hT
    rw [show numL (k : Int) = Lib.decDigits k by rw [numL, if_neg hm, Lib.itoa, if_neg (by omega)]; rfl]
    obtain ⟨d, r, hd, hr⟩ := dec_head k
    have hne : (mkS (Lib.decDigits k)).toList ≠ [45] := by
      rw [tl_mkS, hr]
      intro e
      have e1 := (List.cons.inj e).1
      have hb : (UInt8.ofNat (48 + d)).toNat = 48 + d := by rw [UInt8.toNat_ofNat']; omega
      rw [e1] at hb
      simp at hb
      omega
    clear hr
    generalize mkS (Lib.decDigits k) = s at *
    go_enter Tryd.func44, Tryd.ntmps44
    have hq : (s.toList == [45]) = false := by rw [beq_eq_false_iff_ne]; exact hne
    go_wp2_with fail
    refine N.mono ?_
    rintro e w1 ⟨rfl, hb⟩
    go_wp2
    go_ret2
    exact ⟨rfl, hb⟩
end Go.Proofs.YtghhidaihajdmaaDoor
/- Any number, read. -/
namespace Go.Proofs.YtghhidaihajdmaaDoor
open Go.RowKit
/-- What the readers ask of the variables. -/
structure Env (w : World) : Prop where
  tabs : Tabs w
  mx : ∃ m : Int, w.cell? ⟨3, 0, none⟩ = some (.int .i64 m)
  syn : ∃ ev, w.cell? ⟨4, 0, none⟩ = some ev ∧ (ev = .nilIface ∨ ∃ te pe, ev = .iface te pe)
  rng : ∃ ev, w.cell? ⟨5, 0, none⟩ = some ev ∧ (ev = .nilIface ∨ ∃ te pe, ev = .iface te pe)
theorem Env.below {w w' : World} (h : Env w) (hb : Below w.heap.size w w') : Env w' := by
  obtain ⟨ht, ⟨m, hm⟩, ⟨s, hs, hs'⟩, r, hr, hr'⟩ := h
  exact ⟨ht.below hb, ⟨m, bcl hb hm⟩, ⟨s, bcl hb hs, hs'⟩, r, bcl hb hr, hr'⟩
/-- Is it the number of so many, of at most five digits? -/
def NumOk (l : List UInt8) (n : Int) (b : Bool) : Prop := (∃ k : Nat, k ≤ 99999 ∧ l = Lib.decDigits k ∧ n = k ∧ b = true) ∨ ((∀ k : Nat, k ≤ 99999 → l ≠ Lib.decDigits k) ∧ b = false)
theorem dec_lt (n : Nat) : n < 10 ^ (Lib.decDigits n).length := by
  induction n using Nat.strongRecOn with
  | ind n ih =>
    rw [dec_step]
    by_cases h : n < 10
    · rw [if_pos h]; simpa using h
    · rw [if_neg h, List.length_append, List.length_singleton, Nat.pow_succ]
      have := ih (n / 10) (by omega)
      omega
theorem dec_small {n : Nat} (h : (Lib.decDigits n).length ≤ 5) : n ≤ 99999 := by
  have h1 := dec_lt n
  have h2 : 10 ^ (Lib.decDigits n).length ≤ 10 ^ 5 := Nat.pow_le_pow_right (by omega) h
  omega
theorem atoiAll_digits (k : Nat) (hk : k ≤ 99999) : Lib.atoiAll (Lib.decDigits k) = .ok (k : Int) := by
  have hl := dec_len 4 k (by omega)
  rw [Lib.atoiAll_short _ (by omega), atoi_digits]
  rfl
theorem itoa_nat (k : Nat) : Lib.itoa (k : Int) = Lib.decDigits k := by rw [Lib.itoa, if_neg (by omega)]; rfl
/-- The answers of a reader of numbers. -/
def NumRes (l : List UInt8) (w : World) (e : Ending) (w' : World) : Prop := ∃ (n : Int) (b : Bool), e = .returned (.tuple #[.int .i64 n, .bool b]) ∧ NumOk l n b ∧ Below w.heap.size w w'
theorem num_no_of {l : List UInt8} (h : ∀ k : Nat, k ≤ 99999 → Lib.atoiAll l ≠ .ok (k : Int)) : ∀ k : Nat, k ≤ 99999 → l ≠ Lib.decDigits k := fun k hk e => h k hk (by rw [e]; exact atoiAll_digits k hk)
set_option maxRecDepth 100000 in
theorem number36_any (s : ByteArray) (w : World) (hs : s.size ≤ 1048576) (E : Env w) : Calls Tryd.prog 36 #[.string s] w (NumRes s.data.toList w) := by
  have hdl : s.data.toList.length = s.size := dlen s
  rcases hA : Lib.atoiAll s.data.toList with v | _ | _
  · have hbd := Lib.atoiAll_bounds hA
    have A := Tryd.strconv_Atoi_ok s (by omega) v hA w
    have HA := Go.Lib.hid hA
    have HL := Go.Lib.hid hdl
    clear hA hdl
    go_enter Tryd.func36, Tryd.ntmps36
    go_wp2_with fail
    refine A.mono ?_
    rintro e w1 ⟨rfl, hw1⟩
    have hb1 : Below w.heap.size w w1 := by
      rcases hw1 with rfl | ⟨t, rfl⟩
      · exact Below.refl _ _
      · exact conv_below w 5 t
    clear hw1
    by_cases hv : 0 ≤ v
    · have hv1 : decide (v ≥ 0) = true := by simpa using hv
      by_cases h5 : (s.size : Int) ≤ 5
      · have h51 : decide ((s.size : Int) ≤ 5) = true := by simpa using h5
        by_cases hq : Lib.itoa v = s.data.toList
        · have hq1 : ((mkS (Lib.itoa v)).toList == s.toList) = true := by rw [tl_mkS, hq, tl]; simp
          have HQ := Go.Lib.hid hq
          clear hq
          go_wp2_with fail
          refine (itoa14 v (by omega) (by omega) _ (E.below hb1).tabs).mono ?_
          rintro e w2 ⟨rfl, hb2⟩
          generalize mkS (Lib.itoa v) = q at *
          go_wp2
          go_ret2
          obtain ⟨k, rfl⟩ : ∃ k : Nat, v = k := ⟨v.toNat, by omega⟩
          have hq := HQ.out
          rw [itoa_nat] at hq
          have hl := HL.out
          exact ⟨_, _, rfl, .inl ⟨k, dec_small (by rw [hq]; omega), hq.symm, rfl, rfl⟩, btr hb1 hb2⟩
        · have hq1 : ((mkS (Lib.itoa v)).toList == s.toList) = false := by rw [tl_mkS, tl, beq_eq_false_iff_ne]; exact hq
          have HQ := Go.Lib.hid hq
          clear hq
          go_wp2_with fail
          refine (itoa14 v (by omega) (by omega) _ (E.below hb1).tabs).mono ?_
          rintro e w2 ⟨rfl, hb2⟩
          generalize mkS (Lib.itoa v) = q at *
          go_wp2
          go_ret2
          refine ⟨_, _, rfl, .inr ⟨fun k hk e => HQ.out ?_, rfl⟩, btr hb1 hb2⟩
          have h := HA.out
          rw [e, atoiAll_digits k hk] at h
          injection h with h
          rw [← h, itoa_nat, e]
      · have h51 : decide ((s.size : Int) ≤ 5) = false := by simpa using h5
        go_wp2
        go_ret2
        refine ⟨_, _, rfl, .inr ⟨fun k hk e => ?_, rfl⟩, hb1⟩
        have hl := HL.out
        have := dec_len 4 k (by omega)
        rw [e] at hl
        omega
    · have hv1 : decide (v ≥ 0) = false := by simpa using hv
      go_wp2
      go_ret2
      refine ⟨_, _, rfl, .inr ⟨fun k hk e => ?_, rfl⟩, hb1⟩
      have h := HA.out
      rw [e, atoiAll_digits k hk] at h
      injection h with h
      omega
  · obtain ⟨ev, h1, h2⟩ := E.syn
    have A := Tryd.strconv_Atoi_syntax s (by omega) hA ev w h1 h2
    have HA := Go.Lib.hid hA
    clear hA hdl h1 h2
    go_enter Tryd.func36, Tryd.ntmps36
    go_wp2_with fail
    refine A.mono ?_
    rintro e w1 ⟨N, rfl, -, -, hb1⟩
    go_wp2
    go_ret2
    exact ⟨_, _, rfl, .inr ⟨num_no_of (fun k hk e => by rw [HA.out] at e; cases e), rfl⟩, hb1⟩
  · obtain ⟨ev, h1, h2⟩ := E.rng
    have A := Tryd.strconv_Atoi_range s (by omega) hA ev w h1 h2
    have HA := Go.Lib.hid hA
    clear hA hdl h1 h2
    go_enter Tryd.func36, Tryd.ntmps36
    go_wp2_with fail
    refine A.mono ?_
    rintro e w1 ⟨N, rfl, -, -, hb1⟩
    go_wp2
    go_ret2
    exact ⟨_, _, rfl, .inr ⟨num_no_of (fun k hk e => by rw [HA.out] at e; cases e), rfl⟩, hb1⟩
/-- Is it the place of so many? -/
def PlaceOk (l : List UInt8) (n : Int) (b : Bool) : Prop := (l = [45] ∧ n = -1 ∧ b = true) ∨ (l ≠ [45] ∧ NumOk l n b)
def PlaceRes (l : List UInt8) (w : World) (e : Ending) (w' : World) : Prop := ∃ (n : Int) (b : Bool), e = .returned (.tuple #[.int .i64 n, .bool b]) ∧ PlaceOk l n b ∧ Below w.heap.size w w'
theorem place44_any (s : ByteArray) (w : World) (hs : s.size ≤ 1048576) (E : Env w) : Calls Tryd.prog 44 #[.string s] w (PlaceRes s.data.toList w) := by
  have N := number36_any s w hs E
  by_cases hm : s.data.toList = [45]
  · have hq : (s.toList == [45]) = true := by rw [tl, hm]; rfl
    have HM := Go.Lib.hid hm
    clear hm N
    go_enter Tryd.func44, Tryd.ntmps44
    go_wp2
    go_ret2
    exact ⟨_, _, rfl, .inl ⟨HM.out, rfl, rfl⟩, Below.refl _ w⟩
  · have hq : (s.toList == [45]) = false := by rw [tl, beq_eq_false_iff_ne]; exact hm
    have HM := Go.Lib.hid hm
    clear hm
    go_enter Tryd.func44, Tryd.ntmps44
    go_wp2_with fail
    refine N.mono ?_
    rintro e w1 ⟨n, b, rfl, hn, hb⟩
    go_wp2
    go_ret2
    exact ⟨_, _, rfl, .inr ⟨HM.out, hn⟩, hb⟩
end Go.Proofs.YtghhidaihajdmaaDoor
/- Any text, read. -/
namespace Go.Proofs.YtghhidaihajdmaaDoor
open Go.RowKit
/-- What a small digit is worth. -/
def hv (c : UInt8) : Int := Lib.indexByte digs c
theorem hv_fin : ∀ c : Fin 256, hv (UInt8.ofNat c.val) < 16 ∧ -1 ≤ hv (UInt8.ofNat c.val) ∧ (0 ≤ hv (UInt8.ofNat c.val) → digs.getD (hv (UInt8.ofNat c.val)).toNat 0 = UInt8.ofNat c.val) := by decide +kernel
theorem hv_at (c : UInt8) : hv c < 16 ∧ -1 ≤ hv c ∧ (0 ≤ hv c → digs.getD (hv c).toNat 0 = c) := by
  have h := hv_fin ⟨c.toNat, c.toNat_lt⟩
  simpa using h
def unhexL : List UInt8 → List UInt8
  | a :: b :: r => UInt8.ofNat ((hv a).toNat * 16 + (hv b).toNat) :: unhexL r
  | _ => []
def AllH (l : List UInt8) : Prop := ∀ c ∈ l, 0 ≤ hv c
theorem hex_unhex : ∀ l : List UInt8, AllH l → l.length % 2 = 0 → hexL (unhexL l) = l
  | [], _, _ => rfl
  | [a], _, h => by simp at h
  | a :: b :: r, H, h => by
    have ha := hv_at a
    have hb := hv_at b
    have h1 := ha.2.2 (H a (by simp))
    have h2 := hb.2.2 (H b (by simp))
    have h0a := H a (by simp)
    have h0b := H b (by simp)
    have ih := hex_unhex r (fun c hc => H c (by simp [hc])) (by simp at h; omega)
    have e : (UInt8.ofNat ((hv a).toNat * 16 + (hv b).toNat)).toNat = (hv a).toNat * 16 + (hv b).toNat := by rw [UInt8.toNat_ofNat']; omega
    show hexB (UInt8.ofNat _) ++ hexL (unhexL r) = _
    rw [ih]
    show [digs.getD (_ / 16) 0, digs.getD (_ % 16) 0] ++ r = _
    rw [e, show ((hv a).toNat * 16 + (hv b).toNat) / 16 = (hv a).toNat by omega, show ((hv a).toNat * 16 + (hv b).toNat) % 16 = (hv b).toNat by omega, h1, h2]
    rfl
theorem hexL_mem {r : List UInt8} {c : UInt8} (h : c ∈ hexL r) : c.toNat < 128 ∧ 0 ≤ hv c := by
  obtain ⟨b, _, hb⟩ := List.mem_flatMap.1 h
  have hb8 := b.toNat_lt
  rcases (show c = digs.getD (b.toNat / 16) 0 ∨ c = digs.getD (b.toNat % 16) 0 by simpa [hexB] using hb) with e | e
  · obtain ⟨h1, h2⟩ := dig_ascii (b.toNat / 16) (by omega)
    rw [← e] at h1 h2
    exact ⟨h1, by unfold hv; omega⟩
  · obtain ⟨h1, h2⟩ := dig_ascii (b.toNat % 16) (by omega)
    rw [← e] at h1 h2
    exact ⟨h1, by unfold hv; omega⟩
theorem unhex_snoc : ∀ (l : List UInt8) (a b : UInt8), l.length % 2 = 0 → unhexL (l ++ [a, b]) = unhexL l ++ [UInt8.ofNat ((hv a).toNat * 16 + (hv b).toNat)]
  | [], _, _, _ => rfl
  | [x], _, _, h => by simp at h
  | x :: y :: r, a, b, h => by
    have ih := unhex_snoc r a b (by simp at h; omega)
    show _ :: unhexL (r ++ [a, b]) = _
    rw [ih]
    rfl
theorem unhex_take (l : List UInt8) (p : Nat) (hp : p % 2 = 1) (h : p < l.length) :
    unhexL (l.take (p + 1)) = unhexL (l.take (p - 1)) ++ [UInt8.ofNat ((hv (l.getD (p - 1) 0)).toNat * 16 + (hv (l.getD p 0)).toNat)] := by
  have h1 : p - 1 < l.length := by omega
  have e : l.take (p + 1) = l.take (p - 1) ++ [l.getD (p - 1) 0, l.getD p 0] := by
    have t1 := List.take_succ_eq_append_getElem h1
    rw [show p - 1 + 1 = p by omega] at t1
    rw [List.take_succ_eq_append_getElem h, t1, List.append_assoc]
    congr 1
    simp [List.getD_eq_getElem?_getD, h, h1]
  rw [e, unhex_snoc _ _ _ (by rw [List.length_take]; omega)]
theorem decode_hi (s : ByteArray) (i : Nat) (h : i < s.size) (hi : 128 ≤ (s[i]'h).toNat) : 128 ≤ (Utf8.decode s i).1 ∧ (Utf8.decode s i).1 < 2147483648 := by
  have g : ∀ k, (s.get! k).toNat < 256 := fun k => (s.get! k).toNat_lt
  have e : s.get! (i + 0) = s[i] := by
    show s.data[i + 0]! = s.data[i]
    rw [Nat.add_zero, getElem!_pos s.data i h]
  unfold Utf8.decode
  simp only [e, Utf8.runeError]
  have g1 := g (i + 1)
  have g2 := g (i + 2)
  have g3 := g (i + 3)
  have g0 := (s[i]'h).toNat_lt
  rw [if_neg (by omega)]
  split
  · split <;> simp <;> omega
  · split
    · split
      · rename_i hc
        simp only [Bool.and_eq_true, decide_eq_true_eq] at hc
        simp only []
        omega
      · simp
    · split
      · split
        · rename_i hc
          simp only [Bool.and_eq_true, decide_eq_true_eq] at hc
          simp only []
          omega
        · simp
      · simp
/-- Is it the text of these bytes? -/
def TextOk (l : List UInt8) (t : ByteArray) (b : Bool) : Prop := (∃ r, l = 61 :: hexL r ∧ t = mkS r ∧ b = true) ∨ ((∀ r, l ≠ 61 :: hexL r) ∧ b = false)
def TextRes (l : List UInt8) (w : World) (e : Ending) (w' : World) : Prop := ∃ (t : ByteArray) (b : Bool), e = .returned (.tuple #[.string t, .bool b]) ∧ TextOk l t b ∧ Below w.heap.size w w'
theorem trim_61 (l : List UInt8) : (∃ r, l = 61 :: r ∧ Lib.trimPrefix l [61] = r ∧ Lib.hasPrefix l [61] = true) ∨ ((∀ r, l ≠ 61 :: r) ∧ Lib.trimPrefix l [61] = l ∧ Lib.hasPrefix l [61] = false) := by
  cases l with
  | nil => exact .inr ⟨(fun r h => by cases h), rfl, rfl⟩
  | cons a r =>
    by_cases h : a = 61
    · subst h; exact .inl ⟨r, rfl, by simp [Lib.trimPrefix, Lib.hasPrefix], by simp [Lib.hasPrefix]⟩
    · have h2 : Lib.hasPrefix (a :: r) [61] = false := by
        show List.isPrefixOf [61] (a :: r) = false
        simp [List.isPrefixOf]
        exact fun e => h e.symm
      refine .inr ⟨fun r' e => h (List.cons.inj e).1, by simp only [Lib.trimPrefix, h2]; rfl, h2⟩
theorem text_no {l : List UInt8} {pre : Bool} {x : List UInt8} (hx : (l = 61 :: x ∧ pre = true) ∨ ((∀ r, l ≠ 61 :: r) ∧ pre = false)) (h : ∃ c ∈ x, 128 ≤ c.toNat ∨ hv c < 0) : ∀ r, l ≠ 61 :: hexL r := by
  intro r e
  rcases hx with ⟨h1, _⟩ | ⟨h1, _⟩
  · obtain ⟨c, hc, hb⟩ := h
    rw [h1] at e
    have e2 := (List.cons.inj e).2
    rw [e2] at hc
    have := hexL_mem hc
    omega
  · exact h1 _ e
theorem text_end {l : List UInt8} {pre : Bool} {x : List UInt8} (hx : (l = 61 :: x ∧ pre = true) ∨ ((∀ r, l ≠ 61 :: r) ∧ pre = false)) (h : AllH x) (hp : x.length % 2 = 0) : TextOk l (mkS (unhexL x)) pre := by
  rcases hx with ⟨rfl, rfl⟩ | ⟨h1, rfl⟩
  · exact .inl ⟨unhexL x, by rw [hex_unhex x h hp], rfl, rfl⟩
  · exact .inr ⟨fun r e => h1 _ e, rfl⟩
theorem text_odd {l : List UInt8} {pre : Bool} {x : List UInt8} (hx : (l = 61 :: x ∧ pre = true) ∨ ((∀ r, l ≠ 61 :: r) ∧ pre = false)) (hp : x.length % 2 = 1) : ∀ r, l ≠ 61 :: hexL r := by
  intro r e
  rcases hx with ⟨h1, _⟩ | ⟨h1, _⟩
  · rw [h1] at e
    have e2 := (List.cons.inj e).2
    rw [e2, hexL_len] at hp
    omega
  · exact h1 _ e
/-- The half byte that is held at place p. -/
def halfI (x : List UInt8) (p : Nat) : Int := if p % 2 = 0 then -1 else hv (x.getD (p - 1) 0)
theorem join_fin2 : ∀ a b : Fin 16, bits BinOp.or IntKind.i64 (wrap64 (((a.val : Nat) : Int) * 16)) ((b.val : Nat) : Int) % 256 = ((a.val * 16 + b.val : Nat) : Int) := by decide +kernel
theorem join_hv {a b : Int} (ha0 : 0 ≤ a) (ha : a < 16) (hb0 : 0 ≤ b) (hb : b < 16) : bits BinOp.or IntKind.i64 (wrap64 (a * 16)) b % 256 = ((UInt8.ofNat (a.toNat * 16 + b.toNat)).toNat : Int) := by
  have h := join_fin2 ⟨a.toNat, by omega⟩ ⟨b.toNat, by omega⟩
  simp only at h
  rw [show ((a.toNat : Nat) : Int) = a by omega, show ((b.toNat : Nat) : Int) = b by omega] at h
  rw [h, UInt8.toNat_ofNat']
  omega
end Go.Proofs.YtghhidaihajdmaaDoor
/- Any text, read: the walk. -/
namespace Go.Proofs.YtghhidaihajdmaaDoor
open Go.RowKit
theorem at_list (s : ByteArray) (p : Nat) (h : p < s.size) : s.data.toList.getD p 0 = s[p] := by
  rw [List.getD_eq_getElem?_getD, List.getElem?_eq_getElem (by rw [dlen]; exact h), Option.getD_some, Array.getElem_toList]
  rfl
theorem mem_list (s : ByteArray) (p : Nat) (h : p < s.size) : s[p] ∈ s.data.toList := by
  rw [← at_list s p h, List.getD_eq_getElem?_getD, List.getElem?_eq_getElem (by rw [dlen]; exact h), Option.getD_some]
  exact List.getElem_mem _
def PreX (l : List UInt8) (x : List UInt8) (b : Bool) : Prop := (l = 61 :: x ∧ b = true) ∨ ((∀ r, l ≠ 61 :: r) ∧ b = false)
set_option maxHeartbeats 800000 in
set_option maxRecDepth 100000 in
theorem text35_any (t : ByteArray) (w : World) (hs : t.size ≤ 1048576) : Calls Tryd.prog 35 #[.string t] w (TextRes t.data.toList w) := by
  have C := Tryd.strings_CutPrefix t ⟨#[61]⟩ w
  rw [show (⟨#[61]⟩ : ByteArray).data.toList = [61] from rfl] at C
  obtain ⟨s, hS⟩ : ∃ s : ByteArray, s = ⟨(Lib.trimPrefix t.data.toList [61]).toArray⟩ := ⟨_, rfl⟩
  obtain ⟨pre, hP⟩ : ∃ b : Bool, b = Lib.hasPrefix t.data.toList [61] := ⟨_, rfl⟩
  have hx : PreX t.data.toList s.data.toList pre := by
    rw [hP, hS]
    rcases trim_61 t.data.toList with ⟨r, h1, h2, h3⟩ | ⟨h1, h2, h3⟩
    · exact .inl ⟨by rw [h2]; exact h1, h3⟩
    · exact .inr ⟨h1, h3⟩
  have hsz : s.size ≤ 1048576 := by
    have : s.data.toList.length ≤ t.data.toList.length := by
      rcases hx with ⟨h1, _⟩ | ⟨h1, _⟩
      · rw [h1]; simp
      · rcases trim_61 t.data.toList with ⟨r, h2, _⟩ | ⟨_, h2, _⟩
        · exact absurd h2 (h1 r)
        · rw [hS, h2]; exact Nat.le_refl _
    rw [dlen, dlen] at this
    omega
  rw [← hS, ← hP] at C
  clear hS hP
  go_enter Tryd.func35, Tryd.ntmps35
  go_wp2_with fail
  refine C.mono ?_
  rintro e w1 ⟨rfl, rfl⟩
  go_wp2_with fail
  go_loopw [6, 7, 9, 10] (fun v6 v7 _ _ wr => ∃ p : Nat, wr.heap[w1.heap.size]? = some (.stringIter s p) ∧ p ≤ s.size ∧ v7 = .int .i64 (halfI s.data.toList p) ∧ AllH (s.data.toList.take p) ∧ wr.ownsRow (w1.heap.size + 1) 5 1 v6 (p / 2) (u8s (unhexL (s.data.toList.take (2 * (p / 2))))) ∧ Below w1.heap.size w1 wr) (fun _ _ _ _ wr => s.size - wr.iterPos w1.heap.size)
  case atStart => exact ⟨0, World.iter_heap w1 s 0, by omega, rfl, (fun c hc => by simp at hc), own_nil _ _ 5 1, (Below.refl _ w1).alloc (Nat.le_refl _) _⟩
  case round =>
    obtain ⟨p, hit, hp, rfl, hall, hown, hbw⟩ := hrel
    by_cases hlt : p < s.size
    · have hmem := mem_list s p hlt
      have hgd := at_list s p hlt
      obtain ⟨ch, hch⟩ : ∃ c, c = s[p] := ⟨_, rfl⟩
      rw [← hch] at hmem hgd
      by_cases ha : ch.toNat < 128
      · have hnx : ∀ ty, (Instr.next (.pointer (some ⟨w1.heap.size, 0, none⟩)) true ty).run Tryd.prog wr = .ok (.tuple #[.bool true, .int .i64 p, .int .i32 ch.toNat]) (wr.iterAt w1.heap.size s (p + 1)) := fun ty => by rw [hch]; exact Lib.run_next_ascii_at wr w1.heap.size s p ty hit hlt (by rw [← hch]; exact ha)
        have I46 : ∀ W, Calls Tryd.prog 46 #[.string ⟨#[48, 49, 50, 51, 52, 53, 54, 55, 56, 57, 97, 98, 99, 100, 101, 102]⟩, .int .u8 ch.toNat] W fun e w' => e = .returned (.int .i64 (hv ch)) ∧ w' = W := fun W => by
          have h := Tryd.strings_IndexByte ⟨#[48, 49, 50, 51, 52, 53, 54, 55, 56, 57, 97, 98, 99, 100, 101, 102]⟩ ch.toNat W
          rw [show ((((ch.toNat : Nat) : Int).toNat.toUInt8)) = ch by simp, show (⟨#[48, 49, 50, 51, 52, 53, 54, 55, 56, 57, 97, 98, 99, 100, 101, 102]⟩ : ByteArray).data.toList = digs from rfl] at h
          exact h
        have hv0 := hv_at ch
        obtain ⟨q, hq⟩ : ∃ q, q = hv ch := ⟨_, rfl⟩
        rw [← hq] at I46 hv0
        have HQ := Go.Lib.hid hq
        have HG := Go.Lib.hid hgd
        have HC := Go.Lib.hid hch
        clear hq hgd hch
        go_wp2_with fail
        refine (I46 _).mono ?_
        rintro e w2 ⟨rfl, rfl⟩
        clear I46
        have hit2 := Lib.iterAt_heap wr w1.heap.size s p (p + 1) hit
        have hbw2 := Lib.below_iterAt hbw (k := w1.heap.size) (Nat.le_refl _) s (p + 1)
        have hown2 : (wr.iterAt w1.heap.size s (p + 1)).ownsRow (w1.heap.size + 1) 5 1 u6 (p / 2) (u8s (unhexL (s.data.toList.take (2 * (p / 2))))) := own_iterAt hown (Nat.lt_succ_self _)
        by_cases hneg : q < 0
        · go_wp2
          go_ret2
          exact ⟨_, _, rfl, .inr ⟨text_no hx ⟨ch, hmem, .inr (by rw [← HQ.out]; exact hneg)⟩, rfl⟩, hbw2⟩
        · have hq0 : 0 ≤ q := by omega
          have hall2 : AllH (s.data.toList.take (p + 1)) := by
            rw [List.take_succ_eq_append_getElem (by rw [dlen]; exact hlt)]
            intro c hc
            rcases List.mem_append.1 hc with hc | hc
            · exact hall c hc
            · rw [List.mem_singleton.1 hc, show (s.data.toList[p]'(by rw [dlen]; exact hlt)) = ch by rw [HC.out, Array.getElem_toList]; rfl, ← HQ.out]
              exact hq0
          by_cases hpar : p % 2 = 0
          · have hh : halfI s.data.toList p = -1 := by rw [halfI, if_pos hpar]
            rw [hh]
            go_wp2
            refine ⟨⟨p + 1, hit2, by omega, ?_, hall2, ?_, hbw2⟩, ?_⟩
            · rw [halfI, if_neg (by omega), Nat.add_sub_cancel, HG.out, HQ.out]
            · rw [show (p + 1) / 2 = p / 2 by omega]
              exact hown2
            · simp only [World.iterPos, hit2, hit]
              omega
          · have hh : halfI s.data.toList p = hv (s.data.toList.getD (p - 1) 0) := by rw [halfI, if_neg hpar]
            rw [hh]
            have hlp : p - 1 < s.size := by omega
            have hv1 := hv_at (s.data.toList.getD (p - 1) 0)
            have hm1 : 0 ≤ hv (s.data.toList.getD (p - 1) 0) := hall _ (by
              rw [at_list s (p - 1) hlp]
              rw [List.mem_take_iff_getElem]
              exact ⟨p - 1, by rw [dlen]; omega, by rw [Array.getElem_toList]; rfl⟩)
            obtain ⟨h, hh2⟩ : ∃ h, h = hv (s.data.toList.getD (p - 1) 0) := ⟨_, rfl⟩
            have HTK := Go.Lib.hid (unhex_take s.data.toList p (by omega) (by rw [dlen]; exact hlt))
            rw [← hh2] at hv1 hm1 ⊢
            have hj := join_hv hm1 hv1.1 hq0 hv0.1
            rw [show wrap64 (h * 16) = h * 16 by unfold wrap64; omega] at hj
            have HJ := Go.Lib.hid hj
            clear hj
            have HH := Go.Lib.hid hh2
            clear hh hh2
            have hone : ∀ y : Int, ∀ u ∈ (#[Value.int .u8 y] : Array Value).toList, u.oneCell' = true := by
              intro y u hu
              rcases (show u = _ by simpa using hu) with rfl
              rfl
            have hs1 : w1.heap.size + 1 ≤ (wr.iterAt w1.heap.size s (p + 1)).heap.size := by
              rw [Lib.iterAt_size]
              exact (Array.getElem?_eq_some_iff.1 hit).1
            have hbw3 : Below (w1.heap.size + 1) (wr.iterAt w1.heap.size s (p + 1)) (wr.iterAt w1.heap.size s (p + 1)) := Below.refl _ _
            go_wp2_with (at_builtin; refine step_append rfl (w1.heap.size + 1) (.tmp 24) (.tmp 30) 37 5 (.int .u8 0) 1 1 rfl Tryd.underlying37 Tryd.info5 rfl (by decide) (by decide) u6 (p / 2) _ _ #[_] rfl rfl rfl rfl (hone _) hown2 hbw3 hs1 (by omega) ?_; intro v1 w5 hown5 hb5)
            have hit5 : w5.heap[w1.heap.size]? = some (.stringIter s (p + 1)) := (hb5.block _ (Nat.lt_succ_self _)).trans hit2
            have hp2 : (p + 1) / 2 = p / 2 + 1 := by omega
            refine ⟨⟨p + 1, hit5, by omega, ?_, hall2, ?_, hbw2.trans (hb5.mono (Nat.le_succ _))⟩, ?_⟩
            · rw [halfI, if_pos (by omega)]
            · rw [hp2, show 2 * (p / 2 + 1) = p + 1 by omega, HTK.out]
              rw [HJ.out, show 2 * (p / 2) = p - 1 by omega] at hown5
              rw [HG.out, ← HH.out, ← HQ.out]
              simpa [u8s] using hown5
            · simp only [World.iterPos, hit5, hit]
              omega
      · have hdec := decode_hi s p hlt (by rw [← hch]; omega)
        have hfail := text_no hx ⟨ch, hmem, .inl (by omega)⟩
        obtain ⟨r, hr⟩ : ∃ r : Int, r = ((Utf8.decode s p).1 : Int) := ⟨_, rfl⟩
        have hnx : ∀ ty, (Instr.next (.pointer (some ⟨w1.heap.size, 0, none⟩)) true ty).run Tryd.prog wr = .ok (.tuple #[.bool true, .int .i64 p, .int .i32 r]) (wr.iterAt w1.heap.size s (p + (Utf8.decode s p).2)) := fun ty => by rw [hr]; exact Lib.run_next_any_at wr w1.heap.size s p ty hit hlt
        have hr0 : 128 ≤ r := by omega
        have hr1 : r < 2147483648 := by omega
        have hbw2 := Lib.below_iterAt hbw (k := w1.heap.size) (Nat.le_refl _) s (p + (Utf8.decode s p).2)
        clear hr hdec hgd hch
        generalize wr.iterAt w1.heap.size s (p + (Utf8.decode s p).2) = W2 at *
        go_wp2_with fail
        refine (Tryd.strings_IndexByte _ _ _).mono ?_
        rintro e w2 ⟨rfl, rfl⟩
        go_wp2
        go_ret2
        exact ⟨_, _, rfl, .inr ⟨hfail, rfl⟩, hbw2⟩
    · obtain rfl : p = s.size := by omega
      have htk : s.data.toList.take s.size = s.data.toList := List.take_of_length_le (by rw [dlen]; exact Nat.le_refl _)
      rw [htk] at hall
      have hnx : ∀ ty, (Instr.next (.pointer (some ⟨w1.heap.size, 0, none⟩)) true ty).run Tryd.prog wr = _ := fun ty => Lib.run_next_end_at wr w1.heap.size s s.size ty hit hlt
      obtain ⟨oa, cp, rfl⟩ := own_slice hown
      have hcv := own_conv hown
      by_cases hpar : s.size % 2 = 0
      · have hh : halfI s.data.toList s.size = -1 := by rw [halfI, if_pos hpar]
        rw [show 2 * (s.size / 2) = s.size by omega, htk] at hcv
        rw [hh]
        have hend := text_end hx hall (by rw [dlen]; exact hpar)
        generalize unhexL s.data.toList = o at *
        clear hown htk
        rcases pre with _ | _
        all_goals
          go_wp2
          go_ret2
          exact ⟨_, _, rfl, hend, hbw⟩
      · have hlp : s.size - 1 < s.size := by omega
        have hm1 : 0 ≤ halfI s.data.toList s.size := by
          rw [halfI, if_neg hpar]
          exact hall _ (by rw [at_list s _ hlp]; exact mem_list s _ hlp)
        have hno := text_odd hx (by rw [dlen]; omega)
        generalize halfI s.data.toList s.size = h at *
        generalize unhexL (s.data.toList.take (2 * (s.size / 2))) = o at *
        clear hown htk
        rcases pre with _ | _
        all_goals
          go_wp2
          go_ret2
          exact ⟨_, _, rfl, .inr ⟨hno, by first | rfl | exact decide_eq_false (by omega)⟩, hbw⟩
end Go.Proofs.YtghhidaihajdmaaDoor
/- The words of any act, read. -/
namespace Go.Proofs.YtghhidaihajdmaaDoor
open Go.RowKit
theorem blk_set {w : World} {b i : Nat} {cs : Array Value} {t : TypeId} {z : Nat × Nat} (h : w.heap[b]? = some (.cells cs t z)) (v : Value) : (w.setCell ⟨b, i, none⟩ v).heap[b]? = some (.cells (cs.setIfInBounds i v) t z) := by
  simp only [World.setCell, Array.getElem?_modify, if_true, h, Option.map_some]
  rfl
/-- The number of a name. -/
def nm (l : List UInt8) : Nat → Int
  | 0 => -1
  | i + 1 => if actNames.getD i [] = l then (i : Int) else nm l i
theorem nm_lo (l : List UInt8) : ∀ i, -1 ≤ nm l i ∧ nm l i < i + 1
  | 0 => by simp [nm]
  | i + 1 => by
    have := nm_lo l i
    unfold nm
    split <;> omega
/-- The answers of the reader of an act's words. -/
def ActOk (ws : List (List UInt8)) (k a b c : Int) (t m : ByteArray) (f : Bool) : Prop :=
  ∃ b1 b2 b3 b4 b5 : Bool, k = nm (ws.getD 1 []) 12 ∧ PlaceOk (ws.getD 2 []) a b1 ∧ PlaceOk (ws.getD 3 []) b b2 ∧ PlaceOk (ws.getD 4 []) c b3 ∧ TextOk (ws.getD 5 []) t b4 ∧ TextOk (ws.getD 6 []) m b5 ∧ f = (decide (0 ≤ nm (ws.getD 1 []) 12) && b1 && b2 && b3 && b4 && b5)
def actV (k a b c : Int) (t m : ByteArray) : Value := .agg #[.int .i64 k, .int .i64 a, .int .i64 b, .int .i64 c, .string t, .string m]
def actC (k a b c : Int) (t m : ByteArray) : Array Value := #[.int .i64 k, .int .i64 a, .int .i64 b, .int .i64 c, .string t, .string m]
def ActRes (ws : List (List UInt8)) (w : World) (e : Ending) (w' : World) : Prop :=
  (∃ (k a b c : Int) (t m : ByteArray) (f : Bool), e = .returned (.tuple #[.iface 56 (actV k a b c t m), .bool f]) ∧ ActOk ws k a b c t m f) ∧ Below w.heap.size w w'
/-- Behind so many places, so many texts. -/
def St (x2 x3 x4 : List UInt8) (f0 : Bool) (i : Nat) (a b c : Int) (f : Bool) : Prop :=
  (i = 0 ∧ a = 0 ∧ b = 0 ∧ c = 0 ∧ f = f0) ∨ (i = 1 ∧ b = 0 ∧ c = 0 ∧ ∃ b1, PlaceOk x2 a b1 ∧ f = (f0 && b1)) ∨ (i = 2 ∧ c = 0 ∧ ∃ b1 b2, PlaceOk x2 a b1 ∧ PlaceOk x3 b b2 ∧ f = (f0 && b1 && b2)) ∨ (i = 3 ∧ ∃ b1 b2 b3, PlaceOk x2 a b1 ∧ PlaceOk x3 b b2 ∧ PlaceOk x4 c b3 ∧ f = (f0 && b1 && b2 && b3))
def Tt (x5 x6 : List UInt8) (f0 : Bool) (i : Nat) (t m : ByteArray) (f : Bool) : Prop :=
  (i = 0 ∧ t = ⟨#[]⟩ ∧ m = ⟨#[]⟩ ∧ f = f0) ∨ (i = 1 ∧ m = ⟨#[]⟩ ∧ ∃ b1, TextOk x5 t b1 ∧ f = (f0 && b1)) ∨ (i = 2 ∧ ∃ b1 b2, TextOk x5 t b1 ∧ TextOk x6 m b2 ∧ f = (f0 && b1 && b2))
set_option maxHeartbeats 1600000 in
set_option maxRecDepth 100000 in
theorem act34_seven (ws : List (List UInt8)) (g : Nat) (w : World) (E : Env w) (h7 : ws.length = 7) (hl : ∀ x ∈ ws, x.length ≤ 1048576)
    (hw : ∀ j (h : j < ws.length), w.cell? ⟨g, j, none⟩ = some (.string (mkS ws[j]))) :
    Calls Tryd.prog 34 #[.slice (some ⟨g, 0, none⟩) 7 7] w (ActRes ws w) := by
  obtain ⟨x0, x1, x2, x3, x4, x5, x6, rfl⟩ : ∃ x0 x1 x2 x3 x4 x5 x6, ws = [x0, x1, x2, x3, x4, x5, x6] := by
    match ws, h7 with
    | [x0, x1, x2, x3, x4, x5, x6], _ => exact ⟨x0, x1, x2, x3, x4, x5, x6, rfl⟩
  have c1 : w.cell? ⟨g, 1, none⟩ = some (.string (mkS x1)) := hw 1 (by simp)
  have c2 : w.cell? ⟨g, 2, none⟩ = some (.string (mkS x2)) := hw 2 (by simp)
  have c3 : w.cell? ⟨g, 3, none⟩ = some (.string (mkS x3)) := hw 3 (by simp)
  have c4 : w.cell? ⟨g, 4, none⟩ = some (.string (mkS x4)) := hw 4 (by simp)
  have c5 : w.cell? ⟨g, 5, none⟩ = some (.string (mkS x5)) := hw 5 (by simp)
  have c6 : w.cell? ⟨g, 6, none⟩ = some (.string (mkS x6)) := hw 6 (by simp)
  have l2 : (mkS x2).size ≤ 1048576 := hl x2 (by simp)
  have l3 : (mkS x3).size ≤ 1048576 := hl x3 (by simp)
  have l4 : (mkS x4).size ≤ 1048576 := hl x4 (by simp)
  have l5 : (mkS x5).size ≤ 1048576 := hl x5 (by simp)
  have l6 : (mkS x6).size ≤ 1048576 := hl x6 (by simp)
  clear hw h7 hl
  go_enter Tryd.func34, Tryd.ntmps34
  go_wp2_with fail
  have hb0 : Below w.heap.size w (w.alloc (.cells #[.int .i64 (-1), .int .i64 0, .int .i64 0, .int .i64 0, .string ⟨#[]⟩, .string ⟨#[]⟩] 23)) := (Below.refl _ w).alloc (Nat.le_refl _) _
  refine (names13 _ (E.tabs.below hb0)).mono ?_
  rintro e w2 ⟨rfl, rfl⟩
  go_wp2_with fail
  have hX := at_new w (.cells #[.int .i64 (-1), .int .i64 0, .int .i64 0, .int .i64 0, .string ⟨#[]⟩, .string ⟨#[]⟩] 23) _ rfl
  have hX2 := at_old hX (.cells (strs actNames) 9)
  have hN := at_new (w.alloc (.cells #[.int .i64 (-1), .int .i64 0, .int .i64 0, .int .i64 0, .string ⟨#[]⟩, .string ⟨#[]⟩] 23)) (.cells (strs actNames) 9) (w.heap.size + 1) (by simp)
  have hb1 := bal hb0 (.cells (strs actNames) 9)
  clear hX hb0
  generalize (w.alloc (.cells #[.int .i64 (-1), .int .i64 0, .int .i64 0, .int .i64 0, .string ⟨#[]⟩, .string ⟨#[]⟩] 23)).alloc (.cells (strs actNames) 9) = W2 at *
  go_loopw [5, 6, 22] (fun _ _ v22 wr => ∃ i : Nat, v22 = .int .i64 i ∧ i ≤ 12 ∧ wr.heap[w.heap.size]? = some (.cells #[.int .i64 (nm x1 i), .int .i64 0, .int .i64 0, .int .i64 0, .string ⟨#[]⟩, .string ⟨#[]⟩] 23 (0, 0)) ∧ wr.heap[w.heap.size + 1]? = some (.cells (strs actNames) 9 (0, 0)) ∧ Below w.heap.size w wr) (fun _ _ v22 _ => 12 - (intOf v22).toNat)
  case atStart => exact ⟨0, rfl, by omega, hX2, hN, hb1⟩
  case round =>
    obtain ⟨i, rfl, hi, hxb, hnb, hbw⟩ := hrel
    have w1r := bcl hbw c1
    by_cases hlt : i < 12
    · have hci : wr.cell? ⟨w.heap.size + 1, i, none⟩ = some (.string (mkS (actNames.getD i []))) := by
        rw [blk_cells hnb i, strs_at actNames i hlt, List.getD_eq_getElem?_getD, List.getElem?_eq_getElem hlt]
        rfl
      have hx0 : wr.cell? ⟨w.heap.size, 0, none⟩ = some (.int .i64 (nm x1 i)) := blk_cells hxb 0
      have hf0 : wr.frozen? ⟨w.heap.size, 0, none⟩ = false := by simp [World.frozen?, hxb]
      by_cases hik : actNames.getD i [] = x1
      · have heq : ((mkS (actNames.getD i [])).toList == (mkS x1).toList) = true := by rw [tl_mkS, tl_mkS, hik]; simp
        have hnm : nm x1 (i + 1) = i := by rw [nm, if_pos hik]
        have HN := Go.Lib.hid hnm
        clear hnm hik
        generalize mkS (actNames.getD i []) = ni at *
        go_wp2
        refine ⟨⟨i + 1, by go_num, by omega, ?_, ?_, hbw.setCell (p := ⟨w.heap.size, 0, none⟩) (Nat.le_refl _) _⟩, by simp [intOf]; omega⟩
        · rw [HN.out]
          exact blk_set hxb _
        · rw [← hnb]
          exact Below.heap_setCell _ _ _ _ (by simp)
      · have heq : ((mkS (actNames.getD i [])).toList == (mkS x1).toList) = false := by rw [tl_mkS, tl_mkS, beq_eq_false_iff_ne]; exact hik
        have hnm : nm x1 (i + 1) = nm x1 i := by rw [nm, if_neg hik]
        have HN := Go.Lib.hid hnm
        clear hnm hik
        generalize mkS (actNames.getD i []) = ni at *
        go_wp2
        refine ⟨⟨i + 1, by go_num, by omega, ?_, hnb, hbw⟩, by simp [intOf]; omega⟩
        rw [HN.out]
        exact hxb
    · obtain rfl : i = 12 := by omega
      have hx0 : wr.cell? ⟨w.heap.size, 0, none⟩ = some (.int .i64 (nm x1 12)) := blk_cells hxb 0
      have hnl := nm_lo x1 12
      obtain ⟨k, hk⟩ : ∃ k, k = nm x1 12 := ⟨_, rfl⟩
      rw [← hk] at hxb hx0 hnl
      have HK := Go.Lib.hid hk
      clear hk hX2 hN hb1
      go_wp2_with fail
      have hP := at_new wr (.cells #[.pointer (some ⟨w.heap.size, 1, none⟩), .pointer (some ⟨w.heap.size, 2, none⟩), .pointer (some ⟨w.heap.size, 3, none⟩)] 89) _ rfl
      have hxP := at_old hxb (.cells #[.pointer (some ⟨w.heap.size, 1, none⟩), .pointer (some ⟨w.heap.size, 2, none⟩), .pointer (some ⟨w.heap.size, 3, none⟩)] 89)
      have hbP := bal hbw (.cells #[.pointer (some ⟨w.heap.size, 1, none⟩), .pointer (some ⟨w.heap.size, 2, none⟩), .pointer (some ⟨w.heap.size, 3, none⟩)] 89)
      have hwn : w.heap.size < wr.heap.size := blk_lt hxb
      generalize wr.alloc (.cells #[.pointer (some ⟨w.heap.size, 1, none⟩), .pointer (some ⟨w.heap.size, 2, none⟩), .pointer (some ⟨w.heap.size, 3, none⟩)] 89) = WP at *
      generalize wr.heap.size = n at *
      clear hxb hnb hbw w1r hx0
      obtain ⟨f0, hf0⟩ : ∃ f0, f0 = decide (0 ≤ k) := ⟨_, rfl⟩
      rw [← hf0, show ((12 : Nat) : Int) = (12 : Int) from rfl]
      have HF := Go.Lib.hid hf0
      clear hf0
      go_loopw [7, 8, 9, 10, 11, 43] (fun v7 _ _ _ _ v43 wr => ∃ (i : Nat) (a b c : Int) (f : Bool), v43 = .int .i64 i ∧ v7 = .bool f ∧ i ≤ 3 ∧ St x2 x3 x4 f0 i a b c f ∧ wr.heap[w.heap.size]? = some (.cells #[.int .i64 k, .int .i64 a, .int .i64 b, .int .i64 c, .string ⟨#[]⟩, .string ⟨#[]⟩] 23 (0, 0)) ∧ wr.heap[n]? = some (.cells #[.pointer (some ⟨w.heap.size, 1, none⟩), .pointer (some ⟨w.heap.size, 2, none⟩), .pointer (some ⟨w.heap.size, 3, none⟩)] 89 (0, 0)) ∧ Below w.heap.size w wr) (fun _ _ _ _ _ v43 _ => 3 - (intOf v43).toNat)
      case atStart => exact ⟨0, 0, 0, 0, f0, rfl, rfl, by omega, .inl ⟨rfl, rfl, rfl, rfl, rfl⟩, hxP, hP, hbP⟩
      case round =>
        clear hxP hP hbP
        obtain ⟨i, a, b, c, f, rfl, rfl, hi, hst, hxb, hpb, hbw⟩ := hrel
        have hfr := blk_free hxb
        rcases hst with ⟨rfl, rfl, rfl, rfl, hfe⟩ | ⟨rfl, rfl, rfl, b1, h1, hfe⟩ | ⟨rfl, rfl, b1, b2, h1, h2, hfe⟩ | ⟨rfl, b1, b2, b3, h1, h2, h3, hfe⟩
        · have hcp : wr.cell? ⟨n, 0, none⟩ = some (.pointer (some ⟨w.heap.size, 1, none⟩)) := blk_cells hpb 0
          have hcg := bcl hbw c2
          have hfg := hfr 1
          clear hfr
          have HFE := Go.Lib.hid hfe
          clear hfe
          go_wp2_with fail
          refine (place44_any (mkS x2) _ l2 (E.below hbw)).mono ?_
          rintro e w4 ⟨pn, pb, rfl, hpl, hb4⟩
          have hxb4 := (hb4.block _ (blk_lt hxb)).trans hxb
          have hpb4 := (hb4.block _ (blk_lt hpb)).trans hpb
          have hcx : ∃ v, w4.cell? ⟨w.heap.size, 1, none⟩ = some v := ⟨_, blk_cells hxb4 1⟩
          obtain ⟨vx, hcx⟩ := hcx
          have hfx := blk_free hxb4 1
          have hbw4 := btr hbw hb4
          rcases f with _ | _
          all_goals
            go_wp2
            refine ⟨⟨1, pn, 0, 0, _, rfl, rfl, by omega, .inr (.inl ⟨rfl, rfl, rfl, pb, hpl, by rw [← HFE.out]; rfl⟩), blk_set hxb4 _, ?_, hbw4.setCell (p := ⟨w.heap.size, 1, none⟩) (Nat.le_refl _) _⟩, by simp [intOf]⟩
            rw [← hpb4]
            exact Below.heap_setCell _ _ _ _ (by simp; omega)
        · have hcp : wr.cell? ⟨n, 1, none⟩ = some (.pointer (some ⟨w.heap.size, 2, none⟩)) := blk_cells hpb 1
          have hcg := bcl hbw c3
          have hfg := hfr 2
          clear hfr
          have HFE := Go.Lib.hid hfe
          clear hfe
          go_wp2_with fail
          refine (place44_any (mkS x3) _ l3 (E.below hbw)).mono ?_
          rintro e w4 ⟨pn, pb, rfl, hpl, hb4⟩
          have hxb4 := (hb4.block _ (blk_lt hxb)).trans hxb
          have hpb4 := (hb4.block _ (blk_lt hpb)).trans hpb
          have hcx : ∃ v, w4.cell? ⟨w.heap.size, 2, none⟩ = some v := ⟨_, blk_cells hxb4 2⟩
          obtain ⟨vx, hcx⟩ := hcx
          have hfx := blk_free hxb4 2
          have hbw4 := btr hbw hb4
          rcases f with _ | _
          all_goals
            go_wp2

            refine ⟨⟨2, a, pn, 0, _, rfl, rfl, by omega, .inr (.inr (.inl ⟨rfl, rfl, b1, pb, h1, hpl, by rw [← HFE.out]; rfl⟩)), blk_set hxb4 _, ?_, hbw4.setCell (p := ⟨w.heap.size, 2, none⟩) (Nat.le_refl _) _⟩, by simp [intOf]⟩
            rw [← hpb4]
            exact Below.heap_setCell _ _ _ _ (by simp; omega)
        · have hcp : wr.cell? ⟨n, 2, none⟩ = some (.pointer (some ⟨w.heap.size, 3, none⟩)) := blk_cells hpb 2
          have hcg := bcl hbw c4
          have hfg := hfr 3
          clear hfr
          have HFE := Go.Lib.hid hfe
          clear hfe
          go_wp2_with fail
          refine (place44_any (mkS x4) _ l4 (E.below hbw)).mono ?_
          rintro e w4 ⟨pn, pb, rfl, hpl, hb4⟩
          have hxb4 := (hb4.block _ (blk_lt hxb)).trans hxb
          have hpb4 := (hb4.block _ (blk_lt hpb)).trans hpb
          have hcx : ∃ v, w4.cell? ⟨w.heap.size, 3, none⟩ = some v := ⟨_, blk_cells hxb4 3⟩
          obtain ⟨vx, hcx⟩ := hcx
          have hfx := blk_free hxb4 3
          have hbw4 := btr hbw hb4
          rcases f with _ | _
          all_goals
            go_wp2
            refine ⟨⟨3, a, b, pn, _, rfl, rfl, by omega, .inr (.inr (.inr ⟨rfl, b1, b2, pb, h1, h2, hpl, by rw [← HFE.out]; rfl⟩)), blk_set hxb4 _, ?_, hbw4.setCell (p := ⟨w.heap.size, 3, none⟩) (Nat.le_refl _) _⟩, by simp [intOf]⟩
            rw [← hpb4]
            exact Below.heap_setCell _ _ _ _ (by simp; omega)
        · have hfe2 := hfe
          have HFE := Go.Lib.hid hfe
          clear hfe hfe2 hfr
          rw [show ((3 : Nat) : Int) = (3 : Int) from rfl]
          go_wp2_with fail
          have hP := at_new wr (.cells #[.pointer (some ⟨w.heap.size, 4, none⟩), .pointer (some ⟨w.heap.size, 5, none⟩)] 91) _ rfl
          have hxP := at_old hxb (.cells #[.pointer (some ⟨w.heap.size, 4, none⟩), .pointer (some ⟨w.heap.size, 5, none⟩)] 91)
          have hbP := bal hbw (.cells #[.pointer (some ⟨w.heap.size, 4, none⟩), .pointer (some ⟨w.heap.size, 5, none⟩)] 91)
          have hwn2 : w.heap.size < wr.heap.size := blk_lt hxb
          generalize wr.alloc (.cells #[.pointer (some ⟨w.heap.size, 4, none⟩), .pointer (some ⟨w.heap.size, 5, none⟩)] 91) = WP2 at *
          generalize wr.heap.size = n2 at *
          clear hxb hpb hbw
          go_loopw [7, 12, 13, 14, 15, 69] (fun v7 _ _ _ _ v69 wr => ∃ (i : Nat) (t m : ByteArray) (f2 : Bool), v69 = .int .i64 i ∧ v7 = .bool f2 ∧ i ≤ 2 ∧ Tt x5 x6 f i t m f2 ∧ wr.heap[w.heap.size]? = some (.cells #[.int .i64 k, .int .i64 a, .int .i64 b, .int .i64 c, .string t, .string m] 23 (0, 0)) ∧ wr.heap[n2]? = some (.cells #[.pointer (some ⟨w.heap.size, 4, none⟩), .pointer (some ⟨w.heap.size, 5, none⟩)] 91 (0, 0)) ∧ Below w.heap.size w wr) (fun _ _ _ _ _ v69 _ => 2 - (intOf v69).toNat)
          case atStart => exact ⟨0, ⟨#[]⟩, ⟨#[]⟩, f, rfl, rfl, by omega, .inl ⟨rfl, rfl, rfl, rfl⟩, hxP, hP, hbP⟩
          case round =>
            clear hxP hP hbP
            obtain ⟨i, t, m, f2, rfl, rfl, hi, hst, hxb, hpb, hbw⟩ := hrel
            have hfr := blk_free hxb
            rcases hst with ⟨rfl, rfl, rfl, hfe⟩ | ⟨rfl, rfl, b4, h4, hfe⟩ | ⟨rfl, b4, b5, h4, h5, hfe⟩
            · have hcp : wr.cell? ⟨n2, 0, none⟩ = some (.pointer (some ⟨w.heap.size, 4, none⟩)) := blk_cells hpb 0
              have hcg := bcl hbw c5
              have hfg := hfr 4
              have HFT := Go.Lib.hid hfe
              clear hfr hfe
              go_wp2_with fail
              refine (text35_any (mkS x5) _ l5).mono ?_
              rintro e w4 ⟨pn, pb, rfl, hpl, hb4⟩
              have hxb4 := (hb4.block _ (blk_lt hxb)).trans hxb
              have hpb4 := (hb4.block _ (blk_lt hpb)).trans hpb
              obtain ⟨vx, hcx⟩ : ∃ v, w4.cell? ⟨w.heap.size, 4, none⟩ = some v := ⟨_, blk_cells hxb4 4⟩
              have hfx := blk_free hxb4 4
              have hbw4 := btr hbw hb4
              rcases f2 with _ | _
              all_goals
                go_wp2
                refine ⟨⟨1, pn, ⟨#[]⟩, _, rfl, rfl, by omega, .inr (.inl ⟨rfl, rfl, pb, hpl, by rw [← HFT.out]; rfl⟩), blk_set hxb4 _, ?_, hbw4.setCell (p := ⟨w.heap.size, 4, none⟩) (Nat.le_refl _) _⟩, by simp [intOf]⟩
                rw [← hpb4]
                exact Below.heap_setCell _ _ _ _ (by simp; omega)
            · have hcp : wr.cell? ⟨n2, 1, none⟩ = some (.pointer (some ⟨w.heap.size, 5, none⟩)) := blk_cells hpb 1
              have hcg := bcl hbw c6
              have hfg := hfr 5
              have HFT := Go.Lib.hid hfe
              clear hfr hfe
              go_wp2_with fail
              refine (text35_any (mkS x6) _ l6).mono ?_
              rintro e w4 ⟨pn, pb, rfl, hpl, hb4⟩
              have hxb4 := (hb4.block _ (blk_lt hxb)).trans hxb
              have hpb4 := (hb4.block _ (blk_lt hpb)).trans hpb
              obtain ⟨vx, hcx⟩ : ∃ v, w4.cell? ⟨w.heap.size, 5, none⟩ = some v := ⟨_, blk_cells hxb4 5⟩
              have hfx := blk_free hxb4 5
              have hbw4 := btr hbw hb4
              rcases f2 with _ | _
              all_goals
                go_wp2
                refine ⟨⟨2, t, pn, _, rfl, rfl, by omega, .inr (.inr ⟨rfl, b4, pb, h4, hpl, by rw [← HFT.out]; rfl⟩), blk_set hxb4 _, ?_, hbw4.setCell (p := ⟨w.heap.size, 5, none⟩) (Nat.le_refl _) _⟩, by simp [intOf]⟩
                rw [← hpb4]
                exact Below.heap_setCell _ _ _ _ (by simp; omega)
            · have HFT := Go.Lib.hid hfe
              clear hfr hfe
              have q0 := blk_cells hxb 0
              have q1 := blk_cells hxb 1
              have q2 := blk_cells hxb 2
              have q3 := blk_cells hxb 3
              have q4 := blk_cells hxb 4
              have q5 := blk_cells hxb 5
              go_wp2
              go_ret2
              exact ⟨⟨k, a, b, c, t, m, _, rfl, b1, b2, b3, b4, b5, HK.out, h1, h2, h3, h4, h5, by rw [HFT.out, HFE.out, HF.out, HK.out]; rfl⟩, hbw⟩
theorem act34_other (oa : Option Addr) (n : Nat) (w : World) (hn : n ≠ 7) : Calls Tryd.prog 34 #[.slice oa n n] w fun e w' => e = .returned (.tuple #[.nilIface, .bool false]) ∧ w = w' := by
  have hq : ((n : Int) != 7) = true := by rw [bne_iff_ne]; omega
  go_enter Tryd.func34, Tryd.ntmps34
  go_wp2
  go_ret2
  exact ⟨rfl, rfl⟩
end Go.Proofs.YtghhidaihajdmaaDoor
/- The printed line, split at its blanks. -/
namespace Go.Proofs.YtghhidaihajdmaaDoor
open Go.RowKit
theorem indexByte_none (a : List UInt8) (c : UInt8) (h : c ∉ a) : Lib.indexByte a c = -1 := by
  induction a with
  | nil => rfl
  | cons b t ih =>
    have hb : (b == c) = false := by rw [beq_eq_false_iff_ne]; intro e; exact h (e ▸ List.mem_cons_self)
    simp [Lib.indexByte, hb, ih (fun hm => h (List.mem_cons_of_mem _ hm))]
theorem indexByte_app (a b : List UInt8) (c : UInt8) (h : c ∉ a) : Lib.indexByte (a ++ c :: b) c = (a.length : Int) := by
  induction a with
  | nil => simp [Lib.indexByte]
  | cons x t ih =>
    have hb : (x == c) = false := by rw [beq_eq_false_iff_ne]; intro e; exact h (e ▸ List.mem_cons_self)
    have i := ih (fun hm => h (List.mem_cons_of_mem _ hm))
    simp only [List.cons_append, Lib.indexByte, hb, i]
    have hn : (((t.length : Nat) : Int) == -1) = false := by rw [beq_eq_false_iff_ne]; omega
    simp [hn]
/-- Words, one blank between. -/
def glue : List UInt8 → List (List UInt8) → List UInt8
  | a, [] => a
  | a, b :: r => a ++ 32 :: glue b r
theorem glue_count (a : List UInt8) (r : List (List UInt8)) (h : ∀ x ∈ a :: r, (32 : UInt8) ∉ x) : Lib.count (glue a r) [32] = r.length := by
  rw [Lib.count_one]
  induction r generalizing a with
  | nil => exact List.count_eq_zero.2 (h a List.mem_cons_self)
  | cons b r ih =>
    rw [glue, List.count_append, List.count_cons_self, ih b (fun x hx => h x (List.mem_cons_of_mem _ hx)), List.count_eq_zero.2 (h a List.mem_cons_self)]
    simp
theorem glue_split (a : List UInt8) (r : List (List UInt8)) (h : ∀ x ∈ a :: r, (32 : UInt8) ∉ x) : Lib.splitK [32] 0 r.length (glue a r) = a :: r := by
  induction r generalizing a with
  | nil => rfl
  | cons b r ih =>
    have hi := indexByte_app a (glue b r) 32 (h a List.mem_cons_self)
    rw [List.length_cons, Lib.splitK, Lib.index_one, glue, hi]
    have hn : (((a.length : Nat) : Int) == -1) = false := by rw [beq_eq_false_iff_ne]; omega
    rw [hn]
    simp [ih b (fun x hx => h x (List.mem_cons_of_mem _ hx))]
end Go.Proofs.YtghhidaihajdmaaDoor
/- The words of the printed line. -/
namespace Go.Proofs.YtghhidaihajdmaaDoor
open Go.RowKit
theorem dec_no (n : Nat) : (32 : UInt8) ∉ Lib.decDigits n := by
  induction n using Nat.strongRecOn with
  | ind n ih =>
    have hb : ∀ d, d < 10 → (32 : UInt8) ≠ UInt8.ofNat (48 + d) := by
      intro d hd e
      have h : (UInt8.ofNat (48 + d)).toNat = 48 + d := by rw [UInt8.toNat_ofNat']; omega
      rw [← e] at h
      simp at h
      omega
    rw [dec_step]
    by_cases h : n < 10
    · rw [if_pos h]
      intro hm
      exact hb (n % 10) (by omega) (List.mem_singleton.1 hm)
    · rw [if_neg h]
      intro hm
      rcases List.mem_append.1 hm with hm | hm
      · exact ih (n / 10) (by omega) hm
      · exact hb (n % 10) (by omega) (List.mem_singleton.1 hm)
theorem num_no (n : Int) (h : inP n = true) : (32 : UInt8) ∉ numL n := by
  simp [inP] at h
  unfold numL
  split
  · decide
  · rw [Lib.itoa, if_neg (by omega)]
    exact dec_no _
theorem hex_no (l : List UInt8) : (32 : UInt8) ∉ 61 :: hexL l := by
  intro hm
  rcases List.mem_cons.1 hm with hm | hm
  · exact absurd hm (by decide)
  · obtain ⟨b, _, hb⟩ := List.mem_flatMap.1 hm
    have hd : ∀ k, k < 16 → (32 : UInt8) ≠ digs.getD k 0 := fun k hk e => by
      have h := List.all_eq_true.1 (show digs.all (fun c => decide (c ≠ 32)) = true by decide) (digs.getD k 0) (by
        rw [List.getD_eq_getElem?_getD, List.getElem?_eq_getElem (show k < digs.length from hk)]
        exact List.getElem_mem _)
      simp only [decide_eq_true_eq] at h
      exact h e.symm
    have hb8 := b.toNat_lt
    rcases (show (32 : UInt8) = digs.getD (b.toNat / 16) 0 ∨ (32 : UInt8) = digs.getD (b.toNat % 16) 0 by simpa [hexB] using hb) with e | e
    · exact hd _ (by omega) e
    · exact hd _ (by omega) e
theorem act_no (k : Nat) (h : k < 12) : (32 : UInt8) ∉ actNames.getD k [] := by
  rcases (show k = 0 ∨ k = 1 ∨ k = 2 ∨ k = 3 ∨ k = 4 ∨ k = 5 ∨ k = 6 ∨ k = 7 ∨ k = 8 ∨ k = 9 ∨ k = 10 ∨ k = 11 by omega) with rfl | rfl | rfl | rfl | rfl | rfl | rfl | rfl | rfl | rfl | rfl | rfl <;> decide
/-- The words behind the first. -/
def wordsL (k : Nat) (a b c : Int) (t m : List UInt8) : List (List UInt8) := [actNames.getD k [], numL a, numL b, numL c, 61 :: hexL t, 61 :: hexL m]
theorem line_glue (k : Nat) (a b c : Int) (t m : List UInt8) : lineL k a b c t m = glue [97, 99, 116] (wordsL k a b c t m) := by
  simp [lineL, wordsL, glue]
theorem words_no (k : Nat) (a b c : Int) (t m : List UInt8) (hk : k < 12) (ha : inP a = true) (hb : inP b = true) (hc : inP c = true) : ∀ x ∈ [97, 99, 116] :: wordsL k a b c t m, (32 : UInt8) ∉ x := by
  intro x hx
  simp only [wordsL, List.mem_cons, List.not_mem_nil, or_false] at hx
  rcases hx with rfl | rfl | rfl | rfl | rfl | rfl | rfl
  · decide
  · exact act_no k hk
  · exact num_no a ha
  · exact num_no b hb
  · exact num_no c hc
  · exact hex_no t
  · exact hex_no m
theorem line_split (k : Nat) (a b c : Int) (t m : List UInt8) (hk : k < 12) (ha : inP a = true) (hb : inP b = true) (hc : inP c = true) :
    Lib.countB (mkS (lineL k a b c t m)) ⟨#[32]⟩ = 6 ∧ Lib.splitB ⟨#[32]⟩ 0 6 (mkS (lineL k a b c t m)) = ([97, 99, 116] :: wordsL k a b c t m).map mkS := by
  have hno := words_no k a b c t m hk ha hb hc
  have h1 := glue_count _ _ hno
  have h2 := glue_split _ _ hno
  rw [← line_glue] at h1 h2
  have h6 : (wordsL k a b c t m).length = 6 := rfl
  rw [h6] at h1 h2
  refine ⟨h1, ?_⟩
  have e := Lib.splitB_data ⟨#[32]⟩ 0 6 (mkS (lineL k a b c t m))
  rw [show (mkS (lineL k a b c t m)).data.toList = lineL k a b c t m from rfl, show (⟨#[32]⟩ : ByteArray).data.toList = [32] from rfl, h2] at e
  rw [← e, List.map_map]
  conv => lhs; rw [← List.map_id (Lib.splitB ⟨#[32]⟩ 0 6 (mkS (lineL k a b c t m)))]
  apply List.map_congr_left
  intro x _
  rfl
end Go.Proofs.YtghhidaihajdmaaDoor
/- Any line, read: its words; the act of it. -/
namespace Go.Proofs.YtghhidaihajdmaaDoor
open Go.RowKit
/-- The words of a line. -/
def splitL : List UInt8 → List (List UInt8)
  | [] => [[]]
  | c :: r => if c = 32 then [] :: splitL r else match splitL r with
    | a :: t => (c :: a) :: t
    | [] => [[c]]
theorem splitL_glue : ∀ s : List UInt8, ∃ a r, splitL s = a :: r ∧ glue a r = s ∧ (∀ x ∈ a :: r, (32 : UInt8) ∉ x) ∧ (∀ x ∈ a :: r, x.length ≤ s.length) ∧ r.length ≤ s.length
  | [] => ⟨[], [], rfl, rfl, by simp, by simp, by simp⟩
  | c :: t => by
    obtain ⟨a, r, h1, h2, h3, h4, h5⟩ := splitL_glue t
    by_cases hc : c = 32
    · refine ⟨[], a :: r, by rw [splitL, if_pos hc, h1], by rw [glue, h2, hc]; rfl, ?_, ?_, by simp; omega⟩
      · intro x hx
        rcases List.mem_cons.1 hx with rfl | hx
        · simp
        · exact h3 x hx
      · intro x hx
        rcases List.mem_cons.1 hx with rfl | hx
        · simp
        · have := h4 x hx
          simp only [List.length_cons]
          omega
    · refine ⟨c :: a, r, by rw [splitL, if_neg hc, h1], ?_, ?_, ?_, by simp only [List.length_cons]; omega⟩
      · cases r with
        | nil => simp only [glue] at h2 ⊢; rw [h2]
        | cons b r => simp only [glue, List.cons_append] at h2 ⊢; rw [h2]
      · intro x hx
        rcases List.mem_cons.1 hx with rfl | hx
        · intro hm
          rcases List.mem_cons.1 hm with e | hm
          · exact hc e.symm
          · exact h3 a List.mem_cons_self hm
        · exact h3 x (List.mem_cons_of_mem _ hx)
      · intro x hx
        rcases List.mem_cons.1 hx with rfl | hx
        · have := h4 a List.mem_cons_self
          simp only [List.length_cons]
          omega
        · have := h4 x (List.mem_cons_of_mem _ hx)
          simp only [List.length_cons]
          omega
theorem splitL_of_glue (a : List UInt8) (r : List (List UInt8)) (h : ∀ x ∈ a :: r, (32 : UInt8) ∉ x) : splitL (glue a r) = a :: r := by
  obtain ⟨a2, r2, h1, h2, h3, _⟩ := splitL_glue (glue a r)
  rw [h1]
  have k1 := glue_split a r h
  have k2 := glue_split a2 r2 h3
  have c1 := glue_count a r h
  have c2 := glue_count a2 r2 h3
  rw [h2] at k2 c2
  rw [← c1] at k1
  rw [← c2] at k2
  exact k2.symm.trans k1
theorem splitB_L (s : ByteArray) : Lib.countB s ⟨#[32]⟩ + 1 = (splitL s.data.toList).length ∧ Lib.splitB ⟨#[32]⟩ 0 (Lib.countB s ⟨#[32]⟩) s = (splitL s.data.toList).map mkS := by
  obtain ⟨a, r, h1, h2, h3, _⟩ := splitL_glue s.data.toList
  have c1 := glue_count a r h3
  have k1 := glue_split a r h3
  rw [h2] at c1 k1
  have hc : Lib.countB s ⟨#[32]⟩ = r.length := c1
  rw [h1, hc]
  refine ⟨rfl, ?_⟩
  have e := Lib.splitB_data ⟨#[32]⟩ 0 r.length s
  rw [show (⟨#[32]⟩ : ByteArray).data.toList = [32] from rfl, k1] at e
  rw [← e, List.map_map]
  conv => lhs; rw [← List.map_id (Lib.splitB ⟨#[32]⟩ 0 r.length s)]
  apply List.map_congr_left
  intro x _
  rfl
theorem split33 (s : ByteArray) (w : World) (hs : s.size ≤ 1048576) (E : Env w) : Calls Tryd.prog 33 #[.string s, .string ⟨#[32]⟩] w fun e w' =>
    e = .returned (.slice (some ⟨w.heap.size, 0, none⟩) (splitL s.data.toList).length (splitL s.data.toList).length) ∧ w' = w.alloc (.cells (strs (splitL s.data.toList)) 9) := by
  obtain ⟨m, hm⟩ := E.mx
  have h := Tryd.strings_Split s ⟨#[32]⟩ m w (by omega) hm (by decide)
  obtain ⟨h1, h2⟩ := splitB_L s
  rw [h1, h2, List.map_map] at h
  exact h
/-- What reading a line answers. -/
def ReadRes (ws : List (List UInt8)) (w : World) (e : Ending) (w' : World) : Prop :=
  (ws.getD 0 [] = [97, 99, 116] ∧ ((ws.length = 7 ∧ ActRes ws w e w') ∨ (ws.length ≠ 7 ∧ e = .returned (.tuple #[.nilIface, .bool false]) ∧ Below w.heap.size w w'))) ∨
  (ws.getD 0 [] ≠ [97, 99, 116] ∧ ∃ v f, e = .returned (.tuple #[v, .bool f]) ∧ (v = .nilIface ∨ ∃ x t, v = .iface t x ∧ (t = 63 ∨ t = 65 ∨ t = 68)) ∧ Below w.heap.size w w')
set_option maxHeartbeats 800000 in
set_option maxRecDepth 100000 in
theorem read20 (s : ByteArray) (w : World) (hs : s.size ≤ 1048576) (E : Env w) : Calls Tryd.prog 20 #[.string s] w (ReadRes (splitL s.data.toList) w) := by
  have S := split33 s w hs E
  obtain ⟨x0, r, h1, h2, h3, h4, h5⟩ := splitL_glue s.data.toList
  have hdl : s.data.toList.length = s.size := dlen s
  have hb1 : Below w.heap.size w (w.alloc (.cells (strs (splitL s.data.toList)) 9)) := (Below.refl _ w).alloc (Nat.le_refl _) _
  have hX := at_new w (.cells (strs (splitL s.data.toList)) 9) _ rfl
  have hlen : (splitL s.data.toList).length = r.length + 1 := by rw [h1]; rfl
  have hx0 : (splitL s.data.toList).getD 0 [] = x0 := by rw [h1]; rfl
  have hmem : ∀ x ∈ splitL s.data.toList, x.length ≤ 1048576 := fun x hx => by
    rw [h1] at hx
    have := h4 x hx
    omega
  have hrl : r.length ≤ 1048576 := by omega
  clear h1 h2 h3 h4 h5 hdl
  generalize splitL s.data.toList = ws at *
  have hcell : ∀ j (h : j < ws.length), (w.alloc (.cells (strs ws) 9)).cell? ⟨w.heap.size, j, none⟩ = some (.string (mkS ws[j])) := fun j h => by
    rw [blk_cells hX j]
    exact strs_at ws j h
  have c0 : (w.alloc (.cells (strs ws) 9)).cell? ⟨w.heap.size, 0, none⟩ = some (.string (mkS x0)) := by
    rw [hcell 0 (by omega), ← hx0]
    congr 3
    rw [List.getD_eq_getElem?_getD, List.getElem?_eq_getElem (by omega)]
    rfl
  have EW := E.below hb1
  by_cases hact : x0 = [97, 99, 116]
  · have hq : ((mkS x0).toList == [97, 99, 116]) = true := by rw [tl_mkS, hact]; rfl
    have hr0 : ws.getD 0 [] = [97, 99, 116] := hx0.trans hact
    have HR := Go.Lib.hid hr0
    by_cases h7 : ws.length = 7
    · have A := act34_seven ws w.heap.size (w.alloc (.cells (strs ws) 9)) EW h7 hmem hcell
      have H7 := Go.Lib.hid h7
      rw [h7] at S
      clear hcell hX hlen hx0 hact hr0 h7 hmem
      go_enter Tryd.func20, Tryd.ntmps20
      go_wp2_with fail
      refine S.mono ?_
      rintro e w1 ⟨rfl, rfl⟩
      generalize w.alloc (.cells (strs ws) 9) = W1 at *
      go_wp2_with fail
      refine A.mono ?_
      rintro e w2 ⟨⟨k, a, b, c, t, m, f, rfl, hok⟩, hb2⟩
      go_wp2
      go_ret2
      exact .inl ⟨HR.out, .inl ⟨H7.out, ⟨k, a, b, c, t, m, f, rfl, hok⟩, btr hb1 hb2⟩⟩
    · have A := fun W => act34_other (some ⟨w.heap.size, 0, none⟩) ws.length W h7
      have H7 := Go.Lib.hid h7
      rw [hlen] at S A
      clear hcell hX hlen hx0 hact hr0 h7 hmem
      go_enter Tryd.func20, Tryd.ntmps20
      go_wp2_with fail
      refine S.mono ?_
      rintro e w1 ⟨rfl, rfl⟩
      generalize w.alloc (.cells (strs ws) 9) = W1 at *
      go_wp2_with fail
      refine (A _).mono ?_
      rintro e w2 ⟨rfl, rfl⟩
      go_wp2
      go_ret2
      exact .inl ⟨HR.out, .inr ⟨H7.out, rfl, hb1⟩⟩
  · have hq : ((mkS x0).toList == [97, 99, 116]) = false := by rw [tl_mkS, beq_eq_false_iff_ne]; exact hact
    have HR := Go.Lib.hid (show ws.getD 0 [] ≠ [97, 99, 116] by rw [hx0]; exact hact)
    clear hact
    by_cases h2 : ws.length = 2
    · have hr1 : ∃ x1, ws = [x0, x1] := by
        clear S hb1 hX hlen hcell c0 EW HR hq hmem
        match ws, h2 with
        | [y0, y1], _ => exact ⟨y1, by rw [show y0 = x0 from hx0]⟩
      obtain ⟨x1, rfl⟩ := hr1
      have c1 : (w.alloc (.cells (strs [x0, x1]) 9)).cell? ⟨w.heap.size, 1, none⟩ = some (.string (mkS x1)) := hcell 1 (by simp)
      have hl1 : (mkS x1).size ≤ 1048576 := hmem x1 (by simp)
      rw [h2] at S
      clear hcell hX hlen hx0 h2 hmem
      by_cases hby : x0 = [98, 121, 116, 101, 115]
      · have hq2 : ((mkS x0).toList == [98, 121, 116, 101, 115]) = true := by rw [tl_mkS, hby]; rfl
        clear hby
        go_enter Tryd.func20, Tryd.ntmps20
        go_wp2_with fail
        refine S.mono ?_
        rintro e w1 ⟨rfl, rfl⟩
        generalize w.alloc (.cells (strs [x0, x1]) 9) = W1 at *
        go_wp2_with fail
        refine (text35_any (mkS x1) W1 hl1).mono ?_
        rintro e w2 ⟨t, b, rfl, -, hb2⟩
        have c02 := bcl hb2 c0
        have kb := Go.Lib.run_convert_string_bytes (P := Tryd.prog) w2 9 37 5 t Tryd.underlying9 Tryd.underlying37 Tryd.underlying5
        have hb3 := btr (btr hb1 hb2) (conv_below w2 5 t)
        go_wp2
        go_ret2
        exact .inr ⟨HR.out, _, _, rfl, .inr ⟨_, _, rfl, by decide⟩, hb3⟩
      · have hq2 : ((mkS x0).toList == [98, 121, 116, 101, 115]) = false := by rw [tl_mkS, beq_eq_false_iff_ne]; exact hby
        clear hby
        by_cases hru : x0 = [114, 117, 110]
        · have hq3 : ((mkS x0).toList == [114, 117, 110]) = true := by rw [tl_mkS, hru]; rfl
          clear hru
          go_enter Tryd.func20, Tryd.ntmps20
          go_wp2_with fail
          refine S.mono ?_
          rintro e w1 ⟨rfl, rfl⟩
          generalize w.alloc (.cells (strs [x0, x1]) 9) = W1 at *
          go_wp2_with fail
          refine (number36_any (mkS x1) W1 hl1 EW).mono ?_
          rintro e w2 ⟨n, b, rfl, -, hb2⟩
          go_wp2
          go_ret2
          exact .inr ⟨HR.out, _, _, rfl, .inr ⟨_, _, rfl, by decide⟩, btr hb1 hb2⟩
        · have hq3 : ((mkS x0).toList == [114, 117, 110]) = false := by rw [tl_mkS, beq_eq_false_iff_ne]; exact hru
          clear hru
          go_enter Tryd.func20, Tryd.ntmps20
          go_wp2_with fail
          refine S.mono ?_
          rintro e w1 ⟨rfl, rfl⟩
          generalize w.alloc (.cells (strs [x0, x1]) 9) = W1 at *
          go_wp2
          go_ret2
          exact .inr ⟨HR.out, _, _, rfl, .inl rfl, hb1⟩
    · by_cases h1 : ws.length = 1
      · rw [h1] at S
        clear hcell hX hlen hx0 h2 h1 hmem
        go_enter Tryd.func20, Tryd.ntmps20
        go_wp2_with fail
        refine S.mono ?_
        rintro e w1 ⟨rfl, rfl⟩
        generalize w.alloc (.cells (strs ws) 9) = W1 at *
        go_wp2
        all_goals
          go_ret2
          first
            | exact .inr ⟨HR.out, _, _, rfl, .inl rfl, hb1⟩
            | exact .inr ⟨HR.out, _, _, rfl, .inr ⟨_, _, rfl, by decide⟩, hb1⟩
      · have hd2 : ((ws.length : Int) == 2) = false := by rw [beq_eq_false_iff_ne]; omega
        have hd1 : ((ws.length : Int) != 1) = true := by rw [bne_iff_ne]; omega
        have hlp : 0 < ws.length := by omega
        have hlm : ws.length ≤ 1048577 := by omega
        clear hcell hX hlen hx0 h2 h1 hmem
        generalize ws.length = n at *
        go_enter Tryd.func20, Tryd.ntmps20
        go_wp2_with fail
        refine S.mono ?_
        rintro e w1 ⟨rfl, rfl⟩
        generalize w.alloc (.cells (strs ws) 9) = W1 at *
        go_wp2
        all_goals
          go_ret2
          exact .inr ⟨HR.out, _, _, rfl, .inl rfl, hb1⟩
end Go.Proofs.YtghhidaihajdmaaDoor
/- The act of any line, and a line that is an act. -/
namespace Go.Proofs.YtghhidaihajdmaaDoor
open Go.RowKit
theorem dec_inj {a b : Nat} (h : Lib.decDigits a = Lib.decDigits b) : a = b := by
  have h1 := decFrom_digits a
  rw [h, decFrom_digits b] at h1
  exact (Option.some.inj h1).symm
theorem NumOk.uniq {l : List UInt8} {n n' : Int} {b b' : Bool} (h : NumOk l n b) (h' : NumOk l n' b') : b = b' ∧ (b = true → n = n') := by
  rcases h with ⟨k, hk, hl, rfl, rfl⟩ | ⟨h1, rfl⟩
  · rcases h' with ⟨k', hk', hl', rfl, rfl⟩ | ⟨h1', rfl⟩
    · exact ⟨rfl, fun _ => by rw [dec_inj (hl.symm.trans hl')]⟩
    · exact absurd hl (h1' k hk)
  · rcases h' with ⟨k', hk', hl', rfl, rfl⟩ | ⟨h1', rfl⟩
    · exact absurd hl' (h1 k' hk')
    · exact ⟨rfl, fun e => by cases e⟩
theorem PlaceOk.uniq {l : List UInt8} {n n' : Int} {b b' : Bool} (h : PlaceOk l n b) (h' : PlaceOk l n' b') : b = b' ∧ (b = true → n = n') := by
  rcases h with ⟨hl, rfl, rfl⟩ | ⟨hl, h⟩
  · rcases h' with ⟨_, rfl, rfl⟩ | ⟨hl', _⟩
    · exact ⟨rfl, fun _ => rfl⟩
    · exact absurd hl hl'
  · rcases h' with ⟨hl', _, _⟩ | ⟨_, h'⟩
    · exact absurd hl' hl
    · exact h.uniq h'
theorem unhex_hex (r : List UInt8) : unhexL (hexL r) = r := by
  induction r with
  | nil => rfl
  | cons b t ih =>
    have hb := b.toNat_lt
    obtain ⟨_, h1⟩ := dig_ascii (b.toNat / 16) (by omega)
    obtain ⟨_, h2⟩ := dig_ascii (b.toNat % 16) (by omega)
    show UInt8.ofNat ((hv (digs.getD (b.toNat / 16) 0)).toNat * 16 + (hv (digs.getD (b.toNat % 16) 0)).toNat) :: unhexL (hexL t) = _
    rw [ih]
    unfold hv
    rw [h1, h2]
    congr 1
    rw [show ((b.toNat / 16 : Nat) : Int).toNat * 16 + ((b.toNat % 16 : Nat) : Int).toNat = b.toNat by omega]
    simp
theorem TextOk.uniq {l : List UInt8} {n n' : ByteArray} {b b' : Bool} (h : TextOk l n b) (h' : TextOk l n' b') : b = b' ∧ (b = true → n = n') := by
  rcases h with ⟨k, hl, rfl, rfl⟩ | ⟨h1, rfl⟩
  · rcases h' with ⟨k', hl', rfl, rfl⟩ | ⟨h1', rfl⟩
    · refine ⟨rfl, fun _ => ?_⟩
      have e := (List.cons.inj (hl.symm.trans hl')).2
      rw [← unhex_hex k, e, unhex_hex]
    · exact absurd hl (h1' k)
  · rcases h' with ⟨k', hl', rfl, rfl⟩ | ⟨h1', rfl⟩
    · exact absurd hl' (h1 k')
    · exact ⟨rfl, fun e => by cases e⟩
theorem ActOk.uniq {ws : List (List UInt8)} {k k' a a' b b' c c' : Int} {t t' m m' : ByteArray} {f f' : Bool} (h : ActOk ws k a b c t m f) (h' : ActOk ws k' a' b' c' t' m' f') : f = f' ∧ (f = true → k = k' ∧ a = a' ∧ b = b' ∧ c = c' ∧ t = t' ∧ m = m') := by
  obtain ⟨b1, b2, b3, b4, b5, hk, h1, h2, h3, h4, h5, hf⟩ := h
  obtain ⟨d1, d2, d3, d4, d5, hk', g1, g2, g3, g4, g5, hf'⟩ := h'
  obtain ⟨e1, v1⟩ := h1.uniq g1
  obtain ⟨e2, v2⟩ := h2.uniq g2
  obtain ⟨e3, v3⟩ := h3.uniq g3
  obtain ⟨e4, v4⟩ := h4.uniq g4
  obtain ⟨e5, v5⟩ := h5.uniq g5
  subst e1 e2 e3 e4 e5
  refine ⟨by rw [hf, hf'], fun hft => ?_⟩
  rw [hft] at hf
  have hf := hf.symm
  simp only [Bool.and_eq_true] at hf
  obtain ⟨⟨⟨⟨⟨_, x1⟩, x2⟩, x3⟩, x4⟩, x5⟩ := hf
  exact ⟨by rw [hk, hk'], v1 x1, v2 x2, v3 x3, v4 x4, v5 x5⟩
theorem ta56 (v : Value) (W : World) : (Instr.typeAssert (.iface 56 v) 52 56 true).run Tryd.prog W = .ok (.tuple #[v, .bool true]) W := by kernel_rfl
theorem ta56_no (t : TypeId) (ht : t = 63 ∨ t = 65 ∨ t = 68) (v : Value) (W : World) : (Instr.typeAssert (.iface t v) 52 56 true).run Tryd.prog W = .ok (.tuple #[.agg #[.int .i64 0, .int .i64 0, .int .i64 0, .int .i64 0, .string ⟨#[]⟩, .string ⟨#[]⟩], .bool false]) W := by
  rcases ht with rfl | rfl | rfl <;> kernel_rfl
theorem results_cell_and {P : Program} {fn : Func} {p u : Tmp} {ty : TypeId} (h : fn.results = #[.cell p ty, .tmp u]) (tmps : Array Value) (w : World) (g : Nat) (t : TypeId) (cs : Array Value) (fr : Nat × Nat) (d : TypeDesc)
    (hp : tmps.getD p undef = .pointer (some ⟨g, 0, none⟩)) (hg : w.heap[g]? = some (.cells cs t fr))
    (hu : P.underlying ty = some d) (hd : (match d with | .struct _ | .array _ _ => true | _ => false) = true) (hi : (P.info? ty).map (·.size) = some cs.size) :
    (results fn tmps).run P w = .ok (.tuple #[.agg cs, tmps.getD u undef]) w := by
  rw [results_cell_tmp h, hp]
  simp only [asAddr, Sem.run_pure, Result.andThen_ok, run_loadVar_row w g t ty cs fr d hg hu hd hi]
theorem blk6 {w : World} {b : Nat} {u0 u1 u2 u3 u4 u5 : Value} {t : TypeId} {z : Nat × Nat} (h : w.heap[b]? = some (.cells #[u0, u1, u2, u3, u4, u5] t z)) (v0 v1 v2 v3 v4 v5 : Value) :
    ((((((w.setCell ⟨b, 0, none⟩ v0).setCell ⟨b, 1, none⟩ v1).setCell ⟨b, 2, none⟩ v2).setCell ⟨b, 3, none⟩ v3).setCell ⟨b, 4, none⟩ v4).setCell ⟨b, 5, none⟩ v5).heap[b]? = some (.cells #[v0, v1, v2, v3, v4, v5] t z) := by
  rw [blk_set (blk_set (blk_set (blk_set (blk_set (blk_set h v0) v1) v2) v3) v4) v5]
  rfl
theorem below6 {B : Nat} {w0 w : World} {b : Nat} (h : Below B w0 w) (hb : B ≤ b) (v0 v1 v2 v3 v4 v5 : Value) :
    Below B w0 ((((((w.setCell ⟨b, 0, none⟩ v0).setCell ⟨b, 1, none⟩ v1).setCell ⟨b, 2, none⟩ v2).setCell ⟨b, 3, none⟩ v3).setCell ⟨b, 4, none⟩ v4).setCell ⟨b, 5, none⟩ v5) :=
  (((((h.setCell (p := ⟨b, 0, none⟩) hb v0).setCell (p := ⟨b, 1, none⟩) hb v1).setCell (p := ⟨b, 2, none⟩) hb v2).setCell (p := ⟨b, 3, none⟩) hb v3).setCell (p := ⟨b, 4, none⟩) hb v4).setCell (p := ⟨b, 5, none⟩) hb v5
/-- Are these the words of this act? -/
def Valid (ws : List (List UInt8)) (k a b c : Int) (t m : ByteArray) : Prop := ws.getD 0 [] = [97, 99, 116] ∧ ws.length = 7 ∧ ActOk ws k a b c t m true
def ActFin (ws : List (List UInt8)) (w : World) (e : Ending) (w' : World) : Prop :=
  ∃ (k a b c : Int) (t m : ByteArray) (n : Int), e = .returned (.tuple #[actV k a b c t m, .int .i64 n]) ∧ ((n = 0 ∧ Valid ws k a b c t m) ∨ (n = 4 ∧ k = 0 ∧ a = 0 ∧ b = 0 ∧ c = 0 ∧ t = ⟨#[]⟩ ∧ m = ⟨#[]⟩ ∧ ∀ k a b c t m, ¬ Valid ws k a b c t m)) ∧ Below w.heap.size w w'
set_option maxHeartbeats 800000 in
set_option maxRecDepth 100000 in
theorem act9 (s : ByteArray) (w : World) (hs : s.size ≤ 1048576) (E : Env w) : Calls Tryd.prog 9 #[.string s] w (ActFin (splitL s.data.toList) w) := by
  have hb0 : Below w.heap.size w (w.alloc (.cells (actC 0 0 0 0 ⟨#[]⟩ ⟨#[]⟩) 23)) := (Below.refl _ w).alloc (Nat.le_refl _) _
  have R := read20 s _ hs (E.below hb0)
  generalize splitL s.data.toList = ws at *
  unfold actC at hb0 R
  have hX := at_new w (.cells #[.int .i64 0, .int .i64 0, .int .i64 0, .int .i64 0, .string ⟨#[]⟩, .string ⟨#[]⟩] 23) _ rfl
  go_enter Tryd.func9, Tryd.ntmps9
  go_wp2_with fail
  generalize w.alloc (.cells #[.int .i64 0, .int .i64 0, .int .i64 0, .int .i64 0, .string ⟨#[]⟩, .string ⟨#[]⟩] 23) = W0 at *
  refine R.mono ?_
  rintro e w1 hr
  rcases hr with ⟨h0, ⟨h7, ⟨k, a, b, c, t, m, f, rfl, hok⟩, hb1⟩ | ⟨h7, rfl, hb1⟩⟩ | ⟨h0, v, f, rfl, hv, hb1⟩
  · unfold actV
    have hX1 := (hb1.block _ (blk_lt hX)).trans hX
    have hcs := blk_cells hX1
    have hfs := blk_free hX1
    have hb2 := btr hb0 hb1
    have ta := fun W => ta56 (.agg #[.int .i64 k, .int .i64 a, .int .i64 b, .int .i64 c, .string t, .string m]) W
    rcases f with _ | _
    · go_wp2
      refine bodyPost_ret (results_cell_and rfl _ _ w.heap.size 23 _ (0, 0) _ rfl (blk6 hX1 _ _ _ _ _ _) Tryd.underlying23 rfl (by kernel_rfl)) rfl ?_
      exact ⟨0, 0, 0, 0, ⟨#[]⟩, ⟨#[]⟩, 4, rfl, .inr ⟨rfl, rfl, rfl, rfl, rfl, rfl, rfl, fun k' a' b' c' t' m' hv => by have := (hok.uniq hv.2.2).1; cases this⟩, below6 hb2 (Nat.le_refl _) _ _ _ _ _ _⟩
    · have hX2 := at_old hX1 (.cells #[.int .i64 k, .int .i64 a, .int .i64 b, .int .i64 c, .string t, .string m] 56)
      have hcs2 := blk_cells hX2
      have hfs2 := blk_free hX2
      go_wp2
      refine bodyPost_ret (results_cell_and rfl _ _ w.heap.size 23 _ (0, 0) _ rfl (blk6 hX2 _ _ _ _ _ _) Tryd.underlying23 rfl (by kernel_rfl)) rfl ?_
      exact ⟨k, a, b, c, t, m, 0, rfl, .inl ⟨rfl, h0, h7, hok⟩, below6 (bal hb2 _) (Nat.le_refl _) _ _ _ _ _ _⟩
  · have hX1 := (hb1.block _ (blk_lt hX)).trans hX
    have hcs := blk_cells hX1
    have hfs := blk_free hX1
    have hb2 := btr hb0 hb1
    go_wp2
    refine bodyPost_ret (results_cell_and rfl _ _ w.heap.size 23 _ (0, 0) _ rfl (blk6 hX1 _ _ _ _ _ _) Tryd.underlying23 rfl (by kernel_rfl)) rfl ?_
    exact ⟨0, 0, 0, 0, ⟨#[]⟩, ⟨#[]⟩, 4, rfl, .inr ⟨rfl, rfl, rfl, rfl, rfl, rfl, rfl, fun k' a' b' c' t' m' hv => h7 hv.2.1⟩, below6 hb2 (Nat.le_refl _) _ _ _ _ _ _⟩
  · have hX1 := (hb1.block _ (blk_lt hX)).trans hX
    have hcs := blk_cells hX1
    have hfs := blk_free hX1
    have hb2 := btr hb0 hb1
    rcases f with _ | _
    · go_wp2
      refine bodyPost_ret (results_cell_and rfl _ _ w.heap.size 23 _ (0, 0) _ rfl (blk6 hX1 _ _ _ _ _ _) Tryd.underlying23 rfl (by kernel_rfl)) rfl ?_
      exact ⟨0, 0, 0, 0, ⟨#[]⟩, ⟨#[]⟩, 4, rfl, .inr ⟨rfl, rfl, rfl, rfl, rfl, rfl, rfl, fun k' a' b' c' t' m' hv => h0 hv.1⟩, below6 hb2 (Nat.le_refl _) _ _ _ _ _ _⟩
    · rcases hv with rfl | ⟨x, t, rfl, ht⟩
      · have hta : ∀ W, (Instr.typeAssert .nilIface 52 56 true).run Tryd.prog W = .ok (.tuple #[.agg #[.int .i64 0, .int .i64 0, .int .i64 0, .int .i64 0, .string ⟨#[]⟩, .string ⟨#[]⟩], .bool false]) W := fun _ => by kernel_rfl
        have hX2 := at_old hX1 (.cells #[.int .i64 0, .int .i64 0, .int .i64 0, .int .i64 0, .string ⟨#[]⟩, .string ⟨#[]⟩] 56)
        have hcs2 := blk_cells hX2
        have hfs2 := blk_free hX2
        go_wp2
        refine bodyPost_ret (results_cell_and rfl _ _ w.heap.size 23 _ (0, 0) _ rfl (blk6 hX2 _ _ _ _ _ _) Tryd.underlying23 rfl (by kernel_rfl)) rfl ?_
        exact ⟨0, 0, 0, 0, ⟨#[]⟩, ⟨#[]⟩, 4, rfl, .inr ⟨rfl, rfl, rfl, rfl, rfl, rfl, rfl, fun k' a' b' c' t' m' hv => h0 hv.1⟩, below6 (bal hb2 _) (Nat.le_refl _) _ _ _ _ _ _⟩
      · have ta := fun W => ta56_no t ht x W
        have hX2 := at_old hX1 (.cells #[.int .i64 0, .int .i64 0, .int .i64 0, .int .i64 0, .string ⟨#[]⟩, .string ⟨#[]⟩] 56)
        have hcs2 := blk_cells hX2
        have hfs2 := blk_free hX2
        go_wp2
        refine bodyPost_ret (results_cell_and rfl _ _ w.heap.size 23 _ (0, 0) _ rfl (blk6 hX2 _ _ _ _ _ _) Tryd.underlying23 rfl (by kernel_rfl)) rfl ?_
        exact ⟨0, 0, 0, 0, ⟨#[]⟩, ⟨#[]⟩, 4, rfl, .inr ⟨rfl, rfl, rfl, rfl, rfl, rfl, rfl, fun k' a' b' c' t' m' hv => h0 hv.1⟩, below6 (bal hb2 _) (Nat.le_refl _) _ _ _ _ _ _⟩
end Go.Proofs.YtghhidaihajdmaaDoor
/- The reference's reading of a line, plainly: words, numbers, texts. -/
namespace Go.Proofs.YtghhidaihajdmaaDoor
open Go.RowKit PScriptActs Go.Proofs.YtghhidaihajdmaaDoorW.PrintWords
theorem wrap_ok {i : Int} (h0 : -9223372036854775808 ≤ i) (h : i ≤ 9223372036854775807) : wrap64 i = i := by
  unfold wrap64
  omega
theorem bt_nat (s : ByteArray) (i : Nat) (h : i < s.size) : bt s (i : Int) = ((s.data.toList.getD i 0).toNat : Int) := by
  rw [at_list s i h]
  simp [bt, h]
theorem drop_at (s : ByteArray) (i : Nat) (h : i < s.size) : s.data.toList.drop i = s.data.toList.getD i 0 :: s.data.toList.drop (i + 1) := by
  rw [List.drop_eq_getElem_cons (by rw [dlen]; exact h)]
  congr 1
  rw [List.getD_eq_getElem?_getD, List.getElem?_eq_getElem (by rw [dlen]; exact h)]
  rfl
theorem words_from (s : ByteArray) (hs : s.size ≤ 1048576) : ∀ (d i f : Nat) (acc : List ByteArray) (K : Nat), i + d = s.size → f ≤ i → acc.length ≤ i → d + 1 < K → ∃ a r, splitL (s.data.toList.drop i) = a :: r ∧
    hornbeamref22_words.l0 K s acc f i = some (acc ++ mkS ((s.data.toList.drop f).take (i - f) ++ a) :: r.map mkS) := by
  intro d
  induction d with
  | zero =>
    intro i f acc K hi hf ha hK
    obtain ⟨K, rfl⟩ : ∃ m, K = m + 2 := ⟨K - 2, by omega⟩
    obtain rfl : i = s.size := by omega
    refine ⟨[], [], by rw [List.drop_of_length_le (by rw [dlen]; exact Nat.le_refl _)]; rfl, ?_⟩
    simp only [hornbeamref22_words.l0]
    rw [if_pos (by omega), if_pos trivial, if_pos (by omega), if_pos (by omega), if_pos (by omega), wrap_ok (by omega) (by omega), if_neg (by omega)]
    rw [Lib.extract_eq]
    simp [mkS]
  | succ d ih =>
    intro i f acc K hi hf ha hK
    obtain ⟨K, rfl⟩ : ∃ m, K = m + 1 := ⟨K - 1, by omega⟩
    have hlt : i < s.size := by omega
    simp only [hornbeamref22_words.l0]
    rw [if_pos (by omega), if_neg (by omega), if_pos (by omega), if_pos (by omega), bt_nat s i hlt, drop_at s i hlt, wrap_ok (by omega) (by omega)]
    by_cases hc : s.data.toList.getD i 0 = 32
    · rw [if_pos (by rw [hc]; rfl), if_pos (by omega), if_pos (by omega), if_pos (by omega)]
      obtain ⟨a, r, h1, h2⟩ := ih (i + 1) (i + 1) (acc ++ [s.extract f i]) K (by omega) (by omega) (by simp; omega) (by omega)
      refine ⟨[], a :: r, by rw [splitL, if_pos hc, h1], ?_⟩
      rw [show ((i : Int) + 1) = ((i + 1 : Nat) : Int) by omega]
      simp only [Int.toNat_natCast]
      rw [h2, Lib.extract_eq]
      simp [mkS]
    · rw [if_neg (by intro e; apply hc; have := (s.data.toList.getD i 0).toNat_lt; exact UInt8.toNat_inj.1 (by rw [show (32 : UInt8).toNat = 32 from rfl]; omega))]
      obtain ⟨a, r, h1, h2⟩ := ih (i + 1) f acc K (by omega) (by omega) (by omega) (by omega)
      refine ⟨s.data.toList.getD i 0 :: a, r, by rw [splitL, if_neg hc, h1], ?_⟩
      rw [show ((i : Int) + 1) = ((i + 1 : Nat) : Int) by omega, h2]
      have e : (s.data.toList.drop f).take (i + 1 - f) ++ a = (s.data.toList.drop f).take (i - f) ++ s.data.toList.getD i 0 :: a := by
        rw [show i + 1 - f = (i - f) + 1 by omega, List.take_succ_eq_append_getElem (by rw [List.length_drop, dlen]; omega), List.append_assoc]
        congr 1
        simp only [List.getElem_drop, List.singleton_append]
        congr 1
        rw [List.getD_eq_getElem?_getD, List.getElem?_eq_getElem (by rw [dlen]; exact hlt), Option.getD_some]
        congr 1
        omega
      rw [e]
theorem words_all (s : ByteArray) (hs : s.size ≤ 1048576) (K : Nat) (hK : s.size + 1 < K) : hornbeamref22_words.f K s = some ((splitL s.data.toList).map mkS) := by
  obtain ⟨a, r, h1, h2⟩ := words_from s hs s.size 0 0 [] K (by omega) (by omega) (by simp) (by omega)
  rw [List.drop_zero] at h1
  unfold hornbeamref22_words.f
  rw [show (0 : Int) = ((0 : Nat) : Int) from rfl, h2, h1]
  simp
end Go.Proofs.YtghhidaihajdmaaDoor
/- The reference's reading of numbers and texts, plainly. -/
namespace Go.Proofs.YtghhidaihajdmaaDoor
open Go.RowKit PScriptActs Go.Proofs.YtghhidaihajdmaaDoorW.PrintWords
def isD (c : UInt8) : Prop := 48 ≤ c.toNat ∧ c.toNat ≤ 57
instance (c : UInt8) : Decidable (isD c) := inferInstanceAs (Decidable (_ ∧ _))
/-- What digits are worth. -/
def valD (acc : Nat) : List UInt8 → Nat
  | [] => acc
  | c :: r => valD (acc * 10 + (c.toNat - 48)) r
theorem valD_snoc (l : List UInt8) (c : UInt8) : ∀ acc, valD acc (l ++ [c]) = valD acc l * 10 + (c.toNat - 48) := by
  induction l with
  | nil => intro acc; rfl
  | cons a t ih => intro acc; exact ih _
theorem number_loop (s : ByteArray) (hs : s.size ≤ 5) : ∀ (d i n : Nat) (K : Nat), i + d = s.size → n < 10 ^ i → d < K →
    hornbeamref22_number.l0 K s n i = if ∀ c ∈ s.data.toList.drop i, isD c then some (((valD n (s.data.toList.drop i) : Nat) : Int), true) else some (0, false) := by
  intro d
  induction d with
  | zero =>
    intro i n K hi hn hK
    obtain ⟨K, rfl⟩ : ∃ m, K = m + 1 := ⟨K - 1, by omega⟩
    have e : s.data.toList.drop i = [] := List.drop_of_length_le (by rw [dlen]; omega)
    simp only [hornbeamref22_number.l0]
    rw [if_neg (by omega), e, if_pos (by simp)]
    rfl
  | succ d ih =>
    intro i n K hi hn hK
    obtain ⟨K, rfl⟩ : ∃ m, K = m + 1 := ⟨K - 1, by omega⟩
    have hlt : i < s.size := by omega
    have hc8 := (s.data.toList.getD i 0).toNat_lt
    have h10 : 10 ^ i ≤ 10 ^ 4 := Nat.pow_le_pow_right (by omega) (by omega)
    simp only [hornbeamref22_number.l0]
    rw [if_pos (by omega), if_pos (by omega), bt_nat s i hlt, drop_at s i hlt]
    by_cases hd : isD (s.data.toList.getD i 0)
    · obtain ⟨hd0, hd1⟩ := hd
      rw [if_neg (by omega), if_neg (by omega), wrap_ok (i := 10 * (n : Int)) (by omega) (by omega), wrap_ok (i := (i : Int) + 1) (by omega) (by omega)]
      rw [show 10 * (n : Int) + (((s.data.toList.getD i 0).toNat : Int) - 48) % 256 = ((n * 10 + ((s.data.toList.getD i 0).toNat - 48) : Nat) : Int) by omega, wrap_ok (by omega) (by omega), show ((i : Int) + 1) = ((i + 1 : Nat) : Int) by omega]
      rw [ih (i + 1) _ K (by omega) (by rw [Nat.pow_succ]; omega) (by omega)]
      have e : (∀ c ∈ s.data.toList.getD i 0 :: s.data.toList.drop (i + 1), isD c) ↔ ∀ c ∈ s.data.toList.drop (i + 1), isD c := by
        constructor
        · exact fun h c hc => h c (List.mem_cons_of_mem _ hc)
        · intro h c hc
          rcases List.mem_cons.1 hc with rfl | hc
          · exact ⟨hd0, hd1⟩
          · exact h c hc
      simp only [e]
      rfl
    · rw [if_neg (c := ∀ c ∈ s.data.toList.getD i 0 :: s.data.toList.drop (i + 1), isD c) (fun h => hd (h _ List.mem_cons_self))]
      by_cases h0 : ((s.data.toList.getD i 0).toNat : Int) < 48
      · rw [if_pos h0]
      · rw [if_neg h0, if_pos (by unfold isD at hd; omega)]
theorem digit_ofNat (c : UInt8) (h : isD c) : UInt8.ofNat (48 + (c.toNat - 48)) = c := by
  obtain ⟨h0, h1⟩ := h
  rw [show 48 + (c.toNat - 48) = c.toNat by omega]
  simp
theorem dec_isD (n : Nat) : ∀ c ∈ Lib.decDigits n, isD c := by
  induction n using Nat.strongRecOn with
  | ind n ih =>
    have hb : ∀ d, d < 10 → isD (UInt8.ofNat (48 + d)) := fun d hd => by
      unfold isD
      rw [UInt8.toNat_ofNat']
      omega
    rw [dec_step]
    by_cases h : n < 10
    · rw [if_pos h]
      intro c hc
      rw [List.mem_singleton.1 hc]
      exact hb _ (by omega)
    · rw [if_neg h]
      intro c hc
      rcases List.mem_append.1 hc with hc | hc
      · exact ih (n / 10) (by omega) c hc
      · rw [List.mem_singleton.1 hc]
        exact hb _ (by omega)
theorem valD_pos (l : List UInt8) : ∀ acc, acc ≤ valD acc l := by
  induction l with
  | nil => intro acc; exact Nat.le_refl _
  | cons a t ih =>
    intro acc
    have := ih (acc * 10 + (a.toNat - 48))
    show acc ≤ valD (acc * 10 + (a.toNat - 48)) t
    omega
/-- Digits without a nought ahead are the digits of what they are worth. -/
theorem dec_val : ∀ l : List UInt8, l ≠ [] → (∀ c ∈ l, isD c) → (1 < l.length → l.head? ≠ some 48) → Lib.decDigits (valD 0 l) = l := by
  intro l
  induction hn : l.length using Nat.strongRecOn generalizing l with
  | ind n ih =>
    intro hne hd h0
    obtain ⟨t, c, rfl⟩ : ∃ t c, l = t ++ [c] := ⟨l.dropLast, l.getLast hne, (List.dropLast_concat_getLast hne).symm⟩
    have hc := hd c (by simp)
    rw [valD_snoc, dec_step]
    by_cases ht : t = []
    · subst ht
      obtain ⟨hc0, hc1⟩ := id hc
      rw [if_pos (by show (0 * 10 + (c.toNat - 48)) < 10; omega)]
      show [UInt8.ofNat (48 + (0 * 10 + (c.toNat - 48)) % 10)] = _
      rw [show (0 * 10 + (c.toNat - 48)) % 10 = c.toNat - 48 by omega, digit_ofNat c hc]
      rfl
    · obtain ⟨hc0, hc1⟩ := id hc
      have hi := ih t.length (by rw [← hn]; simp) t rfl ht (fun x hx => hd x (by simp [hx])) (fun hl => by
        have := h0 (by rw [← hn, List.length_append]; simp; omega)
        cases t with
        | nil => exact absurd rfl ht
        | cons a r => simpa using this)
      have hpos : 1 ≤ valD 0 t := by
        cases t with
        | nil => exact absurd rfl ht
        | cons a r =>
          have h1 := h0 (by rw [← hn, List.length_append]; simp)
          have h2 := hd a (by simp)
          have h3 : a.toNat ≠ 48 := fun e => h1 (by
            show some a = some 48
            exact congrArg some (UInt8.toNat_inj.1 e))
          have h4 := valD_pos r (0 * 10 + (a.toNat - 48))
          unfold isD at h2
          show 1 ≤ valD (0 * 10 + (a.toNat - 48)) r
          omega
      rw [if_neg (by omega), show (valD 0 t * 10 + (c.toNat - 48)) / 10 = valD 0 t by omega, show (valD 0 t * 10 + (c.toNat - 48)) % 10 = c.toNat - 48 by omega, hi, digit_ofNat c hc]
theorem dec_head0 (n : Nat) : 1 < (Lib.decDigits n).length → (Lib.decDigits n).head? ≠ some 48 := by
  induction n using Nat.strongRecOn with
  | ind n ih =>
    rw [dec_step]
    by_cases h : n < 10
    · rw [if_pos h]; intro hl; simp at hl
    · rw [if_neg h]
      intro _
      by_cases h2 : n / 10 < 10
      · rw [dec_step, if_pos h2]
        intro e
        have e2 : UInt8.ofNat (48 + n / 10 % 10) = 48 := by simpa using e
        have e3 : (UInt8.ofNat (48 + n / 10 % 10)).toNat = 48 := by rw [e2]; rfl
        rw [UInt8.toNat_ofNat'] at e3
        omega
      · have hl : 1 < (Lib.decDigits (n / 10)).length := by
          rw [dec_step, if_neg h2, List.length_append]
          have := dec_head (n / 10 / 10)
          obtain ⟨d, r, _, hr⟩ := this
          rw [hr]
          simp
        have := ih (n / 10) (by omega) hl
        rw [List.head?_append]
        intro e
        apply this
        cases hh : (Lib.decDigits (n / 10)).head? with
        | none => rw [List.head?_eq_none_iff] at hh; rw [hh] at hl; simp at hl
        | some x => rw [hh] at e; exact e
theorem number_ref (s : ByteArray) (K : Nat) (hK : 8 < K) : ∃ n b, hornbeamref22_number.f K s true = some (n, b) ∧ PlaceOk s.data.toList n b := by
  obtain ⟨K, rfl⟩ : ∃ m, K = m + 2 := ⟨K - 2, by omega⟩
  have hl := dlen s
  unfold hornbeamref22_number.f
  rw [if_pos rfl]
  simp only [hornbeamref22_number.j0]
  by_cases hm : s.data.toList = [45]
  · rw [if_pos (by rw [tl, hm]; rfl)]
    exact ⟨_, _, rfl, .inl ⟨hm, rfl, rfl⟩⟩
  · rw [if_neg (by rw [tl]; simpa using hm)]
    by_cases he : s.data.toList = []
    · rw [if_pos (by rw [tl]; exact he)]
      simp only [hornbeamref22_number.j1]
      refine ⟨_, _, rfl, .inr ⟨hm, .inr ⟨fun k hk e => ?_, rfl⟩⟩⟩
      obtain ⟨d, r, _, hr⟩ := dec_head k
      rw [he, hr] at e
      cases e
    · rw [if_neg (by rw [tl]; exact he)]
      by_cases h5 : s.size ≤ 5
      · rw [if_neg (by omega)]
        have hpos : 0 < s.size := by
          rcases Nat.eq_zero_or_pos s.size with h | h
          · exact absurd (List.eq_nil_of_length_eq_zero (by rw [hl]; exact h)) he
          · exact h
        have hloop := number_loop s h5 s.size 0 0 K (by omega) (by decide) (by omega)
        rw [List.drop_zero, show ((0 : Nat) : Int) = 0 from rfl] at hloop
        by_cases hz : 1 < s.size ∧ s.data.toList.getD 0 0 = 48
        · rw [if_pos (by omega), if_pos (by omega)]
          have hb : (bt s 0 == 48) = true := by
            have := bt_nat s 0 hpos
            rw [show ((0 : Nat) : Int) = 0 from rfl] at this
            rw [this, hz.2]
            rfl
          rw [hb]
          simp only [hornbeamref22_number.j1]
          refine ⟨_, _, rfl, .inr ⟨hm, .inr ⟨fun k hk e => ?_, rfl⟩⟩⟩
          apply dec_head0 k (by rw [← e, hl]; exact hz.1)
          rw [← e]
          cases hq : s.data.toList with
          | nil => exact absurd hq he
          | cons a r =>
            have := hz.2
            rw [hq] at this
            simpa using this
        · have hj : (if (s.size : Int) > 1 then (if 0 < (s.size : Int) then (hornbeamref22_number.j1 (K + 1) s ((bt s 0) == 48)) else (none)) else (hornbeamref22_number.j1 (K + 1) s false)) = hornbeamref22_number.l0 K s 0 0 := by
            by_cases h1 : 1 < s.size
            · rw [if_pos (by omega), if_pos (by omega)]
              have hb : (bt s 0 == 48) = false := by
                have := bt_nat s 0 hpos
                rw [show ((0 : Nat) : Int) = 0 from rfl] at this
                rw [this, beq_eq_false_iff_ne]
                intro e
                exact hz ⟨h1, UInt8.toNat_inj.1 (by rw [show (48 : UInt8).toNat = 48 from rfl]; omega)⟩
              rw [hb]
              simp only [hornbeamref22_number.j1]
              rfl
            · rw [if_neg (by omega)]
              simp only [hornbeamref22_number.j1]
              rfl
          rw [hj, hloop]
          by_cases hall : ∀ c ∈ s.data.toList, isD c
          · rw [if_pos hall]
            have hdv := dec_val s.data.toList he hall (fun h1 e => by
              cases hq : s.data.toList with
              | nil => exact absurd hq he
              | cons a r =>
                rw [hq] at e
                refine hz ⟨by rw [← hl]; exact h1, ?_⟩
                rw [hq]
                simpa using e)
            exact ⟨_, _, rfl, .inr ⟨hm, .inl ⟨_, dec_small (by rw [hdv, hl]; exact h5), hdv.symm, rfl, rfl⟩⟩⟩
          · rw [if_neg hall]
            exact ⟨_, _, rfl, .inr ⟨hm, .inr ⟨fun k hk e => hall (by rw [e]; exact dec_isD k), rfl⟩⟩⟩
      · rw [if_pos (by omega)]
        simp only [hornbeamref22_number.j1]
        refine ⟨_, _, rfl, .inr ⟨hm, .inr ⟨fun k hk e => ?_, rfl⟩⟩⟩
        have := dec_len 4 k (by omega)
        rw [← e, hl] at this
        omega
end Go.Proofs.YtghhidaihajdmaaDoor
/- The reference's reading of texts and acts, plainly. -/
namespace Go.Proofs.YtghhidaihajdmaaDoor
open Go.RowKit PScriptActs Go.Proofs.YtghhidaihajdmaaDoorW.PrintWords
theorem hv_form : ∀ c : Fin 256, hv (UInt8.ofNat c.val) = if 48 ≤ c.val ∧ c.val ≤ 57 then (c.val : Int) - 48 else if 97 ≤ c.val ∧ c.val ≤ 102 then (c.val : Int) - 87 else -1 := by decide +kernel
theorem digit_ref (c : UInt8) (K : Nat) (hK : 0 < K) : hornbeamref22_digit.f K (c.toNat : Int) = some (hv c) := by
  obtain ⟨K, rfl⟩ : ∃ m, K = m + 1 := ⟨K - 1, by omega⟩
  have h := hv_form ⟨c.toNat, c.toNat_lt⟩
  have hlt := c.toNat_lt
  simp only at h
  rw [show UInt8.ofNat c.toNat = c by simp] at h
  rw [h]
  unfold hornbeamref22_digit.f
  by_cases h0 : 48 ≤ c.toNat
  · rw [if_pos (by omega)]
    by_cases h1 : c.toNat ≤ 57
    · rw [if_pos ⟨h0, h1⟩, decide_eq_true (by omega)]
      simp only [hornbeamref22_digit.j0]
      rw [if_pos trivial]
      congr 1
      omega
    · rw [if_neg (by omega), decide_eq_false (by omega)]
      simp only [hornbeamref22_digit.j0]
      rw [if_neg (by decide)]
      by_cases h2 : 97 ≤ c.toNat
      · rw [if_pos (by omega)]
        by_cases h3 : c.toNat ≤ 102
        · rw [if_pos (by omega), if_pos ⟨h2, h3⟩]
          congr 1
          omega
        · rw [if_neg (by omega), if_neg (by omega)]
      · rw [if_neg (by omega), if_neg (by omega)]
  · rw [if_neg (by omega), if_neg (by omega), if_neg (by omega)]
    simp only [hornbeamref22_digit.j0]
    rw [if_neg (by decide), if_neg (by omega)]
theorem text_loop (s : ByteArray) (hs : s.size ≤ 1048576) : ∀ (d i : Nat) (acc : List Int) (K : Nat), i + 2 * d = s.size → acc.length ≤ i → d + 1 < K →
    hornbeamref22_text.l0 K s acc i = if ∀ c ∈ s.data.toList.drop i, 0 ≤ hv c then some (strOfNums (acc ++ (unhexL (s.data.toList.drop i)).map fun b => (b.toNat : Int)), true) else some (⟨#[]⟩, false) := by
  intro d
  induction d with
  | zero =>
    intro i acc K hi ha hK
    obtain ⟨K, rfl⟩ : ∃ m, K = m + 1 := ⟨K - 1, by omega⟩
    have e : s.data.toList.drop i = [] := List.drop_of_length_le (by rw [dlen]; omega)
    simp only [hornbeamref22_text.l0]
    rw [if_neg (by omega), e, if_pos (by simp)]
    simp [unhexL]
  | succ d ih =>
    intro i acc K hi ha hK
    obtain ⟨K, rfl⟩ : ∃ m, K = m + 1 := ⟨K - 1, by omega⟩
    have hlt : i < s.size := by omega
    have hlt2 : i + 1 < s.size := by omega
    simp only [hornbeamref22_text.l0]
    rw [if_pos (by omega), if_pos (by omega), wrap_ok (i := (i : Int) + 1) (by omega) (by omega), show ((i : Int) + 1) = ((i + 1 : Nat) : Int) by omega, bt_nat s i hlt, bt_nat s (i + 1) hlt2, digit_ref _ K (by omega), digit_ref _ K (by omega), drop_at s i hlt, drop_at s (i + 1) hlt2]
    simp only [Option.bind_some]
    rw [if_pos (by omega), if_pos (by omega)]
    generalize s.data.toList.getD i 0 = x
    generalize s.data.toList.getD (i + 1) 0 = y
    have hx := hv_at x
    have hy := hv_at y
    by_cases h1 : hv x < 0
    · rw [if_pos h1, if_neg (fun h => by have := h x (by simp); omega)]
    · rw [if_neg h1]
      by_cases h2 : hv y < 0
      · rw [if_pos h2, if_neg (fun h => by have := h y (by simp); omega)]
      · rw [if_neg h2, if_pos (by omega), wrap_ok (i := 16 * hv x) (by omega) (by omega), wrap_ok (i := 16 * hv x + hv y) (by omega) (by omega), wrap_ok (i := (i : Int) + 2) (by omega) (by omega), show ((i : Int) + 2) = ((i + 1 + 1 : Nat) : Int) by omega]
        rw [ih (i + 1 + 1) _ K (by omega) (by simp; omega) (by omega)]
        have e : (∀ c ∈ x :: y :: s.data.toList.drop (i + 1 + 1), 0 ≤ hv c) ↔ ∀ c ∈ s.data.toList.drop (i + 1 + 1), 0 ≤ hv c := by
          constructor
          · exact fun h c hc => h c (by simp [hc])
          · intro h c hc
            rcases List.mem_cons.1 hc with rfl | hc
            · omega
            · rcases List.mem_cons.1 hc with rfl | hc
              · omega
              · exact h c hc
        have e2 : (16 * hv x + hv y) % 256 = ((UInt8.ofNat ((hv x).toNat * 16 + (hv y).toNat)).toNat : Int) := by
          rw [UInt8.toNat_ofNat']
          omega
        simp only [e, e2, unhexL, List.map_cons, List.append_assoc, List.singleton_append]
theorem strOf_bytes (l : List UInt8) : strOfNums (l.map fun b => (b.toNat : Int)) = mkS l := by
  unfold strOfNums mkS
  congr 2
  rw [List.map_map]
  conv => rhs; rw [← List.map_id l]
  apply List.map_congr_left
  intro b _
  simp
theorem text_ref (s : ByteArray) (hs : s.size ≤ 1048576) (K : Nat) (hK : s.size + 4 < K) : ∃ t b, hornbeamref22_text.f K s = some (t, b) ∧ TextOk s.data.toList t b := by
  obtain ⟨K, rfl⟩ : ∃ m, K = m + 1 := ⟨K - 1, by omega⟩
  have hl := dlen s
  unfold hornbeamref22_text.f
  by_cases hp : s.size % 2 = 1
  · rw [if_pos (by omega), if_pos (by omega)]
    have hpos : 0 < s.size := by omega
    have hb := bt_nat s 0 hpos
    have hd := drop_at s 0 hpos
    rw [List.drop_zero] at hd
    rw [show ((0 : Nat) : Int) = 0 from rfl] at hb
    by_cases h61 : s.data.toList.getD 0 0 = 61
    · have hbb : (bt s 0 != 61) = false := by rw [hb, h61]; rfl
      rw [hbb]
      simp only [hornbeamref22_text.j0]
      rw [if_neg (by decide)]
      have hloop := text_loop s hs (s.size / 2) 1 [] K (by omega) (by simp) (by omega)
      rw [show ((1 : Nat) : Int) = 1 from rfl] at hloop
      rw [hloop]
      rw [h61] at hd
      by_cases hall : ∀ c ∈ s.data.toList.drop 1, 0 ≤ hv c
      · rw [if_pos hall]
        refine ⟨_, _, rfl, .inl ⟨unhexL (s.data.toList.drop 1), ?_, ?_, rfl⟩⟩
        · rw [hex_unhex _ hall (by rw [List.length_drop, hl]; omega)]
          exact hd
        · rw [List.nil_append, strOf_bytes]
      · rw [if_neg hall]
        refine ⟨_, _, rfl, .inr ⟨fun r e => hall fun c hc => ?_, rfl⟩⟩
        rw [e] at hc
        exact (hexL_mem hc).2
    · have hbb : (bt s 0 != 61) = true := by
        rw [hb, bne_iff_ne]
        intro e
        exact h61 (UInt8.toNat_inj.1 (by rw [show (61 : UInt8).toNat = 61 from rfl]; omega))
      rw [hbb]
      simp only [hornbeamref22_text.j0]
      rw [if_pos trivial]
      refine ⟨_, _, rfl, .inr ⟨fun r e => h61 ?_, rfl⟩⟩
      rw [e]
      rfl
  · rw [if_neg (by omega)]
    simp only [hornbeamref22_text.j0]
    rw [if_pos trivial]
    refine ⟨_, _, rfl, .inr ⟨fun r e => hp ?_, rfl⟩⟩
    rw [← hl, e, List.length_cons, hexL_len]
    omega
theorem names_ref : hornbeamref22_names.f = some (actNames.map mkS) := rfl
theorem rdOf_map (ws : List (List UInt8)) (i : Int) (j : Nat) (hi : i = j) (h : j < ws.length) : (rdOf ByteArray.empty (ws.map mkS) i) = mkS (ws.getD j []) := by
  subst hi
  unfold rdOf
  simp only [Int.toNat_natCast, List.getD_eq_getElem?_getD, List.getElem?_map, List.getElem?_eq_getElem h, Option.map_some, Option.getD_some]
/-- What the reference answers. -/
def RefOk (ws : List (List UInt8)) (k a b c : Int) (t m : ByteArray) (n : Int) : Prop := (n = 0 ∧ Valid ws k a b c t m) ∨ (n = 4 ∧ k = 0 ∧ a = 0 ∧ b = 0 ∧ c = 0 ∧ t = ⟨#[]⟩ ∧ m = ⟨#[]⟩ ∧ ∀ k a b c t m, ¬ Valid ws k a b c t m)
theorem act_loop (ws : List (List UInt8)) (h7 : ws.length = 7) (h0 : ws.getD 0 [] = [97, 99, 116]) (hl : ∀ x ∈ ws, x.length ≤ 1048576) : ∀ (d i : Nat) (K : Nat), i + d = 12 → d + 1048590 < K →
    ∃ k a b c t m n, hornbeamref22_Act.l0 K (ws.map mkS) (actNames.map mkS) i (nm (ws.getD 1 []) i) 0 0 0 ⟨#[]⟩ ⟨#[]⟩ = some (k, a, b, c, t, m, n) ∧ RefOk ws k a b c t m n := by
  have hin : ∀ j, j < 7 → (mkS (ws.getD j [])).size ≤ 1048576 := fun j hj => hl _ (by
    rw [List.getD_eq_getElem?_getD, List.getElem?_eq_getElem (by omega)]
    exact List.getElem_mem _)
  have hwl : ((ws.map mkS).length : Int) = 7 := by rw [List.length_map, h7]; rfl
  intro d
  induction d with
  | zero =>
    intro i K hi hK
    obtain ⟨K, rfl⟩ : ∃ m, K = m + 1 := ⟨K - 1, by omega⟩
    obtain rfl : i = 12 := by omega
    simp only [hornbeamref22_Act.l0]
    rw [if_neg (by decide), hwl]
    rw [rdOf_map ws 2 2 rfl (by omega), rdOf_map ws 3 3 rfl (by omega), rdOf_map ws 4 4 rfl (by omega), rdOf_map ws 5 5 rfl (by omega), rdOf_map ws 6 6 rfl (by omega)]
    obtain ⟨n2, b2, e2, p2⟩ := number_ref (mkS (ws.getD 2 [])) K (by omega)
    obtain ⟨n3, b3, e3, p3⟩ := number_ref (mkS (ws.getD 3 [])) K (by omega)
    obtain ⟨n4, b4, e4, p4⟩ := number_ref (mkS (ws.getD 4 [])) K (by omega)
    obtain ⟨t5, b5, e5, p5⟩ := text_ref (mkS (ws.getD 5 [])) (hin 5 (by omega)) K (by have := hin 5 (by omega); omega)
    obtain ⟨t6, b6, e6, p6⟩ := text_ref (mkS (ws.getD 6 [])) (hin 6 (by omega)) K (by have := hin 6 (by omega); omega)
    rw [e2, e3, e4, e5, e6]
    rw [mkS_data] at p2 p3 p4 p5 p6
    simp only [Option.bind_some]
    rw [if_pos (by omega), if_pos (by omega), if_pos (by omega), if_pos (by omega), if_pos (by omega)]
    have hno : ∀ f, f = (decide (0 ≤ nm (ws.getD 1 []) 12) && b2 && b3 && b4 && b5 && b6) → f = false → ∀ k a b c t m, ¬ Valid ws k a b c t m := by
      intro f hf hff k a b c t m hv
      have h1 : ActOk ws (nm (ws.getD 1 []) 12) n2 n3 n4 t5 t6 f := ⟨b2, b3, b4, b5, b6, rfl, p2, p3, p4, p5, p6, hf⟩
      have := (h1.uniq hv.2.2).1
      rw [hff] at this
      cases this
    by_cases hk : nm (ws.getD 1 []) 12 < 0
    · rw [if_pos hk]
      exact ⟨0, 0, 0, 0, _, _, 4, rfl, .inr ⟨rfl, rfl, rfl, rfl, rfl, rfl, rfl, hno _ rfl (by rw [decide_eq_false (by omega)]; simp)⟩⟩
    · rw [if_neg hk]
      have hk1 : decide (0 ≤ nm (ws.getD 1 []) 12) = true := decide_eq_true (by omega)
      rw [hk1] at hno
      cases b2
      · exact ⟨0, 0, 0, 0, _, _, 4, rfl, .inr ⟨rfl, rfl, rfl, rfl, rfl, rfl, rfl, hno _ rfl (by simp)⟩⟩
      · cases b3
        · exact ⟨0, 0, 0, 0, _, _, 4, rfl, .inr ⟨rfl, rfl, rfl, rfl, rfl, rfl, rfl, hno _ rfl (by simp)⟩⟩
        · cases b4
          · exact ⟨0, 0, 0, 0, _, _, 4, rfl, .inr ⟨rfl, rfl, rfl, rfl, rfl, rfl, rfl, hno _ rfl (by simp)⟩⟩
          · cases b5
            · exact ⟨0, 0, 0, 0, _, _, 4, rfl, .inr ⟨rfl, rfl, rfl, rfl, rfl, rfl, rfl, hno _ rfl (by simp)⟩⟩
            · cases b6
              · exact ⟨0, 0, 0, 0, _, _, 4, rfl, .inr ⟨rfl, rfl, rfl, rfl, rfl, rfl, rfl, hno _ rfl (by simp)⟩⟩
              · exact ⟨_, _, _, _, _, _, _, rfl, .inl ⟨rfl, h0, h7, true, true, true, true, true, rfl, p2, p3, p4, p5, p6, by rw [hk1]; rfl⟩⟩
  | succ d ih =>
    intro i K hi hK
    obtain ⟨K, rfl⟩ : ∃ m, K = m + 1 := ⟨K - 1, by omega⟩
    simp only [hornbeamref22_Act.l0]
    rw [if_pos (by rw [List.length_map, show actNames.length = 12 from rfl]; omega), if_pos (by omega), if_pos (by rw [hwl]; omega), rdOf_map actNames i i rfl (by rw [show actNames.length = 12 from rfl]; omega), rdOf_map ws 1 1 rfl (by omega), tl_mkS, tl_mkS, wrap_ok (by omega) (by omega), show ((i : Int) + 1) = ((i + 1 : Nat) : Int) by omega]
    obtain ⟨k, a, b, c, t, m, n, h1, h2⟩ := ih (i + 1) K (by omega) (by omega)
    refine ⟨k, a, b, c, t, m, n, ?_, h2⟩
    by_cases he : actNames.getD i [] = ws.getD 1 []
    · rw [if_pos he]
      rw [nm, if_pos he] at h1
      exact h1
    · rw [if_neg he]
      rw [nm, if_neg he] at h1
      exact h1
theorem act_ref (s : ByteArray) (hs : s.size ≤ 1048576) : ∃ K k a b c t m n, hornbeamref22_Act.f K s = some (k, a, b, c, t, m, n) ∧ RefOk (splitL s.data.toList) k a b c t m n := by
  obtain ⟨x0, r, h1, h2, h3, h4, h5⟩ := splitL_glue s.data.toList
  have hl := dlen s
  have hlw : ∀ x ∈ splitL s.data.toList, x.length ≤ 1048576 := fun x hx => by
    rw [h1] at hx
    have := h4 x hx
    omega
  have hlp : 0 < (splitL s.data.toList).length := by rw [h1]; simp
  refine ⟨2097300, ?_⟩
  unfold hornbeamref22_Act.f
  rw [words_all s hs _ (by omega)]
  generalize splitL s.data.toList = ws at *
  simp only [Option.bind_some]
  rw [if_pos (by rw [List.length_map]; omega), rdOf_map ws 0 0 rfl hlp, tl_mkS]
  by_cases h0 : ws.getD 0 [] = [97, 99, 116]
  · rw [if_pos h0]
    by_cases h7 : ws.length = 7
    · have hb : (((ws.map mkS).length : Int) != 7) = false := by rw [List.length_map, h7]; rfl
      rw [hb]
      simp only [hornbeamref22_Act.j0]
      rw [if_neg (by decide), names_ref]
      simp only [Option.bind_some]
      obtain ⟨k, a, b, c, t, m, n, e1, e2⟩ := act_loop ws h7 h0 hlw 12 0 2097299 rfl (by omega)
      exact ⟨k, a, b, c, t, m, n, e1, e2⟩
    · have hb : (((ws.map mkS).length : Int) != 7) = true := by rw [List.length_map, bne_iff_ne]; omega
      rw [hb]
      simp only [hornbeamref22_Act.j0]
      exact ⟨0, 0, 0, 0, _, _, 4, rfl, .inr ⟨rfl, rfl, rfl, rfl, rfl, rfl, rfl, fun k a b c t m hv => h7 hv.2.1⟩⟩
  · rw [if_neg h0]
    simp only [hornbeamref22_Act.j0]
    exact ⟨0, 0, 0, 0, _, _, 4, rfl, .inr ⟨rfl, rfl, rfl, rfl, rfl, rfl, rfl, fun k a b c t m hv => h0 hv.1⟩⟩
end Go.Proofs.YtghhidaihajdmaaDoor
/- From what a row lists to what the walk asks; an act among the arguments, taken apart. -/
namespace Go.Proofs.YtghhidaihajdmaaDoor
open Go.RowKit Go.Shelf Go.Lib
theorem tabIs_of_reads {P : Program} {W : World} {name : String} {k : IntKind} {zs : List Int} {g : Nat} {t e : TypeId} {n : Nat}
    (hg : P.globalNamed name = some g) (hty : (P.globals[g]?).map (·.type) = some t) (ht : P.underlying t = some (.array n e)) (he : P.underlying e = some (.int k)) (hce : P.cellsOf e = 1) (hct : P.cellsOf t = n)
    (h : Lib.VarReads P W name (Lib.tabData k zs)) : Lib.TabIs P W name k zs := by
  obtain ⟨g', t', cs, fuel, p, hg', ht', hvar, hd⟩ := h
  obtain rfl := Option.some.inj (hg.symm.trans hg')
  obtain rfl := Option.some.inj (hty.symm.trans ht')
  unfold Lib.TabIs
  rw [hvar, ← Lib.cells_of_tab ht he hce hct hd]
theorem tabs_of {W : World} {l : List (String × DataW Unit)} (h : laidMetH Tryd.prog l W) (hp : (l.all fun x => x.2.handleName?.isNone) = true) (h1 : ("strings.asciiSpace", Rows.laid_strings_asciiSpace) ∈ l) (h2 : ("internal/strconv.uint64pow10", Rows.laid_internal_strconv_uint64pow10) ∈ l) : Tabs W := by
  rw [MakeChecks.laidMetH_plain _ _ _ hp] at h
  have r1 := Lib.laidMet.reads h h1
  have r2 := Lib.laidMet.reads h h2
  have d1 : (Rows.laid_strings_asciiSpace : DataW Unit) = Lib.tabData .u8 Lib.asciiSpaceTab := by as_aux_lemma => kernel_rfl
  have d2 : (Rows.laid_internal_strconv_uint64pow10 : DataW Unit) = Lib.tabData .u64 Lib.pow10Tab := by as_aux_lemma => kernel_rfl
  rw [d1] at r1
  rw [d2] at r2
  exact ⟨tabIs_of_reads (g := 0) (t := 83) (e := 5) (n := 256) (by kernel_rfl) (by kernel_rfl) (by kernel_rfl) (by kernel_rfl) (by kernel_rfl) (by kernel_rfl) r1, tabIs_of_reads (g := 2) (t := 126) (e := 102) (n := 20) (by kernel_rfl) (by kernel_rfl) (by kernel_rfl) (by kernel_rfl) (by kernel_rfl) (by kernel_rfl) r2⟩
theorem i64_of {n : Int} (h : (Lit.int .i64 n).wf = true) : -9223372036854775808 ≤ n ∧ n ≤ 9223372036854775807 := by
  have e1 : IntKind.i64.min = -9223372036854775808 := rfl
  have e2 : IntKind.i64.max = 9223372036854775807 := rfl
  simp [Lit.wf, e1, e2] at h
  omega
end Go.Proofs.YtghhidaihajdmaaDoor
/- What the second form's bound gives: how long a text is that lies in what was read. -/
namespace Go.Proofs.YtghhidaihajdmaaDoor
theorem bulk_mem {H : Type} : ∀ {l : List (DataW H)} {d : DataW H}, d ∈ l → Rows.uptoBulk d ≤ Rows.uptoBulkAll l
  | x :: r, d, h => by
    rw [Rows.uptoBulkAll]
    rcases List.mem_cons.1 h with rfl | h
    · exact Nat.le_add_right _ _
    · exact Nat.le_trans (bulk_mem h) (Nat.le_add_left _ _)
theorem bulk_text {H : Type} (l : List UInt8) : Rows.uptoBulk (DataW.lit (H := H) (.string l)) = l.length + 1 := by rw [Rows.uptoBulk]
theorem bulk_most {H : Type} {l : List (DataW H)} (h : Rows.uptoSmall H l = true) : Rows.uptoBulkAll l ≤ 1048576 := of_decide_eq_true h
/-- A text in a struct in a slice. -/
theorem bulk_field {H : Type} {elems spare parts : List (DataW H)} {l : List UInt8} (h1 : .agg parts ∈ elems) (h2 : .lit (.string l) ∈ parts) : l.length ≤ Rows.uptoBulk (.slice elems spare) := by
  have a := bulk_mem h1
  have b := bulk_mem h2
  rw [bulk_text] at b
  simp only [Rows.uptoBulk] at a ⊢
  omega
end Go.Proofs.YtghhidaihajdmaaDoor
/- The law ScriptActs, walked; what its row lists. -/
namespace Go.Proofs.YtghhidaihajdmaaDoor
open Go.RowKit PScriptActs
theorem Valid.uniq {ws : List (List UInt8)} {k k' a a' b b' c c' : Int} {t t' m m' : ByteArray} (h : Valid ws k a b c t m) (h' : Valid ws k' a' b' c' t' m') : k = k' ∧ a = a' ∧ b = b' ∧ c = c' ∧ t = t' ∧ m = m' := (h.2.2.uniq h'.2.2).2 rfl
theorem RefOk.uniq {ws : List (List UInt8)} {k k' a a' b b' c c' n n' : Int} {t t' m m' : ByteArray} (h : RefOk ws k a b c t m n) (h' : RefOk ws k' a' b' c' t' m' n') : k = k' ∧ a = a' ∧ b = b' ∧ c = c' ∧ t = t' ∧ m = m' ∧ n = n' := by
  rcases h with ⟨rfl, h⟩ | ⟨rfl, rfl, rfl, rfl, rfl, rfl, rfl, h⟩
  · rcases h' with ⟨rfl, h'⟩ | ⟨rfl, rfl, rfl, rfl, rfl, rfl, rfl, h'⟩
    · obtain ⟨e1, e2, e3, e4, e5, e6⟩ := h.uniq h'
      exact ⟨e1, e2, e3, e4, e5, e6, rfl⟩
    · exact absurd h (h' _ _ _ _ _ _)
  · rcases h' with ⟨rfl, h'⟩ | ⟨rfl, rfl, rfl, rfl, rfl, rfl, rfl, h'⟩
    · exact absurd h' (h _ _ _ _ _ _)
    · exact ⟨rfl, rfl, rfl, rfl, rfl, rfl, rfl⟩
set_option maxRecDepth 100000 in
theorem scriptActs4 (s : ByteArray) (w : World) (hs : s.size ≤ 1048576) (E : Env w) : Calls Tryd.prog 4 #[.string s] w fun e w' => e = .returned (.bool true) ∧ Below w.heap.size w w' := by
  obtain ⟨K, k, a, b, c, t, m, n, hf, hok⟩ := act_ref s hs
  have R := fun W => hornbeamref22_Act.calls K s k a b c t m n W hf
  have L := fun W => hornbeamlaw22_act.calls k a b c t m k a b c t m true W (by unfold hornbeamlaw22_act.f; simp)
  have A := act9 s w hs E
  have HOK := Go.Lib.hid hok
  clear hf hok
  go_enter Tryd.func4, Tryd.ntmps4
  go_wp2_with fail
  refine A.mono ?_
  rintro e w1 ⟨k1, a1, b1, c1, t1, m1, n1, rfl, hok1, hb1⟩
  obtain ⟨rfl, rfl, rfl, rfl, rfl, rfl, rfl⟩ := HOK.out.uniq hok1
  clear hok1 A
  unfold actV
  have q0 := blk_cells (at_new w1 (.cells #[.int .i64 k, .int .i64 a, .int .i64 b, .int .i64 c, .string t, .string m] 23) _ rfl)
  have hq := at_new w1 (.cells #[.int .i64 k, .int .i64 a, .int .i64 b, .int .i64 c, .string t, .string m] 23) _ rfl
  have hb2 := bal hb1 (.cells #[.int .i64 k, .int .i64 a, .int .i64 b, .int .i64 c, .string t, .string m] 23)
  go_wp2_with fail
  generalize w1.alloc (.cells #[.int .i64 k, .int .i64 a, .int .i64 b, .int .i64 c, .string t, .string m] 23) = W1 at *
  refine (R _).mono ?_
  rintro e w2 ⟨rfl, hb3⟩
  have hb4 := btr hb2 hb3
  have hq2 := at_old ((hb3.block _ (blk_lt hq)).trans hq) (.cells #[.int .i64 k, .int .i64 a, .int .i64 b, .int .i64 c, .string t, .string m] 23)
  have hq3 := at_new w2 (.cells #[.int .i64 k, .int .i64 a, .int .i64 b, .int .i64 c, .string t, .string m] 23) _ rfl
  have r0 := blk_cells hq2
  have r1 := blk_cells hq3
  have hb5 := bal hb4 (.cells #[.int .i64 k, .int .i64 a, .int .i64 b, .int .i64 c, .string t, .string m] 23)
  clear q0
  go_wp2_with fail
  generalize w2.alloc (.cells #[.int .i64 k, .int .i64 a, .int .i64 b, .int .i64 c, .string t, .string m] 23) = W2 at *
  refine (L _).mono ?_
  rintro e w3 ⟨rfl, hb6⟩
  have hb7 := btr hb5 hb6
  go_wp2_with fail
  refine (awake8 w3 (E.tabs.below hb7)).mono ?_
  rintro e w4 ⟨rfl, hb8⟩
  go_wp2
  go_ret
  exact ⟨rfl, btr hb7 hb8⟩
theorem err_star : "*" ++ "errors.errorString" = "*errors.errorString" := by decide
theorem err_row (u : TypeId) (h : Tryd.prog.typeName? 3 u = some "*errors.errorString") : u = 156 :=
  typeName_ptr_named (nm := "errors.errorString") (by rw [err_star]; kernel_rfl) (by kernel_rfl) (by decide) u (by rw [err_star]; exact h)
theorem env_of {W : World} {r : List (String × DataW Unit)} (hT : Tabs W) (hsh : W.ShapedOpen Tryd.prog) (h : laidMet Tryd.prog (("strconv.ErrRange", Rows.laid_strconv_ErrRange) :: ("strconv.ErrSyntax", Rows.laid_strconv_ErrSyntax) :: r) W) : Env W := by
  obtain ⟨a0, s0, hv0, -, -, -⟩ := laid_sentinel h (g := 5) (ti := 74) (by kernel_rfl) (by kernel_rfl) Tryd.underlying74 err_row Tryd.underlying156 Tryd.underlying158 rfl rfl Tryd.underlying9 (by kernel_rfl) (by kernel_rfl)
  obtain ⟨a1, s1, hv1, -, -, -⟩ := laid_sentinel h.tail (g := 4) (ti := 74) (by kernel_rfl) (by kernel_rfl) Tryd.underlying74 err_row Tryd.underlying156 Tryd.underlying158 rfl rfl Tryd.underlying9 (by kernel_rfl) (by kernel_rfl)
  have c1 : W.cell? ⟨4, 0, none⟩ = some (.iface 156 (.pointer (some a1))) := by
    have h0 := World.var?_cell (g := 4) (by kernel_rfl) hv1 0
    simpa using h0
  have c0 : W.cell? ⟨5, 0, none⟩ = some (.iface 156 (.pointer (some a0))) := by
    have h0 := World.var?_cell (g := 5) (by kernel_rfl) hv0 0
    simpa using h0
  refine ⟨hT, ?_, ⟨_, c1, .inr ⟨_, _, rfl⟩⟩, ⟨_, c0, .inr ⟨_, _, rfl⟩⟩⟩
  exact cell_of_shapedOpen_int (zero := #[.int .i64 0]) (t := 3) hsh (of_decide_eq_true (by kernel_rfl)) (by kernel_rfl) rfl (by kernel_rfl) (by kernel_rfl) Tryd.underlying3
theorem bulk_str {H : Type} {L : List UInt8} {l : List (DataW H)} (h : Rows.uptoSmall H l = true) (hd : DataW.lit (.string L) ∈ l) : L.length ≤ 1048576 := by
  have h1 := bulk_most h
  have h2 := bulk_mem hd
  rw [bulk_text] at h2
  omega
end Go.Proofs.YtghhidaihajdmaaDoor
/- An act among the arguments, taken apart. -/
namespace Go.Proofs.YtghhidaihajdmaaDoor
open Go.Joins Go.ChangeShapes Go.WideShapes Go.RowKit Go.Deep Go.ChangeAt
open Go.ChangeMaps (open_string shut_string)
section
variable {H : Type} {enc : TypeId × Value → H} {P : Program} {w : World} {base : Nat} {spare : Nat → Bool} {held : Bool}
theorem open_agg6 {r : Reach} {b0 : Nat} {t : TypeId} {f0 f1 f2 f3 f4 f5 : Field} {v : Value} {d : DataW H} {p : List MemPlace} (hs : P.underlying t = some (.struct #[f0, f1, f2, f3, f4, f5])) (hone : oneCellFields P #[f0, f1, f2, f3, f4, f5] = true) (hC : P.cellsOf t = 6)
    (hv : Value.okWide P w r b0 t v) (h : DataW.Trod enc P w base spare held t v d p) :
    ∃ (v0 v1 v2 v3 v4 v5 : Value) (y0 y1 y2 y3 y4 y5 : DataW H × List MemPlace) (n : Nat), v = .agg #[v0, v1, v2, v3, v4, v5] ∧ d = .agg [y0.1, y1.1, y2.1, y3.1, y4.1, y5.1] ∧
      DataW.trod enc P w base spare held n f0.type [v0] = some y0 ∧ DataW.trod enc P w base spare held n f1.type [v1] = some y1 ∧ DataW.trod enc P w base spare held n f2.type [v2] = some y2 ∧ DataW.trod enc P w base spare held n f3.type [v3] = some y3 ∧ DataW.trod enc P w base spare held n f4.type [v4] = some y4 ∧ DataW.trod enc P w base spare held n f5.type [v5] = some y5 := by
  obtain ⟨cs, rfl, hsz⟩ := okWide_struct hs hv
  obtain ⟨l⟩ := cs
  match l, hsz.trans hC with
  | [c0, c1, c2, c3, c4, c5], _ =>
    obtain ⟨fuel, hf⟩ := h
    obtain ⟨xs, n, _, hx, _, hlen, hg⟩ := DataW.trod_struct hs hf
    obtain ⟨o0, k0⟩ := hone_of hone 0 f0 rfl
    obtain ⟨o1, k1⟩ := hone_of hone 1 f1 rfl
    obtain ⟨o2, k2⟩ := hone_of hone 2 f2 rfl
    obtain ⟨o3, k3⟩ := hone_of hone 3 f3 rfl
    obtain ⟨o4, k4⟩ := hone_of hone 4 f4 rfl
    obtain ⟨o5, k5⟩ := hone_of hone 5 f5 rfl
    match xs, hlen with
    | [y0, y1, y2, y3, y4, y5], _ =>
      simp only [Prod.mk.injEq] at hx
      exact ⟨c0, c1, c2, c3, c4, c5, y0, y1, y2, y3, y4, y5, n, rfl, by simpa using hx.1, by simpa [Value.cells, o0, k0] using hg 0 f0 rfl, by simpa [Value.cells, o1, k1] using hg 1 f1 rfl, by simpa [Value.cells, o2, k2] using hg 2 f2 rfl, by simpa [Value.cells, o3, k3] using hg 3 f3 rfl, by simpa [Value.cells, o4, k4] using hg 4 f4 rfl, by simpa [Value.cells, o5, k5] using hg 5 f5 rfl⟩
end

end Go.Proofs.YtghhidaihajdmaaDoor
/- The witness of a row that may list variables, with a condition of its own or none. -/
namespace Go.Proofs.YtghhidaihajdmaaDoor
open Go.Joins Go.ChangeShapes Go.WideShapes Go.RowKit Go.Deep Go.ChangeAt
theorem wit_row {H : Type} {enc : TypeId × Value → H} {C : Checked} {os : Os} {f : FuncId} {fn : Func} {s : OpenSpec} {conds : List PathCond} {apart : Bool} {laid : List (String × DataW Unit)} (w0 : World) (args : Array Value) (hos : w0.os = os)
    (hsh : (w0.forCall (fun _ _ => 0) ⟨#[], args, []⟩).Shaped C.prog)
    (hok : Input.okWideB C.prog (w0.forCall (fun _ _ => 0) ⟨#[], args, []⟩) f ⟨#[], args, []⟩ = true)
    (hrow : s.preRow enc C.prog fn conds apart laid (w0.forCall (fun _ _ => 0) ⟨#[], args, []⟩).memory args) :
    ∃ (w : World) (tape : Tape) (i : Input), w.os = os ∧ (w.forCall tape i).Shaped C.prog ∧ i.vars = [] ∧ Input.okWide C.prog (w.forCall tape i) .any w.heap.size f i ∧
      s.preRow enc C.prog fn conds apart laid (w.forCall tape i).memory i.args ∧ ({ } : Assume).holds C.prog (lone (Frame.enter C.prog f i.args .normal) [] (w.forCall tape i)) :=
  ⟨w0, fun _ _ => 0, ⟨#[], args, []⟩, hos, hsh, (Input.okWide_of_okWideB (base := 0) hok).1, (Input.okWide_of_okWideB hok).2, hrow, by
    simp only [Assume.holds]
    exact ⟨by simp, by simp, fun _ => Modest.zero, by simp, by simp⟩⟩
/-- The listed variables laid on any world that holds the program's variables. -/
theorem laidMet_layOn {P : Program} {w0 : World} {laid : List (String × DataW Unit)} (args : Array Value) (hf : w0.layFits P laid [] = true) (hi : w0.layIfaces P laid (w0.layVars P laid) = true) :
    laidMet P laid ((w0.layVars P laid).forCall (fun _ _ => 0) ⟨#[], args, []⟩).memory := by
  have e1 : (laid.filter fun x => (laid.map (·.1)).contains x.1) = laid := List.filter_eq_self.2 fun x hx => List.contains_iff_mem.2 (List.mem_map.2 ⟨x, hx, rfl⟩)
  have e2 : (laid.filter fun x => !(laid.map (·.1)).contains x.1) = [] := List.filter_eq_nil_iff.2 fun x hx => by rw [List.contains_iff_mem.2 (List.mem_map.2 ⟨x, hx, rfl⟩)]; simp
  have h : laidMet P laid (w0.layVars P laid) := laidMet_layVars (w0 := w0) (laid.map (·.1)) [] (by rw [e1]) (by rw [e1]; exact hf) (by rw [e1]; exact hi) (by rw [e2]; exact LaidIn.none)
  exact h.of_heap (by simp [World.memory, World.forCall, Input.heap])
theorem get_some {α : Type} {o : Option α} (h : o.isSome = true) : o = some (o.get h) := (Option.some_get h).symm
end Go.Proofs.YtghhidaihajdmaaDoor
