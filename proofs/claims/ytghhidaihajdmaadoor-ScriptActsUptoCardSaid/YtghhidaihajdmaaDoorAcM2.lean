/- Texts of one seat, merged: lemmas and contracts that the law leans on. -/
import Derived.Test.YtghhidaihajdmaaDoorAcM1
import Derived.Test.YtghhidaihajdmaaDoorPScriptActsx7
import Derived.Test.YtghhidaihajdmaaDoorRows
import Derived.Lib.LaidU8
import Derived.MakeChecks
import Derived.Stop.LaidErr
import Derived.HandedShaped
import Derived.Deep.DeepHandedRow
import Derived.Lay
import Derived.LaidMore
import Derived.Stop.Joined
/- The act of any line, and a line that is an act. -/
namespace Go.Proofs.YtghhidaihajdmaaDoor
open Go.RowKit
theorem dec_inj {a b : Nat} (h : Lib.decDigits a = Lib.decDigits b) : a = b := by
  have h1 := decFrom_digits a
  rw [h, decFrom_digits b] at h1
  exact (Option.some.inj h1).symm
theorem NumOk.uniq {l : List UInt8} {n n' : Int} {b b' : Bool} (h : NumOk l n b) (h' : NumOk l n' b') : b = b' ∧ (b = true → n = n') := by
  rcases h with ⟨k, hk, hl, rfl, rfl⟩ | ⟨h1, rfl⟩
  · rcases h' with ⟨k', hk', hl', rfl, rfl⟩ | ⟨h1', rfl⟩
    · exact ⟨rfl, fun _ => by rw [dec_inj (hl.symm.trans hl')]⟩
    · exact absurd hl (h1' k hk)
  · rcases h' with ⟨k', hk', hl', rfl, rfl⟩ | ⟨h1', rfl⟩
    · exact absurd hl' (h1 k' hk')
    · exact ⟨rfl, fun e => by cases e⟩
theorem PlaceOk.uniq {l : List UInt8} {n n' : Int} {b b' : Bool} (h : PlaceOk l n b) (h' : PlaceOk l n' b') : b = b' ∧ (b = true → n = n') := by
  rcases h with ⟨hl, rfl, rfl⟩ | ⟨hl, h⟩
  · rcases h' with ⟨_, rfl, rfl⟩ | ⟨hl', _⟩
    · exact ⟨rfl, fun _ => rfl⟩
    · exact absurd hl hl'
  · rcases h' with ⟨hl', _, _⟩ | ⟨_, h'⟩
    · exact absurd hl' hl
    · exact h.uniq h'
theorem unhex_hex (r : List UInt8) : unhexL (hexL r) = r := by
  induction r with
  | nil => rfl
  | cons b t ih =>
    have hb := b.toNat_lt
    obtain ⟨_, h1⟩ := dig_ascii (b.toNat / 16) (by omega)
    obtain ⟨_, h2⟩ := dig_ascii (b.toNat % 16) (by omega)
    show UInt8.ofNat ((hv (digs.getD (b.toNat / 16) 0)).toNat * 16 + (hv (digs.getD (b.toNat % 16) 0)).toNat) :: unhexL (hexL t) = _
    rw [ih]
    unfold hv
    rw [h1, h2]
    congr 1
    rw [show ((b.toNat / 16 : Nat) : Int).toNat * 16 + ((b.toNat % 16 : Nat) : Int).toNat = b.toNat by omega]
    simp
theorem TextOk.uniq {l : List UInt8} {n n' : ByteArray} {b b' : Bool} (h : TextOk l n b) (h' : TextOk l n' b') : b = b' ∧ (b = true → n = n') := by
  rcases h with ⟨k, hl, rfl, rfl⟩ | ⟨h1, rfl⟩
  · rcases h' with ⟨k', hl', rfl, rfl⟩ | ⟨h1', rfl⟩
    · refine ⟨rfl, fun _ => ?_⟩
      have e := (List.cons.inj (hl.symm.trans hl')).2
      rw [← unhex_hex k, e, unhex_hex]
    · exact absurd hl (h1' k)
  · rcases h' with ⟨k', hl', rfl, rfl⟩ | ⟨h1', rfl⟩
    · exact absurd hl' (h1 k')
    · exact ⟨rfl, fun e => by cases e⟩
theorem ActOk.uniq {ws : List (List UInt8)} {k k' a a' b b' c c' : Int} {t t' m m' : ByteArray} {f f' : Bool} (h : ActOk ws k a b c t m f) (h' : ActOk ws k' a' b' c' t' m' f') : f = f' ∧ (f = true → k = k' ∧ a = a' ∧ b = b' ∧ c = c' ∧ t = t' ∧ m = m') := by
  obtain ⟨b1, b2, b3, b4, b5, hk, h1, h2, h3, h4, h5, hf⟩ := h
  obtain ⟨d1, d2, d3, d4, d5, hk', g1, g2, g3, g4, g5, hf'⟩ := h'
  obtain ⟨e1, v1⟩ := h1.uniq g1
  obtain ⟨e2, v2⟩ := h2.uniq g2
  obtain ⟨e3, v3⟩ := h3.uniq g3
  obtain ⟨e4, v4⟩ := h4.uniq g4
  obtain ⟨e5, v5⟩ := h5.uniq g5
  subst e1 e2 e3 e4 e5
  refine ⟨by rw [hf, hf'], fun hft => ?_⟩
  rw [hft] at hf
  have hf := hf.symm
  simp only [Bool.and_eq_true] at hf
  obtain ⟨⟨⟨⟨⟨_, x1⟩, x2⟩, x3⟩, x4⟩, x5⟩ := hf
  exact ⟨by rw [hk, hk'], v1 x1, v2 x2, v3 x3, v4 x4, v5 x5⟩
theorem ta56 (v : Value) (W : World) : (Instr.typeAssert (.iface 56 v) 52 56 true).run Tryd.prog W = .ok (.tuple #[v, .bool true]) W := by kernel_rfl
theorem ta56_no (t : TypeId) (ht : t = 63 ∨ t = 65 ∨ t = 68) (v : Value) (W : World) : (Instr.typeAssert (.iface t v) 52 56 true).run Tryd.prog W = .ok (.tuple #[.agg #[.int .i64 0, .int .i64 0, .int .i64 0, .int .i64 0, .string ⟨#[]⟩, .string ⟨#[]⟩], .bool false]) W := by
  rcases ht with rfl | rfl | rfl <;> kernel_rfl
theorem results_cell_and {P : Program} {fn : Func} {p u : Tmp} {ty : TypeId} (h : fn.results = #[.cell p ty, .tmp u]) (tmps : Array Value) (w : World) (g : Nat) (t : TypeId) (cs : Array Value) (fr : Nat × Nat) (d : TypeDesc)
    (hp : tmps.getD p undef = .pointer (some ⟨g, 0, none⟩)) (hg : w.heap[g]? = some (.cells cs t fr))
    (hu : P.underlying ty = some d) (hd : (match d with | .struct _ | .array _ _ => true | _ => false) = true) (hi : (P.info? ty).map (·.size) = some cs.size) :
    (results fn tmps).run P w = .ok (.tuple #[.agg cs, tmps.getD u undef]) w := by
  rw [results_cell_tmp h, hp]
  simp only [asAddr, Sem.run_pure, Result.andThen_ok, run_loadVar_row w g t ty cs fr d hg hu hd hi]
theorem blk6 {w : World} {b : Nat} {u0 u1 u2 u3 u4 u5 : Value} {t : TypeId} {z : Nat × Nat} (h : w.heap[b]? = some (.cells #[u0, u1, u2, u3, u4, u5] t z)) (v0 v1 v2 v3 v4 v5 : Value) :
    ((((((w.setCell ⟨b, 0, none⟩ v0).setCell ⟨b, 1, none⟩ v1).setCell ⟨b, 2, none⟩ v2).setCell ⟨b, 3, none⟩ v3).setCell ⟨b, 4, none⟩ v4).setCell ⟨b, 5, none⟩ v5).heap[b]? = some (.cells #[v0, v1, v2, v3, v4, v5] t z) := by
  rw [blk_set (blk_set (blk_set (blk_set (blk_set (blk_set h v0) v1) v2) v3) v4) v5]
  rfl
theorem below6 {B : Nat} {w0 w : World} {b : Nat} (h : Below B w0 w) (hb : B ≤ b) (v0 v1 v2 v3 v4 v5 : Value) :
    Below B w0 ((((((w.setCell ⟨b, 0, none⟩ v0).setCell ⟨b, 1, none⟩ v1).setCell ⟨b, 2, none⟩ v2).setCell ⟨b, 3, none⟩ v3).setCell ⟨b, 4, none⟩ v4).setCell ⟨b, 5, none⟩ v5) :=
  (((((h.setCell (p := ⟨b, 0, none⟩) hb v0).setCell (p := ⟨b, 1, none⟩) hb v1).setCell (p := ⟨b, 2, none⟩) hb v2).setCell (p := ⟨b, 3, none⟩) hb v3).setCell (p := ⟨b, 4, none⟩) hb v4).setCell (p := ⟨b, 5, none⟩) hb v5
/-- Are these the words of this act? -/
def Valid (ws : List (List UInt8)) (k a b c : Int) (t m : ByteArray) : Prop := ws.getD 0 [] = [97, 99, 116] ∧ ws.length = 7 ∧ ActOk ws k a b c t m true
def ActFin (ws : List (List UInt8)) (w : World) (e : Ending) (w' : World) : Prop :=
  ∃ (k a b c : Int) (t m : ByteArray) (n : Int), e = .returned (.tuple #[actV k a b c t m, .int .i64 n]) ∧ ((n = 0 ∧ Valid ws k a b c t m) ∨ (n = 4 ∧ k = 0 ∧ a = 0 ∧ b = 0 ∧ c = 0 ∧ t = ⟨#[]⟩ ∧ m = ⟨#[]⟩ ∧ ∀ k a b c t m, ¬ Valid ws k a b c t m)) ∧ Below w.heap.size w w'
set_option maxHeartbeats 800000 in
set_option maxRecDepth 100000 in
theorem act9 (s : ByteArray) (w : World) (hs : s.size ≤ 1048576) (E : Env w) : Calls Tryd.prog 9 #[.string s] w (ActFin (splitL s.data.toList) w) := by
  have hb0 : Below w.heap.size w (w.alloc (.cells (actC 0 0 0 0 ⟨#[]⟩ ⟨#[]⟩) 23)) := (Below.refl _ w).alloc (Nat.le_refl _) _
  have R := read20 s _ hs (E.below hb0)
  generalize splitL s.data.toList = ws at *
  unfold actC at hb0 R
  have hX := at_new w (.cells #[.int .i64 0, .int .i64 0, .int .i64 0, .int .i64 0, .string ⟨#[]⟩, .string ⟨#[]⟩] 23) _ rfl
  go_enter Tryd.func9, Tryd.ntmps9
  go_wp2_with fail
  generalize w.alloc (.cells #[.int .i64 0, .int .i64 0, .int .i64 0, .int .i64 0, .string ⟨#[]⟩, .string ⟨#[]⟩] 23) = W0 at *
  refine R.mono ?_
  rintro e w1 hr
  rcases hr with ⟨h0, ⟨h7, ⟨k, a, b, c, t, m, f, rfl, hok⟩, hb1⟩ | ⟨h7, rfl, hb1⟩⟩ | ⟨h0, v, f, rfl, hv, hb1⟩
  · unfold actV
    have hX1 := (hb1.block _ (blk_lt hX)).trans hX
    have hcs := blk_cells hX1
    have hfs := blk_free hX1
    have hb2 := btr hb0 hb1
    have ta := fun W => ta56 (.agg #[.int .i64 k, .int .i64 a, .int .i64 b, .int .i64 c, .string t, .string m]) W
    rcases f with _ | _
    · go_wp2
      refine bodyPost_ret (results_cell_and rfl _ _ w.heap.size 23 _ (0, 0) _ rfl (blk6 hX1 _ _ _ _ _ _) Tryd.underlying23 rfl (by kernel_rfl)) rfl ?_
      exact ⟨0, 0, 0, 0, ⟨#[]⟩, ⟨#[]⟩, 4, rfl, .inr ⟨rfl, rfl, rfl, rfl, rfl, rfl, rfl, fun k' a' b' c' t' m' hv => by have := (hok.uniq hv.2.2).1; cases this⟩, below6 hb2 (Nat.le_refl _) _ _ _ _ _ _⟩
    · have hX2 := at_old hX1 (.cells #[.int .i64 k, .int .i64 a, .int .i64 b, .int .i64 c, .string t, .string m] 56)
      have hcs2 := blk_cells hX2
      have hfs2 := blk_free hX2
      go_wp2
      refine bodyPost_ret (results_cell_and rfl _ _ w.heap.size 23 _ (0, 0) _ rfl (blk6 hX2 _ _ _ _ _ _) Tryd.underlying23 rfl (by kernel_rfl)) rfl ?_
      exact ⟨k, a, b, c, t, m, 0, rfl, .inl ⟨rfl, h0, h7, hok⟩, below6 (bal hb2 _) (Nat.le_refl _) _ _ _ _ _ _⟩
  · have hX1 := (hb1.block _ (blk_lt hX)).trans hX
    have hcs := blk_cells hX1
    have hfs := blk_free hX1
    have hb2 := btr hb0 hb1
    go_wp2
    refine bodyPost_ret (results_cell_and rfl _ _ w.heap.size 23 _ (0, 0) _ rfl (blk6 hX1 _ _ _ _ _ _) Tryd.underlying23 rfl (by kernel_rfl)) rfl ?_
    exact ⟨0, 0, 0, 0, ⟨#[]⟩, ⟨#[]⟩, 4, rfl, .inr ⟨rfl, rfl, rfl, rfl, rfl, rfl, rfl, fun k' a' b' c' t' m' hv => h7 hv.2.1⟩, below6 hb2 (Nat.le_refl _) _ _ _ _ _ _⟩
  · have hX1 := (hb1.block _ (blk_lt hX)).trans hX
    have hcs := blk_cells hX1
    have hfs := blk_free hX1
    have hb2 := btr hb0 hb1
    rcases f with _ | _
    · go_wp2
      refine bodyPost_ret (results_cell_and rfl _ _ w.heap.size 23 _ (0, 0) _ rfl (blk6 hX1 _ _ _ _ _ _) Tryd.underlying23 rfl (by kernel_rfl)) rfl ?_
      exact ⟨0, 0, 0, 0, ⟨#[]⟩, ⟨#[]⟩, 4, rfl, .inr ⟨rfl, rfl, rfl, rfl, rfl, rfl, rfl, fun k' a' b' c' t' m' hv => h0 hv.1⟩, below6 hb2 (Nat.le_refl _) _ _ _ _ _ _⟩
    · rcases hv with rfl | ⟨x, t, rfl, ht⟩
      · have hta : ∀ W, (Instr.typeAssert .nilIface 52 56 true).run Tryd.prog W = .ok (.tuple #[.agg #[.int .i64 0, .int .i64 0, .int .i64 0, .int .i64 0, .string ⟨#[]⟩, .string ⟨#[]⟩], .bool false]) W := fun _ => by kernel_rfl
        have hX2 := at_old hX1 (.cells #[.int .i64 0, .int .i64 0, .int .i64 0, .int .i64 0, .string ⟨#[]⟩, .string ⟨#[]⟩] 56)
        have hcs2 := blk_cells hX2
        have hfs2 := blk_free hX2
        go_wp2
        refine bodyPost_ret (results_cell_and rfl _ _ w.heap.size 23 _ (0, 0) _ rfl (blk6 hX2 _ _ _ _ _ _) Tryd.underlying23 rfl (by kernel_rfl)) rfl ?_
        exact ⟨0, 0, 0, 0, ⟨#[]⟩, ⟨#[]⟩, 4, rfl, .inr ⟨rfl, rfl, rfl, rfl, rfl, rfl, rfl, fun k' a' b' c' t' m' hv => h0 hv.1⟩, below6 (bal hb2 _) (Nat.le_refl _) _ _ _ _ _ _⟩
      · have ta := fun W => ta56_no t ht x W
        have hX2 := at_old hX1 (.cells #[.int .i64 0, .int .i64 0, .int .i64 0, .int .i64 0, .string ⟨#[]⟩, .string ⟨#[]⟩] 56)
        have hcs2 := blk_cells hX2
        have hfs2 := blk_free hX2
        go_wp2
        refine bodyPost_ret (results_cell_and rfl _ _ w.heap.size 23 _ (0, 0) _ rfl (blk6 hX2 _ _ _ _ _ _) Tryd.underlying23 rfl (by kernel_rfl)) rfl ?_
        exact ⟨0, 0, 0, 0, ⟨#[]⟩, ⟨#[]⟩, 4, rfl, .inr ⟨rfl, rfl, rfl, rfl, rfl, rfl, rfl, fun k' a' b' c' t' m' hv => h0 hv.1⟩, below6 (bal hb2 _) (Nat.le_refl _) _ _ _ _ _ _⟩
end Go.Proofs.YtghhidaihajdmaaDoor
/- The reference's reading of a line, plainly: words, numbers, texts. -/
namespace Go.Proofs.YtghhidaihajdmaaDoor
open Go.RowKit PScriptActs Go.Proofs.YtghhidaihajdmaaDoorW.PrintWords
theorem wrap_ok {i : Int} (h0 : -9223372036854775808 ≤ i) (h : i ≤ 9223372036854775807) : wrap64 i = i := by
  unfold wrap64
  omega
theorem bt_nat (s : ByteArray) (i : Nat) (h : i < s.size) : bt s (i : Int) = ((s.data.toList.getD i 0).toNat : Int) := by
  rw [at_list s i h]
  simp [bt, h]
theorem drop_at (s : ByteArray) (i : Nat) (h : i < s.size) : s.data.toList.drop i = s.data.toList.getD i 0 :: s.data.toList.drop (i + 1) := by
  rw [List.drop_eq_getElem_cons (by rw [dlen]; exact h)]
  congr 1
  rw [List.getD_eq_getElem?_getD, List.getElem?_eq_getElem (by rw [dlen]; exact h)]
  rfl
theorem words_from (s : ByteArray) (hs : s.size ≤ 1048576) : ∀ (d i f : Nat) (acc : List ByteArray) (K : Nat), i + d = s.size → f ≤ i → acc.length ≤ i → d + 1 < K → ∃ a r, splitL (s.data.toList.drop i) = a :: r ∧
    hornbeamref22_words.l0 K s acc f i = some (acc ++ mkS ((s.data.toList.drop f).take (i - f) ++ a) :: r.map mkS) := by
  intro d
  induction d with
  | zero =>
    intro i f acc K hi hf ha hK
    obtain ⟨K, rfl⟩ : ∃ m, K = m + 2 := ⟨K - 2, by omega⟩
    obtain rfl : i = s.size := by omega
    refine ⟨[], [], by rw [List.drop_of_length_le (by rw [dlen]; exact Nat.le_refl _)]; rfl, ?_⟩
    simp only [hornbeamref22_words.l0]
    rw [if_pos (by omega), if_pos trivial, if_pos (by omega), if_pos (by omega), if_pos (by omega), wrap_ok (by omega) (by omega), if_neg (by omega)]
    rw [Lib.extract_eq]
    simp [mkS]
  | succ d ih =>
    intro i f acc K hi hf ha hK
    obtain ⟨K, rfl⟩ : ∃ m, K = m + 1 := ⟨K - 1, by omega⟩
    have hlt : i < s.size := by omega
    simp only [hornbeamref22_words.l0]
    rw [if_pos (by omega), if_neg (by omega), if_pos (by omega), if_pos (by omega), bt_nat s i hlt, drop_at s i hlt, wrap_ok (by omega) (by omega)]
    by_cases hc : s.data.toList.getD i 0 = 32
    · rw [if_pos (by rw [hc]; rfl), if_pos (by omega), if_pos (by omega), if_pos (by omega)]
      obtain ⟨a, r, h1, h2⟩ := ih (i + 1) (i + 1) (acc ++ [s.extract f i]) K (by omega) (by omega) (by simp; omega) (by omega)
      refine ⟨[], a :: r, by rw [splitL, if_pos hc, h1], ?_⟩
      rw [show ((i : Int) + 1) = ((i + 1 : Nat) : Int) by omega]
      simp only [Int.toNat_natCast]
      rw [h2, Lib.extract_eq]
      simp [mkS]
    · rw [if_neg (by intro e; apply hc; have := (s.data.toList.getD i 0).toNat_lt; exact UInt8.toNat_inj.1 (by rw [show (32 : UInt8).toNat = 32 from rfl]; omega))]
      obtain ⟨a, r, h1, h2⟩ := ih (i + 1) f acc K (by omega) (by omega) (by omega) (by omega)
      refine ⟨s.data.toList.getD i 0 :: a, r, by rw [splitL, if_neg hc, h1], ?_⟩
      rw [show ((i : Int) + 1) = ((i + 1 : Nat) : Int) by omega, h2]
      have e : (s.data.toList.drop f).take (i + 1 - f) ++ a = (s.data.toList.drop f).take (i - f) ++ s.data.toList.getD i 0 :: a := by
        rw [show i + 1 - f = (i - f) + 1 by omega, List.take_succ_eq_append_getElem (by rw [List.length_drop, dlen]; omega), List.append_assoc]
        congr 1
        simp only [List.getElem_drop, List.singleton_append]
        congr 1
        rw [List.getD_eq_getElem?_getD, List.getElem?_eq_getElem (by rw [dlen]; exact hlt), Option.getD_some]
        congr 1
        omega
      rw [e]
theorem words_all (s : ByteArray) (hs : s.size ≤ 1048576) (K : Nat) (hK : s.size + 1 < K) : hornbeamref22_words.f K s = some ((splitL s.data.toList).map mkS) := by
  obtain ⟨a, r, h1, h2⟩ := words_from s hs s.size 0 0 [] K (by omega) (by omega) (by simp) (by omega)
  rw [List.drop_zero] at h1
  unfold hornbeamref22_words.f
  rw [show (0 : Int) = ((0 : Nat) : Int) from rfl, h2, h1]
  simp
end Go.Proofs.YtghhidaihajdmaaDoor
/- The reference's reading of numbers and texts, plainly. -/
namespace Go.Proofs.YtghhidaihajdmaaDoor
open Go.RowKit PScriptActs Go.Proofs.YtghhidaihajdmaaDoorW.PrintWords
def isD (c : UInt8) : Prop := 48 ≤ c.toNat ∧ c.toNat ≤ 57
instance (c : UInt8) : Decidable (isD c) := inferInstanceAs (Decidable (_ ∧ _))
/-- What digits are worth. -/
def valD (acc : Nat) : List UInt8 → Nat
  | [] => acc
  | c :: r => valD (acc * 10 + (c.toNat - 48)) r
theorem valD_snoc (l : List UInt8) (c : UInt8) : ∀ acc, valD acc (l ++ [c]) = valD acc l * 10 + (c.toNat - 48) := by
  induction l with
  | nil => intro acc; rfl
  | cons a t ih => intro acc; exact ih _
theorem number_loop (s : ByteArray) (hs : s.size ≤ 5) : ∀ (d i n : Nat) (K : Nat), i + d = s.size → n < 10 ^ i → d < K →
    hornbeamref22_number.l0 K s n i = if ∀ c ∈ s.data.toList.drop i, isD c then some (((valD n (s.data.toList.drop i) : Nat) : Int), true) else some (0, false) := by
  intro d
  induction d with
  | zero =>
    intro i n K hi hn hK
    obtain ⟨K, rfl⟩ : ∃ m, K = m + 1 := ⟨K - 1, by omega⟩
    have e : s.data.toList.drop i = [] := List.drop_of_length_le (by rw [dlen]; omega)
    simp only [hornbeamref22_number.l0]
    rw [if_neg (by omega), e, if_pos (by simp)]
    rfl
  | succ d ih =>
    intro i n K hi hn hK
    obtain ⟨K, rfl⟩ : ∃ m, K = m + 1 := ⟨K - 1, by omega⟩
    have hlt : i < s.size := by omega
    have hc8 := (s.data.toList.getD i 0).toNat_lt
    have h10 : 10 ^ i ≤ 10 ^ 4 := Nat.pow_le_pow_right (by omega) (by omega)
    simp only [hornbeamref22_number.l0]
    rw [if_pos (by omega), if_pos (by omega), bt_nat s i hlt, drop_at s i hlt]
    by_cases hd : isD (s.data.toList.getD i 0)
    · obtain ⟨hd0, hd1⟩ := hd
      rw [if_neg (by omega), if_neg (by omega), wrap_ok (i := 10 * (n : Int)) (by omega) (by omega), wrap_ok (i := (i : Int) + 1) (by omega) (by omega)]
      rw [show 10 * (n : Int) + (((s.data.toList.getD i 0).toNat : Int) - 48) % 256 = ((n * 10 + ((s.data.toList.getD i 0).toNat - 48) : Nat) : Int) by omega, wrap_ok (by omega) (by omega), show ((i : Int) + 1) = ((i + 1 : Nat) : Int) by omega]
      rw [ih (i + 1) _ K (by omega) (by rw [Nat.pow_succ]; omega) (by omega)]
      have e : (∀ c ∈ s.data.toList.getD i 0 :: s.data.toList.drop (i + 1), isD c) ↔ ∀ c ∈ s.data.toList.drop (i + 1), isD c := by
        constructor
        · exact fun h c hc => h c (List.mem_cons_of_mem _ hc)
        · intro h c hc
          rcases List.mem_cons.1 hc with rfl | hc
          · exact ⟨hd0, hd1⟩
          · exact h c hc
      simp only [e]
      rfl
    · rw [if_neg (c := ∀ c ∈ s.data.toList.getD i 0 :: s.data.toList.drop (i + 1), isD c) (fun h => hd (h _ List.mem_cons_self))]
      by_cases h0 : ((s.data.toList.getD i 0).toNat : Int) < 48
      · rw [if_pos h0]
      · rw [if_neg h0, if_pos (by unfold isD at hd; omega)]
theorem digit_ofNat (c : UInt8) (h : isD c) : UInt8.ofNat (48 + (c.toNat - 48)) = c := by
  obtain ⟨h0, h1⟩ := h
  rw [show 48 + (c.toNat - 48) = c.toNat by omega]
  simp
theorem dec_isD (n : Nat) : ∀ c ∈ Lib.decDigits n, isD c := by
  induction n using Nat.strongRecOn with
  | ind n ih =>
    have hb : ∀ d, d < 10 → isD (UInt8.ofNat (48 + d)) := fun d hd => by
      unfold isD
      rw [UInt8.toNat_ofNat']
      omega
    rw [dec_step]
    by_cases h : n < 10
    · rw [if_pos h]
      intro c hc
      rw [List.mem_singleton.1 hc]
      exact hb _ (by omega)
    · rw [if_neg h]
      intro c hc
      rcases List.mem_append.1 hc with hc | hc
      · exact ih (n / 10) (by omega) c hc
      · rw [List.mem_singleton.1 hc]
        exact hb _ (by omega)
theorem valD_pos (l : List UInt8) : ∀ acc, acc ≤ valD acc l := by
  induction l with
  | nil => intro acc; exact Nat.le_refl _
  | cons a t ih =>
    intro acc
    have := ih (acc * 10 + (a.toNat - 48))
    show acc ≤ valD (acc * 10 + (a.toNat - 48)) t
    omega
/-- Digits without a nought ahead are the digits of what they are worth. -/
theorem dec_val : ∀ l : List UInt8, l ≠ [] → (∀ c ∈ l, isD c) → (1 < l.length → l.head? ≠ some 48) → Lib.decDigits (valD 0 l) = l := by
  intro l
  induction hn : l.length using Nat.strongRecOn generalizing l with
  | ind n ih =>
    intro hne hd h0
    obtain ⟨t, c, rfl⟩ : ∃ t c, l = t ++ [c] := ⟨l.dropLast, l.getLast hne, (List.dropLast_concat_getLast hne).symm⟩
    have hc := hd c (by simp)
    rw [valD_snoc, dec_step]
    by_cases ht : t = []
    · subst ht
      obtain ⟨hc0, hc1⟩ := id hc
      rw [if_pos (by show (0 * 10 + (c.toNat - 48)) < 10; omega)]
      show [UInt8.ofNat (48 + (0 * 10 + (c.toNat - 48)) % 10)] = _
      rw [show (0 * 10 + (c.toNat - 48)) % 10 = c.toNat - 48 by omega, digit_ofNat c hc]
      rfl
    · obtain ⟨hc0, hc1⟩ := id hc
      have hi := ih t.length (by rw [← hn]; simp) t rfl ht (fun x hx => hd x (by simp [hx])) (fun hl => by
        have := h0 (by rw [← hn, List.length_append]; simp; omega)
        cases t with
        | nil => exact absurd rfl ht
        | cons a r => simpa using this)
      have hpos : 1 ≤ valD 0 t := by
        cases t with
        | nil => exact absurd rfl ht
        | cons a r =>
          have h1 := h0 (by rw [← hn, List.length_append]; simp)
          have h2 := hd a (by simp)
          have h3 : a.toNat ≠ 48 := fun e => h1 (by
            show some a = some 48
            exact congrArg some (UInt8.toNat_inj.1 e))
          have h4 := valD_pos r (0 * 10 + (a.toNat - 48))
          unfold isD at h2
          show 1 ≤ valD (0 * 10 + (a.toNat - 48)) r
          omega
      rw [if_neg (by omega), show (valD 0 t * 10 + (c.toNat - 48)) / 10 = valD 0 t by omega, show (valD 0 t * 10 + (c.toNat - 48)) % 10 = c.toNat - 48 by omega, hi, digit_ofNat c hc]
theorem dec_head0 (n : Nat) : 1 < (Lib.decDigits n).length → (Lib.decDigits n).head? ≠ some 48 := by
  induction n using Nat.strongRecOn with
  | ind n ih =>
    rw [dec_step]
    by_cases h : n < 10
    · rw [if_pos h]; intro hl; simp at hl
    · rw [if_neg h]
      intro _
      by_cases h2 : n / 10 < 10
      · rw [dec_step, if_pos h2]
        intro e
        have e2 : UInt8.ofNat (48 + n / 10 % 10) = 48 := by simpa using e
        have e3 : (UInt8.ofNat (48 + n / 10 % 10)).toNat = 48 := by rw [e2]; rfl
        rw [UInt8.toNat_ofNat'] at e3
        omega
      · have hl : 1 < (Lib.decDigits (n / 10)).length := by
          rw [dec_step, if_neg h2, List.length_append]
          have := dec_head (n / 10 / 10)
          obtain ⟨d, r, _, hr⟩ := this
          rw [hr]
          simp
        have := ih (n / 10) (by omega) hl
        rw [List.head?_append]
        intro e
        apply this
        cases hh : (Lib.decDigits (n / 10)).head? with
        | none => rw [List.head?_eq_none_iff] at hh; rw [hh] at hl; simp at hl
        | some x => rw [hh] at e; exact e
theorem number_ref (s : ByteArray) (K : Nat) (hK : 8 < K) : ∃ n b, hornbeamref22_number.f K s true = some (n, b) ∧ PlaceOk s.data.toList n b := by
  obtain ⟨K, rfl⟩ : ∃ m, K = m + 2 := ⟨K - 2, by omega⟩
  have hl := dlen s
  unfold hornbeamref22_number.f
  rw [if_pos rfl]
  simp only [hornbeamref22_number.j0]
  by_cases hm : s.data.toList = [45]
  · rw [if_pos (by rw [tl, hm]; rfl)]
    exact ⟨_, _, rfl, .inl ⟨hm, rfl, rfl⟩⟩
  · rw [if_neg (by rw [tl]; simpa using hm)]
    by_cases he : s.data.toList = []
    · rw [if_pos (by rw [tl]; exact he)]
      simp only [hornbeamref22_number.j1]
      refine ⟨_, _, rfl, .inr ⟨hm, .inr ⟨fun k hk e => ?_, rfl⟩⟩⟩
      obtain ⟨d, r, _, hr⟩ := dec_head k
      rw [he, hr] at e
      cases e
    · rw [if_neg (by rw [tl]; exact he)]
      by_cases h5 : s.size ≤ 5
      · rw [if_neg (by omega)]
        have hpos : 0 < s.size := by
          rcases Nat.eq_zero_or_pos s.size with h | h
          · exact absurd (List.eq_nil_of_length_eq_zero (by rw [hl]; exact h)) he
          · exact h
        have hloop := number_loop s h5 s.size 0 0 K (by omega) (by decide) (by omega)
        rw [List.drop_zero, show ((0 : Nat) : Int) = 0 from rfl] at hloop
        by_cases hz : 1 < s.size ∧ s.data.toList.getD 0 0 = 48
        · rw [if_pos (by omega), if_pos (by omega)]
          have hb : (bt s 0 == 48) = true := by
            have := bt_nat s 0 hpos
            rw [show ((0 : Nat) : Int) = 0 from rfl] at this
            rw [this, hz.2]
            rfl
          rw [hb]
          simp only [hornbeamref22_number.j1]
          refine ⟨_, _, rfl, .inr ⟨hm, .inr ⟨fun k hk e => ?_, rfl⟩⟩⟩
          apply dec_head0 k (by rw [← e, hl]; exact hz.1)
          rw [← e]
          cases hq : s.data.toList with
          | nil => exact absurd hq he
          | cons a r =>
            have := hz.2
            rw [hq] at this
            simpa using this
        · have hj : (if (s.size : Int) > 1 then (if 0 < (s.size : Int) then (hornbeamref22_number.j1 (K + 1) s ((bt s 0) == 48)) else (none)) else (hornbeamref22_number.j1 (K + 1) s false)) = hornbeamref22_number.l0 K s 0 0 := by
            by_cases h1 : 1 < s.size
            · rw [if_pos (by omega), if_pos (by omega)]
              have hb : (bt s 0 == 48) = false := by
                have := bt_nat s 0 hpos
                rw [show ((0 : Nat) : Int) = 0 from rfl] at this
                rw [this, beq_eq_false_iff_ne]
                intro e
                exact hz ⟨h1, UInt8.toNat_inj.1 (by rw [show (48 : UInt8).toNat = 48 from rfl]; omega)⟩
              rw [hb]
              simp only [hornbeamref22_number.j1]
              rfl
            · rw [if_neg (by omega)]
              simp only [hornbeamref22_number.j1]
              rfl
          rw [hj, hloop]
          by_cases hall : ∀ c ∈ s.data.toList, isD c
          · rw [if_pos hall]
            have hdv := dec_val s.data.toList he hall (fun h1 e => by
              cases hq : s.data.toList with
              | nil => exact absurd hq he
              | cons a r =>
                rw [hq] at e
                refine hz ⟨by rw [← hl]; exact h1, ?_⟩
                rw [hq]
                simpa using e)
            exact ⟨_, _, rfl, .inr ⟨hm, .inl ⟨_, dec_small (by rw [hdv, hl]; exact h5), hdv.symm, rfl, rfl⟩⟩⟩
          · rw [if_neg hall]
            exact ⟨_, _, rfl, .inr ⟨hm, .inr ⟨fun k hk e => hall (by rw [e]; exact dec_isD k), rfl⟩⟩⟩
      · rw [if_pos (by omega)]
        simp only [hornbeamref22_number.j1]
        refine ⟨_, _, rfl, .inr ⟨hm, .inr ⟨fun k hk e => ?_, rfl⟩⟩⟩
        have := dec_len 4 k (by omega)
        rw [← e, hl] at this
        omega
end Go.Proofs.YtghhidaihajdmaaDoor
/- The reference's reading of texts and acts, plainly. -/
namespace Go.Proofs.YtghhidaihajdmaaDoor
open Go.RowKit PScriptActs Go.Proofs.YtghhidaihajdmaaDoorW.PrintWords
theorem hv_form : ∀ c : Fin 256, hv (UInt8.ofNat c.val) = if 48 ≤ c.val ∧ c.val ≤ 57 then (c.val : Int) - 48 else if 97 ≤ c.val ∧ c.val ≤ 102 then (c.val : Int) - 87 else -1 := by decide +kernel
theorem digit_ref (c : UInt8) (K : Nat) (hK : 0 < K) : hornbeamref22_digit.f K (c.toNat : Int) = some (hv c) := by
  obtain ⟨K, rfl⟩ : ∃ m, K = m + 1 := ⟨K - 1, by omega⟩
  have h := hv_form ⟨c.toNat, c.toNat_lt⟩
  have hlt := c.toNat_lt
  simp only at h
  rw [show UInt8.ofNat c.toNat = c by simp] at h
  rw [h]
  unfold hornbeamref22_digit.f
  by_cases h0 : 48 ≤ c.toNat
  · rw [if_pos (by omega)]
    by_cases h1 : c.toNat ≤ 57
    · rw [if_pos ⟨h0, h1⟩, decide_eq_true (by omega)]
      simp only [hornbeamref22_digit.j0]
      rw [if_pos trivial]
      congr 1
      omega
    · rw [if_neg (by omega), decide_eq_false (by omega)]
      simp only [hornbeamref22_digit.j0]
      rw [if_neg (by decide)]
      by_cases h2 : 97 ≤ c.toNat
      · rw [if_pos (by omega)]
        by_cases h3 : c.toNat ≤ 102
        · rw [if_pos (by omega), if_pos ⟨h2, h3⟩]
          congr 1
          omega
        · rw [if_neg (by omega), if_neg (by omega)]
      · rw [if_neg (by omega), if_neg (by omega)]
  · rw [if_neg (by omega), if_neg (by omega), if_neg (by omega)]
    simp only [hornbeamref22_digit.j0]
    rw [if_neg (by decide), if_neg (by omega)]
theorem text_loop (s : ByteArray) (hs : s.size ≤ 1048576) : ∀ (d i : Nat) (acc : List Int) (K : Nat), i + 2 * d = s.size → acc.length ≤ i → d + 1 < K →
    hornbeamref22_text.l0 K s acc i = if ∀ c ∈ s.data.toList.drop i, 0 ≤ hv c then some (strOfNums (acc ++ (unhexL (s.data.toList.drop i)).map fun b => (b.toNat : Int)), true) else some (⟨#[]⟩, false) := by
  intro d
  induction d with
  | zero =>
    intro i acc K hi ha hK
    obtain ⟨K, rfl⟩ : ∃ m, K = m + 1 := ⟨K - 1, by omega⟩
    have e : s.data.toList.drop i = [] := List.drop_of_length_le (by rw [dlen]; omega)
    simp only [hornbeamref22_text.l0]
    rw [if_neg (by omega), e, if_pos (by simp)]
    simp [unhexL]
  | succ d ih =>
    intro i acc K hi ha hK
    obtain ⟨K, rfl⟩ : ∃ m, K = m + 1 := ⟨K - 1, by omega⟩
    have hlt : i < s.size := by omega
    have hlt2 : i + 1 < s.size := by omega
    simp only [hornbeamref22_text.l0]
    rw [if_pos (by omega), if_pos (by omega), wrap_ok (i := (i : Int) + 1) (by omega) (by omega), show ((i : Int) + 1) = ((i + 1 : Nat) : Int) by omega, bt_nat s i hlt, bt_nat s (i + 1) hlt2, digit_ref _ K (by omega), digit_ref _ K (by omega), drop_at s i hlt, drop_at s (i + 1) hlt2]
    simp only [Option.bind_some]
    rw [if_pos (by omega), if_pos (by omega)]
    generalize s.data.toList.getD i 0 = x
    generalize s.data.toList.getD (i + 1) 0 = y
    have hx := hv_at x
    have hy := hv_at y
    by_cases h1 : hv x < 0
    · rw [if_pos h1, if_neg (fun h => by have := h x (by simp); omega)]
    · rw [if_neg h1]
      by_cases h2 : hv y < 0
      · rw [if_pos h2, if_neg (fun h => by have := h y (by simp); omega)]
      · rw [if_neg h2, if_pos (by omega), wrap_ok (i := 16 * hv x) (by omega) (by omega), wrap_ok (i := 16 * hv x + hv y) (by omega) (by omega), wrap_ok (i := (i : Int) + 2) (by omega) (by omega), show ((i : Int) + 2) = ((i + 1 + 1 : Nat) : Int) by omega]
        rw [ih (i + 1 + 1) _ K (by omega) (by simp; omega) (by omega)]
        have e : (∀ c ∈ x :: y :: s.data.toList.drop (i + 1 + 1), 0 ≤ hv c) ↔ ∀ c ∈ s.data.toList.drop (i + 1 + 1), 0 ≤ hv c := by
          constructor
          · exact fun h c hc => h c (by simp [hc])
          · intro h c hc
            rcases List.mem_cons.1 hc with rfl | hc
            · omega
            · rcases List.mem_cons.1 hc with rfl | hc
              · omega
              · exact h c hc
        have e2 : (16 * hv x + hv y) % 256 = ((UInt8.ofNat ((hv x).toNat * 16 + (hv y).toNat)).toNat : Int) := by
          rw [UInt8.toNat_ofNat']
          omega
        simp only [e, e2, unhexL, List.map_cons, List.append_assoc, List.singleton_append]
theorem strOf_bytes (l : List UInt8) : strOfNums (l.map fun b => (b.toNat : Int)) = mkS l := by
  unfold strOfNums mkS
  congr 2
  rw [List.map_map]
  conv => rhs; rw [← List.map_id l]
  apply List.map_congr_left
  intro b _
  simp
theorem text_ref (s : ByteArray) (hs : s.size ≤ 1048576) (K : Nat) (hK : s.size + 4 < K) : ∃ t b, hornbeamref22_text.f K s = some (t, b) ∧ TextOk s.data.toList t b := by
  obtain ⟨K, rfl⟩ : ∃ m, K = m + 1 := ⟨K - 1, by omega⟩
  have hl := dlen s
  unfold hornbeamref22_text.f
  by_cases hp : s.size % 2 = 1
  · rw [if_pos (by omega), if_pos (by omega)]
    have hpos : 0 < s.size := by omega
    have hb := bt_nat s 0 hpos
    have hd := drop_at s 0 hpos
    rw [List.drop_zero] at hd
    rw [show ((0 : Nat) : Int) = 0 from rfl] at hb
    by_cases h61 : s.data.toList.getD 0 0 = 61
    · have hbb : (bt s 0 != 61) = false := by rw [hb, h61]; rfl
      rw [hbb]
      simp only [hornbeamref22_text.j0]
      rw [if_neg (by decide)]
      have hloop := text_loop s hs (s.size / 2) 1 [] K (by omega) (by simp) (by omega)
      rw [show ((1 : Nat) : Int) = 1 from rfl] at hloop
      rw [hloop]
      rw [h61] at hd
      by_cases hall : ∀ c ∈ s.data.toList.drop 1, 0 ≤ hv c
      · rw [if_pos hall]
        refine ⟨_, _, rfl, .inl ⟨unhexL (s.data.toList.drop 1), ?_, ?_, rfl⟩⟩
        · rw [hex_unhex _ hall (by rw [List.length_drop, hl]; omega)]
          exact hd
        · rw [List.nil_append, strOf_bytes]
      · rw [if_neg hall]
        refine ⟨_, _, rfl, .inr ⟨fun r e => hall fun c hc => ?_, rfl⟩⟩
        rw [e] at hc
        exact (hexL_mem hc).2
    · have hbb : (bt s 0 != 61) = true := by
        rw [hb, bne_iff_ne]
        intro e
        exact h61 (UInt8.toNat_inj.1 (by rw [show (61 : UInt8).toNat = 61 from rfl]; omega))
      rw [hbb]
      simp only [hornbeamref22_text.j0]
      rw [if_pos trivial]
      refine ⟨_, _, rfl, .inr ⟨fun r e => h61 ?_, rfl⟩⟩
      rw [e]
      rfl
  · rw [if_neg (by omega)]
    simp only [hornbeamref22_text.j0]
    rw [if_pos trivial]
    refine ⟨_, _, rfl, .inr ⟨fun r e => hp ?_, rfl⟩⟩
    rw [← hl, e, List.length_cons, hexL_len]
    omega
theorem names_ref : hornbeamref22_names.f = some (actNames.map mkS) := rfl
theorem rdOf_map (ws : List (List UInt8)) (i : Int) (j : Nat) (hi : i = j) (h : j < ws.length) : (rdOf ByteArray.empty (ws.map mkS) i) = mkS (ws.getD j []) := by
  subst hi
  unfold rdOf
  simp only [Int.toNat_natCast, List.getD_eq_getElem?_getD, List.getElem?_map, List.getElem?_eq_getElem h, Option.map_some, Option.getD_some]
/-- What the reference answers. -/
def RefOk (ws : List (List UInt8)) (k a b c : Int) (t m : ByteArray) (n : Int) : Prop := (n = 0 ∧ Valid ws k a b c t m) ∨ (n = 4 ∧ k = 0 ∧ a = 0 ∧ b = 0 ∧ c = 0 ∧ t = ⟨#[]⟩ ∧ m = ⟨#[]⟩ ∧ ∀ k a b c t m, ¬ Valid ws k a b c t m)
theorem act_loop (ws : List (List UInt8)) (h7 : ws.length = 7) (h0 : ws.getD 0 [] = [97, 99, 116]) (hl : ∀ x ∈ ws, x.length ≤ 1048576) : ∀ (d i : Nat) (K : Nat), i + d = 12 → d + 1048590 < K →
    ∃ k a b c t m n, hornbeamref22_Act.l0 K (ws.map mkS) (actNames.map mkS) i (nm (ws.getD 1 []) i) 0 0 0 ⟨#[]⟩ ⟨#[]⟩ = some (k, a, b, c, t, m, n) ∧ RefOk ws k a b c t m n := by
  have hin : ∀ j, j < 7 → (mkS (ws.getD j [])).size ≤ 1048576 := fun j hj => hl _ (by
    rw [List.getD_eq_getElem?_getD, List.getElem?_eq_getElem (by omega)]
    exact List.getElem_mem _)
  have hwl : ((ws.map mkS).length : Int) = 7 := by rw [List.length_map, h7]; rfl
  intro d
  induction d with
  | zero =>
    intro i K hi hK
    obtain ⟨K, rfl⟩ : ∃ m, K = m + 1 := ⟨K - 1, by omega⟩
    obtain rfl : i = 12 := by omega
    simp only [hornbeamref22_Act.l0]
    rw [if_neg (by decide), hwl]
    rw [rdOf_map ws 2 2 rfl (by omega), rdOf_map ws 3 3 rfl (by omega), rdOf_map ws 4 4 rfl (by omega), rdOf_map ws 5 5 rfl (by omega), rdOf_map ws 6 6 rfl (by omega)]
    obtain ⟨n2, b2, e2, p2⟩ := number_ref (mkS (ws.getD 2 [])) K (by omega)
    obtain ⟨n3, b3, e3, p3⟩ := number_ref (mkS (ws.getD 3 [])) K (by omega)
    obtain ⟨n4, b4, e4, p4⟩ := number_ref (mkS (ws.getD 4 [])) K (by omega)
    obtain ⟨t5, b5, e5, p5⟩ := text_ref (mkS (ws.getD 5 [])) (hin 5 (by omega)) K (by have := hin 5 (by omega); omega)
    obtain ⟨t6, b6, e6, p6⟩ := text_ref (mkS (ws.getD 6 [])) (hin 6 (by omega)) K (by have := hin 6 (by omega); omega)
    rw [e2, e3, e4, e5, e6]
    rw [mkS_data] at p2 p3 p4 p5 p6
    simp only [Option.bind_some]
    rw [if_pos (by omega), if_pos (by omega), if_pos (by omega), if_pos (by omega), if_pos (by omega)]
    have hno : ∀ f, f = (decide (0 ≤ nm (ws.getD 1 []) 12) && b2 && b3 && b4 && b5 && b6) → f = false → ∀ k a b c t m, ¬ Valid ws k a b c t m := by
      intro f hf hff k a b c t m hv
      have h1 : ActOk ws (nm (ws.getD 1 []) 12) n2 n3 n4 t5 t6 f := ⟨b2, b3, b4, b5, b6, rfl, p2, p3, p4, p5, p6, hf⟩
      have := (h1.uniq hv.2.2).1
      rw [hff] at this
      cases this
    by_cases hk : nm (ws.getD 1 []) 12 < 0
    · rw [if_pos hk]
      exact ⟨0, 0, 0, 0, _, _, 4, rfl, .inr ⟨rfl, rfl, rfl, rfl, rfl, rfl, rfl, hno _ rfl (by rw [decide_eq_false (by omega)]; simp)⟩⟩
    · rw [if_neg hk]
      have hk1 : decide (0 ≤ nm (ws.getD 1 []) 12) = true := decide_eq_true (by omega)
      rw [hk1] at hno
      cases b2
      · exact ⟨0, 0, 0, 0, _, _, 4, rfl, .inr ⟨rfl, rfl, rfl, rfl, rfl, rfl, rfl, hno _ rfl (by simp)⟩⟩
      · cases b3
        · exact ⟨0, 0, 0, 0, _, _, 4, rfl, .inr ⟨rfl, rfl, rfl, rfl, rfl, rfl, rfl, hno _ rfl (by simp)⟩⟩
        · cases b4
          · exact ⟨0, 0, 0, 0, _, _, 4, rfl, .inr ⟨rfl, rfl, rfl, rfl, rfl, rfl, rfl, hno _ rfl (by simp)⟩⟩
          · cases b5
            · exact ⟨0, 0, 0, 0, _, _, 4, rfl, .inr ⟨rfl, rfl, rfl, rfl, rfl, rfl, rfl, hno _ rfl (by simp)⟩⟩
            · cases b6
              · exact ⟨0, 0, 0, 0, _, _, 4, rfl, .inr ⟨rfl, rfl, rfl, rfl, rfl, rfl, rfl, hno _ rfl (by simp)⟩⟩
              · exact ⟨_, _, _, _, _, _, _, rfl, .inl ⟨rfl, h0, h7, true, true, true, true, true, rfl, p2, p3, p4, p5, p6, by rw [hk1]; rfl⟩⟩
  | succ d ih =>
    intro i K hi hK
    obtain ⟨K, rfl⟩ : ∃ m, K = m + 1 := ⟨K - 1, by omega⟩
    simp only [hornbeamref22_Act.l0]
    rw [if_pos (by rw [List.length_map, show actNames.length = 12 from rfl]; omega), if_pos (by omega), if_pos (by rw [hwl]; omega), rdOf_map actNames i i rfl (by rw [show actNames.length = 12 from rfl]; omega), rdOf_map ws 1 1 rfl (by omega), tl_mkS, tl_mkS, wrap_ok (by omega) (by omega), show ((i : Int) + 1) = ((i + 1 : Nat) : Int) by omega]
    obtain ⟨k, a, b, c, t, m, n, h1, h2⟩ := ih (i + 1) K (by omega) (by omega)
    refine ⟨k, a, b, c, t, m, n, ?_, h2⟩
    by_cases he : actNames.getD i [] = ws.getD 1 []
    · rw [if_pos he]
      rw [nm, if_pos he] at h1
      exact h1
    · rw [if_neg he]
      rw [nm, if_neg he] at h1
      exact h1
theorem act_ref (s : ByteArray) (hs : s.size ≤ 1048576) : ∃ K k a b c t m n, hornbeamref22_Act.f K s = some (k, a, b, c, t, m, n) ∧ RefOk (splitL s.data.toList) k a b c t m n := by
  obtain ⟨x0, r, h1, h2, h3, h4, h5⟩ := splitL_glue s.data.toList
  have hl := dlen s
  have hlw : ∀ x ∈ splitL s.data.toList, x.length ≤ 1048576 := fun x hx => by
    rw [h1] at hx
    have := h4 x hx
    omega
  have hlp : 0 < (splitL s.data.toList).length := by rw [h1]; simp
  refine ⟨2097300, ?_⟩
  unfold hornbeamref22_Act.f
  rw [words_all s hs _ (by omega)]
  generalize splitL s.data.toList = ws at *
  simp only [Option.bind_some]
  rw [if_pos (by rw [List.length_map]; omega), rdOf_map ws 0 0 rfl hlp, tl_mkS]
  by_cases h0 : ws.getD 0 [] = [97, 99, 116]
  · rw [if_pos h0]
    by_cases h7 : ws.length = 7
    · have hb : (((ws.map mkS).length : Int) != 7) = false := by rw [List.length_map, h7]; rfl
      rw [hb]
      simp only [hornbeamref22_Act.j0]
      rw [if_neg (by decide), names_ref]
      simp only [Option.bind_some]
      obtain ⟨k, a, b, c, t, m, n, e1, e2⟩ := act_loop ws h7 h0 hlw 12 0 2097299 rfl (by omega)
      exact ⟨k, a, b, c, t, m, n, e1, e2⟩
    · have hb : (((ws.map mkS).length : Int) != 7) = true := by rw [List.length_map, bne_iff_ne]; omega
      rw [hb]
      simp only [hornbeamref22_Act.j0]
      exact ⟨0, 0, 0, 0, _, _, 4, rfl, .inr ⟨rfl, rfl, rfl, rfl, rfl, rfl, rfl, fun k a b c t m hv => h7 hv.2.1⟩⟩
  · rw [if_neg h0]
    simp only [hornbeamref22_Act.j0]
    exact ⟨0, 0, 0, 0, _, _, 4, rfl, .inr ⟨rfl, rfl, rfl, rfl, rfl, rfl, rfl, fun k a b c t m hv => h0 hv.1⟩⟩
end Go.Proofs.YtghhidaihajdmaaDoor
/- From what a row lists to what the walk asks; an act among the arguments, taken apart. -/
namespace Go.Proofs.YtghhidaihajdmaaDoor
open Go.RowKit Go.Shelf Go.Lib
theorem tabIs_of_reads {P : Program} {W : World} {name : String} {k : IntKind} {zs : List Int} {g : Nat} {t e : TypeId} {n : Nat}
    (hg : P.globalNamed name = some g) (hty : (P.globals[g]?).map (·.type) = some t) (ht : P.underlying t = some (.array n e)) (he : P.underlying e = some (.int k)) (hce : P.cellsOf e = 1) (hct : P.cellsOf t = n)
    (h : Lib.VarReads P W name (Lib.tabData k zs)) : Lib.TabIs P W name k zs := by
  obtain ⟨g', t', cs, fuel, p, hg', ht', hvar, hd⟩ := h
  obtain rfl := Option.some.inj (hg.symm.trans hg')
  obtain rfl := Option.some.inj (hty.symm.trans ht')
  unfold Lib.TabIs
  rw [hvar, ← Lib.cells_of_tab ht he hce hct hd]
theorem tabs_of {W : World} {l : List (String × DataW Unit)} (h : laidMetH Tryd.prog l W) (hp : (l.all fun x => x.2.handleName?.isNone) = true) (h1 : ("strings.asciiSpace", Rows.laid_strings_asciiSpace) ∈ l) (h2 : ("internal/strconv.uint64pow10", Rows.laid_internal_strconv_uint64pow10) ∈ l) : Tabs W := by
  rw [MakeChecks.laidMetH_plain _ _ _ hp] at h
  have r1 := Lib.laidMet.reads h h1
  have r2 := Lib.laidMet.reads h h2
  have d1 : (Rows.laid_strings_asciiSpace : DataW Unit) = Lib.tabData .u8 Lib.asciiSpaceTab := by as_aux_lemma => kernel_rfl
  have d2 : (Rows.laid_internal_strconv_uint64pow10 : DataW Unit) = Lib.tabData .u64 Lib.pow10Tab := by as_aux_lemma => kernel_rfl
  rw [d1] at r1
  rw [d2] at r2
  exact ⟨tabIs_of_reads (g := 0) (t := 83) (e := 5) (n := 256) (by kernel_rfl) (by kernel_rfl) (by kernel_rfl) (by kernel_rfl) (by kernel_rfl) (by kernel_rfl) r1, tabIs_of_reads (g := 2) (t := 126) (e := 102) (n := 20) (by kernel_rfl) (by kernel_rfl) (by kernel_rfl) (by kernel_rfl) (by kernel_rfl) (by kernel_rfl) r2⟩
theorem i64_of {n : Int} (h : (Lit.int .i64 n).wf = true) : -9223372036854775808 ≤ n ∧ n ≤ 9223372036854775807 := by
  have e1 : IntKind.i64.min = -9223372036854775808 := rfl
  have e2 : IntKind.i64.max = 9223372036854775807 := rfl
  simp [Lit.wf, e1, e2] at h
  omega
end Go.Proofs.YtghhidaihajdmaaDoor
/- What the second form's bound gives: how long a text is that lies in what was read. -/
namespace Go.Proofs.YtghhidaihajdmaaDoor
theorem bulk_mem {H : Type} : ∀ {l : List (DataW H)} {d : DataW H}, d ∈ l → Rows.uptoBulk d ≤ Rows.uptoBulkAll l
  | x :: r, d, h => by
    rw [Rows.uptoBulkAll]
    rcases List.mem_cons.1 h with rfl | h
    · exact Nat.le_add_right _ _
    · exact Nat.le_trans (bulk_mem h) (Nat.le_add_left _ _)
theorem bulk_text {H : Type} (l : List UInt8) : Rows.uptoBulk (DataW.lit (H := H) (.string l)) = l.length + 1 := by rw [Rows.uptoBulk]
theorem bulk_most {H : Type} {l : List (DataW H)} (h : Rows.uptoSmall H l = true) : Rows.uptoBulkAll l ≤ 1048576 := of_decide_eq_true h
/-- A text in a struct in a slice. -/
theorem bulk_field {H : Type} {elems spare parts : List (DataW H)} {l : List UInt8} (h1 : .agg parts ∈ elems) (h2 : .lit (.string l) ∈ parts) : l.length ≤ Rows.uptoBulk (.slice elems spare) := by
  have a := bulk_mem h1
  have b := bulk_mem h2
  rw [bulk_text] at b
  simp only [Rows.uptoBulk] at a ⊢
  omega
end Go.Proofs.YtghhidaihajdmaaDoor
/- What the rows list, as the walks ask it. -/
namespace Go.Proofs.YtghhidaihajdmaaDoor
open Go.RowKit
theorem err_star : "*" ++ "errors.errorString" = "*errors.errorString" := by decide
theorem err_row (u : TypeId) (h : Tryd.prog.typeName? 3 u = some "*errors.errorString") : u = 156 :=
  typeName_ptr_named (nm := "errors.errorString") (by rw [err_star]; kernel_rfl) (by kernel_rfl) (by decide) u (by rw [err_star]; exact h)
theorem env_of {W : World} {r : List (String × DataW Unit)} (hT : Tabs W) (hsh : W.ShapedOpen Tryd.prog) (h : laidMet Tryd.prog (("strconv.ErrRange", Rows.laid_strconv_ErrRange) :: ("strconv.ErrSyntax", Rows.laid_strconv_ErrSyntax) :: r) W) : Env W := by
  obtain ⟨a0, s0, hv0, -, -, -⟩ := laid_sentinel h (g := 5) (ti := 74) (by kernel_rfl) (by kernel_rfl) Tryd.underlying74 err_row Tryd.underlying156 Tryd.underlying158 rfl rfl Tryd.underlying9 (by kernel_rfl) (by kernel_rfl)
  obtain ⟨a1, s1, hv1, -, -, -⟩ := laid_sentinel h.tail (g := 4) (ti := 74) (by kernel_rfl) (by kernel_rfl) Tryd.underlying74 err_row Tryd.underlying156 Tryd.underlying158 rfl rfl Tryd.underlying9 (by kernel_rfl) (by kernel_rfl)
  have c1 : W.cell? ⟨4, 0, none⟩ = some (.iface 156 (.pointer (some a1))) := by
    have h0 := World.var?_cell (g := 4) (by kernel_rfl) hv1 0
    simpa using h0
  have c0 : W.cell? ⟨5, 0, none⟩ = some (.iface 156 (.pointer (some a0))) := by
    have h0 := World.var?_cell (g := 5) (by kernel_rfl) hv0 0
    simpa using h0
  refine ⟨hT, ?_, ⟨_, c1, .inr ⟨_, _, rfl⟩⟩, ⟨_, c0, .inr ⟨_, _, rfl⟩⟩⟩
  exact cell_of_shapedOpen_int (zero := #[.int .i64 0]) (t := 3) hsh (of_decide_eq_true (by kernel_rfl)) (by kernel_rfl) rfl (by kernel_rfl) (by kernel_rfl) Tryd.underlying3
theorem bulk_str {H : Type} {L : List UInt8} {l : List (DataW H)} (h : Rows.uptoSmall H l = true) (hd : DataW.lit (.string L) ∈ l) : L.length ≤ 1048576 := by
  have h1 := bulk_most h
  have h2 := bulk_mem hd
  rw [bulk_text] at h2
  omega
end Go.Proofs.YtghhidaihajdmaaDoor
/- The law ScriptActs, walked. -/
namespace Go.Proofs.YtghhidaihajdmaaDoor
open Go.RowKit PScriptActs
theorem Valid.uniq {ws : List (List UInt8)} {k k' a a' b b' c c' : Int} {t t' m m' : ByteArray} (h : Valid ws k a b c t m) (h' : Valid ws k' a' b' c' t' m') : k = k' ∧ a = a' ∧ b = b' ∧ c = c' ∧ t = t' ∧ m = m' := (h.2.2.uniq h'.2.2).2 rfl
theorem RefOk.uniq {ws : List (List UInt8)} {k k' a a' b b' c c' n n' : Int} {t t' m m' : ByteArray} (h : RefOk ws k a b c t m n) (h' : RefOk ws k' a' b' c' t' m' n') : k = k' ∧ a = a' ∧ b = b' ∧ c = c' ∧ t = t' ∧ m = m' ∧ n = n' := by
  rcases h with ⟨rfl, h⟩ | ⟨rfl, rfl, rfl, rfl, rfl, rfl, rfl, h⟩
  · rcases h' with ⟨rfl, h'⟩ | ⟨rfl, rfl, rfl, rfl, rfl, rfl, rfl, h'⟩
    · obtain ⟨e1, e2, e3, e4, e5, e6⟩ := h.uniq h'
      exact ⟨e1, e2, e3, e4, e5, e6, rfl⟩
    · exact absurd h (h' _ _ _ _ _ _)
  · rcases h' with ⟨rfl, h'⟩ | ⟨rfl, rfl, rfl, rfl, rfl, rfl, rfl, h'⟩
    · exact absurd h' (h _ _ _ _ _ _)
    · exact ⟨rfl, rfl, rfl, rfl, rfl, rfl, rfl⟩
set_option maxRecDepth 100000 in
theorem scriptActs4 (s : ByteArray) (w : World) (hs : s.size ≤ 1048576) (E : Env w) : Calls Tryd.prog 4 #[.string s] w fun e w' => e = .returned (.bool true) ∧ Below w.heap.size w w' := by
  obtain ⟨K, k, a, b, c, t, m, n, hf, hok⟩ := act_ref s hs
  have R := fun W => hornbeamref22_Act.calls K s k a b c t m n W hf
  have L := fun W => hornbeamlaw22_act.calls k a b c t m k a b c t m true W (by unfold hornbeamlaw22_act.f; simp)
  have A := act9 s w hs E
  have HOK := Go.Lib.hid hok
  clear hf hok
  go_enter Tryd.func4, Tryd.ntmps4
  go_wp2_with fail
  refine A.mono ?_
  rintro e w1 ⟨k1, a1, b1, c1, t1, m1, n1, rfl, hok1, hb1⟩
  obtain ⟨rfl, rfl, rfl, rfl, rfl, rfl, rfl⟩ := HOK.out.uniq hok1
  clear hok1 A
  unfold actV
  have q0 := blk_cells (at_new w1 (.cells #[.int .i64 k, .int .i64 a, .int .i64 b, .int .i64 c, .string t, .string m] 23) _ rfl)
  have hq := at_new w1 (.cells #[.int .i64 k, .int .i64 a, .int .i64 b, .int .i64 c, .string t, .string m] 23) _ rfl
  have hb2 := bal hb1 (.cells #[.int .i64 k, .int .i64 a, .int .i64 b, .int .i64 c, .string t, .string m] 23)
  go_wp2_with fail
  generalize w1.alloc (.cells #[.int .i64 k, .int .i64 a, .int .i64 b, .int .i64 c, .string t, .string m] 23) = W1 at *
  refine (R _).mono ?_
  rintro e w2 ⟨rfl, hb3⟩
  have hb4 := btr hb2 hb3
  have hq2 := at_old ((hb3.block _ (blk_lt hq)).trans hq) (.cells #[.int .i64 k, .int .i64 a, .int .i64 b, .int .i64 c, .string t, .string m] 23)
  have hq3 := at_new w2 (.cells #[.int .i64 k, .int .i64 a, .int .i64 b, .int .i64 c, .string t, .string m] 23) _ rfl
  have r0 := blk_cells hq2
  have r1 := blk_cells hq3
  have hb5 := bal hb4 (.cells #[.int .i64 k, .int .i64 a, .int .i64 b, .int .i64 c, .string t, .string m] 23)
  clear q0
  go_wp2_with fail
  generalize w2.alloc (.cells #[.int .i64 k, .int .i64 a, .int .i64 b, .int .i64 c, .string t, .string m] 23) = W2 at *
  refine (L _).mono ?_
  rintro e w3 ⟨rfl, hb6⟩
  have hb7 := btr hb5 hb6
  go_wp2_with fail
  refine (awake8 w3 (E.tabs.below hb7)).mono ?_
  rintro e w4 ⟨rfl, hb8⟩
  go_wp2
  go_ret
  exact ⟨rfl, btr hb7 hb8⟩
end Go.Proofs.YtghhidaihajdmaaDoor
/- An act among the arguments, taken apart. -/
namespace Go.Proofs.YtghhidaihajdmaaDoor
open Go.Joins Go.ChangeShapes Go.WideShapes Go.RowKit Go.Deep Go.ChangeAt
open Go.ChangeMaps (open_string shut_string)
section
variable {H : Type} {enc : TypeId × Value → H} {P : Program} {w : World} {base : Nat} {spare : Nat → Bool} {held : Bool}
theorem open_agg6 {r : Reach} {b0 : Nat} {t : TypeId} {f0 f1 f2 f3 f4 f5 : Field} {v : Value} {d : DataW H} {p : List MemPlace} (hs : P.underlying t = some (.struct #[f0, f1, f2, f3, f4, f5])) (hone : oneCellFields P #[f0, f1, f2, f3, f4, f5] = true) (hC : P.cellsOf t = 6)
    (hv : Value.okWide P w r b0 t v) (h : DataW.Trod enc P w base spare held t v d p) :
    ∃ (v0 v1 v2 v3 v4 v5 : Value) (y0 y1 y2 y3 y4 y5 : DataW H × List MemPlace) (n : Nat), v = .agg #[v0, v1, v2, v3, v4, v5] ∧ d = .agg [y0.1, y1.1, y2.1, y3.1, y4.1, y5.1] ∧
      DataW.trod enc P w base spare held n f0.type [v0] = some y0 ∧ DataW.trod enc P w base spare held n f1.type [v1] = some y1 ∧ DataW.trod enc P w base spare held n f2.type [v2] = some y2 ∧ DataW.trod enc P w base spare held n f3.type [v3] = some y3 ∧ DataW.trod enc P w base spare held n f4.type [v4] = some y4 ∧ DataW.trod enc P w base spare held n f5.type [v5] = some y5 := by
  obtain ⟨cs, rfl, hsz⟩ := okWide_struct hs hv
  obtain ⟨l⟩ := cs
  match l, hsz.trans hC with
  | [c0, c1, c2, c3, c4, c5], _ =>
    obtain ⟨fuel, hf⟩ := h
    obtain ⟨xs, n, _, hx, _, hlen, hg⟩ := DataW.trod_struct hs hf
    obtain ⟨o0, k0⟩ := hone_of hone 0 f0 rfl
    obtain ⟨o1, k1⟩ := hone_of hone 1 f1 rfl
    obtain ⟨o2, k2⟩ := hone_of hone 2 f2 rfl
    obtain ⟨o3, k3⟩ := hone_of hone 3 f3 rfl
    obtain ⟨o4, k4⟩ := hone_of hone 4 f4 rfl
    obtain ⟨o5, k5⟩ := hone_of hone 5 f5 rfl
    match xs, hlen with
    | [y0, y1, y2, y3, y4, y5], _ =>
      simp only [Prod.mk.injEq] at hx
      exact ⟨c0, c1, c2, c3, c4, c5, y0, y1, y2, y3, y4, y5, n, rfl, by simpa using hx.1, by simpa [Value.cells, o0, k0] using hg 0 f0 rfl, by simpa [Value.cells, o1, k1] using hg 1 f1 rfl, by simpa [Value.cells, o2, k2] using hg 2 f2 rfl, by simpa [Value.cells, o3, k3] using hg 3 f3 rfl, by simpa [Value.cells, o4, k4] using hg 4 f4 rfl, by simpa [Value.cells, o5, k5] using hg 5 f5 rfl⟩
end

end Go.Proofs.YtghhidaihajdmaaDoor
/- The witness of a row that may list variables, with a condition of its own or none. -/
namespace Go.Proofs.YtghhidaihajdmaaDoor
open Go.Joins Go.ChangeShapes Go.WideShapes Go.RowKit Go.Deep Go.ChangeAt
theorem wit_row {H : Type} {enc : TypeId × Value → H} {C : Checked} {os : Os} {f : FuncId} {fn : Func} {s : OpenSpec} {conds : List PathCond} {apart : Bool} {laid : List (String × DataW Unit)} (w0 : World) (args : Array Value) (hos : w0.os = os)
    (hsh : (w0.forCall (fun _ _ => 0) ⟨#[], args, []⟩).Shaped C.prog)
    (hok : Input.okWideB C.prog (w0.forCall (fun _ _ => 0) ⟨#[], args, []⟩) f ⟨#[], args, []⟩ = true)
    (hrow : s.preRow enc C.prog fn conds apart laid (w0.forCall (fun _ _ => 0) ⟨#[], args, []⟩).memory args) :
    ∃ (w : World) (tape : Tape) (i : Input), w.os = os ∧ (w.forCall tape i).Shaped C.prog ∧ i.vars = [] ∧ Input.okWide C.prog (w.forCall tape i) .any w.heap.size f i ∧
      s.preRow enc C.prog fn conds apart laid (w.forCall tape i).memory i.args ∧ ({ } : Assume).holds C.prog (lone (Frame.enter C.prog f i.args .normal) [] (w.forCall tape i)) :=
  ⟨w0, fun _ _ => 0, ⟨#[], args, []⟩, hos, hsh, (Input.okWide_of_okWideB (base := 0) hok).1, (Input.okWide_of_okWideB hok).2, hrow, by
    simp only [Assume.holds]
    exact ⟨by simp, by simp, fun _ => Modest.zero, by simp, by simp⟩⟩
/-- The listed variables laid on any world that holds the program's variables. -/
theorem laidMet_layOn {P : Program} {w0 : World} {laid : List (String × DataW Unit)} (args : Array Value) (hf : w0.layFits P laid [] = true) (hi : w0.layIfaces P laid (w0.layVars P laid) = true) :
    laidMet P laid ((w0.layVars P laid).forCall (fun _ _ => 0) ⟨#[], args, []⟩).memory := by
  have e1 : (laid.filter fun x => (laid.map (·.1)).contains x.1) = laid := List.filter_eq_self.2 fun x hx => List.contains_iff_mem.2 (List.mem_map.2 ⟨x, hx, rfl⟩)
  have e2 : (laid.filter fun x => !(laid.map (·.1)).contains x.1) = [] := List.filter_eq_nil_iff.2 fun x hx => by rw [List.contains_iff_mem.2 (List.mem_map.2 ⟨x, hx, rfl⟩)]; simp
  have h : laidMet P laid (w0.layVars P laid) := laidMet_layVars (w0 := w0) (laid.map (·.1)) [] (by rw [e1]) (by rw [e1]; exact hf) (by rw [e1]; exact hi) (by rw [e2]; exact LaidIn.none)
  exact h.of_heap (by simp [World.memory, World.forCall, Input.heap])
theorem get_some {α : Type} {o : Option α} (h : o.isSome = true) : o = some (o.get h) := (Option.some_get h).symm
end Go.Proofs.YtghhidaihajdmaaDoor
