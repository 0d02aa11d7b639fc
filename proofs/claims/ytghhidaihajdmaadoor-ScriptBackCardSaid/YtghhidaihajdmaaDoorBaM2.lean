/- Texts of one seat, merged: lemmas and contracts that the law leans on. -/
import Derived.Test.YtghhidaihajdmaaDoorBaM1
import Derived.Test.YtghhidaihajdmaaDoorRows
import Derived.Lib.LaidU8
import Derived.MakeChecks
import Derived.Stop.LaidErr
import Derived.HandedShaped
import Derived.Deep.DeepHandedRow
import Derived.Lay
import Derived.LaidMore
import Derived.Stop.Joined
/- The act of any line, and a line that is an act. -/
namespace Go.Proofs.YtghhidaihajdmaaDoor
open Go.RowKit
theorem dec_inj {a b : Nat} (h : Lib.decDigits a = Lib.decDigits b) : a = b := by
  have h1 := decFrom_digits a
  rw [h, decFrom_digits b] at h1
  exact (Option.some.inj h1).symm
theorem NumOk.uniq {l : List UInt8} {n n' : Int} {b b' : Bool} (h : NumOk l n b) (h' : NumOk l n' b') : b = b' ∧ (b = true → n = n') := by
  rcases h with ⟨k, hk, hl, rfl, rfl⟩ | ⟨h1, rfl⟩
  · rcases h' with ⟨k', hk', hl', rfl, rfl⟩ | ⟨h1', rfl⟩
    · exact ⟨rfl, fun _ => by rw [dec_inj (hl.symm.trans hl')]⟩
    · exact absurd hl (h1' k hk)
  · rcases h' with ⟨k', hk', hl', rfl, rfl⟩ | ⟨h1', rfl⟩
    · exact absurd hl' (h1 k' hk')
    · exact ⟨rfl, fun e => by cases e⟩
theorem PlaceOk.uniq {l : List UInt8} {n n' : Int} {b b' : Bool} (h : PlaceOk l n b) (h' : PlaceOk l n' b') : b = b' ∧ (b = true → n = n') := by
  rcases h with ⟨hl, rfl, rfl⟩ | ⟨hl, h⟩
  · rcases h' with ⟨_, rfl, rfl⟩ | ⟨hl', _⟩
    · exact ⟨rfl, fun _ => rfl⟩
    · exact absurd hl hl'
  · rcases h' with ⟨hl', _, _⟩ | ⟨_, h'⟩
    · exact absurd hl' hl
    · exact h.uniq h'
theorem unhex_hex (r : List UInt8) : unhexL (hexL r) = r := by
  induction r with
  | nil => rfl
  | cons b t ih =>
    have hb := b.toNat_lt
    obtain ⟨_, h1⟩ := dig_ascii (b.toNat / 16) (by omega)
    obtain ⟨_, h2⟩ := dig_ascii (b.toNat % 16) (by omega)
    show UInt8.ofNat ((hv (digs.getD (b.toNat / 16) 0)).toNat * 16 + (hv (digs.getD (b.toNat % 16) 0)).toNat) :: unhexL (hexL t) = _
    rw [ih]
    unfold hv
    rw [h1, h2]
    congr 1
    rw [show ((b.toNat / 16 : Nat) : Int).toNat * 16 + ((b.toNat % 16 : Nat) : Int).toNat = b.toNat by omega]
    simp
theorem TextOk.uniq {l : List UInt8} {n n' : ByteArray} {b b' : Bool} (h : TextOk l n b) (h' : TextOk l n' b') : b = b' ∧ (b = true → n = n') := by
  rcases h with ⟨k, hl, rfl, rfl⟩ | ⟨h1, rfl⟩
  · rcases h' with ⟨k', hl', rfl, rfl⟩ | ⟨h1', rfl⟩
    · refine ⟨rfl, fun _ => ?_⟩
      have e := (List.cons.inj (hl.symm.trans hl')).2
      rw [← unhex_hex k, e, unhex_hex]
    · exact absurd hl (h1' k)
  · rcases h' with ⟨k', hl', rfl, rfl⟩ | ⟨h1', rfl⟩
    · exact absurd hl' (h1 k')
    · exact ⟨rfl, fun e => by cases e⟩
theorem ActOk.uniq {ws : List (List UInt8)} {k k' a a' b b' c c' : Int} {t t' m m' : ByteArray} {f f' : Bool} (h : ActOk ws k a b c t m f) (h' : ActOk ws k' a' b' c' t' m' f') : f = f' ∧ (f = true → k = k' ∧ a = a' ∧ b = b' ∧ c = c' ∧ t = t' ∧ m = m') := by
  obtain ⟨b1, b2, b3, b4, b5, hk, h1, h2, h3, h4, h5, hf⟩ := h
  obtain ⟨d1, d2, d3, d4, d5, hk', g1, g2, g3, g4, g5, hf'⟩ := h'
  obtain ⟨e1, v1⟩ := h1.uniq g1
  obtain ⟨e2, v2⟩ := h2.uniq g2
  obtain ⟨e3, v3⟩ := h3.uniq g3
  obtain ⟨e4, v4⟩ := h4.uniq g4
  obtain ⟨e5, v5⟩ := h5.uniq g5
  subst e1 e2 e3 e4 e5
  refine ⟨by rw [hf, hf'], fun hft => ?_⟩
  rw [hft] at hf
  have hf := hf.symm
  simp only [Bool.and_eq_true] at hf
  obtain ⟨⟨⟨⟨⟨_, x1⟩, x2⟩, x3⟩, x4⟩, x5⟩ := hf
  exact ⟨by rw [hk, hk'], v1 x1, v2 x2, v3 x3, v4 x4, v5 x5⟩
theorem ta56 (v : Value) (W : World) : (Instr.typeAssert (.iface 56 v) 52 56 true).run Tryd.prog W = .ok (.tuple #[v, .bool true]) W := by kernel_rfl
theorem ta56_no (t : TypeId) (ht : t = 63 ∨ t = 65 ∨ t = 68) (v : Value) (W : World) : (Instr.typeAssert (.iface t v) 52 56 true).run Tryd.prog W = .ok (.tuple #[.agg #[.int .i64 0, .int .i64 0, .int .i64 0, .int .i64 0, .string ⟨#[]⟩, .string ⟨#[]⟩], .bool false]) W := by
  rcases ht with rfl | rfl | rfl <;> kernel_rfl
theorem results_cell_and {P : Program} {fn : Func} {p u : Tmp} {ty : TypeId} (h : fn.results = #[.cell p ty, .tmp u]) (tmps : Array Value) (w : World) (g : Nat) (t : TypeId) (cs : Array Value) (fr : Nat × Nat) (d : TypeDesc)
    (hp : tmps.getD p undef = .pointer (some ⟨g, 0, none⟩)) (hg : w.heap[g]? = some (.cells cs t fr))
    (hu : P.underlying ty = some d) (hd : (match d with | .struct _ | .array _ _ => true | _ => false) = true) (hi : (P.info? ty).map (·.size) = some cs.size) :
    (results fn tmps).run P w = .ok (.tuple #[.agg cs, tmps.getD u undef]) w := by
  rw [results_cell_tmp h, hp]
  simp only [asAddr, Sem.run_pure, Result.andThen_ok, run_loadVar_row w g t ty cs fr d hg hu hd hi]
theorem blk6 {w : World} {b : Nat} {u0 u1 u2 u3 u4 u5 : Value} {t : TypeId} {z : Nat × Nat} (h : w.heap[b]? = some (.cells #[u0, u1, u2, u3, u4, u5] t z)) (v0 v1 v2 v3 v4 v5 : Value) :
    ((((((w.setCell ⟨b, 0, none⟩ v0).setCell ⟨b, 1, none⟩ v1).setCell ⟨b, 2, none⟩ v2).setCell ⟨b, 3, none⟩ v3).setCell ⟨b, 4, none⟩ v4).setCell ⟨b, 5, none⟩ v5).heap[b]? = some (.cells #[v0, v1, v2, v3, v4, v5] t z) := by
  rw [blk_set (blk_set (blk_set (blk_set (blk_set (blk_set h v0) v1) v2) v3) v4) v5]
  rfl
theorem below6 {B : Nat} {w0 w : World} {b : Nat} (h : Below B w0 w) (hb : B ≤ b) (v0 v1 v2 v3 v4 v5 : Value) :
    Below B w0 ((((((w.setCell ⟨b, 0, none⟩ v0).setCell ⟨b, 1, none⟩ v1).setCell ⟨b, 2, none⟩ v2).setCell ⟨b, 3, none⟩ v3).setCell ⟨b, 4, none⟩ v4).setCell ⟨b, 5, none⟩ v5) :=
  (((((h.setCell (p := ⟨b, 0, none⟩) hb v0).setCell (p := ⟨b, 1, none⟩) hb v1).setCell (p := ⟨b, 2, none⟩) hb v2).setCell (p := ⟨b, 3, none⟩) hb v3).setCell (p := ⟨b, 4, none⟩) hb v4).setCell (p := ⟨b, 5, none⟩) hb v5
/-- Are these the words of this act? -/
def Valid (ws : List (List UInt8)) (k a b c : Int) (t m : ByteArray) : Prop := ws.getD 0 [] = [97, 99, 116] ∧ ws.length = 7 ∧ ActOk ws k a b c t m true
def ActFin (ws : List (List UInt8)) (w : World) (e : Ending) (w' : World) : Prop :=
  ∃ (k a b c : Int) (t m : ByteArray) (n : Int), e = .returned (.tuple #[actV k a b c t m, .int .i64 n]) ∧ ((n = 0 ∧ Valid ws k a b c t m) ∨ (n = 4 ∧ k = 0 ∧ a = 0 ∧ b = 0 ∧ c = 0 ∧ t = ⟨#[]⟩ ∧ m = ⟨#[]⟩ ∧ ∀ k a b c t m, ¬ Valid ws k a b c t m)) ∧ Below w.heap.size w w'
set_option maxHeartbeats 800000 in
set_option maxRecDepth 100000 in
theorem act9 (s : ByteArray) (w : World) (hs : s.size ≤ 1048576) (E : Env w) : Calls Tryd.prog 9 #[.string s] w (ActFin (splitL s.data.toList) w) := by
  have hb0 : Below w.heap.size w (w.alloc (.cells (actC 0 0 0 0 ⟨#[]⟩ ⟨#[]⟩) 23)) := (Below.refl _ w).alloc (Nat.le_refl _) _
  have R := read20 s _ hs (E.below hb0)
  generalize splitL s.data.toList = ws at *
  unfold actC at hb0 R
  have hX := at_new w (.cells #[.int .i64 0, .int .i64 0, .int .i64 0, .int .i64 0, .string ⟨#[]⟩, .string ⟨#[]⟩] 23) _ rfl
  go_enter Tryd.func9, Tryd.ntmps9
  go_wp2_with fail
  generalize w.alloc (.cells #[.int .i64 0, .int .i64 0, .int .i64 0, .int .i64 0, .string ⟨#[]⟩, .string ⟨#[]⟩] 23) = W0 at *
  refine R.mono ?_
  rintro e w1 hr
  rcases hr with ⟨h0, ⟨h7, ⟨k, a, b, c, t, m, f, rfl, hok⟩, hb1⟩ | ⟨h7, rfl, hb1⟩⟩ | ⟨h0, v, f, rfl, hv, hb1⟩
  · unfold actV
    have hX1 := (hb1.block _ (blk_lt hX)).trans hX
    have hcs := blk_cells hX1
    have hfs := blk_free hX1
    have hb2 := btr hb0 hb1
    have ta := fun W => ta56 (.agg #[.int .i64 k, .int .i64 a, .int .i64 b, .int .i64 c, .string t, .string m]) W
    rcases f with _ | _
    · go_wp2
      refine bodyPost_ret (results_cell_and rfl _ _ w.heap.size 23 _ (0, 0) _ rfl (blk6 hX1 _ _ _ _ _ _) Tryd.underlying23 rfl (by kernel_rfl)) rfl ?_
      exact ⟨0, 0, 0, 0, ⟨#[]⟩, ⟨#[]⟩, 4, rfl, .inr ⟨rfl, rfl, rfl, rfl, rfl, rfl, rfl, fun k' a' b' c' t' m' hv => by have := (hok.uniq hv.2.2).1; cases this⟩, below6 hb2 (Nat.le_refl _) _ _ _ _ _ _⟩
    · have hX2 := at_old hX1 (.cells #[.int .i64 k, .int .i64 a, .int .i64 b, .int .i64 c, .string t, .string m] 56)
      have hcs2 := blk_cells hX2
      have hfs2 := blk_free hX2
      go_wp2
      refine bodyPost_ret (results_cell_and rfl _ _ w.heap.size 23 _ (0, 0) _ rfl (blk6 hX2 _ _ _ _ _ _) Tryd.underlying23 rfl (by kernel_rfl)) rfl ?_
      exact ⟨k, a, b, c, t, m, 0, rfl, .inl ⟨rfl, h0, h7, hok⟩, below6 (bal hb2 _) (Nat.le_refl _) _ _ _ _ _ _⟩
  · have hX1 := (hb1.block _ (blk_lt hX)).trans hX
    have hcs := blk_cells hX1
    have hfs := blk_free hX1
    have hb2 := btr hb0 hb1
    go_wp2
    refine bodyPost_ret (results_cell_and rfl _ _ w.heap.size 23 _ (0, 0) _ rfl (blk6 hX1 _ _ _ _ _ _) Tryd.underlying23 rfl (by kernel_rfl)) rfl ?_
    exact ⟨0, 0, 0, 0, ⟨#[]⟩, ⟨#[]⟩, 4, rfl, .inr ⟨rfl, rfl, rfl, rfl, rfl, rfl, rfl, fun k' a' b' c' t' m' hv => h7 hv.2.1⟩, below6 hb2 (Nat.le_refl _) _ _ _ _ _ _⟩
  · have hX1 := (hb1.block _ (blk_lt hX)).trans hX
    have hcs := blk_cells hX1
    have hfs := blk_free hX1
    have hb2 := btr hb0 hb1
    rcases f with _ | _
    · go_wp2
      refine bodyPost_ret (results_cell_and rfl _ _ w.heap.size 23 _ (0, 0) _ rfl (blk6 hX1 _ _ _ _ _ _) Tryd.underlying23 rfl (by kernel_rfl)) rfl ?_
      exact ⟨0, 0, 0, 0, ⟨#[]⟩, ⟨#[]⟩, 4, rfl, .inr ⟨rfl, rfl, rfl, rfl, rfl, rfl, rfl, fun k' a' b' c' t' m' hv => h0 hv.1⟩, below6 hb2 (Nat.le_refl _) _ _ _ _ _ _⟩
    · rcases hv with rfl | ⟨x, t, rfl, ht⟩
      · have hta : ∀ W, (Instr.typeAssert .nilIface 52 56 true).run Tryd.prog W = .ok (.tuple #[.agg #[.int .i64 0, .int .i64 0, .int .i64 0, .int .i64 0, .string ⟨#[]⟩, .string ⟨#[]⟩], .bool false]) W := fun _ => by kernel_rfl
        have hX2 := at_old hX1 (.cells #[.int .i64 0, .int .i64 0, .int .i64 0, .int .i64 0, .string ⟨#[]⟩, .string ⟨#[]⟩] 56)
        have hcs2 := blk_cells hX2
        have hfs2 := blk_free hX2
        go_wp2
        refine bodyPost_ret (results_cell_and rfl _ _ w.heap.size 23 _ (0, 0) _ rfl (blk6 hX2 _ _ _ _ _ _) Tryd.underlying23 rfl (by kernel_rfl)) rfl ?_
        exact ⟨0, 0, 0, 0, ⟨#[]⟩, ⟨#[]⟩, 4, rfl, .inr ⟨rfl, rfl, rfl, rfl, rfl, rfl, rfl, fun k' a' b' c' t' m' hv => h0 hv.1⟩, below6 (bal hb2 _) (Nat.le_refl _) _ _ _ _ _ _⟩
      · have ta := fun W => ta56_no t ht x W
        have hX2 := at_old hX1 (.cells #[.int .i64 0, .int .i64 0, .int .i64 0, .int .i64 0, .string ⟨#[]⟩, .string ⟨#[]⟩] 56)
        have hcs2 := blk_cells hX2
        have hfs2 := blk_free hX2
        go_wp2
        refine bodyPost_ret (results_cell_and rfl _ _ w.heap.size 23 _ (0, 0) _ rfl (blk6 hX2 _ _ _ _ _ _) Tryd.underlying23 rfl (by kernel_rfl)) rfl ?_
        exact ⟨0, 0, 0, 0, ⟨#[]⟩, ⟨#[]⟩, 4, rfl, .inr ⟨rfl, rfl, rfl, rfl, rfl, rfl, rfl, fun k' a' b' c' t' m' hv => h0 hv.1⟩, below6 (bal hb2 _) (Nat.le_refl _) _ _ _ _ _ _⟩
end Go.Proofs.YtghhidaihajdmaaDoor
/- A line that is an act is no line of another kind; the law ScriptBack, walked. -/
namespace Go.Proofs.YtghhidaihajdmaaDoor
open Go.RowKit
theorem tano63 (v : Value) (W : World) : (Instr.typeAssert (.iface 56 v) 52 63 true).run Tryd.prog W = .ok (.tuple #[.agg #[.string ⟨#[]⟩, .int .i64 0, .slice none 0 0, .slice none 0 0], .bool false]) W := by kernel_rfl
theorem tano65 (v : Value) (W : World) : (Instr.typeAssert (.iface 56 v) 52 65 true).run Tryd.prog W = .ok (.tuple #[.agg #[.int .i64 0], .bool false]) W := by kernel_rfl
theorem tano68 (v : Value) (W : World) : (Instr.typeAssert (.iface 56 v) 52 68 true).run Tryd.prog W = .ok (.tuple #[.agg #[], .bool false]) W := by kernel_rfl
theorem results_tct {P : Program} {fn : Func} {a p u v : Tmp} {ty : TypeId} (h : fn.results = #[.tmp a, .cell p ty, .tmp u, .tmp v]) (tmps : Array Value) (w : World) (g : Nat) (t : TypeId) (cs : Array Value) (fr : Nat × Nat) (d : TypeDesc)
    (hp : tmps.getD p undef = .pointer (some ⟨g, 0, none⟩)) (hg : w.heap[g]? = some (.cells cs t fr))
    (hu : P.underlying ty = some d) (hd : (match d with | .struct _ | .array _ _ => true | _ => false) = true) (hi : (P.info? ty).map (·.size) = some cs.size) :
    (results fn tmps).run P w = .ok (.tuple #[tmps.getD a undef, .agg cs, tmps.getD u undef, tmps.getD v undef]) w := by
  have hr := run_loadVar_row w g t ty cs fr d hg hu hd hi
  have hp' : tmps[p]?.getD undef = .pointer (some ⟨g, 0, none⟩) := by simpa using hp
  simp [results, h, hp', asAddr, hr]
theorem blk3 {w : World} {b : Nat} {u0 u1 u2 : Value} {t : TypeId} {z : Nat × Nat} (h : w.heap[b]? = some (.cells #[u0, u1, u2] t z)) (v0 v1 v2 : Value) :
    (((w.setCell ⟨b, 0, none⟩ v0).setCell ⟨b, 1, none⟩ v1).setCell ⟨b, 2, none⟩ v2).heap[b]? = some (.cells #[v0, v1, v2] t z) := by
  rw [blk_set (blk_set (blk_set h v0) v1) v2]
  rfl
theorem below3 {B : Nat} {w0 w : World} {b : Nat} (h : Below B w0 w) (hb : B ≤ b) (v0 v1 v2 : Value) :
    Below B w0 (((w.setCell ⟨b, 0, none⟩ v0).setCell ⟨b, 1, none⟩ v1).setCell ⟨b, 2, none⟩ v2) :=
  ((h.setCell (p := ⟨b, 0, none⟩) hb v0).setCell (p := ⟨b, 1, none⟩) hb v1).setCell (p := ⟨b, 2, none⟩) hb v2
set_option maxRecDepth 100000 in
theorem line12 (s : ByteArray) (w : World) (hs : s.size ≤ 1048576) (E : Env w) (ha : (splitL s.data.toList).getD 0 [] = [97, 99, 116]) : Calls Tryd.prog 12 #[.string s] w fun e w' => e = .returned (.tuple #[.string ⟨#[]⟩, .agg #[.int .i64 0, .slice none 0 0, .slice none 0 0], .int .i64 0, .int .i64 4]) ∧ Below w.heap.size w w' := by
  have hb0 : Below w.heap.size w (w.alloc (.cells #[.int .i64 0, .slice none 0 0, .slice none 0 0] 40)) := (Below.refl _ w).alloc (Nat.le_refl _) _
  have R := read20 s _ hs (E.below hb0)
  generalize splitL s.data.toList = ws at *
  have HA := Go.Lib.hid ha
  clear ha
  have hX := at_new w (.cells #[.int .i64 0, .slice none 0 0, .slice none 0 0] 40) _ rfl
  go_enter Tryd.func12, Tryd.ntmps12
  go_wp2_with fail
  generalize w.alloc (.cells #[.int .i64 0, .slice none 0 0, .slice none 0 0] 40) = W0 at *
  refine R.mono ?_
  rintro e w1 hr
  rcases hr with ⟨h0, ⟨h7, ⟨k, a, b, c, t, m, f, rfl, hok⟩, hb1⟩ | ⟨h7, rfl, hb1⟩⟩ | ⟨h0, v, f, rfl, hv, hb1⟩
  · unfold actV
    have hX1 := (hb1.block _ (blk_lt hX)).trans hX
    have hcs := blk_cells hX1
    have hfs := blk_free hX1
    have hb2 := btr hb0 hb1
    have ta := fun W => tano63 (.agg #[.int .i64 k, .int .i64 a, .int .i64 b, .int .i64 c, .string t, .string m]) W
    have tb := fun W => tano65 (.agg #[.int .i64 k, .int .i64 a, .int .i64 b, .int .i64 c, .string t, .string m]) W
    have tc := fun W => tano68 (.agg #[.int .i64 k, .int .i64 a, .int .i64 b, .int .i64 c, .string t, .string m]) W
    rcases f with _ | _
    · go_wp2
      exact bodyPost_ret (results_tct rfl _ _ w.heap.size 40 _ (0, 0) _ rfl (blk3 hX1 _ _ _) Tryd.underlying40 rfl (by kernel_rfl)) rfl ⟨rfl, below3 hb2 (Nat.le_refl _) _ _ _⟩
    · go_wp2
      exact bodyPost_ret (results_tct rfl _ _ w.heap.size 40 _ (0, 0) _ rfl (blk3 hX1 _ _ _) Tryd.underlying40 rfl (by kernel_rfl)) rfl ⟨rfl, below3 hb2 (Nat.le_refl _) _ _ _⟩
  · have hX1 := (hb1.block _ (blk_lt hX)).trans hX
    have hcs := blk_cells hX1
    have hfs := blk_free hX1
    have hb2 := btr hb0 hb1
    go_wp2
    exact bodyPost_ret (results_tct rfl _ _ w.heap.size 40 _ (0, 0) _ rfl (blk3 hX1 _ _ _) Tryd.underlying40 rfl (by kernel_rfl)) rfl ⟨rfl, below3 hb2 (Nat.le_refl _) _ _ _⟩
  · exact absurd HA.out h0
theorem act_fin : ∀ i k : Fin 12, actNames.getD i.val [] = actNames.getD k.val [] → i = k := by decide +kernel
theorem act_inj {i k : Nat} (hi : i < 12) (hk : k < 12) (h : actNames.getD i [] = actNames.getD k []) : i = k := congrArg Fin.val (act_fin ⟨i, hi⟩ ⟨k, hk⟩ h)
theorem valid_line (k a b c : Int) (t m : ByteArray) (hk0 : 0 ≤ k) (hk : k < 12) (ha : inP a = true) (hb : inP b = true) (hc : inP c = true) :
    Valid (splitL (lineL k.toNat a b c t.data.toList m.data.toList)) k a b c t m := by
  have hs : splitL (lineL k.toNat a b c t.data.toList m.data.toList) = [97, 99, 116] :: wordsL k.toNat a b c t.data.toList m.data.toList := by
    rw [line_glue]
    exact splitL_of_glue _ _ (words_no k.toNat a b c _ _ (by omega) ha hb hc)
  rw [hs]
  have hpl : ∀ n, inP n = true → PlaceOk (numL n) n true := fun n hn => by
    simp [inP] at hn
    by_cases e : n = -1
    · subst e; exact .inl ⟨rfl, rfl, rfl⟩
    · have e2 : numL n = Lib.decDigits n.toNat := by rw [numL, if_neg e, Lib.itoa, if_neg (by omega)]
      refine .inr ⟨fun h45 => ?_, .inl ⟨n.toNat, by omega, e2, by omega, rfl⟩⟩
      obtain ⟨d, r, hd, hr⟩ := dec_head n.toNat
      rw [e2, hr] at h45
      have e3 := (List.cons.inj h45).1
      have hbb : (UInt8.ofNat (48 + d)).toNat = 48 + d := by rw [UInt8.toNat_ofNat']; omega
      rw [e3] at hbb
      simp at hbb
      omega
  have hnm : ∀ i, i ≤ 12 → nm (actNames.getD k.toNat []) i = if k.toNat < i then k else -1 := by
    intro i
    induction i with
    | zero => intro _; rfl
    | succ i ih =>
      intro hi
      rw [nm]
      by_cases e : actNames.getD i [] = actNames.getD k.toNat []
      · have := act_inj (by omega) (by omega) e
        rw [if_pos e, if_pos (by omega)]
        omega
      · rw [if_neg e, ih (by omega)]
        by_cases h1 : k.toNat < i
        · rw [if_pos h1, if_pos (by omega)]
        · rw [if_neg h1, if_neg (fun h2 => e (by rw [show k.toNat = i by omega]))]
  have h12 := hnm 12 (Nat.le_refl _)
  rw [if_pos (by omega)] at h12
  refine ⟨rfl, rfl, true, true, true, true, true, ?_, hpl a ha, hpl b hb, hpl c hc, .inl ⟨t.data.toList, rfl, rfl, rfl⟩, .inl ⟨m.data.toList, rfl, rfl, rfl⟩, ?_⟩
  · exact h12.symm
  · show true = (decide (0 ≤ nm (actNames.getD k.toNat []) 12) && true && true && true && true && true)
    rw [h12, decide_eq_true hk0]
    rfl
end Go.Proofs.YtghhidaihajdmaaDoor
/- The law ScriptBack, walked. -/
namespace Go.Proofs.YtghhidaihajdmaaDoor
open Go.RowKit
set_option maxRecDepth 100000 in
theorem act11 (k a b c : Int) (t m : ByteArray) (w : World) : Calls Tryd.prog 11 #[.agg #[.int .i64 k, .int .i64 a, .int .i64 b, .int .i64 c, .string t, .string m], .agg #[.int .i64 k, .int .i64 a, .int .i64 b, .int .i64 c, .string t, .string m]] w fun e w' => e = .returned (.bool true) ∧ Below w.heap.size w w' := by
  have hx := at_new w (.cells #[.int .i64 k, .int .i64 a, .int .i64 b, .int .i64 c, .string t, .string m] 23) _ rfl
  have hx2 := at_old hx (.cells #[.int .i64 k, .int .i64 a, .int .i64 b, .int .i64 c, .string t, .string m] 23)
  have hy := at_new (w.alloc (.cells #[.int .i64 k, .int .i64 a, .int .i64 b, .int .i64 c, .string t, .string m] 23)) (.cells #[.int .i64 k, .int .i64 a, .int .i64 b, .int .i64 c, .string t, .string m] 23) (w.heap.size + 1) (by simp)
  have hb := bal (bal (Below.refl w.heap.size w) (.cells #[.int .i64 k, .int .i64 a, .int .i64 b, .int .i64 c, .string t, .string m] 23)) (.cells #[.int .i64 k, .int .i64 a, .int .i64 b, .int .i64 c, .string t, .string m] 23)
  have r1 := blk_cells hx2
  have r2 := blk_cells hy
  go_enter Tryd.func11, Tryd.ntmps11
  go_wp2
  go_ret
  exact ⟨rfl, hb⟩
theorem printL_cases (k a b c : Int) (t m : List UInt8) : (∃ n, printL k a b c t m = ([], n) ∧ (n = 4 ∨ n = 2)) ∨ (printL k a b c t m = (lineL k.toNat a b c t m, 0) ∧ 0 ≤ k ∧ k < 12 ∧ inP a = true ∧ inP b = true ∧ inP c = true ∧ (lineL k.toNat a b c t m).length ≤ 65536) := by
  unfold printL
  by_cases h1 : ¬ (0 ≤ k ∧ k < 12 ∧ allP [a, b, c] = true)
  · rw [if_pos h1]; exact .inl ⟨4, rfl, .inl rfl⟩
  · rw [if_neg h1]
    by_cases h2 : 65536 < t.length ∨ 65536 < m.length
    · rw [if_pos h2]; exact .inl ⟨2, rfl, .inr rfl⟩
    · rw [if_neg h2]
      by_cases h3 : 65536 < (lineL k.toNat a b c t m).length
      · rw [if_pos h3]; exact .inl ⟨2, rfl, .inr rfl⟩
      · rw [if_neg h3]
        have h4 := Classical.not_not.1 h1
        obtain ⟨x1, x2, x3⟩ := h4
        simp only [allP, List.all_cons, List.all_nil, Bool.and_true, Bool.and_eq_true] at x3
        exact .inr ⟨rfl, x1, x2, x3.1, x3.2.1, x3.2.2, by omega⟩
set_option maxHeartbeats 800000 in
set_option maxRecDepth 100000 in
theorem scriptBack5 (k a b c : Int) (t m : ByteArray) (w : World) (E : Env w) (hk0 : -9223372036854775808 ≤ k) (hk1 : k ≤ 9223372036854775807) (ha0 : -9223372036854775808 ≤ a) (ha1 : a ≤ 9223372036854775807) (hq0 : -9223372036854775808 ≤ b) (hq1 : b ≤ 9223372036854775807) (hc0 : -9223372036854775808 ≤ c) (hc1 : c ≤ 9223372036854775807) : Calls Tryd.prog 5 #[.agg #[.int .i64 k, .int .i64 a, .int .i64 b, .int .i64 c, .string t, .string m]] w fun e w' => e = .returned (.bool true) ∧ Below w.heap.size w w' := by
  have hb0 : Below w.heap.size w (w.alloc (.cells #[.int .i64 k, .int .i64 a, .int .i64 b, .int .i64 c, .string t, .string m] 23)) := (Below.refl _ w).alloc (Nat.le_refl _) _
  have E1 := E.below hb0
  have P := print6 k a b c t m _ E1.tabs hk0 hk1 ha0 ha1 hq0 hq1 hc0 hc1
  have hx := at_new w (.cells #[.int .i64 k, .int .i64 a, .int .i64 b, .int .i64 c, .string t, .string m] 23) _ rfl
  have r0 := blk_cells hx
  rcases printL_cases k a b c t.data.toList m.data.toList with ⟨n, hp, hn⟩ | ⟨hp, hk, hk2, hia, hib, hic, hlen⟩
  · rw [hp] at P
    dsimp only at P
    rw [show mkS [] = (⟨#[]⟩ : ByteArray) from rfl] at P
    have hn0 : (n != 0) = true := by rw [bne_iff_ne]; rcases hn with rfl | rfl <;> decide
    have HN := Go.Lib.hid hn
    clear hp hn
    go_enter Tryd.func5, Tryd.ntmps5
    go_wp2_with fail
    generalize w.alloc (.cells #[.int .i64 k, .int .i64 a, .int .i64 b, .int .i64 c, .string t, .string m] 23) = W1 at *
    refine P.mono ?_
    rintro e w1 ⟨rfl, hb1⟩
    have hb2 := btr hb0 hb1
    go_wp2_with fail
    refine (awake8 w1 (E.below hb2).tabs).mono ?_
    rintro e w2 ⟨rfl, hb3⟩
    go_wp2
    go_ret
    exact ⟨rfl, btr hb2 hb3⟩
  · rw [hp] at P
    have hv := valid_line k a b c t m hk hk2 hia hib hic
    obtain ⟨s, hs⟩ : ∃ s : ByteArray, s = mkS (lineL k.toNat a b c t.data.toList m.data.toList) := ⟨_, rfl⟩
    have hsd : s.data.toList = lineL k.toNat a b c t.data.toList m.data.toList := by rw [hs, mkS_data]
    have hsz : s.size ≤ 1048576 := by
      have := dlen s
      rw [hsd] at this
      omega
    rw [← hsd] at hv
    dsimp only at P
    rw [← hs] at P
    have HV := Go.Lib.hid hv
    clear hp hs hsd hlen hv hk hk2 hia hib hic
    go_enter Tryd.func5, Tryd.ntmps5
    go_wp2_with fail
    generalize w.alloc (.cells #[.int .i64 k, .int .i64 a, .int .i64 b, .int .i64 c, .string t, .string m] 23) = W1 at *
    refine P.mono ?_
    rintro e w1 ⟨rfl, hb1⟩
    have hb2 := btr hb0 hb1
    have hx1 := (hb1.block _ (blk_lt hx)).trans hx
    clear r0 hx P
    go_wp2_with fail
    refine (act9 s w1 hsz (E.below hb2)).mono ?_
    rintro e w2 ⟨k1, a1, b1, c1, t1, m1, n1, rfl, hok, hb3⟩
    obtain ⟨rfl, rfl, rfl, rfl, rfl, rfl, rfl⟩ : n1 = 0 ∧ k1 = k ∧ a1 = a ∧ b1 = b ∧ c1 = c ∧ t1 = t ∧ m1 = m := by
      rcases hok with ⟨e0, hv⟩ | ⟨_, _, _, _, _, _, _, hno⟩
      · obtain ⟨e1, e2, e3, e4, e5, e6⟩ := (hv.2.2.uniq HV.out.2.2).2 rfl
        exact ⟨e0, e1, e2, e3, e4, e5, e6⟩
      · exact absurd HV.out (hno _ _ _ _ _ _)
    clear hok
    unfold actV
    have hb4 := bal (btr hb2 hb3) (.cells #[.int .i64 k1, .int .i64 a1, .int .i64 b1, .int .i64 c1, .string t1, .string m1] 23)
    have hx2 := at_old ((hb3.block _ (blk_lt hx1)).trans hx1) (.cells #[.int .i64 k1, .int .i64 a1, .int .i64 b1, .int .i64 c1, .string t1, .string m1] 23)
    have hy2 := at_new w2 (.cells #[.int .i64 k1, .int .i64 a1, .int .i64 b1, .int .i64 c1, .string t1, .string m1] 23) _ rfl
    clear hx1
    go_wp2_with fail
    generalize w2.alloc (.cells #[.int .i64 k1, .int .i64 a1, .int .i64 b1, .int .i64 c1, .string t1, .string m1] 23) = W2 at *
    refine (line12 s W2 hsz (E.below hb4) HV.out.1).mono ?_
    rintro e w3 ⟨rfl, hb5⟩
    have hb6 := bal (btr hb4 hb5) (.cells #[.int .i64 0, .slice none 0 0, .slice none 0 0] 40)
    have hx3 := at_old ((hb5.block _ (blk_lt hx2)).trans hx2) (.cells #[.int .i64 0, .slice none 0 0, .slice none 0 0] 40)
    have hy3 := at_old ((hb5.block _ (blk_lt hy2)).trans hy2) (.cells #[.int .i64 0, .slice none 0 0, .slice none 0 0] 40)
    have q1 := blk_cells hx3
    have q2 := blk_cells hy3
    go_wp2_with fail
    generalize w3.alloc (.cells #[.int .i64 0, .slice none 0 0, .slice none 0 0] 40) = W3 at *
    refine (act11 k1 a1 b1 c1 t1 m1 _).mono ?_
    rintro e w4 ⟨rfl, hb7⟩
    go_wp2
    go_ret
    exact ⟨rfl, btr hb6 hb7⟩
end Go.Proofs.YtghhidaihajdmaaDoor
/- From what a row lists to what the walk asks; an act among the arguments, taken apart. -/
namespace Go.Proofs.YtghhidaihajdmaaDoor
open Go.RowKit Go.Shelf Go.Lib
theorem tabIs_of_reads {P : Program} {W : World} {name : String} {k : IntKind} {zs : List Int} {g : Nat} {t e : TypeId} {n : Nat}
    (hg : P.globalNamed name = some g) (hty : (P.globals[g]?).map (·.type) = some t) (ht : P.underlying t = some (.array n e)) (he : P.underlying e = some (.int k)) (hce : P.cellsOf e = 1) (hct : P.cellsOf t = n)
    (h : Lib.VarReads P W name (Lib.tabData k zs)) : Lib.TabIs P W name k zs := by
  obtain ⟨g', t', cs, fuel, p, hg', ht', hvar, hd⟩ := h
  obtain rfl := Option.some.inj (hg.symm.trans hg')
  obtain rfl := Option.some.inj (hty.symm.trans ht')
  unfold Lib.TabIs
  rw [hvar, ← Lib.cells_of_tab ht he hce hct hd]
theorem tabs_of {W : World} {l : List (String × DataW Unit)} (h : laidMetH Tryd.prog l W) (hp : (l.all fun x => x.2.handleName?.isNone) = true) (h1 : ("strings.asciiSpace", Rows.laid_strings_asciiSpace) ∈ l) (h2 : ("internal/strconv.uint64pow10", Rows.laid_internal_strconv_uint64pow10) ∈ l) : Tabs W := by
  rw [MakeChecks.laidMetH_plain _ _ _ hp] at h
  have r1 := Lib.laidMet.reads h h1
  have r2 := Lib.laidMet.reads h h2
  have d1 : (Rows.laid_strings_asciiSpace : DataW Unit) = Lib.tabData .u8 Lib.asciiSpaceTab := by as_aux_lemma => kernel_rfl
  have d2 : (Rows.laid_internal_strconv_uint64pow10 : DataW Unit) = Lib.tabData .u64 Lib.pow10Tab := by as_aux_lemma => kernel_rfl
  rw [d1] at r1
  rw [d2] at r2
  exact ⟨tabIs_of_reads (g := 0) (t := 83) (e := 5) (n := 256) (by kernel_rfl) (by kernel_rfl) (by kernel_rfl) (by kernel_rfl) (by kernel_rfl) (by kernel_rfl) r1, tabIs_of_reads (g := 2) (t := 126) (e := 102) (n := 20) (by kernel_rfl) (by kernel_rfl) (by kernel_rfl) (by kernel_rfl) (by kernel_rfl) (by kernel_rfl) r2⟩
theorem i64_of {n : Int} (h : (Lit.int .i64 n).wf = true) : -9223372036854775808 ≤ n ∧ n ≤ 9223372036854775807 := by
  have e1 : IntKind.i64.min = -9223372036854775808 := rfl
  have e2 : IntKind.i64.max = 9223372036854775807 := rfl
  simp [Lit.wf, e1, e2] at h
  omega
end Go.Proofs.YtghhidaihajdmaaDoor
/- What the second form's bound gives: how long a text is that lies in what was read. -/
namespace Go.Proofs.YtghhidaihajdmaaDoor
theorem bulk_mem {H : Type} : ∀ {l : List (DataW H)} {d : DataW H}, d ∈ l → Rows.uptoBulk d ≤ Rows.uptoBulkAll l
  | x :: r, d, h => by
    rw [Rows.uptoBulkAll]
    rcases List.mem_cons.1 h with rfl | h
    · exact Nat.le_add_right _ _
    · exact Nat.le_trans (bulk_mem h) (Nat.le_add_left _ _)
theorem bulk_text {H : Type} (l : List UInt8) : Rows.uptoBulk (DataW.lit (H := H) (.string l)) = l.length + 1 := by rw [Rows.uptoBulk]
theorem bulk_most {H : Type} {l : List (DataW H)} (h : Rows.uptoSmall H l = true) : Rows.uptoBulkAll l ≤ 1048576 := of_decide_eq_true h
/-- A text in a struct in a slice. -/
theorem bulk_field {H : Type} {elems spare parts : List (DataW H)} {l : List UInt8} (h1 : .agg parts ∈ elems) (h2 : .lit (.string l) ∈ parts) : l.length ≤ Rows.uptoBulk (.slice elems spare) := by
  have a := bulk_mem h1
  have b := bulk_mem h2
  rw [bulk_text] at b
  simp only [Rows.uptoBulk] at a ⊢
  omega
end Go.Proofs.YtghhidaihajdmaaDoor
/- What the rows list, as the walks ask it. -/
namespace Go.Proofs.YtghhidaihajdmaaDoor
open Go.RowKit
theorem err_star : "*" ++ "errors.errorString" = "*errors.errorString" := by decide
theorem err_row (u : TypeId) (h : Tryd.prog.typeName? 3 u = some "*errors.errorString") : u = 156 :=
  typeName_ptr_named (nm := "errors.errorString") (by rw [err_star]; kernel_rfl) (by kernel_rfl) (by decide) u (by rw [err_star]; exact h)
theorem env_of {W : World} {r : List (String × DataW Unit)} (hT : Tabs W) (hsh : W.ShapedOpen Tryd.prog) (h : laidMet Tryd.prog (("strconv.ErrRange", Rows.laid_strconv_ErrRange) :: ("strconv.ErrSyntax", Rows.laid_strconv_ErrSyntax) :: r) W) : Env W := by
  obtain ⟨a0, s0, hv0, -, -, -⟩ := laid_sentinel h (g := 5) (ti := 74) (by kernel_rfl) (by kernel_rfl) Tryd.underlying74 err_row Tryd.underlying156 Tryd.underlying158 rfl rfl Tryd.underlying9 (by kernel_rfl) (by kernel_rfl)
  obtain ⟨a1, s1, hv1, -, -, -⟩ := laid_sentinel h.tail (g := 4) (ti := 74) (by kernel_rfl) (by kernel_rfl) Tryd.underlying74 err_row Tryd.underlying156 Tryd.underlying158 rfl rfl Tryd.underlying9 (by kernel_rfl) (by kernel_rfl)
  have c1 : W.cell? ⟨4, 0, none⟩ = some (.iface 156 (.pointer (some a1))) := by
    have h0 := World.var?_cell (g := 4) (by kernel_rfl) hv1 0
    simpa using h0
  have c0 : W.cell? ⟨5, 0, none⟩ = some (.iface 156 (.pointer (some a0))) := by
    have h0 := World.var?_cell (g := 5) (by kernel_rfl) hv0 0
    simpa using h0
  refine ⟨hT, ?_, ⟨_, c1, .inr ⟨_, _, rfl⟩⟩, ⟨_, c0, .inr ⟨_, _, rfl⟩⟩⟩
  exact cell_of_shapedOpen_int (zero := #[.int .i64 0]) (t := 3) hsh (of_decide_eq_true (by kernel_rfl)) (by kernel_rfl) rfl (by kernel_rfl) (by kernel_rfl) Tryd.underlying3
theorem bulk_str {H : Type} {L : List UInt8} {l : List (DataW H)} (h : Rows.uptoSmall H l = true) (hd : DataW.lit (.string L) ∈ l) : L.length ≤ 1048576 := by
  have h1 := bulk_most h
  have h2 := bulk_mem hd
  rw [bulk_text] at h2
  omega
end Go.Proofs.YtghhidaihajdmaaDoor
/- An act among the arguments, taken apart. -/
namespace Go.Proofs.YtghhidaihajdmaaDoor
open Go.Joins Go.ChangeShapes Go.WideShapes Go.RowKit Go.Deep Go.ChangeAt
open Go.ChangeMaps (open_string shut_string)
section
variable {H : Type} {enc : TypeId × Value → H} {P : Program} {w : World} {base : Nat} {spare : Nat → Bool} {held : Bool}
theorem open_agg6 {r : Reach} {b0 : Nat} {t : TypeId} {f0 f1 f2 f3 f4 f5 : Field} {v : Value} {d : DataW H} {p : List MemPlace} (hs : P.underlying t = some (.struct #[f0, f1, f2, f3, f4, f5])) (hone : oneCellFields P #[f0, f1, f2, f3, f4, f5] = true) (hC : P.cellsOf t = 6)
    (hv : Value.okWide P w r b0 t v) (h : DataW.Trod enc P w base spare held t v d p) :
    ∃ (v0 v1 v2 v3 v4 v5 : Value) (y0 y1 y2 y3 y4 y5 : DataW H × List MemPlace) (n : Nat), v = .agg #[v0, v1, v2, v3, v4, v5] ∧ d = .agg [y0.1, y1.1, y2.1, y3.1, y4.1, y5.1] ∧
      DataW.trod enc P w base spare held n f0.type [v0] = some y0 ∧ DataW.trod enc P w base spare held n f1.type [v1] = some y1 ∧ DataW.trod enc P w base spare held n f2.type [v2] = some y2 ∧ DataW.trod enc P w base spare held n f3.type [v3] = some y3 ∧ DataW.trod enc P w base spare held n f4.type [v4] = some y4 ∧ DataW.trod enc P w base spare held n f5.type [v5] = some y5 := by
  obtain ⟨cs, rfl, hsz⟩ := okWide_struct hs hv
  obtain ⟨l⟩ := cs
  match l, hsz.trans hC with
  | [c0, c1, c2, c3, c4, c5], _ =>
    obtain ⟨fuel, hf⟩ := h
    obtain ⟨xs, n, _, hx, _, hlen, hg⟩ := DataW.trod_struct hs hf
    obtain ⟨o0, k0⟩ := hone_of hone 0 f0 rfl
    obtain ⟨o1, k1⟩ := hone_of hone 1 f1 rfl
    obtain ⟨o2, k2⟩ := hone_of hone 2 f2 rfl
    obtain ⟨o3, k3⟩ := hone_of hone 3 f3 rfl
    obtain ⟨o4, k4⟩ := hone_of hone 4 f4 rfl
    obtain ⟨o5, k5⟩ := hone_of hone 5 f5 rfl
    match xs, hlen with
    | [y0, y1, y2, y3, y4, y5], _ =>
      simp only [Prod.mk.injEq] at hx
      exact ⟨c0, c1, c2, c3, c4, c5, y0, y1, y2, y3, y4, y5, n, rfl, by simpa using hx.1, by simpa [Value.cells, o0, k0] using hg 0 f0 rfl, by simpa [Value.cells, o1, k1] using hg 1 f1 rfl, by simpa [Value.cells, o2, k2] using hg 2 f2 rfl, by simpa [Value.cells, o3, k3] using hg 3 f3 rfl, by simpa [Value.cells, o4, k4] using hg 4 f4 rfl, by simpa [Value.cells, o5, k5] using hg 5 f5 rfl⟩
end

end Go.Proofs.YtghhidaihajdmaaDoor
/- The witness of a row that may list variables, with a condition of its own or none. -/
namespace Go.Proofs.YtghhidaihajdmaaDoor
open Go.Joins Go.ChangeShapes Go.WideShapes Go.RowKit Go.Deep Go.ChangeAt
theorem wit_row {H : Type} {enc : TypeId × Value → H} {C : Checked} {os : Os} {f : FuncId} {fn : Func} {s : OpenSpec} {conds : List PathCond} {apart : Bool} {laid : List (String × DataW Unit)} (w0 : World) (args : Array Value) (hos : w0.os = os)
    (hsh : (w0.forCall (fun _ _ => 0) ⟨#[], args, []⟩).Shaped C.prog)
    (hok : Input.okWideB C.prog (w0.forCall (fun _ _ => 0) ⟨#[], args, []⟩) f ⟨#[], args, []⟩ = true)
    (hrow : s.preRow enc C.prog fn conds apart laid (w0.forCall (fun _ _ => 0) ⟨#[], args, []⟩).memory args) :
    ∃ (w : World) (tape : Tape) (i : Input), w.os = os ∧ (w.forCall tape i).Shaped C.prog ∧ i.vars = [] ∧ Input.okWide C.prog (w.forCall tape i) .any w.heap.size f i ∧
      s.preRow enc C.prog fn conds apart laid (w.forCall tape i).memory i.args ∧ ({ } : Assume).holds C.prog (lone (Frame.enter C.prog f i.args .normal) [] (w.forCall tape i)) :=
  ⟨w0, fun _ _ => 0, ⟨#[], args, []⟩, hos, hsh, (Input.okWide_of_okWideB (base := 0) hok).1, (Input.okWide_of_okWideB hok).2, hrow, by
    simp only [Assume.holds]
    exact ⟨by simp, by simp, fun _ => Modest.zero, by simp, by simp⟩⟩
/-- The listed variables laid on any world that holds the program's variables. -/
theorem laidMet_layOn {P : Program} {w0 : World} {laid : List (String × DataW Unit)} (args : Array Value) (hf : w0.layFits P laid [] = true) (hi : w0.layIfaces P laid (w0.layVars P laid) = true) :
    laidMet P laid ((w0.layVars P laid).forCall (fun _ _ => 0) ⟨#[], args, []⟩).memory := by
  have e1 : (laid.filter fun x => (laid.map (·.1)).contains x.1) = laid := List.filter_eq_self.2 fun x hx => List.contains_iff_mem.2 (List.mem_map.2 ⟨x, hx, rfl⟩)
  have e2 : (laid.filter fun x => !(laid.map (·.1)).contains x.1) = [] := List.filter_eq_nil_iff.2 fun x hx => by rw [List.contains_iff_mem.2 (List.mem_map.2 ⟨x, hx, rfl⟩)]; simp
  have h : laidMet P laid (w0.layVars P laid) := laidMet_layVars (w0 := w0) (laid.map (·.1)) [] (by rw [e1]) (by rw [e1]; exact hf) (by rw [e1]; exact hi) (by rw [e2]; exact LaidIn.none)
  exact h.of_heap (by simp [World.memory, World.forCall, Input.heap])
theorem get_some {α : Type} {o : Option α} (h : o.isSome = true) : o = some (o.get h) := (Option.some_get h).symm
end Go.Proofs.YtghhidaihajdmaaDoor
