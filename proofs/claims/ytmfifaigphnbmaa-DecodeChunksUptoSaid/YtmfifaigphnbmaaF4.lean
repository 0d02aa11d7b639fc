/- The reference's decoder takes what is sure: its loop. -/
import Derived.Test.YtmfifaigphnbmaaF3
import Derived.Deep.LoopGhost
import Derived.Deep.DeepMust
namespace Go.Proofs.Ytmfifaigphnbmaa
open Go.RowKit
/-- Block d is the reference's decoder. -/
def DecR (w : World) (d : Nat) (enc : Int) (v : Value) (over : Bool) : Prop := w.heap[d]? = some (.cells #[.int .i64 enc, v, .bool over] 59 (0, 0))
/-- The bytes L lie at the slice's place, which isn't in block d. -/
def RdN (w : World) (d B : Nat) (oa : Option Addr) (L : List UInt8) : Prop := RdB w oa L ∧ ∀ ad, oa = some ad → ad.block ≠ d ∧ ad.block < B
theorem add_block (a : Addr) (n : Nat) : (a.add n).block = a.block := by unfold Addr.add; split <;> rfl
theorem RdN.but {w w1 : World} {d B : Nat} {oa : Option Addr} {L : List UInt8} (h : RdN w d B oa L) (hb : But d B w w1) : RdN w1 d B oa L := by
  refine ⟨fun j hj => ?_, h.2⟩
  obtain ⟨ad, h1, h2⟩ := h.1 j hj
  refine ⟨ad, h1, ?_⟩
  have hbk := hb.block (ad.add j).block (by rw [add_block]; exact (h.2 ad h1).2) (by rw [add_block]; exact (h.2 ad h1).1)
  rw [← h2]
  unfold World.cell?
  rw [hbk]
theorem RdN.cut {w : World} {d B : Nat} {oa : Option Addr} {L : List UInt8} (h : RdN w d B oa L) (k cap : Nat) (hc : L.length ≤ cap) : RdN w d B (if cap = k then oa else oa.map (·.add k)) (L.drop k) := by
  by_cases e : cap = k
  · rw [if_pos e]
    exact ⟨fun j hj => by rw [List.length_drop] at hj; omega, h.2⟩
  · rw [if_neg e]
    refine ⟨h.1.cut k, ?_⟩
    rintro ad had
    obtain ⟨a, rfl, rfl⟩ := Option.map_eq_some_iff.1 had
    rw [add_block]
    exact h.2 a rfl
/-- What a round keeps: p bytes are taken, X is told of them. -/
structure RelT (T : List Int → List Int) (d : Nat) (enc : Int) (over : Bool) (L : List UInt8) (B : Nat) (w : World) (v : Value) (wr : World) (p : Nat) (X : List Int) (oa : Option Addr) (m cap : Nat) : Prop where
  lp : p ≤ L.length
  lx : X.length ≤ p
  tell : X ++ T (nums (L.drop p)) = T (nums L)
  dec : DecR wr d enc (.slice oa m cap) over
  hm : m = (L.drop p).length
  hcap : m ≤ cap
  rd : RdN wr d B oa (L.drop p)
  own : wr.ownsRow B 21 1 v X.length (X.map (Value.int .i32))
  but : But d B w wr
  size : B ≤ wr.heap.size
theorem RelT.next {T : List Int → List Int} {d : Nat} {enc : Int} {over : Bool} {L : List UInt8} {B : Nat} {w : World} {v : Value} {wr : World} {p : Nat} {X : List Int} {oa : Option Addr} {m cap : Nat} (h : RelT T d enc over L B w v wr p X oa m cap) (hdB : d < B)
    {k : Nat} {r : Int} {v2 : Value} {w2 : World} (hkm : k ≤ m) (hk0 : 0 < k) (hT : T (nums (L.drop p)) = r :: T (nums ((L.drop p).drop k))) (hown : w2.ownsRow B 21 1 v2 (X.length + 1) (X.map (Value.int .i32) ++ [Value.int .i32 r])) (hb : Below B wr w2)
    {oa' : Option Addr} {cap' : Nat} (hoa : oa' = if cap = k then oa else oa.map (·.add k)) (hc' : cap' = cap - k) : RelT T d enc over L B w v2 (w2.setCell ⟨d, 1, none⟩ (.slice oa' (m - k) cap')) (p + k) (X ++ [r]) oa' (m - k) cap' where
  lp := by have := h.hm; have := h.lp; rw [List.length_drop] at *; omega
  lx := by have := h.lx; rw [List.length_append]; simp; omega
  tell := by
    rw [← h.tell, hT, List.drop_drop, List.append_assoc]
    rfl
  dec := set_blk ((hb.block d hdB).trans h.dec) (.slice oa' (m - k) cap')
  hm := by have := h.hm; rw [List.length_drop] at *; omega
  hcap := by have := h.hcap; omega
  rd := by
    have h2 : RdN w2 d B oa (L.drop p) := h.rd.but (But.of hb)
    have h3 := h2.cut k cap (by rw [← h.hm]; exact h.hcap)
    rw [← hoa, List.drop_drop] at h3
    exact h3.but ((But.refl d B w2).set 1 _)
  own := by
    have h2 := own_setCell_lt hown hdB (i := 1) (v := .slice oa' (m - k) cap')
    rw [List.length_append, List.map_append]
    exact h2
  but := (h.but.trans (But.of hb)).set 1 _
  size := by have := hb.size; have := h.size; simp; omega
def Taken (T : List Int → List Int) (d : Nat) (enc : Int) (over : Bool) (L : List UInt8) (fin : Bool) (B : Nat) (w : World) (e : Ending) (w' : World) : Prop :=
  ∃ v p X oa m cap, e = .returned v ∧ RelT T d enc over L B w v w' p X oa m cap ∧ (fin = true → p = L.length)
set_option maxRecDepth 100000 in
set_option maxHeartbeats 2000000 in
theorem take27_0 (d : Nat) (over fin : Bool) (oa0 : Option Addr) (m0 cap0 : Nat) (L : List UInt8) (w : World) (hd : DecR w d 0 (.slice oa0 m0 cap0) over) (hm0 : m0 = L.length) (hc0 : m0 ≤ cap0) (hl : L.length ≤ 34359738368) (hR : RdN w d w.heap.size oa0 L) :
    Calls Try.prog 27 #[.pointer (some ⟨d, 0, none⟩), .bool fin] w fun e w' => Taken (tells8 U8.zero) d 0 over L fin w.heap.size w e w' := by
  have hdw : d < w.heap.size := blk_lt hd
  go_enter Try.func27, Try.ntmps27
  go_wp2
  go_loopg [5, 6, 7] L.length (fun g v5 _ _ wr => ∃ p X oa m cap, L.length - p ≤ g ∧ RelT (tells8 U8.zero) d 0 over L w.heap.size w v5 wr p X oa m cap)
  case atStart => exact ⟨0, [], oa0, m0, cap0, Nat.sub_le _ _, Nat.zero_le _, Nat.zero_le _, rfl, hd, hm0, hc0, hR, own_nil _ _ _ _, But.refl _ _ _, Nat.le_refl _⟩
  case round =>
    obtain ⟨p, X, oa, m, cap, hg, h⟩ := hrel
    have c1 := blk_cells h.dec 1
    have c0 := blk_cells h.dec 0
    have f1 := blk_free h.dec
    have c1 : wr.cell? ⟨d, 1, none⟩ = some (.slice oa m cap) := c1
    have c0 : wr.cell? ⟨d, 0, none⟩ = some (.int .i64 0) := c0
    have hml : m ≤ L.length := by rw [h.hm, List.length_drop]; omega
    by_cases hm : 0 < m
    · have hne : L.drop p ≠ [] := by intro e; have := h.hm; rw [e] at this; simp at this; omega
      have U := utf8_32 fin oa m cap (L.drop p) wr hne h.hm (by unfold maxLen; omega) h.rd.1
      obtain ⟨oa5, c5, hv5⟩ := own_slice h.own
      subst hv5
      have H := Go.Lib.hid h
      clear h
      go_wp2_with fail
      refine U.mono ?_
      rintro e w1 ⟨⟨r, k, rfl, hT⟩, rfl⟩
      rcases hT with ⟨rfl, hf⟩ | ⟨hk0, hk1, hT⟩
      · subst hf
        go_wp2
        go_ret
        exact ⟨_, p, X, oa, m, cap, rfl, H.out, fun h => by cases h⟩
      · have hkm : k ≤ m := by rw [H.out.hm]; exact hk1
        obtain ⟨ad, rfl⟩ : ∃ ad, oa = some ad := by
          obtain ⟨ad, h, _⟩ := H.out.rd.1 0 (by rw [← H.out.hm]; exact hm)
          exact ⟨ad, h⟩
        have HO := H.out.own
        have hlx := H.out.lx
        have hlp := H.out.lp
        have hX := Go.Lib.hid hT
        have hws := H.out.size
        have hgk : 0 < gk := by have := H.out.hm; rw [List.length_drop] at this; omega
        clear hT U
        have hhl : (X.length + 1) * 4 ≤ 140737488355328 := by omega
        have h1c : ∀ u ∈ (#[Value.int .i32 r]).toList, u.oneCell' = true := fun u hu => by simp at hu; subst hu; rfl
        by_cases hcm : k = cap
        · subst hcm
          go_wp2_with (at_builtin; go_must (refine step_append (w0 := wr) rfl w.heap.size (.tmp 58) (.tmp 60) 28 21 (.int .i32 0) 1 4 rfl Try.underlying28 Try.info21 rfl (by decide) (by decide) (.slice oa5 X.length c5) X.length wr.heap.size (X.map (Value.int .i32)) #[.int .i32 r] rfl rfl rfl rfl h1c HO (Below.refl _ _) hws hhl ?_; intro v2 w2 hown2 hb2; have cc1 := (hb2.cell (p := ⟨d, 1, none⟩) hdw).trans c1; have ff1 : w2.frozen? ⟨d, 1, none⟩ = false := (hb2.frozen (p := ⟨d, 1, none⟩) hdw).trans (f1 1)))
          go_roundg (gk - 1)
          case measure => omega
          case rel => exact ⟨p + k, X ++ [r], _, _, _, by omega, H.out.next hdw hkm hk0 hX.out hown2 hb2 (by rw [if_pos rfl]) (Nat.sub_self k).symm⟩
        · go_wp2_with (at_builtin; go_must (refine step_append (w0 := wr) rfl w.heap.size (.tmp 58) (.tmp 60) 28 21 (.int .i32 0) 1 4 rfl Try.underlying28 Try.info21 rfl (by decide) (by decide) (.slice oa5 X.length c5) X.length wr.heap.size (X.map (Value.int .i32)) #[.int .i32 r] rfl rfl rfl rfl h1c HO (Below.refl _ _) hws hhl ?_; intro v2 w2 hown2 hb2; have cc1 := (hb2.cell (p := ⟨d, 1, none⟩) hdw).trans c1; have ff1 : w2.frozen? ⟨d, 1, none⟩ = false := (hb2.frozen (p := ⟨d, 1, none⟩) hdw).trans (f1 1)))
          go_roundg (gk - 1)
          case measure => omega
          case rel => exact ⟨p + k, X ++ [r], _, _, _, by omega, H.out.next hdw hkm hk0 hX.out hown2 hb2 (by rw [if_neg (fun e => hcm e.symm)]; rfl) rfl⟩
    · have hm0 : m = 0 := by omega
      subst hm0
      have H := Go.Lib.hid h
      clear h
      go_wp2
      go_ret
      refine ⟨_, p, X, oa, 0, cap, rfl, H.out, fun _ => ?_⟩
      have := H.out.hm
      have := H.out.lp
      rw [List.length_drop] at *
      omega
end Go.Proofs.Ytmfifaigphnbmaa
