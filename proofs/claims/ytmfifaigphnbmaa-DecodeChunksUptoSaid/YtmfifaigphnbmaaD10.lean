/- All of a text's code points: a decoder is made, fed, ended; what both told in one row. Printed by gen10.py. -/
import Derived.Test.YtmfifaigphnbmaaD9
namespace Go.Proofs.Ytmfifaigphnbmaa
open Go.RowKit
theorem own_mono {w : World} {base base' e size n : Nat} {v : Value} {xs : List Value} (h : w.ownsRow base e size v n xs) (hb : base' ≤ base) : w.ownsRow base' e size v n xs :=
  ⟨h.1, h.2.imp id fun ⟨g, cap, cur, hv, hg, r⟩ => ⟨g, cap, cur, hv, Nat.le_trans hb hg, r⟩⟩
theorem own_but {w w1 : World} {u base e size n : Nat} {v : Value} {xs : List Value} (h : w.ownsRow base e size v n xs) (hu : u < base) (hb : But u w.heap.size w w1) : w1.ownsRow base e size v n xs :=
  ⟨h.1, h.2.imp id fun ⟨g, cap, cur, hv, hg, hh, r⟩ => ⟨g, cap, cur, hv, hg, (hb.block g (blk_lt hh) (by omega)).trans hh, r⟩⟩
theorem DecAt.but {w w' : World} {u B d : Nat} {c : Value} {o : Bool} (h : DecAt w d c o) (hb : But u B w w') (hd : d < B) (hu : d ≠ u) : DecAt w' d c o := (hb.block d hd hu).trans h
/-- What a slice of the call's own holds, cell by cell. -/
theorem own_read {w : World} {base e n m c : Nat} {oa : Option Addr} {xs : List Value} (h : w.ownsRow base e 1 (.slice oa m c) n xs) : m = n ∧ ∀ j u, xs[j]? = some u → ∃ ad, oa = some ad ∧ w.cell? (ad.add j) = some u := by
  obtain ⟨h1, h2⟩ := h
  rcases h2 with ⟨hv, h0⟩ | ⟨g, cap, cur, hv, _, hh, _, _, _, ht⟩
  · injection hv with e1 e2 e3
    subst h0 e2
    refine ⟨rfl, fun j u hu => ?_⟩
    have : xs = [] := List.eq_nil_of_length_eq_zero (by simpa using h1)
    rw [this] at hu
    cases hu
  · injection hv with e1 e2 e3
    subst e1 e2
    refine ⟨rfl, fun j u hu => ⟨_, rfl, ?_⟩⟩
    have hj : j < xs.length := by
      rcases Nat.lt_or_ge j xs.length with h' | h'
      · exact h'
      · rw [List.getElem?_eq_none h'] at hu; cases hu
    have ha : (Addr.add ⟨g, 0, none⟩ j) = ⟨g, j, none⟩ := by
      unfold Addr.add
      split
      · next h0 => subst h0; rfl
      · simp
    rw [ha, blk_cells hh, ← hu, ← ht, List.getElem?_take, if_pos (by omega)]
    simp
theorem i32_one (l : List Int) : ∀ u ∈ l.map (Value.int .i32), u.oneCell' = true := by
  intro u hu
  obtain ⟨x, _, rfl⟩ := List.mem_map.1 hu
  rfl

theorem own_setCell_lt {w : World} {base e size n d i : Nat} {v : Value} {u : Value} {xs : List Value} (h : w.ownsRow base e size u n xs) (hd : d < base) : (w.setCell ⟨d, i, none⟩ v).ownsRow base e size u n xs := ownsRow_setCell_below h hd v
theorem own_end {w2 w3 : World} {u d base e size n : Nat} {v : Value} {xs : List Value} (h : w2.ownsRow base e size v n xs) (hd : d < base) (hu : u < base) (hb : But u w2.heap.size (w2.setCell ⟨d, 1, none⟩ (.bool true)) w3) : w3.ownsRow base e size v n xs :=
  own_but (own_setCell_lt h hd (i := 1) (v := .bool true)) hu (hb.mono (by simp))
/-- What a text tells. -/
def told8 (L : List UInt8) : List Int := (run U8.step U8.zero (nums L)).2 ++ U8.fin (run U8.step U8.zero (nums L)).1
theorem told8_fin (s : U8) : (U8.fin s).length ≤ 1 := by unfold U8.fin; split <;> simp
set_option maxHeartbeats 1000000 in
theorem text13_8 (oa : Option Addr) (n cap : Nat) (L : List UInt8) (w : World) (hn : n = L.length) (hR : RdB w oa L) (hl : (2 * L.length + 2) * 4 ≤ 140737488355328) :
    Calls Try.prog 13 #[.int .i64 0, .slice oa n cap] w fun e w' => ∃ v, e = .returned (.tuple #[v, .int .i64 0]) ∧ w'.ownsRow w.heap.size 21 1 v (told8 L).length ((told8 L).map (Value.int .i32)) ∧ Below w.heap.size w w' := by
  subst hn
  have hlen := run_len U8.step (U8.step_len) U8.zero (nums L)
  rw [nums_length] at hlen
  have hfin := told8_fin (run U8.step U8.zero (nums L)).1
  have hok := run_okB U8.step U8.ok (fun s c _ h => U8.step_ok s c h) U8.zero L U8.ok_zero
  unfold told8
  obtain ⟨p, hp⟩ : ∃ p, p = run U8.step U8.zero (nums L) := ⟨_, rfl⟩
  rw [← hp] at hlen hfin hok ⊢
  have HP := Go.Lib.hid hp
  clear hp
  have F := fun (w1 : World) (hU) (hd) (hb : Below w.heap.size w w1) => feed11_8 w.heap.size (w.heap.size + 1) U8.zero oa L.length cap L w w1 rfl hR hb (Nat.le_refl _) hd (by omega) U8.ok_zero hU hl
  rw [← HP.out] at F
  go_enter Try.func13, Try.ntmps13
  go_wp2_with (first
    | (go_at_call 17; (with_reducible refine (new17_0 _).mono ?_); rintro e w1 ⟨rfl, hU1, hd1, hb1⟩; have hs1 := blk_lt hd1)
    | (go_at_call 11; (with_reducible refine (F _ hU1 hd1 hb1).mono ?_); rintro e w2 ⟨v2, rfl, ho2, hU2, hb2⟩; have hd2 := DecAt.but hd1 hb2 hs1 (by omega); have hb20 := hb1.trans ((hb2.mono hb1.size).to (Nat.le_refl _)); have hs2 := hb2.size; obtain ⟨oa2, c2, rfl⟩ := own_slice ho2)
    | (go_at_call 12; (with_reducible refine (end12_8 w.heap.size (w.heap.size + 1) p.1 _ hd2 (by omega) hok hU2).mono ?_); rintro e w3 ⟨v3, rfl, ho3, hb3⟩; have hs3 : w2.heap.size ≤ w3.heap.size := (by simpa using hb3.size); obtain ⟨oa3, c3, rfl⟩ := own_slice ho3; have HO := own_mono (own_end ho2 hs1 (Nat.lt_of_succ_lt hs1) hb3) hb1.size; have HB : Below w.heap.size w w3 := (hb20.setCell (p := ⟨w.heap.size + 1, 1, none⟩) (by simp) (.bool true)).trans ((hb3.mono (by omega)).to (Nat.le_refl _)); have hrd := (own_read ho3).2; have hbs : w.heap.size ≤ w3.heap.size := (by omega); have hl2 : (p.2.length + (U8.fin p.1).length) * 4 ≤ 140737488355328 := (by omega))
    | (at_builtin; refine step_append_slice (w0 := w) rfl w.heap.size _ _ _ _ (.int .i32 0) 1 4 rfl Try.underlying28 Try.info21 rfl (by decide) (by decide) _ _ _ _ _ _ _ rfl rfl (by simp) hrd (i32_one _) HO HB hbs hl2 ?_; intro v1 w4 hown hb4))
  go_ret2
  refine ⟨v1, rfl, ?_, hb4⟩
  rw [List.length_append, List.map_append]
  exact hown

/-- What a text tells. -/
def toldf (L : List UInt8) : List Int := (run (U16.step false) U16.zero (nums L)).2 ++ U16.fin (run (U16.step false) U16.zero (nums L)).1
theorem toldf_fin (s : U16) : (U16.fin s).length ≤ 1 := by unfold U16.fin; split <;> simp
set_option maxHeartbeats 1000000 in
theorem text13_f (oa : Option Addr) (n cap : Nat) (L : List UInt8) (w : World) (hn : n = L.length) (hR : RdB w oa L) (hl : (2 * L.length + 2) * 4 ≤ 140737488355328) :
    Calls Try.prog 13 #[.int .i64 1, .slice oa n cap] w fun e w' => ∃ v, e = .returned (.tuple #[v, .int .i64 0]) ∧ w'.ownsRow w.heap.size 21 1 v (toldf L).length ((toldf L).map (Value.int .i32)) ∧ Below w.heap.size w w' := by
  subst hn
  have hlen := run_len (U16.step false) (U16.step_len false) U16.zero (nums L)
  rw [nums_length] at hlen
  have hfin := toldf_fin (run (U16.step false) U16.zero (nums L)).1
  have hok := run_okB (U16.step false) U16.ok (fun s c hc h => U16.step_ok false s c hc h) U16.zero L U16.ok_zero
  unfold toldf
  obtain ⟨p, hp⟩ : ∃ p, p = run (U16.step false) U16.zero (nums L) := ⟨_, rfl⟩
  rw [← hp] at hlen hfin hok ⊢
  have HP := Go.Lib.hid hp
  clear hp
  have F := fun (w1 : World) (hU) (hd) (hb : Below w.heap.size w w1) => feed11_f w.heap.size (w.heap.size + 1) U16.zero oa L.length cap L w w1 rfl hR hb (Nat.le_refl _) hd (by omega) U16.ok_zero hU hl
  rw [← HP.out] at F
  go_enter Try.func13, Try.ntmps13
  go_wp2_with (first
    | (go_at_call 17; (with_reducible refine (new17_1 _).mono ?_); rintro e w1 ⟨rfl, hU1, hd1, hb1⟩; have hs1 := blk_lt hd1)
    | (go_at_call 11; (with_reducible refine (F _ hU1 hd1 hb1).mono ?_); rintro e w2 ⟨v2, rfl, ho2, hU2, hb2⟩; have hd2 := DecAt.but hd1 hb2 hs1 (by omega); have hb20 := hb1.trans ((hb2.mono hb1.size).to (Nat.le_refl _)); have hs2 := hb2.size; obtain ⟨oa2, c2, rfl⟩ := own_slice ho2)
    | (go_at_call 12; (with_reducible refine (end12_f w.heap.size (w.heap.size + 1) p.1 _ hd2 (by omega) hok hU2).mono ?_); rintro e w3 ⟨v3, rfl, ho3, hb3⟩; have hs3 : w2.heap.size ≤ w3.heap.size := (by simpa using hb3.size); obtain ⟨oa3, c3, rfl⟩ := own_slice ho3; have HO := own_mono (own_end ho2 hs1 (Nat.lt_of_succ_lt hs1) hb3) hb1.size; have HB : Below w.heap.size w w3 := (hb20.setCell (p := ⟨w.heap.size + 1, 1, none⟩) (by simp) (.bool true)).trans ((hb3.mono (by omega)).to (Nat.le_refl _)); have hrd := (own_read ho3).2; have hbs : w.heap.size ≤ w3.heap.size := (by omega); have hl2 : (p.2.length + (U16.fin p.1).length) * 4 ≤ 140737488355328 := (by omega))
    | (at_builtin; refine step_append_slice (w0 := w) rfl w.heap.size _ _ _ _ (.int .i32 0) 1 4 rfl Try.underlying28 Try.info21 rfl (by decide) (by decide) _ _ _ _ _ _ _ rfl rfl (by simp) hrd (i32_one _) HO HB hbs hl2 ?_; intro v1 w4 hown hb4))
  go_ret2
  refine ⟨v1, rfl, ?_, hb4⟩
  rw [List.length_append, List.map_append]
  exact hown

/-- What a text tells. -/
def toldt (L : List UInt8) : List Int := (run (U16.step true) U16.zero (nums L)).2 ++ U16.fin (run (U16.step true) U16.zero (nums L)).1
theorem toldt_fin (s : U16) : (U16.fin s).length ≤ 1 := by unfold U16.fin; split <;> simp
set_option maxHeartbeats 1000000 in
theorem text13_t (oa : Option Addr) (n cap : Nat) (L : List UInt8) (w : World) (hn : n = L.length) (hR : RdB w oa L) (hl : (2 * L.length + 2) * 4 ≤ 140737488355328) :
    Calls Try.prog 13 #[.int .i64 2, .slice oa n cap] w fun e w' => ∃ v, e = .returned (.tuple #[v, .int .i64 0]) ∧ w'.ownsRow w.heap.size 21 1 v (toldt L).length ((toldt L).map (Value.int .i32)) ∧ Below w.heap.size w w' := by
  subst hn
  have hlen := run_len (U16.step true) (U16.step_len true) U16.zero (nums L)
  rw [nums_length] at hlen
  have hfin := toldt_fin (run (U16.step true) U16.zero (nums L)).1
  have hok := run_okB (U16.step true) U16.ok (fun s c hc h => U16.step_ok true s c hc h) U16.zero L U16.ok_zero
  unfold toldt
  obtain ⟨p, hp⟩ : ∃ p, p = run (U16.step true) U16.zero (nums L) := ⟨_, rfl⟩
  rw [← hp] at hlen hfin hok ⊢
  have HP := Go.Lib.hid hp
  clear hp
  have F := fun (w1 : World) (hU) (hd) (hb : Below w.heap.size w w1) => feed11_t w.heap.size (w.heap.size + 1) U16.zero oa L.length cap L w w1 rfl hR hb (Nat.le_refl _) hd (by omega) U16.ok_zero hU hl
  rw [← HP.out] at F
  go_enter Try.func13, Try.ntmps13
  go_wp2_with (first
    | (go_at_call 17; (with_reducible refine (new17_2 _).mono ?_); rintro e w1 ⟨rfl, hU1, hd1, hb1⟩; have hs1 := blk_lt hd1)
    | (go_at_call 11; (with_reducible refine (F _ hU1 hd1 hb1).mono ?_); rintro e w2 ⟨v2, rfl, ho2, hU2, hb2⟩; have hd2 := DecAt.but hd1 hb2 hs1 (by omega); have hb20 := hb1.trans ((hb2.mono hb1.size).to (Nat.le_refl _)); have hs2 := hb2.size; obtain ⟨oa2, c2, rfl⟩ := own_slice ho2)
    | (go_at_call 12; (with_reducible refine (end12_t w.heap.size (w.heap.size + 1) p.1 _ hd2 (by omega) hok hU2).mono ?_); rintro e w3 ⟨v3, rfl, ho3, hb3⟩; have hs3 : w2.heap.size ≤ w3.heap.size := (by simpa using hb3.size); obtain ⟨oa3, c3, rfl⟩ := own_slice ho3; have HO := own_mono (own_end ho2 hs1 (Nat.lt_of_succ_lt hs1) hb3) hb1.size; have HB : Below w.heap.size w w3 := (hb20.setCell (p := ⟨w.heap.size + 1, 1, none⟩) (by simp) (.bool true)).trans ((hb3.mono (by omega)).to (Nat.le_refl _)); have hrd := (own_read ho3).2; have hbs : w.heap.size ≤ w3.heap.size := (by omega); have hl2 : (p.2.length + (U16.fin p.1).length) * 4 ≤ 140737488355328 := (by omega))
    | (at_builtin; refine step_append_slice (w0 := w) rfl w.heap.size _ _ _ _ (.int .i32 0) 1 4 rfl Try.underlying28 Try.info21 rfl (by decide) (by decide) _ _ _ _ _ _ _ rfl rfl (by simp) hrd (i32_one _) HO HB hbs hl2 ?_; intro v1 w4 hown hb4))
  go_ret2
  refine ⟨v1, rfl, ?_, hb4⟩
  rw [List.length_append, List.map_append]
  exact hown

set_option maxHeartbeats 1000000 in
theorem text13_3 (oa : Option Addr) (n cap : Nat) (L : List UInt8) (w : World) (hn : n = L.length) (hR : RdB w oa L) (hl : (2 * L.length + 2) * 4 ≤ 140737488355328) :
    Calls Try.prog 13 #[.int .i64 3, .slice oa n cap] w fun e w' => ∃ v, e = .returned (.tuple #[v, .int .i64 0]) ∧ w'.ownsRow w.heap.size 21 1 v ((nums L).map (one upW)).length (((nums L).map (one upW)).map (Value.int .i32)) ∧ Below w.heap.size w w' := by
  subst hn
  obtain ⟨p, hp⟩ : ∃ p, p = (nums L).map (one upW) := ⟨_, rfl⟩
  rw [← hp]
  have hlen : p.length = L.length := by rw [hp, List.length_map, nums_length]
  have hl2 : (p.length + 0) * 4 ≤ 140737488355328 := by omega
  clear hlen
  have F := fun (w1 : World) (hb : Below w.heap.size w w1) (hd) => feed11_28 w.heap.size oa L.length cap L w1 rfl (hR.below hb) hd hl
  rw [← hp] at F
  clear hp
  have hrd0 : ∀ (W : World) (j : Nat) (u : Value), ([] : List Value)[j]? = some u → ∃ ad, (none : Option Addr) = some ad ∧ W.cell? (ad.add j) = some u := fun W j u h => by cases h
  have h10 : ∀ u ∈ ([] : List Value), u.oneCell' = true := fun u h => by cases h
  go_enter Try.func13, Try.ntmps13
  go_wp2_with (first
    | (go_at_call 17; (with_reducible refine (new17_3 _).mono ?_); rintro e w1 ⟨rfl, hd1, hb1⟩; have hs1 := blk_lt hd1)
    | (go_at_call 11; (with_reducible refine (F _ hb1 hd1).mono ?_); rintro e w2 ⟨v2, rfl, ho2, hb2⟩; have hd2 : DecAt w2 w.heap.size (.iface 69 (.agg #[.func (.func 28) #[] #[]])) false := bblk hb2 hd1; have hs2 := hb2.size; obtain ⟨oa2, c2, rfl⟩ := own_slice ho2)
    | (go_at_call 12; (with_reducible refine (end12_28 w.heap.size _ hd2).mono ?_); rintro e w3 ⟨rfl, hb3⟩; have hs3 : w2.heap.size ≤ w3.heap.size := (by simpa using hb3.size); have HO := own_mono (own_below (own_setCell_lt ho2 hs1 (i := 1) (v := .bool true)) (hb3.mono (by simp))) hb1.size; have HB : Below w.heap.size w w3 := ((hb1.trans (hb2.mono hb1.size)).setCell (p := ⟨w.heap.size, 1, none⟩) (Nat.le_refl _) (.bool true)).trans (hb3.mono (by omega)); have hbs : w.heap.size ≤ w3.heap.size := (by omega); have hrd0 := hrd0 w3)
    | (at_builtin; refine step_append_slice (w0 := w) rfl w.heap.size _ _ _ _ (.int .i32 0) 1 4 rfl Try.underlying28 Try.info21 rfl (by decide) (by decide) _ _ _ _ _ _ [] rfl rfl rfl hrd0 h10 HO HB hbs hl2 ?_; intro v1 w4 hown hb4))
  go_ret2
  refine ⟨v1, rfl, ?_, hb4⟩
  simpa using hown

set_option maxHeartbeats 1000000 in
theorem text13_4 (oa : Option Addr) (n cap : Nat) (L : List UInt8) (w : World) (hn : n = L.length) (hR : RdB w oa L) (hl : (2 * L.length + 2) * 4 ≤ 140737488355328) :
    Calls Try.prog 13 #[.int .i64 4, .slice oa n cap] w fun e w' => ∃ v, e = .returned (.tuple #[v, .int .i64 0]) ∧ w'.ownsRow w.heap.size 21 1 v ((nums L).map (one upL)).length (((nums L).map (one upL)).map (Value.int .i32)) ∧ Below w.heap.size w w' := by
  subst hn
  obtain ⟨p, hp⟩ : ∃ p, p = (nums L).map (one upL) := ⟨_, rfl⟩
  rw [← hp]
  have hlen : p.length = L.length := by rw [hp, List.length_map, nums_length]
  have hl2 : (p.length + 0) * 4 ≤ 140737488355328 := by omega
  clear hlen
  have F := fun (w1 : World) (hb : Below w.heap.size w w1) (hd) => feed11_29 w.heap.size oa L.length cap L w1 rfl (hR.below hb) hd hl
  rw [← hp] at F
  clear hp
  have hrd0 : ∀ (W : World) (j : Nat) (u : Value), ([] : List Value)[j]? = some u → ∃ ad, (none : Option Addr) = some ad ∧ W.cell? (ad.add j) = some u := fun W j u h => by cases h
  have h10 : ∀ u ∈ ([] : List Value), u.oneCell' = true := fun u h => by cases h
  go_enter Try.func13, Try.ntmps13
  go_wp2_with (first
    | (go_at_call 17; (with_reducible refine (new17_4 _).mono ?_); rintro e w1 ⟨rfl, hd1, hb1⟩; have hs1 := blk_lt hd1)
    | (go_at_call 11; (with_reducible refine (F _ hb1 hd1).mono ?_); rintro e w2 ⟨v2, rfl, ho2, hb2⟩; have hd2 : DecAt w2 w.heap.size (.iface 69 (.agg #[.func (.func 29) #[] #[]])) false := bblk hb2 hd1; have hs2 := hb2.size; obtain ⟨oa2, c2, rfl⟩ := own_slice ho2)
    | (go_at_call 12; (with_reducible refine (end12_29 w.heap.size _ hd2).mono ?_); rintro e w3 ⟨rfl, hb3⟩; have hs3 : w2.heap.size ≤ w3.heap.size := (by simpa using hb3.size); have HO := own_mono (own_below (own_setCell_lt ho2 hs1 (i := 1) (v := .bool true)) (hb3.mono (by simp))) hb1.size; have HB : Below w.heap.size w w3 := ((hb1.trans (hb2.mono hb1.size)).setCell (p := ⟨w.heap.size, 1, none⟩) (Nat.le_refl _) (.bool true)).trans (hb3.mono (by omega)); have hbs : w.heap.size ≤ w3.heap.size := (by omega); have hrd0 := hrd0 w3)
    | (at_builtin; refine step_append_slice (w0 := w) rfl w.heap.size _ _ _ _ (.int .i32 0) 1 4 rfl Try.underlying28 Try.info21 rfl (by decide) (by decide) _ _ _ _ _ _ [] rfl rfl rfl hrd0 h10 HO HB hbs hl2 ?_; intro v1 w4 hown hb4))
  go_ret2
  refine ⟨v1, rfl, ?_, hb4⟩
  simpa using hown

set_option maxHeartbeats 1000000 in
theorem text13_5 (oa : Option Addr) (n cap : Nat) (L : List UInt8) (w : World) (hn : n = L.length) (hR : RdB w oa L) (hl : (2 * L.length + 2) * 4 ≤ 140737488355328) :
    Calls Try.prog 13 #[.int .i64 5, .slice oa n cap] w fun e w' => ∃ v, e = .returned (.tuple #[v, .int .i64 0]) ∧ w'.ownsRow w.heap.size 21 1 v ((nums L).map (one upC)).length (((nums L).map (one upC)).map (Value.int .i32)) ∧ Below w.heap.size w w' := by
  subst hn
  obtain ⟨p, hp⟩ : ∃ p, p = (nums L).map (one upC) := ⟨_, rfl⟩
  rw [← hp]
  have hlen : p.length = L.length := by rw [hp, List.length_map, nums_length]
  have hl2 : (p.length + 0) * 4 ≤ 140737488355328 := by omega
  clear hlen
  have F := fun (w1 : World) (hb : Below w.heap.size w w1) (hd) => feed11_30 w.heap.size oa L.length cap L w1 rfl (hR.below hb) hd hl
  rw [← hp] at F
  clear hp
  have hrd0 : ∀ (W : World) (j : Nat) (u : Value), ([] : List Value)[j]? = some u → ∃ ad, (none : Option Addr) = some ad ∧ W.cell? (ad.add j) = some u := fun W j u h => by cases h
  have h10 : ∀ u ∈ ([] : List Value), u.oneCell' = true := fun u h => by cases h
  go_enter Try.func13, Try.ntmps13
  go_wp2_with (first
    | (go_at_call 17; (with_reducible refine (new17_5 _).mono ?_); rintro e w1 ⟨rfl, hd1, hb1⟩; have hs1 := blk_lt hd1)
    | (go_at_call 11; (with_reducible refine (F _ hb1 hd1).mono ?_); rintro e w2 ⟨v2, rfl, ho2, hb2⟩; have hd2 : DecAt w2 w.heap.size (.iface 69 (.agg #[.func (.func 30) #[] #[]])) false := bblk hb2 hd1; have hs2 := hb2.size; obtain ⟨oa2, c2, rfl⟩ := own_slice ho2)
    | (go_at_call 12; (with_reducible refine (end12_30 w.heap.size _ hd2).mono ?_); rintro e w3 ⟨rfl, hb3⟩; have hs3 : w2.heap.size ≤ w3.heap.size := (by simpa using hb3.size); have HO := own_mono (own_below (own_setCell_lt ho2 hs1 (i := 1) (v := .bool true)) (hb3.mono (by simp))) hb1.size; have HB : Below w.heap.size w w3 := ((hb1.trans (hb2.mono hb1.size)).setCell (p := ⟨w.heap.size, 1, none⟩) (Nat.le_refl _) (.bool true)).trans (hb3.mono (by omega)); have hbs : w.heap.size ≤ w3.heap.size := (by omega); have hrd0 := hrd0 w3)
    | (at_builtin; refine step_append_slice (w0 := w) rfl w.heap.size _ _ _ _ (.int .i32 0) 1 4 rfl Try.underlying28 Try.info21 rfl (by decide) (by decide) _ _ _ _ _ _ [] rfl rfl rfl hrd0 h10 HO HB hbs hl2 ?_; intro v1 w4 hown hb4))
  go_ret2
  refine ⟨v1, rfl, ?_, hb4⟩
  simpa using hown

set_option maxHeartbeats 1000000 in
theorem text13_6 (oa : Option Addr) (n cap : Nat) (L : List UInt8) (w : World) (hn : n = L.length) (hR : RdB w oa L) (hl : (2 * L.length + 2) * 4 ≤ 140737488355328) :
    Calls Try.prog 13 #[.int .i64 6, .slice oa n cap] w fun e w' => ∃ v, e = .returned (.tuple #[v, .int .i64 0]) ∧ w'.ownsRow w.heap.size 21 1 v ((nums L).map (one upU)).length (((nums L).map (one upU)).map (Value.int .i32)) ∧ Below w.heap.size w w' := by
  subst hn
  obtain ⟨p, hp⟩ : ∃ p, p = (nums L).map (one upU) := ⟨_, rfl⟩
  rw [← hp]
  have hlen : p.length = L.length := by rw [hp, List.length_map, nums_length]
  have hl2 : (p.length + 0) * 4 ≤ 140737488355328 := by omega
  clear hlen
  have F := fun (w1 : World) (hb : Below w.heap.size w w1) (hd) => feed11_31 w.heap.size oa L.length cap L w1 rfl (hR.below hb) hd hl
  rw [← hp] at F
  clear hp
  have hrd0 : ∀ (W : World) (j : Nat) (u : Value), ([] : List Value)[j]? = some u → ∃ ad, (none : Option Addr) = some ad ∧ W.cell? (ad.add j) = some u := fun W j u h => by cases h
  have h10 : ∀ u ∈ ([] : List Value), u.oneCell' = true := fun u h => by cases h
  go_enter Try.func13, Try.ntmps13
  go_wp2_with (first
    | (go_at_call 17; (with_reducible refine (new17_6 _).mono ?_); rintro e w1 ⟨rfl, hd1, hb1⟩; have hs1 := blk_lt hd1)
    | (go_at_call 11; (with_reducible refine (F _ hb1 hd1).mono ?_); rintro e w2 ⟨v2, rfl, ho2, hb2⟩; have hd2 : DecAt w2 w.heap.size (.iface 69 (.agg #[.func (.func 31) #[] #[]])) false := bblk hb2 hd1; have hs2 := hb2.size; obtain ⟨oa2, c2, rfl⟩ := own_slice ho2)
    | (go_at_call 12; (with_reducible refine (end12_31 w.heap.size _ hd2).mono ?_); rintro e w3 ⟨rfl, hb3⟩; have hs3 : w2.heap.size ≤ w3.heap.size := (by simpa using hb3.size); have HO := own_mono (own_below (own_setCell_lt ho2 hs1 (i := 1) (v := .bool true)) (hb3.mono (by simp))) hb1.size; have HB : Below w.heap.size w w3 := ((hb1.trans (hb2.mono hb1.size)).setCell (p := ⟨w.heap.size, 1, none⟩) (Nat.le_refl _) (.bool true)).trans (hb3.mono (by omega)); have hbs : w.heap.size ≤ w3.heap.size := (by omega); have hrd0 := hrd0 w3)
    | (at_builtin; refine step_append_slice (w0 := w) rfl w.heap.size _ _ _ _ (.int .i32 0) 1 4 rfl Try.underlying28 Try.info21 rfl (by decide) (by decide) _ _ _ _ _ _ [] rfl rfl rfl hrd0 h10 HO HB hbs hl2 ?_; intro v1 w4 hown hb4))
  go_ret2
  refine ⟨v1, rfl, ?_, hb4⟩
  simpa using hown

end Go.Proofs.Ytmfifaigphnbmaa
