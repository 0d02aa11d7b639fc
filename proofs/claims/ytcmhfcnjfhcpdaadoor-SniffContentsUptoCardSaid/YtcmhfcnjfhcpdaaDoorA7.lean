/- The charset that a content type tells: plainly, and the walk's beginning. -/
import Derived.Test.YtcmhfcnjfhcpdaaDoorA6
import Derived.RegionTactic
import Derived.RegionCalls
import Derived.Deep.LoopGhost
import Derived.Deep.RegionHeld
import Derived.Outline
namespace Go.Proofs.YtcmhfcnjfhcpdaaDoor
open Go.RowKit
theorem index_fit : ∀ (s sub : List UInt8), 0 ≤ Lib.index s sub → (Lib.index s sub).toNat + sub.length ≤ s.length
  | [], sub, h => by
    cases sub with
    | nil => simp [Lib.index]
    | cons a t => simp [Lib.index] at h
  | b :: l, sub, h => by
    have ih := index_fit l sub
    have e : Lib.index (b :: l) sub = if sub.isPrefixOf (b :: l) = true then 0 else if (Lib.index l sub == -1) = true then -1 else Lib.index l sub + 1 := rfl
    rw [e] at h ⊢
    by_cases hp : sub.isPrefixOf (b :: l) = true
    · rw [if_pos hp]
      have := (List.isPrefixOf_iff_prefix.1 hp).length_le
      simpa using this
    · rw [if_neg hp] at h ⊢
      by_cases hq : (Lib.index l sub == -1) = true
      · rw [if_pos hq] at h; omega
      · rw [if_neg hq] at h ⊢
        have h2 := Lib.index_ge l sub
        have h3 : Lib.index l sub ≠ -1 := fun e => hq (by rw [e]; rfl)
        have := ih (by omega)
        simp only [List.length_cons]
        omega
theorem nums_range (l : List UInt8) : ∀ x ∈ nums l, 0 ≤ x ∧ x < 256 := fun x hx => by
  obtain ⟨b, _, rfl⟩ := List.mem_map.1 hx
  have := b.toNat_lt
  omega
theorem idx16 (a1 a2 : Addr) (X Y : List UInt8) (c1 c2 : Nat) (w : World) (hT : Tabs w) (hX : X.length ≤ 1048576) (hY : Y.length ≤ 1048576) (hc : X.length ≤ c1) (h1 : RdB w (some a1) X) (h2 : RdB w (some a2) Y) :
    Calls Tryd.prog 16 #[.slice (some a1) X.length c1, .slice (some a2) Y.length c2] w fun e w' => e = .returned (.int .i64 (Lib.index X Y)) ∧ Drn w w' := by
  obtain ⟨m, hm⟩ := hT.m
  have h := Tryd.bytes_Index_at a1 a2 X.length c1 Y.length c2 (nums X) (nums Y) m w (nums_length X) (nums_length Y) (nums_range X) (nums_range Y) h1.cells h2.cells hc (by omega) (by omega) hm
  rw [bytesOf_nums, bytesOf_nums] at h
  exact h
def csW : List UInt8 := [99, 104, 97, 114, 115, 101, 116]
/-- Behind which sign of equality a charset stands. -/
def contL (L : List UInt8) : Nat → Nat → Option Nat
  | 0, _ => none
  | f + 1, i =>
    if Lib.index (L.drop i) csW < 0 then none
    else if run isBl L (i + ((Lib.index (L.drop i) csW).toNat + 7)) < L.length ∧ L.getD (run isBl L (i + ((Lib.index (L.drop i) csW).toNat + 7))) 0 = 61 then some (run isBl L (i + ((Lib.index (L.drop i) csW).toNat + 7)))
    else contL L f (run isBl L (i + ((Lib.index (L.drop i) csW).toNat + 7)))
def nSc (c : UInt8) : Bool := !isSc c
/-- From where to where a charset stands. -/
def contF (L : List UInt8) : Option (Nat × Nat) :=
  match contL L (L.length + 1) 0 with
  | none => none
  | some k =>
    let i5 := run isBl L (k + 1)
    if L.length ≤ i5 then none else
    if L.getD i5 0 = 34 ∨ L.getD i5 0 = 39 then
      if run (· != L.getD i5 0) L (i5 + 1) < L.length then some (i5 + 1, run (· != L.getD i5 0) L (i5 + 1)) else none
    else some (i5, run nSc L i5)
def contT (t : List UInt8) : Option (List UInt8) := (contF (low t)).map fun p => (t.drop p.1).take (p.2 - p.1)
def contE : Option (List UInt8) → Ending
  | none => .returned (.tuple #[.string ⟨#[]⟩, .bool false])
  | some v => .returned (.tuple #[.string (mkS v), .bool true])
theorem low_len (l : List UInt8) : (low l).length = l.length := by simp [low]
theorem wpAnyH_mono {P : Program} {ops : Array Oper} {Q : Exit → Act → World → Prop} {md : Region.Mode} {S S' : World → Prop} (hS : ∀ w, S' w → S w) : ∀ {fuel : Nat} {listed : Array Bool} {a : Act} {w : World}, wpAnyH P md ops Q S' fuel listed a w → wpAnyH P md ops Q S fuel listed a w
  | 0, _, _, _, h => h
  | _ + 1, _, _, _, h => ⟨h.1, fun i hi => wpOp_mono (fun _ _ h' => ⟨hS _ h'.1, wpAnyH_mono hS h'.2⟩) (h.2 i hi)⟩
theorem rd_new (w : World) (l : List UInt8) (fr : Nat × Nat) : RdB (w.alloc (.cells (u8s l).toArray 5 fr)) (some ⟨w.heap.size, 0, none⟩) l := fun j hj => by
  refine ⟨_, rfl, ?_⟩
  rw [show (⟨w.heap.size, 0, none⟩ : Addr).add j = ⟨w.heap.size, j, none⟩ by unfold Addr.add; split <;> simp_all]
  rw [blk_cells (at_new w (.cells (u8s l).toArray 5 fr) _ rfl)]
  simp [u8s, hj]
set_option maxHeartbeats 4000000 in
set_option maxRecDepth 100000 in
theorem content8 (t : ByteArray) (w : World) (hs : t.size ≤ 1048576) (hT : Tabs w) : Calls Tryd.prog 8 #[.string t] w fun e w' => e = contE (contT t.data.toList) ∧ Below w.heap.size w w' := by
  have hdl := dlen t
  have kb := Go.Lib.run_convert_string_bytes (P := Tryd.prog) w 9 26 5 t Tryd.underlying9 Tryd.underlying26 Tryd.underlying5
  have S := small15 (some ⟨w.heap.size, 0, none⟩) (Go.grownCap w t.size 0 5) t.data.toList (Go.Lib.bytesWorld w 5 t) (by omega) (bytesWorld_rd w t)
  have hb1 : Below w.heap.size w (Go.Lib.bytesWorld w 5 t) := conv_below w 5 t
  have hsz1 := Go.Lib.bytesWorld_size w 5 t
  rw [hdl] at S
  go_enter Tryd.func8, Tryd.ntmps8
  generalize Go.Lib.bytesWorld w 5 t = W1 at *
  go_wp2_with fail
  refine S.mono ?_
  rintro e w2 ⟨rfl, hg, hb2⟩
  have hb3 := btr hb1 hb2
  go_wp2_with fail
  have hcont : contT t.data.toList = (contF (low t.data.toList)).map fun p => (t.data.toList.drop p.1).take (p.2 - p.1) := rfl
  obtain ⟨LL, hLL⟩ : ∃ LL, LL = low t.data.toList := ⟨_, rfl⟩
  rw [← hLL] at hg hcont
  have hLn : LL.length = t.size := by rw [hLL, low_len, hdl]
  have HC := Go.Lib.hid hcont
  have HLn := Go.Lib.hid hLn
  have HD := Go.Lib.hid hdl
  have hb4 := bal hb3 (.cells #[.slice (some ⟨w.heap.size + 1, 0, none⟩) t.size t.size, .int .i64 0] 43)
  have hsc0 : Sc (w2.alloc (.cells #[.slice (some ⟨w.heap.size + 1, 0, none⟩) t.size t.size, .int .i64 0] 43)) w2.heap.size (w.heap.size + 1) LL 0 := by
    refine ⟨?_, ?_, ?_, by omega⟩
    · rw [hLn]
      exact at_new w2 _ _ rfl
    · rw [hsz1] at hg
      exact at_old hg _
    · rw [hsz1] at hg
      have := blk_lt hg
      omega
  have hsbw : w.heap.size ≤ w2.heap.size := hb3.size
  generalize w2.alloc (.cells #[.slice (some ⟨w.heap.size + 1, 0, none⟩) t.size t.size, .int .i64 0] 43) = W3 at *
  have hsb3 := hsc0.lt
  clear hLL hcont hLn hdl hg hb1 hb2 hb3 S kb
  generalize w2.heap.size = sb at *
  generalize hgg : w.heap.size + 1 = g at *
  go_loopw [5] (fun _ wr => ∃ (i f : Nat), i ≤ LL.length ∧ LL.length < i + f ∧ Go.RowKit.Hid (contL LL f i = contL LL (LL.length + 1) 0) ∧ Sc wr sb g LL i ∧ Below w.heap.size w wr) (fun _ wr => LL.length + 1 - scPos wr sb)
  case atStart => exact ⟨0, LL.length + 1, by omega, by omega, rfl, hsc0, hb4⟩
  case round =>
    clear hsc0 hb4
    obtain ⟨i, f, hi, hf, hfx, hsc, hbw⟩ := hrel
    have hsm := hsc.small
    obtain ⟨f, rfl⟩ : ∃ f', f = f' + 1 := ⟨f - 1, by omega⟩
    go_wp2_with fail
    refine (left17 sb g LL i wr hsc hi).mono ?_
    rintro e w4 ⟨oa, rfl, ⟨ad, rfl⟩, hrd, n4, rfl⟩
    have hdr : (LL.drop i).length = LL.length - i := List.length_drop
    have hbl : Below wr.heap.size (wr.drewN n4) ((wr.drewN n4).alloc (.cells #[.int .u8 99, .int .u8 104, .int .u8 97, .int .u8 114, .int .u8 115, .int .u8 101, .int .u8 116] 5 (7, 8))) := (bal (Below.refl (wr.drewN n4).heap.size (wr.drewN n4)) _ :)
    have hwr : Below wr.heap.size wr (wr.drewN n4) := ⟨rfl, rfl, rfl, Nat.le_refl _, fun _ _ => rfl⟩
    have hbw4 : Below w.heap.size w ((wr.drewN n4).alloc (.cells #[.int .u8 99, .int .u8 104, .int .u8 97, .int .u8 114, .int .u8 115, .int .u8 101, .int .u8 116] 5 (7, 8))) := bal (btr hbw hwr) _
    have hsc4 := hsc.below (btr hwr hbl)
    have hr1 := hrd.below hbl
    have hr2 : RdB ((wr.drewN n4).alloc (.cells #[.int .u8 99, .int .u8 104, .int .u8 97, .int .u8 114, .int .u8 115, .int .u8 101, .int .u8 116] 5 (7, 8))) (some ⟨wr.heap.size, 0, none⟩) csW := rd_new (wr.drewN n4) csW (7, 8)
    have I := idx16 ad ⟨wr.heap.size, 0, none⟩ (LL.drop i) csW (LL.length - i) 7 _ (hT.below hbw4) (by omega) (by decide) (by omega) hr1 hr2
    rw [hdr, show csW.length = 7 from rfl] at I
    have hfit := index_fit (LL.drop i) csW
    have hge := Lib.index_ge (LL.drop i) csW
    rw [hdr, show csW.length = 7 from rfl] at hfit
    obtain ⟨x, hx⟩ : ∃ x, x = Lib.index (LL.drop i) csW := ⟨_, rfl⟩
    rw [← hx] at I hfit hge
    have HX := Go.Lib.hid hx
    clear hx hdr hr1 hr2 hbl hwr hrd
    have hcv : (convert 26 26 (.slice (some ⟨wr.heap.size, 0, none⟩) 7 7)).run Tryd.prog ((wr.drewN n4).alloc (.cells #[.int .u8 99, .int .u8 104, .int .u8 97, .int .u8 114, .int .u8 115, .int .u8 101, .int .u8 116] 5)) = .ok (.slice (some ⟨wr.heap.size, 0, none⟩) 7 7) ((wr.drewN n4).alloc (.cells #[.int .u8 99, .int .u8 104, .int .u8 97, .int .u8 114, .int .u8 115, .int .u8 101, .int .u8 116] 5 (7, 8))) := Go.Lib.run_convert_bytes_const (P := Tryd.prog) (wr.drewN n4) 26 5 #[.int .u8 99, .int .u8 104, .int .u8 97, .int .u8 114, .int .u8 115, .int .u8 101, .int .u8 116] 7 7 Tryd.underlying26 Tryd.underlying5
    go_wp2_with fail
    generalize (wr.drewN n4).alloc (.cells #[.int .u8 99, .int .u8 104, .int .u8 97, .int .u8 114, .int .u8 115, .int .u8 101, .int .u8 116] 5 (7, 8)) = W4 at *
    refine I.mono ?_
    rintro e w5 ⟨rfl, n5, rfl⟩
    have hsc5 := hsc4.drewN n5
    have hbw5 : Below w.heap.size w (W4.drewN n5) := hbw4.trans ⟨rfl, rfl, rfl, Nat.le_refl _, fun _ _ => rfl⟩
    generalize W4.drewN n5 = W5 at *
    clear hsc4 hbw4 hcv I
    by_cases hx0 : x < 0
    · have hnone : contL LL (f + 1) i = none := by rw [contL, ← HX.out, if_pos hx0]
      have HN := Go.Lib.hid hnone
      have hxb : decide (x < 0) = true := decide_eq_true hx0
      clear hnone hx0
      go_wp2
      go_ret2
      refine ⟨?_, hbw5⟩
      have h := hfx.out
      rw [HN.out] at h
      rw [HC.out]
      unfold contF
      rw [← h]
      rfl
    · have hxb : decide (x < 0) = false := decide_eq_false hx0
      have hfit2 := hfit (by omega)
      obtain ⟨y, rfl⟩ : ∃ y : Nat, x = y := ⟨x.toNat, by omega⟩
      have h1 := hsc5.c1
      have hf1 := hsc5.fr 1
      obtain ⟨l1, l2⟩ := run_le isBl LL (i + (y + 7)) (by omega)
      clear hfit hge hx0
      go_wp2_with fail
      have hsc6 := hsc5.set (i + (y + 7)) (.int .i64 (↑i + (↑y + 7))) (by go_num)
      have hbw6 : Below w.heap.size w (W5.setCell ⟨sb, 1, none⟩ (.int .i64 (↑i + (↑y + 7)))) := hbw5.setCell (p := ⟨sb, 1, none⟩) hsbw _
      generalize W5.setCell ⟨sb, 1, none⟩ (.int .i64 (↑i + (↑y + 7))) = W6 at *
      clear h1 hf1 hsc5 hbw5
      have SB := fun (W : World) (h : Sc W sb g LL (i + (y + 7))) => skipBlank18 sb g LL (i + (y + 7)) W h (by omega)
      obtain ⟨i7, hi7⟩ : ∃ i7, i7 = run isBl LL (i + (y + 7)) := ⟨_, rfl⟩
      simp only [← hi7] at SB
      rw [← hi7] at l1 l2
      have hcl : contL LL (f + 1) i = if i7 < LL.length ∧ LL.getD i7 0 = 61 then some i7 else contL LL f i7 := by
        rw [contL, ← HX.out, if_neg (by omega), Int.toNat_natCast, ← hi7]
      rw [hcl] at hfx
      have hfx2 := hfx
      clear hi7 hcl HX hfx
      by_cases hlt7 : i7 < LL.length
      · have hb7 : decide (LL.length ≤ i7) = false := decide_eq_false (by omega)
        simp only [hb7] at SB
        have m0 : (0 : Int) ≤ i7 := by omega
        have m1 : (i7 : Int) < LL.length := by omega
        obtain ⟨d, hdd⟩ : ∃ d, d = LL[i7] := ⟨_, rfl⟩
        have hgd : LL.getD i7 0 = d := by rw [hdd, List.getD_eq_getElem?_getD, List.getElem?_eq_getElem hlt7]; rfl
        have hq := beq_toNat d 61
        rw [show ((61 : UInt8).toNat : Int) = 61 from rfl] at hq
        obtain ⟨b61, hb61⟩ : ∃ b, b = (d == 61) := ⟨_, rfl⟩
        rw [← hb61] at hq
        have HB := Go.Lib.hid hb61
        have HG := Go.Lib.hid hgd
        have HDC := Go.Lib.hid hdd
        clear hb61 hgd hb7 hdd
        rcases b61 with _ | _
        · refine wp_region_held_drew (S := (fun _ => True)) (by kernel_rfl) (trivial) (fun hHeld => ?_)
          refine wpAnyH_take (i := 0) (oi := ⟨some 29, _, _, _, _, _⟩) (v := ?_) rfl (by kernel_rfl) (by kernel_rfl) (by kernel_rfl) (fun _ _ _ h => h) (Or.inl ⟨by kernel_rfl, ?_⟩) (by assumption) ?_
          rotate_left
          · intro w hSw; (try dsimp only at hSw); (try go_simp); all_goals (with_reducible rfl)
          try simp only [Act.put]
          refine wpAnyH_ready (rs := [1]) (by kernel_rfl) (by simp) ?_
          refine AllReadyH.cons rfl (fun K hK => ?_) AllReadyH.nil
          go_simp
          go_wp2_with (go_at_call 18; refine (SB _ (hsc6.drewN 1)).mono ?_; rintro e w7 ⟨rfl, hsc7, hst7⟩; have h0 := hsc7.c0; have h1 := hsc7.c1; have hby := hsc7.byte i7 hlt7; rw [← HDC.out] at hby)
          refine hK.out _ _ (trivial) (fun hHeld => ?_)
          clear hK K
          refine wpAnyH_mono (S' := (fun W => W.cell? ⟨sb, 0, none⟩ = some (.slice (some ⟨g, 0, none⟩) LL.length LL.length) ∧ W.cell? ⟨sb, 1, none⟩ = some (.int .i64 i7) ∧ W.cell? ⟨g, i7, none⟩ = some (.int .u8 d.toNat))) (fun _ _ => trivial) ?_
          clear hHeld
          have hHeld : (fun W => W.cell? ⟨sb, 0, none⟩ = some (.slice (some ⟨g, 0, none⟩) LL.length LL.length) ∧ W.cell? ⟨sb, 1, none⟩ = some (.int .i64 i7) ∧ W.cell? ⟨g, i7, none⟩ = some (.int .u8 d.toNat)) w7 := ⟨h0, h1, hby⟩
          refine wpAnyH_take (i := 2) (oi := ⟨some 31, _, _, _, _, _⟩) (v := ?_) rfl (by kernel_rfl) (by kernel_rfl) (by kernel_rfl) (fun _ _ _ h => h) (Or.inl ⟨by kernel_rfl, ?_⟩) (by assumption) ?_
          rotate_left
          · intro w hSw; (try dsimp only at hSw); (try go_simp); all_goals (with_reducible rfl)
          try simp only [Act.put]
          refine wpAnyH_take (i := 3) (oi := ⟨some 32, _, _, _, _, _⟩) (v := ?_) rfl (by kernel_rfl) (by kernel_rfl) (by kernel_rfl) (fun _ _ _ h => h) (Or.inl ⟨by kernel_rfl, ?_⟩) (by assumption) ?_
          rotate_left
          · intro w hSw; (try dsimp only at hSw); (try go_simp); all_goals (with_reducible rfl)
          try simp only [Act.put]
          refine wpAnyH_take (i := 4) (oi := ⟨some 33, _, _, _, _, _⟩) (v := ?_) rfl (by kernel_rfl) (by kernel_rfl) (by kernel_rfl) (fun _ _ _ h => h) (Or.inl ⟨by kernel_rfl, ?_⟩) (by assumption) ?_
          rotate_left
          · intro w hSw; (try dsimp only at hSw); (try go_simp); all_goals (with_reducible rfl)
          try simp only [Act.put]
          refine wpAnyH_take (i := 5) (oi := ⟨some 34, _, _, _, _, _⟩) (v := ?_) rfl (by kernel_rfl) (by kernel_rfl) (by kernel_rfl) (fun _ _ _ h => h) (Or.inl ⟨by kernel_rfl, ?_⟩) (by assumption) ?_
          rotate_left
          · intro w hSw; (try dsimp only at hSw); (try go_simp); all_goals (with_reducible rfl)
          try simp only [Act.put]
          refine wpAnyH_take (i := 6) (oi := ⟨some 35, _, _, _, _, _⟩) (v := ?_) rfl (by kernel_rfl) (by kernel_rfl) (by kernel_rfl) (fun _ _ _ h => h) (Or.inl ⟨by kernel_rfl, ?_⟩) (by assumption) ?_
          rotate_left
          · intro w hSw; (try dsimp only at hSw); (try go_simp); all_goals (with_reducible rfl)
          try simp only [Act.put]
          refine wpAnyH_take (i := 7) (oi := ⟨some 36, _, _, _, _, _⟩) (v := ?_) rfl (by kernel_rfl) (by kernel_rfl) (by kernel_rfl) (fun _ _ _ h => h) (Or.inl ⟨by kernel_rfl, ?_⟩) (by assumption) ?_
          rotate_left
          · intro w hSw; (try dsimp only at hSw); (try go_simp); all_goals (with_reducible rfl)
          try simp only [Act.put]
          refine wpAnyH_take (i := 8) (oi := ⟨some 37, _, _, _, _, _⟩) (v := ?_) rfl (by kernel_rfl) (by kernel_rfl) (by kernel_rfl) (fun _ _ _ h => h) (Or.inl ⟨by kernel_rfl, ?_⟩) (by assumption) ?_
          rotate_left
          · intro w hSw; (try dsimp only at hSw); (try go_simp); all_goals (with_reducible rfl)
          try simp only [Act.put]
          refine wpAnyH_take (i := 9) (oi := ⟨some 38, _, _, _, _, _⟩) (v := ?_) rfl (by kernel_rfl) (by kernel_rfl) (by kernel_rfl) (fun _ _ _ h => h) (Or.inl ⟨by kernel_rfl, ?_⟩) (by assumption) ?_
          rotate_left
          · intro w hSw; (try dsimp only at hSw); (try go_simp); all_goals (with_reducible rfl)
          try simp only [Act.put]
          refine wpAnyH_take (i := 10) (oi := ⟨some 39, _, _, _, _, _⟩) (v := ?_) rfl (by kernel_rfl) (by kernel_rfl) (by kernel_rfl) (fun _ _ _ h => h) (Or.inl ⟨by kernel_rfl, ?_⟩) (by assumption) ?_
          rotate_left
          · intro w hSw; (try dsimp only at hSw); (try go_simp); all_goals (with_reducible rfl)
          try simp only [Act.put]
          refine wpAnyH_take (i := 11) (oi := ⟨some 40, _, _, _, _, _⟩) (v := ?_) rfl (by kernel_rfl) (by kernel_rfl) (by kernel_rfl) (fun _ _ _ h => h) (Or.inl ⟨by kernel_rfl, ?_⟩) (by assumption) ?_
          rotate_left
          · intro w hSw; (try dsimp only at hSw); (try go_simp); all_goals (with_reducible rfl)
          try simp only [Act.put]
          refine wpAnyH_take (i := 12) (oi := ⟨some 41, _, _, _, _, _⟩) (v := ?_) rfl (by kernel_rfl) (by kernel_rfl) (by kernel_rfl) (fun _ _ _ h => h) (Or.inl ⟨by kernel_rfl, ?_⟩) (by assumption) ?_
          rotate_left
          · intro w hSw; (try dsimp only at hSw); (try go_simp); all_goals (with_reducible rfl)
          try simp only [Act.put]
          refine wpAnyH_take (i := 13) (oi := ⟨some 42, _, _, _, _, _⟩) (v := ?_) rfl (by kernel_rfl) (by kernel_rfl) (by kernel_rfl) (fun _ _ _ h => h) (Or.inl ⟨by kernel_rfl, ?_⟩) (by assumption) ?_
          rotate_left
          · intro w hSw; (try dsimp only at hSw); (try go_simp); all_goals (with_reducible rfl)
          try simp only [Act.put]
          refine wpAnyH_take (i := 14) (oi := ⟨some 43, _, _, _, _, _⟩) (v := ?_) rfl (by kernel_rfl) (by kernel_rfl) (by kernel_rfl) (fun _ _ _ h => h) (Or.inl ⟨by kernel_rfl, ?_⟩) (by assumption) ?_
          rotate_left
          · intro w hSw; (try dsimp only at hSw); (try go_simp); all_goals (with_reducible rfl)
          try simp only [Act.put]
          refine wpAnyH_take (i := 15) (oi := ⟨some 44, _, _, _, _, _⟩) (v := ?_) rfl (by kernel_rfl) (by kernel_rfl) (by kernel_rfl) (fun _ _ _ h => h) (Or.inl ⟨by kernel_rfl, ?_⟩) (by assumption) ?_
          rotate_left
          · intro w hSw; (try dsimp only at hSw); (try go_simp); all_goals (with_reducible rfl)
          try simp only [Act.put]
          refine wpAnyH_done (by kernel_rfl) ?_ _
          simp only [List.setIfInBounds_toArray, List.set_cons_succ, List.set_cons_zero]
          have hbw7 : Below w.heap.size w w7 := (hst7.below (B := w.heap.size) (hbw6.trans ⟨rfl, rfl, rfl, Nat.le_refl _, fun _ _ => rfl⟩) hsbw hbw6.size)
          clear hHeld h0 h1 hby hst7 hbw6 hsc6 SB
          have hnx : contL LL f i7 = contL LL (LL.length + 1) 0 := by
            have h := hfx2.out
            rw [if_neg (fun h => by have h2 := h.2; rw [HG.out] at h2; rw [h2] at HB; exact absurd HB.out (by decide))] at h
            exact h
          have hpos := hsc7.pos
          have hpos0 := hsc.pos
          have HNX := Go.Lib.hid hnx
          clear hnx
          go_wp2
          refine ⟨⟨i7, f, by omega, by omega, HNX.out, hsc7, hbw7⟩, ?_⟩
          rw [hpos, hpos0]
          omega
        · refine wp_region_held_drew (S := (fun _ => True)) (by kernel_rfl) (trivial) (fun hHeld => ?_)
          refine wpAnyH_take (i := 0) (oi := ⟨some 29, _, _, _, _, _⟩) (v := ?_) rfl (by kernel_rfl) (by kernel_rfl) (by kernel_rfl) (fun _ _ _ h => h) (Or.inl ⟨by kernel_rfl, ?_⟩) (by assumption) ?_
          rotate_left
          · intro w hSw; (try dsimp only at hSw); (try go_simp); all_goals (with_reducible rfl)
          try simp only [Act.put]
          refine wpAnyH_ready (rs := [1]) (by kernel_rfl) (by simp) ?_
          refine AllReadyH.cons rfl (fun K hK => ?_) AllReadyH.nil
          go_simp
          go_wp2_with (go_at_call 18; refine (SB _ (hsc6.drewN 1)).mono ?_; rintro e w7 ⟨rfl, hsc7, hst7⟩; have h0 := hsc7.c0; have h1 := hsc7.c1; have hby := hsc7.byte i7 hlt7; rw [← HDC.out] at hby)
          refine hK.out _ _ (trivial) (fun hHeld => ?_)
          clear hK K
          refine wpAnyH_mono (S' := (fun W => W.cell? ⟨sb, 0, none⟩ = some (.slice (some ⟨g, 0, none⟩) LL.length LL.length) ∧ W.cell? ⟨sb, 1, none⟩ = some (.int .i64 i7) ∧ W.cell? ⟨g, i7, none⟩ = some (.int .u8 d.toNat))) (fun _ _ => trivial) ?_
          clear hHeld
          have hHeld : (fun W => W.cell? ⟨sb, 0, none⟩ = some (.slice (some ⟨g, 0, none⟩) LL.length LL.length) ∧ W.cell? ⟨sb, 1, none⟩ = some (.int .i64 i7) ∧ W.cell? ⟨g, i7, none⟩ = some (.int .u8 d.toNat)) w7 := ⟨h0, h1, hby⟩
          refine wpAnyH_take (i := 2) (oi := ⟨some 31, _, _, _, _, _⟩) (v := ?_) rfl (by kernel_rfl) (by kernel_rfl) (by kernel_rfl) (fun _ _ _ h => h) (Or.inl ⟨by kernel_rfl, ?_⟩) (by assumption) ?_
          rotate_left
          · intro w hSw; (try dsimp only at hSw); (try go_simp); all_goals (with_reducible rfl)
          try simp only [Act.put]
          refine wpAnyH_take (i := 3) (oi := ⟨some 32, _, _, _, _, _⟩) (v := ?_) rfl (by kernel_rfl) (by kernel_rfl) (by kernel_rfl) (fun _ _ _ h => h) (Or.inl ⟨by kernel_rfl, ?_⟩) (by assumption) ?_
          rotate_left
          · intro w hSw; (try dsimp only at hSw); (try go_simp); all_goals (with_reducible rfl)
          try simp only [Act.put]
          refine wpAnyH_take (i := 4) (oi := ⟨some 33, _, _, _, _, _⟩) (v := ?_) rfl (by kernel_rfl) (by kernel_rfl) (by kernel_rfl) (fun _ _ _ h => h) (Or.inl ⟨by kernel_rfl, ?_⟩) (by assumption) ?_
          rotate_left
          · intro w hSw; (try dsimp only at hSw); (try go_simp); all_goals (with_reducible rfl)
          try simp only [Act.put]
          refine wpAnyH_take (i := 5) (oi := ⟨some 34, _, _, _, _, _⟩) (v := ?_) rfl (by kernel_rfl) (by kernel_rfl) (by kernel_rfl) (fun _ _ _ h => h) (Or.inl ⟨by kernel_rfl, ?_⟩) (by assumption) ?_
          rotate_left
          · intro w hSw; (try dsimp only at hSw); (try go_simp); all_goals (with_reducible rfl)
          try simp only [Act.put]
          refine wpAnyH_take (i := 6) (oi := ⟨some 35, _, _, _, _, _⟩) (v := ?_) rfl (by kernel_rfl) (by kernel_rfl) (by kernel_rfl) (fun _ _ _ h => h) (Or.inl ⟨by kernel_rfl, ?_⟩) (by assumption) ?_
          rotate_left
          · intro w hSw; (try dsimp only at hSw); (try go_simp); all_goals (with_reducible rfl)
          try simp only [Act.put]
          refine wpAnyH_take (i := 7) (oi := ⟨some 36, _, _, _, _, _⟩) (v := ?_) rfl (by kernel_rfl) (by kernel_rfl) (by kernel_rfl) (fun _ _ _ h => h) (Or.inl ⟨by kernel_rfl, ?_⟩) (by assumption) ?_
          rotate_left
          · intro w hSw; (try dsimp only at hSw); (try go_simp); all_goals (with_reducible rfl)
          try simp only [Act.put]
          refine wpAnyH_take (i := 8) (oi := ⟨some 37, _, _, _, _, _⟩) (v := ?_) rfl (by kernel_rfl) (by kernel_rfl) (by kernel_rfl) (fun _ _ _ h => h) (Or.inl ⟨by kernel_rfl, ?_⟩) (by assumption) ?_
          rotate_left
          · intro w hSw; (try dsimp only at hSw); (try go_simp); all_goals (with_reducible rfl)
          try simp only [Act.put]
          refine wpAnyH_take (i := 9) (oi := ⟨some 38, _, _, _, _, _⟩) (v := ?_) rfl (by kernel_rfl) (by kernel_rfl) (by kernel_rfl) (fun _ _ _ h => h) (Or.inl ⟨by kernel_rfl, ?_⟩) (by assumption) ?_
          rotate_left
          · intro w hSw; (try dsimp only at hSw); (try go_simp); all_goals (with_reducible rfl)
          try simp only [Act.put]
          refine wpAnyH_take (i := 10) (oi := ⟨some 39, _, _, _, _, _⟩) (v := ?_) rfl (by kernel_rfl) (by kernel_rfl) (by kernel_rfl) (fun _ _ _ h => h) (Or.inl ⟨by kernel_rfl, ?_⟩) (by assumption) ?_
          rotate_left
          · intro w hSw; (try dsimp only at hSw); (try go_simp); all_goals (with_reducible rfl)
          try simp only [Act.put]
          refine wpAnyH_take (i := 11) (oi := ⟨some 40, _, _, _, _, _⟩) (v := ?_) rfl (by kernel_rfl) (by kernel_rfl) (by kernel_rfl) (fun _ _ _ h => h) (Or.inl ⟨by kernel_rfl, ?_⟩) (by assumption) ?_
          rotate_left
          · intro w hSw; (try dsimp only at hSw); (try go_simp); all_goals (with_reducible rfl)
          try simp only [Act.put]
          refine wpAnyH_take (i := 12) (oi := ⟨some 41, _, _, _, _, _⟩) (v := ?_) rfl (by kernel_rfl) (by kernel_rfl) (by kernel_rfl) (fun _ _ _ h => h) (Or.inl ⟨by kernel_rfl, ?_⟩) (by assumption) ?_
          rotate_left
          · intro w hSw; (try dsimp only at hSw); (try go_simp); all_goals (with_reducible rfl)
          try simp only [Act.put]
          refine wpAnyH_take (i := 13) (oi := ⟨some 42, _, _, _, _, _⟩) (v := ?_) rfl (by kernel_rfl) (by kernel_rfl) (by kernel_rfl) (fun _ _ _ h => h) (Or.inl ⟨by kernel_rfl, ?_⟩) (by assumption) ?_
          rotate_left
          · intro w hSw; (try dsimp only at hSw); (try go_simp); all_goals (with_reducible rfl)
          try simp only [Act.put]
          refine wpAnyH_take (i := 14) (oi := ⟨some 43, _, _, _, _, _⟩) (v := ?_) rfl (by kernel_rfl) (by kernel_rfl) (by kernel_rfl) (fun _ _ _ h => h) (Or.inl ⟨by kernel_rfl, ?_⟩) (by assumption) ?_
          rotate_left
          · intro w hSw; (try dsimp only at hSw); (try go_simp); all_goals (with_reducible rfl)
          try simp only [Act.put]
          refine wpAnyH_take (i := 15) (oi := ⟨some 44, _, _, _, _, _⟩) (v := ?_) rfl (by kernel_rfl) (by kernel_rfl) (by kernel_rfl) (fun _ _ _ h => h) (Or.inl ⟨by kernel_rfl, ?_⟩) (by assumption) ?_
          rotate_left
          · intro w hSw; (try dsimp only at hSw); (try go_simp); all_goals (with_reducible rfl)
          try simp only [Act.put]
          refine wpAnyH_done (by kernel_rfl) ?_ _
          simp only [List.setIfInBounds_toArray, List.set_cons_succ, List.set_cons_zero]
          have hbw7 : Below w.heap.size w w7 := (hst7.below (B := w.heap.size) (hbw6.trans ⟨rfl, rfl, rfl, Nat.le_refl _, fun _ _ => rfl⟩) hsbw hbw6.size)
          clear hHeld h0 h1 hby hst7 hbw6 hsc6 SB
          have hk : contL LL (LL.length + 1) 0 = some i7 := by
            have h := hfx2.out
            rw [if_pos ⟨hlt7, by rw [HG.out]; simpa using HB.out.symm⟩] at h
            exact h.symm
          have HK := Go.Lib.hid hk
          clear hk hfx2
          have h1 := hsc7.c1
          have hf1 := hsc7.fr 1
          go_wp2_with fail
          have hsc8 := hsc7.set (i7 + 1) (.int .i64 (↑i7 + 1)) (by go_num)
          have hbw8 : Below w.heap.size w (w7.setCell ⟨sb, 1, none⟩ (.int .i64 (↑i7 + 1))) := hbw7.setCell (p := ⟨sb, 1, none⟩) hsbw _
          generalize w7.setCell ⟨sb, 1, none⟩ (.int .i64 (↑i7 + 1)) = W8 at *
          clear h1 hf1 hsc7 hbw7
          obtain ⟨l7, l8⟩ := run_le isBl LL (i7 + 1) (by omega)
          refine (skipBlank18 sb g LL (i7 + 1) W8 hsc8 (by omega)).mono ?_
          obtain ⟨i5, hi5⟩ : ∃ i5, i5 = run isBl LL (i7 + 1) := ⟨_, rfl⟩
          rw [← hi5] at l7 l8 ⊢
          have HI5 := Go.Lib.hid hi5
          clear hi5
          rintro e w9 ⟨rfl, hsc9, hst9⟩
          have hbw9 : Below w.heap.size w w9 := hst9.below hbw8 hsbw hbw8.size
          clear hst9 hsc8 hbw8
          by_cases hd5 : LL.length ≤ i5
          · have hb5 : decide (LL.length ≤ i5) = true := decide_eq_true hd5
            have HE := Go.Lib.hid (show contT t.data.toList = none by rw [HC.out, contF, HK.out]; simp only [← HI5.out]; rw [if_pos hd5]; rfl)
            clear hd5
            go_wp2
            go_ret2
            exact ⟨by rw [HE.out]; rfl, hbw9⟩
          · have hb5 : decide (LL.length ≤ i5) = false := decide_eq_false hd5
            have hlt5 : i5 < LL.length := by omega
            have HD5 := Go.Lib.hid hd5
            clear hd5
            have p0 : (0 : Int) ≤ i5 := by omega
            have p1 : (i5 : Int) < LL.length := by omega
            have h0 := hsc9.c0
            have h1 := hsc9.c1
            have hf1 := hsc9.fr 1
            have hby := hsc9.byte i5 hlt5
            obtain ⟨q, hqq⟩ : ∃ q, q = LL[i5] := ⟨_, rfl⟩
            have hgq : LL.getD i5 0 = q := by rw [hqq, List.getD_eq_getElem?_getD, List.getElem?_eq_getElem hlt5]; rfl
            rw [← hqq] at hby
            have HGQ := Go.Lib.hid hgq
            have hq34 := beq_toNat q 34
            have hq39 := beq_toNat q 39
            rw [show ((34 : UInt8).toNat : Int) = 34 from rfl] at hq34
            rw [show ((39 : UInt8).toNat : Int) = 39 from rfl] at hq39
            clear hqq hgq
            obtain ⟨bq, hbq⟩ : ∃ bq, bq = (q == 34) := ⟨_, rfl⟩
            obtain ⟨br, hbr⟩ : ∃ br, br = (q == 39) := ⟨_, rfl⟩
            rw [← hbq] at hq34
            rw [← hbr] at hq39
            have HBQ := Go.Lib.hid hbq
            have HBR := Go.Lib.hid hbr
            clear hbq hbr
            have HQ := Go.Lib.hid (show (bq || br) = true ↔ (q = 34 ∨ q = 39) by rw [HBQ.out, HBR.out]; simp)
            rcases bq with _ | _ <;> rcases br with _ | _
            · have HNQ := Go.Lib.hid (show ¬ (q = 34 ∨ q = 39) from fun h => by cases HQ.out.2 h)
              have U := until20 21 enter21 isSc semi21 sb g LL i5
              obtain ⟨l9, l10⟩ := run_le nSc LL i5 (by omega)
              go_wp2
              go_quiet (fail)
              go_wp2_with fail
              refine (U _ (hsc9.drewN nq) (by omega)).mono ?_
              rintro e w10 ⟨rfl, hsc10, hst10⟩
              have hsc10' : Sc w10 sb g LL (run nSc LL i5) := hsc10
              have hbw10 : Below w.heap.size w w10 := hst10.below (hbw9.trans ⟨rfl, rfl, rfl, Nat.le_refl _, fun _ _ => rfl⟩) hsbw hbw9.size
              have HE := Go.Lib.hid (show contT t.data.toList = some ((t.data.toList.drop i5).take (run nSc LL i5 - i5)) by rw [HC.out, contF, HK.out]; simp only [← HI5.out]; rw [if_neg HD5.out, HGQ.out, if_neg HNQ.out]; rfl)
              obtain ⟨z, hz⟩ : ∃ z, z = run nSc LL i5 := ⟨_, rfl⟩
              rw [← hz] at hsc10' l9 l10
              have HZ := Go.Lib.hid hz
              have h1' := hsc10'.c1
              have z2 : (z : Int) ≤ t.size := by have := HLn.out; omega
              have z1 : (i5 : Int) ≤ z := by omega
              have z0 : (0 : Int) ≤ z := by omega
              clear hz hsc10 hst10 U h0 h1 hf1 hby
              go_wp2
              go_ret2
              exact ⟨by rw [HE.out, ← HZ.out, Go.Lib.extract_eq]; rfl, hbw10⟩
            all_goals
              have HYQ := Go.Lib.hid (show q = 34 ∨ q = 39 from HQ.out.1 rfl)
              go_wp2
              go_quiet (fail)
              go_wp2_with fail
              have hsc10 := (hsc9.drewN nq).set (i5 + 1) (.int .i64 (↑i5 + 1)) (by go_num)
              have hbw10 : Below w.heap.size w ((w9.drewN nq).setCell ⟨sb, 1, none⟩ (.int .i64 (↑i5 + 1))) := Below.setCell (w := w9.drewN nq) (hbw9.trans ⟨rfl, rfl, rfl, Nat.le_refl _, fun _ _ => rfl⟩) (p := ⟨sb, 1, none⟩) hsbw _
              generalize (w9.drewN nq).setCell ⟨sb, 1, none⟩ (.int .i64 (↑i5 + 1)) = W10 at *
              clear h0 h1 hf1 hby hsc9 hbw9
              obtain ⟨l9, l10⟩ := run_le (· != q) LL (i5 + 1) (by omega)
              refine (past19 sb g LL (i5 + 1) q W10 hsc10 (by omega)).mono ?_
              rintro e w11 ⟨rfl, hsc11, hst11⟩
              have hbw11 : Below w.heap.size w w11 := hst11.below hbw10 hsbw hbw10.size
              clear hst11 hsc10 hbw10
              by_cases hf : run (· != q) LL (i5 + 1) < LL.length
              · have hbf : decide (run (· != q) LL (i5 + 1) < LL.length) = true := decide_eq_true hf
                have HE := Go.Lib.hid (show contT t.data.toList = some ((t.data.toList.drop (i5 + 1)).take (run (· != q) LL (i5 + 1) - (i5 + 1))) by rw [HC.out, contF, HK.out]; simp only [← HI5.out]; rw [if_neg HD5.out, HGQ.out, if_pos HYQ.out, if_pos hf]; rfl)
                rw [show pastI LL (i5 + 1) q = run (· != q) LL (i5 + 1) + 1 by rw [pastI, if_pos hf]] at hsc11
                rw [hbf]
                obtain ⟨z, hz⟩ : ∃ z, z = run (· != q) LL (i5 + 1) := ⟨_, rfl⟩
                rw [← hz] at hsc11 hf l9 l10
                have HZ := Go.Lib.hid hz
                have h1' := hsc11.c1
                have z2 : (z : Int) ≤ t.size := by have := HLn.out; omega
                have z1 : (i5 : Int) + 1 ≤ z := by omega
                have z0 : (0 : Int) ≤ z := by omega
                have z3 : (0 : Int) ≤ (i5 : Int) + 1 := by omega
                have z4 : ((i5 : Int) + 1).toNat = i5 + 1 := by omega
                clear hz hbf
                go_wp2
                go_ret2
                exact ⟨by rw [HE.out, ← HZ.out, Go.Lib.extract_eq]; rfl, hbw11⟩
              · have hbf : decide (run (· != q) LL (i5 + 1) < LL.length) = false := decide_eq_false hf
                have HE := Go.Lib.hid (show contT t.data.toList = none by rw [HC.out, contF, HK.out]; simp only [← HI5.out]; rw [if_neg HD5.out, HGQ.out, if_pos HYQ.out, if_neg hf]; rfl)
                rw [hbf]
                clear hf hbf l9 l10 hsc11
                go_wp2
                go_ret2
                exact ⟨by rw [HE.out]; rfl, hbw11⟩
      · have hb7 : decide (LL.length ≤ i7) = true := decide_eq_true (by omega)
        simp only [hb7] at SB
        clear hb7
        refine wp_region_held_drew (S := (fun _ => True)) (by kernel_rfl) (trivial) (fun hHeld => ?_)
        refine wpAnyH_take (i := 0) (oi := ⟨some 29, _, _, _, _, _⟩) (v := ?_) rfl (by kernel_rfl) (by kernel_rfl) (by kernel_rfl) (fun _ _ _ h => h) (Or.inl ⟨by kernel_rfl, ?_⟩) (by assumption) ?_
        rotate_left
        · intro w hSw; (try dsimp only at hSw); (try go_simp); all_goals (with_reducible rfl)
        try simp only [Act.put]
        refine wpAnyH_ready (rs := [1]) (by kernel_rfl) (by simp) ?_
        refine AllReadyH.cons rfl (fun K hK => ?_) AllReadyH.nil
        go_simp
        go_wp2_with (go_at_call 18; refine (SB _ (hsc6.drewN 1)).mono ?_; rintro e w7 ⟨rfl, hsc7, hst7⟩)
        refine hK.out _ _ (trivial) (fun hHeld => ?_)
        clear hK K
        refine wpAnyH_take (i := 2) (oi := ⟨some 31, _, _, _, _, _⟩) (v := ?_) rfl (by kernel_rfl) (by kernel_rfl) (by kernel_rfl) (fun _ _ _ h => h) (Or.inl ⟨by kernel_rfl, ?_⟩) (by assumption) ?_
        rotate_left
        · intro w hSw; (try dsimp only at hSw); (try go_simp); all_goals (with_reducible rfl)
        try simp only [Act.put]
        refine wpAnyH_take (i := 3) (oi := ⟨some 32, _, _, _, _, _⟩) (v := ?_) rfl (by kernel_rfl) (by kernel_rfl) (by kernel_rfl) (fun _ _ _ h => h) (Or.inl ⟨by kernel_rfl, ?_⟩) (by assumption) ?_
        rotate_left
        · intro w hSw; (try dsimp only at hSw); (try go_simp); all_goals (with_reducible rfl)
        try simp only [Act.put]
        refine wpAnyH_take (i := 4) (oi := ⟨some 33, _, _, _, _, _⟩) (v := undef) rfl (by kernel_rfl) (by kernel_rfl) (by kernel_rfl) (fun _ _ _ h => h) (Or.inr ⟨by kernel_rfl, rfl⟩) (by assumption) ?_
        try simp only [Act.put]
        refine wpAnyH_take (i := 5) (oi := ⟨some 34, _, _, _, _, _⟩) (v := undef) rfl (by kernel_rfl) (by kernel_rfl) (by kernel_rfl) (fun _ _ _ h => h) (Or.inr ⟨by kernel_rfl, rfl⟩) (by assumption) ?_
        try simp only [Act.put]
        refine wpAnyH_take (i := 6) (oi := ⟨some 35, _, _, _, _, _⟩) (v := undef) rfl (by kernel_rfl) (by kernel_rfl) (by kernel_rfl) (fun _ _ _ h => h) (Or.inr ⟨by kernel_rfl, rfl⟩) (by assumption) ?_
        try simp only [Act.put]
        refine wpAnyH_take (i := 7) (oi := ⟨some 36, _, _, _, _, _⟩) (v := undef) rfl (by kernel_rfl) (by kernel_rfl) (by kernel_rfl) (fun _ _ _ h => h) (Or.inr ⟨by kernel_rfl, rfl⟩) (by assumption) ?_
        try simp only [Act.put]
        refine wpAnyH_take (i := 8) (oi := ⟨some 37, _, _, _, _, _⟩) (v := undef) rfl (by kernel_rfl) (by kernel_rfl) (by kernel_rfl) (fun _ _ _ h => h) (Or.inr ⟨by kernel_rfl, rfl⟩) (by assumption) ?_
        try simp only [Act.put]
        refine wpAnyH_take (i := 9) (oi := ⟨some 38, _, _, _, _, _⟩) (v := undef) rfl (by kernel_rfl) (by kernel_rfl) (by kernel_rfl) (fun _ _ _ h => h) (Or.inr ⟨by kernel_rfl, rfl⟩) (by assumption) ?_
        try simp only [Act.put]
        refine wpAnyH_take (i := 10) (oi := ⟨some 39, _, _, _, _, _⟩) (v := undef) rfl (by kernel_rfl) (by kernel_rfl) (by kernel_rfl) (fun _ _ _ h => h) (Or.inr ⟨by kernel_rfl, rfl⟩) (by assumption) ?_
        try simp only [Act.put]
        refine wpAnyH_take (i := 11) (oi := ⟨some 40, _, _, _, _, _⟩) (v := undef) rfl (by kernel_rfl) (by kernel_rfl) (by kernel_rfl) (fun _ _ _ h => h) (Or.inr ⟨by kernel_rfl, rfl⟩) (by assumption) ?_
        try simp only [Act.put]
        refine wpAnyH_take (i := 12) (oi := ⟨some 41, _, _, _, _, _⟩) (v := undef) rfl (by kernel_rfl) (by kernel_rfl) (by kernel_rfl) (fun _ _ _ h => h) (Or.inr ⟨by kernel_rfl, rfl⟩) (by assumption) ?_
        try simp only [Act.put]
        refine wpAnyH_take (i := 13) (oi := ⟨some 42, _, _, _, _, _⟩) (v := undef) rfl (by kernel_rfl) (by kernel_rfl) (by kernel_rfl) (fun _ _ _ h => h) (Or.inr ⟨by kernel_rfl, rfl⟩) (by assumption) ?_
        try simp only [Act.put]
        refine wpAnyH_take (i := 14) (oi := ⟨some 43, _, _, _, _, _⟩) (v := undef) rfl (by kernel_rfl) (by kernel_rfl) (by kernel_rfl) (fun _ _ _ h => h) (Or.inr ⟨by kernel_rfl, rfl⟩) (by assumption) ?_
        try simp only [Act.put]
        refine wpAnyH_take (i := 15) (oi := ⟨some 44, _, _, _, _, _⟩) (v := ?_) rfl (by kernel_rfl) (by kernel_rfl) (by kernel_rfl) (fun _ _ _ h => h) (Or.inl ⟨by kernel_rfl, ?_⟩) (by assumption) ?_
        rotate_left
        · intro w hSw; (try dsimp only at hSw); (try go_simp); all_goals (with_reducible rfl)
        try simp only [Act.put]
        refine wpAnyH_done (by kernel_rfl) ?_ _
        simp only [List.setIfInBounds_toArray, List.set_cons_succ, List.set_cons_zero]
        have hbw7 : Below w.heap.size w w7 := (hst7.below (B := w.heap.size) (hbw6.trans ⟨rfl, rfl, rfl, Nat.le_refl _, fun _ _ => rfl⟩) hsbw hbw6.size)
        clear hHeld hst7 hbw6 hsc6 SB
        have hnx : contL LL f i7 = contL LL (LL.length + 1) 0 := by
          have h := hfx2.out
          rw [if_neg (fun h => hlt7 h.1)] at h
          exact h
        have hpos := hsc7.pos
        have hpos0 := hsc.pos
        have HNX := Go.Lib.hid hnx
        clear hnx
        go_wp2
        refine ⟨⟨i7, f, by omega, by omega, HNX.out, hsc7, hbw7⟩, ?_⟩
        rw [hpos, hpos0]
        omega
end Go.Proofs.YtcmhfcnjfhcpdaaDoor
