/- Texts of one seat, merged: lemmas and contracts that the law leans on. -/
import Derived.Test.YthfdiinfeljeeaaGreatDoorCM9
import Derived.Deep.Slices
import Derived.Deep.Fields
import Derived.ChangeSame
import Derived.Test.YthfdiinfeljeeaaGreatDoorRows
import Derived.Lib.LaidU8
import Derived.MakeChecks
/- The page that 'awake' makes: both arenas. -/
namespace Go.Proofs.YthfdiinfeljeeaaGreatDoor
open Go.RowKit
abbrev pE : El := ⟨0, 3, ⟨#[112]⟩, [], none, 0⟩
set_option maxHeartbeats 4000000 in
set_option maxRecDepth 100000 in
theorem pagesP (b0 : Nat) (w : World) (hE : w.heap[b0]? = some (.cells #[.int .i64 0, .int .i64 3, .string ⟨#[112]⟩, .slice none 0 0] 47 (0, 0))) :
    Calls Tryz.prog 4 #[.slice none 0 0, .slice (some ⟨b0, 0, none⟩) 1 1] w fun e w' => ∃ p q l m, e = .returned (.tuple #[.pointer (some ⟨p, 0, none⟩), .pointer (some ⟨q, 0, none⟩)]) ∧ Ar w' w.heap.size p l ∧ Two l m ∧ l.length ≤ 607 ∧ Ex l ∧ Below w.heap.size w w' ∧ St 4 l := by
  have N := new10 w.heap.size w (Nat.le_refl _)
  go_enter Tryz.func4, Tryz.ntmps4
  go_wp2_with fail
  refine N.mono ?_
  rintro e w1 ⟨p, rfl, hA1, hp1, hb1⟩
  have N2 := new11 w.heap.size w1 hb1.size
  go_wp2_with fail
  refine N2.mono ?_
  rintro e w2 ⟨q, rfl, hO2, hq2, hb2⟩
  have hA2 := hA1.below hb2
  have hbb : Below w.heap.size w w2 := hb1.trans ⟨hb2.os, hb2.tape, hb2.output, hb2.size, fun k hk => hb2.block k (Nat.lt_of_lt_of_le hk hb1.size)⟩
  clear N N2 hA1
  go_wp2_with fail
  have hn0 := at_new w2 (.cells #[.string ⟨#[104, 116, 109, 108]⟩, .string ⟨#[104, 101, 97, 100]⟩, .string ⟨#[98, 111, 100, 121]⟩] 9) _ rfl
  have hb0 := bal hbb (.cells #[.string ⟨#[104, 116, 109, 108]⟩, .string ⟨#[104, 101, 97, 100]⟩, .string ⟨#[98, 111, 100, 121]⟩] 9)
  have hA0 := hA2.below (bal (Below.refl _ _) (.cells #[.string ⟨#[104, 116, 109, 108]⟩, .string ⟨#[104, 101, 97, 100]⟩, .string ⟨#[98, 111, 100, 121]⟩] 9))
  obtain ⟨g0, cap0, hO0⟩ := hO2
  have hO0 : Ora _ _ _ _ := ⟨g0, cap0, hO0.below (bal (Below.refl _ _) (.cells #[.string ⟨#[104, 116, 109, 108]⟩, .string ⟨#[104, 101, 97, 100]⟩, .string ⟨#[98, 111, 100, 121]⟩] 9))⟩
  have hnb : w2.heap.size = w2.heap.size := rfl
  clear hA2 hb1 hb2 hbb
  go_loopw [9, 10, 11, 12, 13] (fun v9 v10 v11 v12 v13 wr => ∃ (k : Nat) (l : List Nd) (m : List On), v9 = .int .i64 k ∧ k ≤ 3 ∧ Ar wr w.heap.size p l ∧ Ora wr w.heap.size q m ∧ Two l m ∧ l.length ≤ 1 + 2 * k ∧ Ex l ∧ Below w.heap.size w wr ∧ wr.heap[w2.heap.size]? = some (.cells #[.string ⟨#[104, 116, 109, 108]⟩, .string ⟨#[104, 101, 97, 100]⟩, .string ⟨#[98, 111, 100, 121]⟩] 9 (0, 0)) ∧ St k l) (fun v9 _ _ _ _ _ => 3 - (intOf v9).toNat)
  case atStart => exact ⟨0, _, _, rfl, by omega, hA0, hO0, Two.start, by simp, small_start, hb0, hn0, rfl⟩
  case round =>
    obtain ⟨k, l, m, rfl, hk, hA, hO, hT, hl, hs, hbw, hn, hst⟩ := hrel
    have cn := blk_cells hn
    have cn0 := cn 0
    have cn1 := cn 1
    have cn2 := cn 2
    clear cn hA0 hO0 hb0 hn0
    rcases (show k = 3 ∨ k < 3 by omega) with rfl | hk3
    · go_wp2
      clear cn0 cn1 cn2 hn
      go_loopw [14, 15, 16, 17] (fun v14 v15 v16 v17 wr => ∃ (k : Nat) (l : List Nd) (m : List On), v14 = .int .i64 k ∧ k ≤ 1 ∧ Ar wr w.heap.size p l ∧ Ora wr w.heap.size q m ∧ Two l m ∧ l.length ≤ 7 + 2 * k ∧ Ex l ∧ Below w.heap.size w wr ∧ St (3 + k) l) (fun v14 _ _ _ _ => 1 - (intOf v14).toNat)
      case atStart => exact ⟨0, l, m, rfl, by omega, hA, hO, hT, by omega, hs, hbw, hst⟩
      case round =>
        clear hA hO hT hl hs hbw hst l m hk
        obtain ⟨k, l, m, rfl, hk, hA, hO, hT, hl, hs, hbw, hst⟩ := hrel
        rcases (show k = 0 ∨ k = 1 by omega) with rfl | rfl
        · have cE := blk_cells (bblk hbw hE)
          have hbx := at_new wr (.cells #[.int .i64 0, .int .i64 3, .string ⟨#[112]⟩, .slice none 0 0] 47) _ rfl
          have hbw2 := bal hbw (.cells #[.int .i64 0, .int .i64 3, .string ⟨#[112]⟩, .slice none 0 0] 47)
          have hA := hA.below (bal (Below.refl _ _) (.cells #[.int .i64 0, .int .i64 3, .string ⟨#[112]⟩, .slice none 0 0] 47))
          obtain ⟨g0, cap0, hO0⟩ := hO
          have hO : Ora _ _ _ _ := ⟨g0, cap0, hO0.below (bal (Below.refl _ _) (.cells #[.int .i64 0, .int .i64 3, .string ⟨#[112]⟩, .slice none 0 0] 47))⟩
          have hnb2 : wr.heap.size = wr.heap.size := rfl
          clear hO0 hbw
          have E1 := el12 w.heap.size p l ⟨#[112]⟩ none 0 [] _ hA hbw2.size (by omega) (by simp) (fun h => absurd rfl h) (by decide) (by simp [txtA])
          go_wp2_with fail
          refine E1.mono ?_
          rintro e w3 ⟨b, rfl, hA3, hf3⟩
          have E2 := el13 w.heap.size q m ⟨#[112]⟩ none 0 [] w3 (hO.keep hf3) (Nat.le_trans hbw2.size hf3.size) (by rw [hT.len]; omega) (by simp) (fun h => absurd rfl h) (fun _ => ⟨rfl, rfl⟩) (by decide) (by simp [txtA])
          clear E1
          have cm := blk_cells (hf3.blk hbx (by decide))
          go_wp2_with fail
          refine E2.mono ?_
          rintro e w4 ⟨aa4, ac4, rfl, hO4, hf4⟩
          have hA4 := hA3.keep hf4
          have hT4 := hT.elem (tmplB ⟨#[112]⟩) ⟨#[112]⟩ [] b aa4 ac4
          have hn4 := hf4.blk (hf3.blk hbx (by decide)) (by decide)
          have c4 := blk_cells hn4
          have hb4 := hbw2.trans (hf3.below.trans hf4.below)
          have hl4 := elemL_len (tmplB ⟨#[112]⟩) (elN 0 ⟨#[112]⟩ [] b) l
          have hs4 := small_el ⟨#[112]⟩ [] b l hs (by decide) (by simp [txtA]) (by simp)
          have HS4 := Go.Lib.hid (show ∀ f, 8 ≤ f → St (3 + 1) (linkR (elemL (tmplB ⟨#[112]⟩) (elN 0 ⟨#[112]⟩ [] b) l) f 3 (l.length : Int)).2 from fun f h => St.step hst b h)
          clear E2 hA hO hA3 hf3 hf4 hbx hbw2 hT hs hst
          generalize elemL (tmplB ⟨#[112]⟩) (elN 0 ⟨#[112]⟩ [] b) l = l4 at *
          generalize elemO (tmplB ⟨#[112]⟩) (elO 0 ⟨#[112]⟩ [] aa4 ac4) m = m4 at *
          obtain ⟨f, rk, h8, hr, hf, C1⟩ := hT4.link14e hA4 hO4 hb4.size 3 l.length
          go_wp2_with fail
          refine C1.mono ?_
          rintro e w5 ⟨rfl, hA5, hO5, hf5⟩
          have C2 := hT4.link15 hO5 (Nat.le_trans hb4.size hf5.size) (by omega) 3 l.length f rk hr hf
          have c5 := blk_cells (hf5.blk hn4 (by decide))
          clear C1
          go_wp2_with fail
          refine C2.mono ?_
          rintro e w6 ⟨m6, rfl, hO6, hT6, hf6⟩
          have hA6 := hA5.keep hf6
          have hb6 := hb4.trans (hf5.below.trans hf6.below)
          have hl6 := linkR_len l4 f 3 l.length
          have hs6 := small_link l4 f 3 l.length hs4
          have hst6 := HS4.out f h8
          clear C2 hA4 hO4 hA5 hO5 hf5 hf6 hn4 hb4 hT4 hs4
          generalize (linkR l4 f 3 l.length).2 = l6 at *
          go_wp2
          go_roundw
          case rel => exact ⟨1, l6, m6, by rfl, by omega, hA6, hO6, hT6, by omega, hs6, hb6, hst6⟩
          case measure => simp [intOf]

        · go_wp2
          go_ret2
          exact ⟨p, q, l, m, rfl, hA, hT, by omega, hs, hbw, hst⟩
    · rcases (show k = 0 ∨ k = 1 ∨ k = 2 by omega) with rfl | rfl | rfl
      · skip
        have E1 := el12 w.heap.size p l ⟨#[104, 116, 109, 108]⟩ none 0 [] _ hA hbw.size (by omega) (by simp) (fun h => absurd rfl h) (by decide) (by simp [txtA])
        go_wp2_with fail
        refine E1.mono ?_
        rintro e w3 ⟨b, rfl, hA3, hf3⟩
        have E2 := el13 w.heap.size q m ⟨#[104, 116, 109, 108]⟩ none 0 [] w3 (hO.keep hf3) (Nat.le_trans hbw.size hf3.size) (by rw [hT.len]; omega) (by simp) (fun h => absurd rfl h) (fun _ => ⟨rfl, rfl⟩) (by decide) (by simp [txtA])
        clear E1 cn0 cn1 cn2
        have cm := blk_cells (hf3.blk hn (by decide)) 0
        go_wp2_with fail
        refine E2.mono ?_
        rintro e w4 ⟨aa4, ac4, rfl, hO4, hf4⟩
        have hA4 := hA3.keep hf4
        have hT4 := hT.elem (tmplB ⟨#[104, 116, 109, 108]⟩) ⟨#[104, 116, 109, 108]⟩ [] b aa4 ac4
        have hn4 := hf4.blk (hf3.blk hn (by decide)) (by decide)
        have hb4 := hbw.trans (hf3.below.trans hf4.below)
        have hl4 := elemL_len (tmplB ⟨#[104, 116, 109, 108]⟩) (elN 0 ⟨#[104, 116, 109, 108]⟩ [] b) l
        have hs4 := small_el ⟨#[104, 116, 109, 108]⟩ [] b l hs (by decide) (by simp [txtA]) (by simp)
        have HS4 := Go.Lib.hid (show ∀ f, 8 ≤ f → St (0 + 1) (linkR (elemL (tmplB ⟨#[104, 116, 109, 108]⟩) (elN 0 ⟨#[104, 116, 109, 108]⟩ [] b) l) f 0 (l.length : Int)).2 from fun f h => St.step hst b h)
        clear E2 hA hO hA3 hf3 hf4 hn hbw hT hs hst
        generalize elemL (tmplB ⟨#[104, 116, 109, 108]⟩) (elN 0 ⟨#[104, 116, 109, 108]⟩ [] b) l = l4 at *
        generalize elemO (tmplB ⟨#[104, 116, 109, 108]⟩) (elO 0 ⟨#[104, 116, 109, 108]⟩ [] aa4 ac4) m = m4 at *
        obtain ⟨f, rk, h8, hr, hf, C1⟩ := hT4.link14e hA4 hO4 hb4.size 0 l.length
        go_wp2_with fail
        refine C1.mono ?_
        rintro e w5 ⟨rfl, hA5, hO5, hf5⟩
        have C2 := hT4.link15 hO5 (Nat.le_trans hb4.size hf5.size) (by omega) 0 l.length f rk hr hf
        clear C1
        go_wp2_with fail
        refine C2.mono ?_
        rintro e w6 ⟨m6, rfl, hO6, hT6, hf6⟩
        have hA6 := hA5.keep hf6
        have hn6 := hf6.blk (hf5.blk hn4 (by decide)) (by decide)
        have hb6 := hb4.trans (hf5.below.trans hf6.below)
        have hl6 := linkR_len l4 f 0 l.length
        have hs6 := small_link l4 f 0 l.length hs4
        have hst6 := HS4.out f h8
        clear C2 hA4 hO4 hA5 hO5 hf5 hf6 hn4 hb4 hT4 hs4
        generalize (linkR l4 f 0 l.length).2 = l6 at *
        go_wp2
        go_roundw
        case rel => exact ⟨1, l6, m6, by rfl, by omega, hA6, hO6, hT6, by omega, hs6, hb6, hn6, hst6⟩
        case measure => simp [intOf]

      · skip
        have E1 := el12 w.heap.size p l ⟨#[104, 101, 97, 100]⟩ none 0 [] _ hA hbw.size (by omega) (by simp) (fun h => absurd rfl h) (by decide) (by simp [txtA])
        go_wp2_with fail
        refine E1.mono ?_
        rintro e w3 ⟨b, rfl, hA3, hf3⟩
        have E2 := el13 w.heap.size q m ⟨#[104, 101, 97, 100]⟩ none 0 [] w3 (hO.keep hf3) (Nat.le_trans hbw.size hf3.size) (by rw [hT.len]; omega) (by simp) (fun h => absurd rfl h) (fun _ => ⟨rfl, rfl⟩) (by decide) (by simp [txtA])
        clear E1 cn0 cn1 cn2
        have cm := blk_cells (hf3.blk hn (by decide)) 1
        go_wp2_with fail
        refine E2.mono ?_
        rintro e w4 ⟨aa4, ac4, rfl, hO4, hf4⟩
        have hA4 := hA3.keep hf4
        have hT4 := hT.elem (tmplB ⟨#[104, 101, 97, 100]⟩) ⟨#[104, 101, 97, 100]⟩ [] b aa4 ac4
        have hn4 := hf4.blk (hf3.blk hn (by decide)) (by decide)
        have hb4 := hbw.trans (hf3.below.trans hf4.below)
        have hl4 := elemL_len (tmplB ⟨#[104, 101, 97, 100]⟩) (elN 0 ⟨#[104, 101, 97, 100]⟩ [] b) l
        have hs4 := small_el ⟨#[104, 101, 97, 100]⟩ [] b l hs (by decide) (by simp [txtA]) (by simp)
        have HS4 := Go.Lib.hid (show ∀ f, 8 ≤ f → St (1 + 1) (linkR (elemL (tmplB ⟨#[104, 101, 97, 100]⟩) (elN 0 ⟨#[104, 101, 97, 100]⟩ [] b) l) f 1 (l.length : Int)).2 from fun f h => St.step hst b h)
        clear E2 hA hO hA3 hf3 hf4 hn hbw hT hs hst
        generalize elemL (tmplB ⟨#[104, 101, 97, 100]⟩) (elN 0 ⟨#[104, 101, 97, 100]⟩ [] b) l = l4 at *
        generalize elemO (tmplB ⟨#[104, 101, 97, 100]⟩) (elO 0 ⟨#[104, 101, 97, 100]⟩ [] aa4 ac4) m = m4 at *
        obtain ⟨f, rk, h8, hr, hf, C1⟩ := hT4.link14e hA4 hO4 hb4.size 1 l.length
        go_wp2_with fail
        refine C1.mono ?_
        rintro e w5 ⟨rfl, hA5, hO5, hf5⟩
        have C2 := hT4.link15 hO5 (Nat.le_trans hb4.size hf5.size) (by omega) 1 l.length f rk hr hf
        clear C1
        go_wp2_with fail
        refine C2.mono ?_
        rintro e w6 ⟨m6, rfl, hO6, hT6, hf6⟩
        have hA6 := hA5.keep hf6
        have hn6 := hf6.blk (hf5.blk hn4 (by decide)) (by decide)
        have hb6 := hb4.trans (hf5.below.trans hf6.below)
        have hl6 := linkR_len l4 f 1 l.length
        have hs6 := small_link l4 f 1 l.length hs4
        have hst6 := HS4.out f h8
        clear C2 hA4 hO4 hA5 hO5 hf5 hf6 hn4 hb4 hT4 hs4
        generalize (linkR l4 f 1 l.length).2 = l6 at *
        go_wp2
        go_roundw
        case rel => exact ⟨2, l6, m6, by rfl, by omega, hA6, hO6, hT6, by omega, hs6, hb6, hn6, hst6⟩
        case measure => simp [intOf]

      · skip
        have E1 := el12 w.heap.size p l ⟨#[98, 111, 100, 121]⟩ none 0 [] _ hA hbw.size (by omega) (by simp) (fun h => absurd rfl h) (by decide) (by simp [txtA])
        go_wp2_with fail
        refine E1.mono ?_
        rintro e w3 ⟨b, rfl, hA3, hf3⟩
        have E2 := el13 w.heap.size q m ⟨#[98, 111, 100, 121]⟩ none 0 [] w3 (hO.keep hf3) (Nat.le_trans hbw.size hf3.size) (by rw [hT.len]; omega) (by simp) (fun h => absurd rfl h) (fun _ => ⟨rfl, rfl⟩) (by decide) (by simp [txtA])
        clear E1 cn0 cn1 cn2
        have cm := blk_cells (hf3.blk hn (by decide)) 2
        go_wp2_with fail
        refine E2.mono ?_
        rintro e w4 ⟨aa4, ac4, rfl, hO4, hf4⟩
        have hA4 := hA3.keep hf4
        have hT4 := hT.elem (tmplB ⟨#[98, 111, 100, 121]⟩) ⟨#[98, 111, 100, 121]⟩ [] b aa4 ac4
        have hn4 := hf4.blk (hf3.blk hn (by decide)) (by decide)
        have hb4 := hbw.trans (hf3.below.trans hf4.below)
        have hl4 := elemL_len (tmplB ⟨#[98, 111, 100, 121]⟩) (elN 0 ⟨#[98, 111, 100, 121]⟩ [] b) l
        have hs4 := small_el ⟨#[98, 111, 100, 121]⟩ [] b l hs (by decide) (by simp [txtA]) (by simp)
        have HS4 := Go.Lib.hid (show ∀ f, 8 ≤ f → St (2 + 1) (linkR (elemL (tmplB ⟨#[98, 111, 100, 121]⟩) (elN 0 ⟨#[98, 111, 100, 121]⟩ [] b) l) f 1 (l.length : Int)).2 from fun f h => St.step hst b h)
        clear E2 hA hO hA3 hf3 hf4 hn hbw hT hs hst
        generalize elemL (tmplB ⟨#[98, 111, 100, 121]⟩) (elN 0 ⟨#[98, 111, 100, 121]⟩ [] b) l = l4 at *
        generalize elemO (tmplB ⟨#[98, 111, 100, 121]⟩) (elO 0 ⟨#[98, 111, 100, 121]⟩ [] aa4 ac4) m = m4 at *
        obtain ⟨f, rk, h8, hr, hf, C1⟩ := hT4.link14e hA4 hO4 hb4.size 1 l.length
        go_wp2_with fail
        refine C1.mono ?_
        rintro e w5 ⟨rfl, hA5, hO5, hf5⟩
        have C2 := hT4.link15 hO5 (Nat.le_trans hb4.size hf5.size) (by omega) 1 l.length f rk hr hf
        clear C1
        go_wp2_with fail
        refine C2.mono ?_
        rintro e w6 ⟨m6, rfl, hO6, hT6, hf6⟩
        have hA6 := hA5.keep hf6
        have hn6 := hf6.blk (hf5.blk hn4 (by decide)) (by decide)
        have hb6 := hb4.trans (hf5.below.trans hf6.below)
        have hl6 := linkR_len l4 f 1 l.length
        have hs6 := small_link l4 f 1 l.length hs4
        have hst6 := HS4.out f h8
        clear C2 hA4 hO4 hA5 hO5 hf5 hf6 hn4 hb4 hT4 hs4
        generalize (linkR l4 f 1 l.length).2 = l6 at *
        go_wp2
        go_roundw
        case rel => exact ⟨3, l6, m6, by rfl, by omega, hA6, hO6, hT6, by omega, hs6, hb6, hn6, hst6⟩
        case measure => simp [intOf]

end Go.Proofs.YthfdiinfeljeeaaGreatDoor
/- The reference: which documents are in the class. -/
namespace Go.Proofs.YthfdiinfeljeeaaGreatDoor
open Go.RowKit
theorem Or.kall {w : World} {B p g cap : Nat} {m : List On} (h : Or w B p g cap m) (id : Nat) (hid : id < m.length) (hne : 0 < m[id].ks.length) : ∃ b, m[id].ka = some ⟨b, 0, none⟩ ∧ ∀ j (hj : j < m[id].ks.length), w.cell? ⟨b, j, none⟩ = some (.int .i64 (m[id].ks[j] : Nat)) :=
  (h.at_ _ (List.getElem_mem hid)).rdK 0 hne
set_option maxHeartbeats 8000000 in
set_option maxRecDepth 100000 in
theorem rin8 (B p g cap : Nat) (m : List On) (hF : Fit m) (w : World) (hO : Or w B p g cap m) :
    Calls Tryz.prog 8 #[.pointer (some ⟨p, 0, none⟩)] w fun e w' => e = .returned (.bool (inV (vO m) (ksO m))) ∧ Below w.heap.size w w' := by
  have hbt : ∀ {w0 w1 : World}, ∀ w2, Below w0.heap.size w0 w1 → Below w1.heap.size w1 w2 → Below w0.heap.size w0 w2 := fun _ h h2 => h.trans ⟨h2.os, h2.tape, h2.output, h2.size, fun j hj => h2.block j (Nat.lt_of_lt_of_le hj h.size)⟩
  have h0 := hO.pos
  have hc := hO.cell
  have hk := hO.kcell 0 h0
  rw [Nat.zero_mul, Nat.zero_add] at hk
  have hl1 : (0 : Int) < (m.length : Int) := by omega
  have hk0 : ksO m 0 = m[0].ks := by rw [ksO, gO_get h0]
  by_cases hone : m[0].ks.length = 1
  · obtain ⟨h, hks⟩ := List.length_eq_one_iff.1 hone
    have hh := hF.ks 0 h0 h (by rw [hks]; simp)
    obtain ⟨b, hka, hkc⟩ := hO.kfirst 0 h0 0 (by rw [hks]; simp)
    rw [show m[0].ks[0]'(by rw [hks]; simp) = h by simp [hks]] at hkc
    rw [hka, hone] at hk
    rw [hks] at hk0
    have B0 := rbare B p g cap m h ⟨#[104, 116, 109, 108]⟩ wHtml (by rw [tl]) w hO hh
    have hkh := hO.kcell h hh
    have hh0 : (0 : Int) ≤ (h : Int) := by omega
    have hh1 : (h : Int) < (m.length : Int) := by omega
    have hkh0 : ksO m h = m[h].ks := by rw [ksO, gO_get hh]
    cases hb : bareV (vO m) h wHtml
    · rw [hb] at B0
      have hfin : inV (vO m) (ksO m) = false := by
        unfold inV
        rw [hk0]
        simp only [hb, Bool.false_and]
      rw [hfin]
      clear hfin
      go_enter Tryz.func8, Tryz.ntmps8
      go_wp2_with (go_at_call 30; refine B0.mono ?_; rintro e w1 ⟨rfl, hw1⟩)
      go_ret
      exact ⟨rfl, hw1⟩
    · rw [hb] at B0
      by_cases htwo : m[h].ks.length = 2
      · obtain ⟨a, bo, hk2⟩ : ∃ a bo, m[h].ks = [a, bo] := by
          rcases hq : m[h].ks with _ | ⟨a, _ | ⟨b, _ | ⟨c, t⟩⟩⟩
          · rw [hq] at htwo; simp at htwo
          · rw [hq] at htwo; simp at htwo
          · exact ⟨a, b, rfl⟩
          · rw [hq] at htwo; simp at htwo
        have hA := hF.ks h hh a (by rw [hk2]; simp)
        have hBo := hF.ks h hh bo (by rw [hk2]; simp)
        obtain ⟨b2, hka2, hkc2⟩ := hO.kall h hh (by omega)
        have e0 := hkc2 0 (by omega)
        have e1 := hkc2 1 (by omega)
        rw [show m[h].ks[0]'(by omega) = a by simp [hk2]] at e0
        rw [show m[h].ks[1]'(by omega) = bo by simp [hk2]] at e1
        rw [hka2, htwo] at hkh
        rw [show inV (vO m) (ksO m) = (headV (vO m) (ksO m) a && bodyV (vO m) (ksO m) bo) by
          unfold inV
          rw [hk0]
          simp only [hb, Bool.true_and]
          rw [hkh0, hk2]]
        have RH := fun W (hW : Below w.heap.size w W) => rhead31 B p g cap m hF a W (hO.below hW) hA
        have RK := fun W (hW : Below w.heap.size w W) => rkids33 B p g cap m hF 198 (by omega) bo true W (hO.below hW) hBo
        have hal := hF.al bo hBo
        have htx := hF.tx bo hBo
        have hrd := (hO.at_ _ (List.getElem_mem hBo)).rdA
        have k0 := fun j (hj : j < 10) => hO.at bo j hBo hj
        have hx0 : (0 : Int) ≤ (bo : Int) := by omega
        have hx1 : (bo : Int) < (m.length : Int) := by omega
        rw [show bodyV (vO m) (ksO m) bo = (m[bo].kind == 1 && m[bo].space == 0 && m[bo].name.toList == wBody && attrsB m[bo].al && kidsV (vO m) (ksO m bo) fun c => oneV (vO m) (ksO m) 198 c true) by rw [bodyV, show (vO m) bo = ⟨m[bo].kind, m[bo].space, m[bo].name, m[bo].data, m[bo].al⟩ by rw [vO, gO_get hBo]]]
        generalize hHD : headV (vO m) (ksO m) a = hd at *
        generalize hKD : (kidsV (vO m) (ksO m bo) fun c => oneV (vO m) (ksO m) 198 c true) = kd at *
        have hnn := hO
        clear hks hk2 hka hka2 hkc2 hF hO hnn
        generalize m[bo] = n at *
        obtain ⟨kind, space, nm, al, aa, ac, data, sys, inn, host, up, ks, ka, kc⟩ := n
        dsimp only at *
        have c0 := k0 0 (by omega)
        have c1 := k0 1 (by omega)
        have c2 := k0 2 (by omega)
        have c3 := k0 3 (by omega)
        have c4 := k0 4 (by omega)
        have c5 := k0 5 (by omega)
        have c6 := k0 6 (by omega)
        have c7 := k0 7 (by omega)
        have c8 := k0 8 (by omega)
        have c9 := k0 9 (by omega)
        simp only [On.cells, On.arr, List.getElem?_cons_zero, List.getElem?_cons_succ] at c0 c1 c2 c3 c4 c5 c6 c7 c8 c9
        rw [Nat.add_zero] at c0
        clear k0
        go_enter Tryz.func8, Tryz.ntmps8
        go_wp2_with (go_at_call 30; (with_reducible refine B0.mono ?_); rintro e w1 ⟨rfl, hw1⟩; have hc1 := bcl hw1 hc; have hk1 := bcl hw1 hk; have hkc1 := bcl hw1 hkc; have hkh1 := bcl hw1 hkh)
        go_quiet (fail)
        have hw1d := below_drewN hw1 nq
        have f0 := bcl hw1d e0
        have f1 := bcl hw1d e1
        have RH1 := RH _ hw1d
        have hcd := bcl hw1d hc
        have d0 := bcl hw1d c0
        clear hw1 hc1 hk1 hkc1 hkh1 B0
        generalize w1.drewN nq = wd at *
        cases hd
        · go_wp2_with (go_at_call 31; refine RH1.mono ?_; rintro e w2 ⟨rfl, hw2⟩)
          go_ret
          exact ⟨rfl, hbt _ hw1d hw2⟩
        · go_wp2_with (go_at_call 31; refine RH1.mono ?_; rintro e w2 ⟨rfl, hw2⟩; have hb2 := hbt _ hw1d hw2; have hc2 := bcl hb2 hc; have g1 := bcl hb2 e1; have d0 := bcl hb2 c0; have d1 := bcl hb2 c1; have d2 := bcl hb2 c2; have d3 := bcl hb2 c3; have d4 := bcl hb2 c4; have d5 := bcl hb2 c5; have d6 := bcl hb2 c6; have d7 := bcl hb2 c7; have d8 := bcl hb2 c8; have d9 := bcl hb2 c9; have lg2 := cell_lt d0; have lp2 := cell_lt hc2; have lk2 := cell_lt g1)
          have hbx := bal hb2 (.cells #[.int .i64 kind, .int .i64 space, .string nm, .slice aa al.length ac, .string data, .string sys, .int .i64 inn, .int .i64 host, .int .i64 up, .slice ka ks.length kc] 59)
          have RA := fun W (hW : Below w.heap.size w W) => rattrs32 aa ac al W hal (hrd.below hW) htx
          clear hal htx RH RH1 hcd f0 f1
          go_region_law
            (fail)
          all_goals
            have hbz := below_drewN hbx 1
            clear d0 d1 d2 d3 d4 d5 d6 d7 d8 d9 hc2 g1 c0 c1 c2 c3 c4 c5 c6 c7 c8 c9 hk hkh hkc e0
            cases q1 : (kind == 1)
            · go_wp2
              go_ret
              exact ⟨ret_bool (by rw [q1]; rfl), hbz⟩
            · cases q2 : (space == 0)
              · go_wp2
                go_ret
                exact ⟨ret_bool (by rw [q1, q2]; rfl), hbz⟩
              · cases q3 : (nm.toList == wBody)
                · go_wp2
                  go_ret
                  exact ⟨ret_bool (by rw [q1, q2, q3]; rfl), hbz⟩
                · have RA1 := RA _ hbz
                  cases q4 : attrsB al
                  · rw [q4] at RA1
                    go_wp2_with (go_at_call 32; refine RA1.mono ?_; rintro e w3 ⟨rfl, hw3⟩)
                    go_ret
                    exact ⟨ret_bool (by rw [q1, q2, q3, q4]; rfl), hbt _ hbz hw3⟩
                  · rw [q4] at RA1
                    go_wp2_with (first
                      | (go_at_call 32; refine RA1.mono ?_; rintro e w3 ⟨rfl, hw3⟩; have hb3 := hbt _ hbz hw3; have f3 := bcl hb3 e1; have hc3 := bcl hb3 hc; have RK1 := RK _ hb3)
                      | (go_at_call 33; refine RK1.mono ?_; rintro e w4 ⟨rfl, hw4⟩))
                    go_ret
                    exact ⟨ret_bool (by rw [q1, q2, q3, q4]; rfl), hbt _ hb3 hw4⟩
      · have hne : ((m[h].ks.length : Int) != 2) = true := bne_iff_ne.2 (by omega)
        have hfin : inV (vO m) (ksO m) = false := by
          unfold inV
          rw [hk0]
          simp only [hb, Bool.true_and]
          rw [hkh0]
          rcases hq : m[h].ks with _ | ⟨a, _ | ⟨b, _ | ⟨c, t⟩⟩⟩
          · rfl
          · rfl
          · rw [hq] at htwo; simp at htwo
          · rfl
        rw [hfin]
        clear hfin
        go_enter Tryz.func8, Tryz.ntmps8
        go_wp2_with (go_at_call 30; (with_reducible refine B0.mono ?_); rintro e w1 ⟨rfl, hw1⟩; have hc1 := bcl hw1 hc; have hk1 := bcl hw1 hk; have hkc1 := bcl hw1 hkc; have hkh1 := bcl hw1 hkh)
        go_quiet (fail)
        go_wp2
        go_ret
        exact ⟨rfl, below_drewN hw1 _⟩
  · have hne : ((m[0].ks.length : Int) != 1) = true := bne_iff_ne.2 (by omega)
    have hfin : inV (vO m) (ksO m) = false := by
      unfold inV
      rw [hk0]
      rcases hq : m[0].ks with _ | ⟨a, _ | ⟨b, t⟩⟩
      · rfl
      · rw [hq] at hone; simp at hone
      · rfl
    rw [hfin]
    clear hfin
    go_enter Tryz.func8, Tryz.ntmps8
    go_wp2
    go_ret
    exact ⟨rfl, Below.refl _ _⟩
end Go.Proofs.YthfdiinfeljeeaaGreatDoor
/- The reference's Inner and Text. -/
namespace Go.Proofs.YthfdiinfeljeeaaGreatDoor
open Go.RowKit
theorem rinner23 (B p g cap : Nat) (m : List On) (id : Nat) (w : World) (hO : Or w B p g cap m) (hid : id < m.length) (s : ByteArray)
    (h51 : Calls Tryz.prog 51 #[.pointer (some ⟨p, 0, none⟩), .int .i64 id, .bool false] w fun e w' => e = .returned (.string s) ∧ Below w.heap.size w w') :
    Calls Tryz.prog 23 #[.pointer (some ⟨p, 0, none⟩), .int .i64 id, .bool false] w fun e w' => e = .returned (.tuple #[.string s, .int .i64 0]) ∧ Below w.heap.size w w' := by
  have H1 := is46 B p g cap m id w hO
  rw [show decide ((0 : Int) ≤ (id : Int) ∧ (id : Int) < m.length) = true from decide_eq_true (by omega)] at H1
  go_enter Tryz.func23, Tryz.ntmps23
  go_wp2_with (first | (go_at_call 46; refine H1.mono ?_; rintro e w1 ⟨rfl, rfl⟩) | (go_at_call 51; refine h51.mono ?_; rintro e w2 ⟨rfl, hw2⟩))
  go_ret2
  exact ⟨rfl, hw2⟩
set_option maxHeartbeats 4000000 in
set_option maxRecDepth 100000 in
theorem rtext6 (B p g cap : Nat) (m : List On) (hF : FitW m) (w : World) (hO : Or w B p g cap m) (hm : 0 < m.length) :
    Calls Tryz.prog 6 #[.pointer (some ⟨p, 0, none⟩)] w fun e w' => e = .returned (.tuple #[.string (mkS (textV19 (vO m) (ksO m))), .int .i64 (if inV (vO m) (ksO m) = true then 0 else 4)]) ∧ Below w.heap.size w w' := by
  have hbt : ∀ {w0 w1 : World}, ∀ w2, Below w0.heap.size w0 w1 → Below w1.heap.size w1 w2 → Below w0.heap.size w0 w2 := fun _ h h2 => h.trans ⟨h2.os, h2.tape, h2.output, h2.size, fun j hj => h2.block j (Nat.lt_of_lt_of_le hj h.size)⟩
  have R := rin8 B p g cap m hF.fit w hO
  cases hi : inV (vO m) (ksO m)
  · rw [hi] at R
    rw [textV19, hi, if_neg (by decide), if_neg (by decide)]
    go_enter Tryz.func6, Tryz.ntmps6
    go_wp2_with (go_at_call 8; refine R.mono ?_; rintro e w1 ⟨rfl, hw1⟩)
    go_ret2
    exact ⟨rfl, hw1⟩
  · rw [hi] at R
    obtain ⟨x, h0, e1, e2, e3, h5⟩ := inV_wr hi
    rw [textV19, hi, if_pos rfl, if_pos rfl, h0]
    have hk0 : m[0].ks = [x] := by rw [← h0, ksO, gO_get hm]
    have hx : x < m.length := hF.fit.ks 0 hm x (by rw [hk0]; simp)
    have hv : vO m x = ⟨m[x].kind, m[x].space, m[x].name, m[x].data, m[x].al⟩ := by rw [vO, gO_get hx]
    have hkx : ksO m x = m[x].ks := by rw [ksO, gO_get hx]
    rw [hv] at e1 e2 e3
    rw [hkx] at h5
    rw [show ([x].getD 0 0) = x from rfl, hkx]
    have hc := hO.cell
    have hk := hO.kcell 0 hm
    rw [Nat.zero_mul, Nat.zero_add] at hk
    obtain ⟨b, hka, hkc⟩ := hO.kfirst 0 hm 0 (by rw [hk0]; simp)
    rw [show m[0].ks[0]'(by rw [hk0]; simp) = x by simp [hk0]] at hkc
    rw [hka, hk0, List.length_singleton] at hk
    have I := fun W (hW : Below w.heap.size w W) => rinner23 B p g cap m x W (hO.below hW) hx _ (rinner51 B p g cap m hF 199 x W (hO.below hW) hx e1 e2 e3 h5)
    generalize mkS (m[x].ks.flatMap (outV (vO m) (ksO m) 199)) = s at *
    have hm0 : (0 : Int) < (m.length : Int) := by omega
    go_enter Tryz.func6, Tryz.ntmps6
    go_wp2_with (first | (go_at_call 8; refine R.mono ?_; rintro e w1 ⟨rfl, hw1⟩; have hc1 := bcl hw1 hc; have hk1 := bcl hw1 hk; have hkc1 := bcl hw1 hkc) | (go_at_call 23; refine (I _ hw1).mono ?_; rintro e w2 ⟨rfl, hw2⟩))
    go_ret2
    exact ⟨rfl, hbt _ hw1 hw2⟩
end Go.Proofs.YthfdiinfeljeeaaGreatDoor
/- The law: the program's answers are the document's. -/
namespace Go.Proofs.YthfdiinfeljeeaaGreatDoor
open Go.RowKit
theorem smallV_of {l : List Nd} (hX : Ex l) (i : Nat) : SmallV (vN l i) := by
  by_cases hi : i < l.length
  · have h := hX.sm _ (List.getElem_mem hi)
    rw [vN, show gN l i = l[i] from getD_of hi]
    exact ⟨h.name, h.data, h.al, h.txt⟩
  · have e1 : gN l i = nd0 := by rw [gN, List.getD_eq_getElem?_getD, List.getElem?_eq_none (by omega)]; rfl
    rw [vN, e1]
    exact ⟨by decide, by decide, by decide, by simp [nd0, kindN, txtA]⟩
theorem total_len {l : List Nd} {ks : Nat → List Nat} {rk : Nat → Nat} (hG : Good l ks) (hR : Ranked l rk) (hX : Ex l) (hl : l.length ≤ 607) (f i : Nat) (hi : i < l.length) : ((ks i).flatMap (outV (vN l) ks f)).length ≤ 10000000000000 := by
  have h1 := kids_len (vN l) ks (smallV_of hX) f (ks i)
  have h2 := preV_len hG hR (f + 1) i hi
  rw [preV, List.length_cons] at h2
  have h3 : costC * ((ks i).flatMap (preV ks f)).length ≤ costC * 607 := Nat.mul_le_mul_left _ (by omega)
  have hC : costC = 10000000000 := rfl
  omega
theorem fitW_of {l : List Nd} {m : List On} {ks : Nat → List Nat} {rk : Nat → Nat} (hk : Alike l m ks) (hR : Ranked l rk) (hX : Ex l) (hl : l.length ≤ 607) : FitW m := by
  have hv := hk.view
  have hs : ∀ i (h : i < m.length), Sim (gN l i) m[i] ∧ Small (gN l i) ∧ i < l.length := fun i h => by
    have h' : i < l.length := by rw [← hk.len]; exact h
    have := hk.sim i h'
    rw [show gO m i = m[i] from gO_get h] at this
    refine ⟨this, ?_, h'⟩
    rw [show gN l i = l[i] from getD_of h']
    exact hX.sm _ (List.getElem_mem h')
  have hks : ∀ i (h : i < m.length), m[i].ks = ks i := fun i h => by
    have := hk.kids i (hs i h).2.2
    rwa [show gO m i = m[i] from gO_get h] at this
  refine ⟨⟨fun i h => ?_, fun i h => ?_, fun i h => ?_, fun i h c hc => ?_, fun i h => ?_⟩, fun i => ?_, fun i h hn => ?_, fun f i h => ?_⟩
  · rw [(hs i h).1.al]; exact (hs i h).2.1.al
  · rw [(hs i h).1.al]; exact (hs i h).2.1.txt
  · rw [(hs i h).1.data]; exact (hs i h).2.1.data
  · rw [hks i h] at hc
    rw [hk.len]
    exact (hk.good.mem i (hs i h).2.2 c hc).1
  · rw [hks i h]
    have := nodup_bound l.length (ks i) (hk.good.nod i (hs i h).2.2) (fun c hc => (hk.good.mem i (hs i h).2.2 c hc).1)
    omega
  · rw [hv.1]; exact smallV_of hX i
  · rw [(hs i h).1.inn]
    rw [(hs i h).1.name] at hn
    exact inn_ok (hs i h).2.1 hn
  · rw [hv.1, hv.2]
    have := total_len hk.good hR hX hl f i (hs i h).2.2
    omega
set_option maxHeartbeats 2000000 in
set_option maxRecDepth 100000 in
theorem awake9 (w : World) (hE : Env w) : Calls Tryz.prog 9 #[] w fun e w' => e = .returned (.bool true) ∧ Below w.heap.size w w' := by
  have hb := at_new w (.cells #[.int .i64 0, .int .i64 3, .string ⟨#[112]⟩, .slice none 0 0] 47) _ rfl
  have hb0 := bal (Below.refl w.heap.size w) (.cells #[.int .i64 0, .int .i64 3, .string ⟨#[112]⟩, .slice none 0 0] 47)
  have P := pagesP w.heap.size (w.alloc (.cells #[.int .i64 0, .int .i64 3, .string ⟨#[112]⟩, .slice none 0 0] 47)) hb
  go_enter Tryz.func9, Tryz.ntmps9
  go_wp2_with fail
  refine P.mono ?_
  rintro e w1 ⟨p, q, l, m, rfl, hA, hT, hl, hX, hw1, hSt⟩
  obtain ⟨ks, hk⟩ := hT.al
  obtain ⟨rk, hR⟩ := hT.rk
  obtain ⟨g, cap, hO⟩ := hA.open_
  have T := text5 _ p g cap l ks hk.good hX hl hA.pos w1 hO (hE.below (btr hb0 hw1)) (fun f i hi => total_len hk.good hR hX hl f i hi)
  obtain ⟨b0, b1, b2, b3, rfl⟩ := st_four hSt
  obtain rfl := kD_of hk.good (fun i hi => hk.out i hi)
  rw [D4_in, D4_text, if_pos rfl] at T
  clear P hA hT hl hX hSt hk hR hO hb
  go_wp2_with (go_at_call 5; refine T.mono ?_; rintro e w2 ⟨rfl, hw2⟩)
  go_ret
  exact ⟨rfl, btr (btr hb0 hw1) hw2⟩
set_option maxHeartbeats 2000000 in
set_option maxRecDepth 100000 in
theorem classIns3 (oa : Option Addr) (c : Nat) (L : List A4) (oe : Option Addr) (ce : Nat) (es : List El) (w : World) (hLm : L.length ≤ 1048576) (hR : RdA w oa L) (hc0 : oa = none → L = [] ∧ c = 0) (hsz : ∀ s ∈ txtA L, s.size ≤ 1048576) (hE : RdE w oe es) (hEm : es.length ≤ 1048576) (hEnv : Env w) :
    Calls Tryz.prog 3 #[.slice oa L.length c, .slice oe es.length ce] w fun e w' => e = .returned (.bool true) ∧ Below w.heap.size w w' := by
  have P := pages4 oa c L oe ce es w hLm hR hc0 hsz hE hEm
  go_enter Tryz.func3, Tryz.ntmps3
  go_wp2_with fail
  refine P.mono ?_
  rintro e w1 ⟨p, q, l, m, rfl, hA, hO, hT, hl, hX, hw1⟩
  obtain ⟨ks, hk⟩ := hT.al
  obtain ⟨rk, hRk⟩ := hT.rk
  obtain ⟨g, cap, hAo⟩ := hA.open_
  obtain ⟨g2, cap2, hOo⟩ := hO
  have hF := fitW_of hk hRk hX hl
  have hm : 0 < m.length := by rw [hk.len]; exact hA.pos
  have hEb := fun W (h : Below w1.heap.size w1 W) => hEnv.below (btr hw1 h)
  have T5 := fun W (h : Below w1.heap.size w1 W) => text5 _ p g cap l ks hk.good hX hl hA.pos W (hAo.below h) (hEb W h) (fun f i hi => total_len hk.good hRk hX hl f i hi)
  have T6 := fun W (h : Below w1.heap.size w1 W) => rtext6 _ q g2 cap2 m hF W (hOo.below h) hm
  have I7 := fun W (h : Below w1.heap.size w1 W) => in7 _ p g cap l ks hk.good hX hl hA.pos W (hAo.below h) (hEb W h)
  have I8 := fun W (h : Below w1.heap.size w1 W) => rin8 _ q g2 cap2 m hF.fit W (hOo.below h)
  have A9 := fun W (h : Below w1.heap.size w1 W) => awake9 W (hEb W h)
  rw [hk.view.1, hk.view.2] at T6 I8
  generalize inV (vN l) ks = iv at *
  generalize mkS (textV19 (vN l) ks) = S at *
  have hz := Below.refl w1.heap.size w1
  clear P hA hT hl hX hk hRk hAo hOo hF hm hEb hR hc0 hsz hE hEm hLm
  cases iv
  all_goals
    simp only [Bool.false_eq_true, if_false, if_true] at T5 T6
    go_wp2_with (first
      | (go_at_call 5; with_reducible refine (T5 _ hz).mono ?_; rintro e w2 ⟨rfl, hw2⟩)
      | (go_at_call 6; with_reducible refine (T6 _ hw2).mono ?_; rintro e w3 ⟨rfl, hw3⟩; have hz3 := btr hw2 hw3)
      | (go_at_call 7; with_reducible refine (I7 _ hz3).mono ?_; rintro e w4 ⟨rfl, hw4⟩; have hz4 := btr hz3 hw4)
      | (go_at_call 8; with_reducible refine (I8 _ hz4).mono ?_; rintro e w5 ⟨rfl, hw5⟩; have hz5 := btr hz4 hw5)
      | (go_at_call 9; with_reducible refine (A9 _ hz5).mono ?_; rintro e w6 ⟨rfl, hw6⟩))
    go_ret
    exact ⟨rfl, btr hw1 (btr hz5 hw6)⟩
end Go.Proofs.YthfdiinfeljeeaaGreatDoor
/- An argument that is a slice of structs of one-cell fields, opened cell by cell. -/
namespace Go.Proofs.YthfdiinfeljeeaaGreatDoor
open Go.Joins Go.ChangeShapes Go.WideShapes Go.RowKit Go.Deep Go.ChangeAt
section
variable {H : Type} {enc : TypeId × Value → H} {P : Program} {w : World} {base : Nat} {spare : Nat → Bool} {held : Bool}
theorem open_slice_fields {t e : TypeId} {fs : Array Field} {fuel : Nat} {cs : List Value} {x : DataW H × List MemPlace} (ht : P.underlying t = some (.slice e)) (he : P.underlying e = some (.struct fs))
    (hone : oneCellFields P fs = true) (hC : P.cellsOf e = fs.size) (h : DataW.trod enc P w base spare held fuel t cs = some x) :
    (cs = [.slice none 0 0] ∧ x = (.nil, [])) ∨
    ∃ (a : Addr) (len cap m : Nat) (D : Nat → DataW H) (Pl : Nat → List MemPlace), cs = [.slice (some a) len cap] ∧ base ≤ a.block ∧ len ≤ cap ∧ cap ≤ maxLen ∧ m = (if spare a.block then cap else len) ∧
      x = (.slice ((List.range len).map D) ((List.range (m - len)).map fun j => D (len + j)), MemPlace.row a (m * fs.size) ++ (List.range m).flatMap Pl) ∧
      ∀ i, i < m → ∃ (ys : List (DataW H × List MemPlace)) (n : Nat), D i = .agg (ys.map (·.1)) ∧ Pl i = ys.flatMap (·.2) ∧ ys.length = fs.size ∧
        ∀ (j : Nat) (f : Field), fs[j]? = some f → ∃ (v : Value) (y : DataW H × List MemPlace), w.cell? (a.add (i * fs.size + j)) = some v ∧ ys[j]? = some y ∧ DataW.trod enc P w base spare held n f.type [v] = some y := by
  rcases open_slice ht h with h0 | ⟨a, len, cap, m, n, D, Pl, hcs, hb, hl, hm, hmm, hx, hi⟩
  · exact .inl h0
  · refine .inr ⟨a, len, cap, m, D, Pl, hcs, hb, hl, hm, hmm, by rw [hC] at hx; exact hx, fun i him => ?_⟩
    obtain ⟨cs', hc, ht'⟩ := hi i him
    rw [hC] at hc
    obtain ⟨ys, n', hn', hy, hlen, hyl, hf⟩ := DataW.trod_struct he ht'
    obtain ⟨_, hcl, hat⟩ := World.cells?_some hc
    simp only [Prod.mk.injEq] at hy
    refine ⟨ys, n', hy.1, hy.2, hyl, fun j f hj => ?_⟩
    obtain ⟨ho, hk⟩ := hone_of hone j f hj
    have hjl : j < fs.size := (Array.getElem?_eq_some_iff.1 hj).1
    have hcell := hat j hjl
    have hv : cs'[j]? = some (cs'[j]'(by omega)) := List.getElem?_eq_getElem (by omega)
    have h1 := hf j f hj
    rw [ho, hk] at h1
    have hone' : (cs'.drop j).take 1 = [cs'[j]'(by omega)] := by
      rw [List.drop_eq_getElem_cons (by omega)]
      rfl
    rw [hone'] at h1
    have hys : ys[j]? = some (ys[j]'(by omega)) := List.getElem?_eq_getElem (by omega)
    refine ⟨_, _, ?_, hys, h1.trans hys⟩
    rw [← Go.Deep.add_add, hcell, hv]
end
end Go.Proofs.YthfdiinfeljeeaaGreatDoor
/- What the second form's bound gives: how long a text is that lies in what was read. -/
namespace Go.Proofs.YthfdiinfeljeeaaGreatDoor
theorem bulk_mem {H : Type} : ∀ {l : List (DataW H)} {d : DataW H}, d ∈ l → Rows.uptoBulk d ≤ Rows.uptoBulkAll l
  | x :: r, d, h => by
    rw [Rows.uptoBulkAll]
    rcases List.mem_cons.1 h with rfl | h
    · exact Nat.le_add_right _ _
    · exact Nat.le_trans (bulk_mem h) (Nat.le_add_left _ _)
theorem bulk_text {H : Type} (l : List UInt8) : Rows.uptoBulk (DataW.lit (H := H) (.string l)) = l.length + 1 := by rw [Rows.uptoBulk]
theorem bulk_most {H : Type} {l : List (DataW H)} (h : Rows.uptoSmall H l = true) : Rows.uptoBulkAll l ≤ 1048576 := of_decide_eq_true h
/-- A text in a struct in a slice. -/
theorem bulk_field {H : Type} {elems spare parts : List (DataW H)} {l : List UInt8} (h1 : .agg parts ∈ elems) (h2 : .lit (.string l) ∈ parts) : l.length ≤ Rows.uptoBulk (.slice elems spare) := by
  have a := bulk_mem h1
  have b := bulk_mem h2
  rw [bulk_text] at b
  simp only [Rows.uptoBulk] at a ⊢
  omega
end Go.Proofs.YthfdiinfeljeeaaGreatDoor
/- The arguments opened: attributes; elements with attributes of their own. -/
namespace Go.Proofs.YthfdiinfeljeeaaGreatDoor
open Go.Joins Go.ChangeShapes Go.WideShapes Go.RowKit Go.Deep Go.ChangeAt
theorem bulk_pos {H : Type} : ∀ d : DataW H, 1 ≤ Rows.uptoBulk d
  | .lit l => by cases l <;> simp [Rows.uptoBulk]
  | .nil => by simp [Rows.uptoBulk]
  | .ptr d => by simp [Rows.uptoBulk]
  | .slice e s => by simp [Rows.uptoBulk]
  | .agg p => by simp [Rows.uptoBulk]
  | .iface _ d => by simp [Rows.uptoBulk]
  | .map e => by simp [Rows.uptoBulk]
  | .held _ => by simp [Rows.uptoBulk]
theorem bulk_len {H : Type} : ∀ l : List (DataW H), l.length ≤ Rows.uptoBulkAll l
  | [] => Nat.zero_le _
  | d :: r => by
    have := bulk_pos d
    have := bulk_len r
    rw [Rows.uptoBulkAll, List.length_cons]
    omega
section
variable {H : Type} {enc : TypeId × Value → H} {w : World} {base : Nat} {spare : Nat → Bool} {held : Bool}
theorem shape80 : ∃ f0 f1 f2 f3 : Field, Tryz.prog.underlying 80 = some (.struct #[f0, f1, f2, f3]) ∧ f0.type = 3 ∧ f1.type = 9 ∧ f2.type = 9 ∧ f3.type = 9 ∧ oneCellFields Tryz.prog #[f0, f1, f2, f3] = true :=
  ⟨_, _, _, _, Tryz.underlying80, rfl, rfl, rfl, rfl, by kernel_rfl⟩
theorem shape47 : ∃ f0 f1 f2 f3 : Field, Tryz.prog.underlying 47 = some (.struct #[f0, f1, f2, f3]) ∧ f0.type = 3 ∧ f1.type = 3 ∧ f2.type = 9 ∧ f3.type = 22 ∧ oneCellFields Tryz.prog #[f0, f1, f2, f3] = true :=
  ⟨_, _, _, _, Tryz.underlying47, rfl, rfl, rfl, rfl, by kernel_rfl⟩
theorem cells80 : Tryz.prog.cellsOf 80 = 4 := by kernel_rfl
theorem cells47 : Tryz.prog.cellsOf 47 = 4 := by kernel_rfl
theorem lit_bulk {l : List UInt8} {ys : List (DataW H × List MemPlace)} (h : DataW.lit (.string l) ∈ ys.map (·.1)) : l.length + 1 ≤ Rows.uptoBulkAll (ys.map (·.1)) := by
  have := bulk_mem h
  rwa [bulk_text] at this
theorem open_attr {i off : Nat} {n : Nat} {b : Nat} {f0 f1 f2 f3 : Field} {ys : List (DataW H × List MemPlace)} (h0 : f0.type = 3) (h1 : f1.type = 9) (h2 : f2.type = 9) (h3 : f3.type = 9)
    (hf : ∀ (j : Nat) (f : Field), #[f0, f1, f2, f3][j]? = some f → ∃ (v : Value) (y : DataW H × List MemPlace), w.cell? ((⟨b, off, none⟩ : Addr).add (i * 4 + j)) = some v ∧ ys[j]? = some y ∧ DataW.trod enc Tryz.prog w base spare held n f.type [v] = some y) :
    ∃ x : A4, (w.cell? ⟨b, off + i * 4, none⟩ = some (.int .i64 x.sp) ∧ w.cell? ⟨b, off + i * 4 + 1, none⟩ = some (.string x.pre) ∧ w.cell? ⟨b, off + i * 4 + 2, none⟩ = some (.string x.nm) ∧ w.cell? ⟨b, off + i * 4 + 3, none⟩ = some (.string x.va)) ∧
      x.pre.size ≤ Rows.uptoBulkAll (ys.map (·.1)) ∧ x.nm.size ≤ Rows.uptoBulkAll (ys.map (·.1)) ∧ x.va.size ≤ Rows.uptoBulkAll (ys.map (·.1)) := by
  obtain ⟨v0, y0, c0, _, t0⟩ := hf 0 f0 rfl
  obtain ⟨v1, y1, c1, g1, t1⟩ := hf 1 f1 rfl
  obtain ⟨v2, y2, c2, g2, t2⟩ := hf 2 f2 rfl
  obtain ⟨v3, y3, c3, g3, t3⟩ := hf 3 f3 rfl
  rw [h0] at t0
  rw [h1] at t1
  rw [h2] at t2
  rw [h3] at t3
  obtain ⟨n0, e0, _, _⟩ := DataW.trod_int Tryz.underlying3 t0
  obtain ⟨s1, e1, x1, z1⟩ := DataW.trod_string Tryz.underlying9 t1
  obtain ⟨s2, e2, x2, z2⟩ := DataW.trod_string Tryz.underlying9 t2
  obtain ⟨s3, e3, x3, z3⟩ := DataW.trod_string Tryz.underlying9 t3
  simp only [List.cons.injEq, and_true] at e0 e1 e2 e3
  subst e0 e1 e2 e3
  rw [add_plain] at c0 c1 c2 c3
  have b1 := lit_bulk (l := s1.data.toList) (ys := ys) (List.mem_map.2 ⟨y1, List.mem_of_getElem? g1, by rw [x1]⟩)
  have b2 := lit_bulk (l := s2.data.toList) (ys := ys) (List.mem_map.2 ⟨y2, List.mem_of_getElem? g2, by rw [x2]⟩)
  have b3 := lit_bulk (l := s3.data.toList) (ys := ys) (List.mem_map.2 ⟨y3, List.mem_of_getElem? g3, by rw [x3]⟩)
  rw [dlen] at b1 b2 b3
  exact ⟨⟨n0, s1, s2, s3⟩, ⟨c0, c1, c2, c3⟩, by dsimp only; omega, by dsimp only; omega, by dsimp only; omega⟩
/-- A slice of attributes. -/
theorem open_attrs_v {v : Value} {fuel : Nat} {x : DataW H × List MemPlace} (hf : DataW.trod enc Tryz.prog w base spare held fuel 22 [v] = some x) :
    ∃ oa cap, ∃ L : List A4, v = .slice oa L.length cap ∧ RdA w oa L ∧ (oa = none → L = [] ∧ cap = 0) ∧ L.length ≤ Rows.uptoBulk x.1 ∧ ∀ s ∈ txtA L, s.size ≤ Rows.uptoBulk x.1 := by
  obtain ⟨f0, f1, f2, f3, hu, h0, h1, h2, h3, hone⟩ := shape80
  rcases open_slice_fields Tryz.underlying22 hu hone cells80 hf with ⟨hcs, _⟩ | ⟨a, len', cap', m, D, Pl, hcs, _, hlc, _, hm, hx, hi⟩
  · simp at hcs
    exact ⟨none, 0, [], hcs, fun h => absurd rfl h, fun _ => ⟨rfl, rfl⟩, Nat.zero_le _, by simp [txtA]⟩
  · simp at hcs
    subst hx
    have hle : len' ≤ m := by rw [hm]; split <;> omega
    rcases Nat.eq_zero_or_pos len' with rfl | hpos
    · exact ⟨some a, cap', [], hcs, fun h => absurd rfl h, (fun h => by cases h), Nat.zero_le _, by simp [txtA]⟩
    · obtain ⟨b, off, spot⟩ := a
      have hspot : spot = none := by
        obtain ⟨ys, n, _, _, _, hff⟩ := hi 0 (by omega)
        obtain ⟨v, y, hc, _, _⟩ := hff 0 f0 rfl
        simpa [Addr.add] using World.cell?_spot hc
      subst hspot
      have hex : ∀ i, i < len' → ∃ x : A4, (w.cell? ⟨b, off + i * 4, none⟩ = some (.int .i64 x.sp) ∧ w.cell? ⟨b, off + i * 4 + 1, none⟩ = some (.string x.pre) ∧ w.cell? ⟨b, off + i * 4 + 2, none⟩ = some (.string x.nm) ∧ w.cell? ⟨b, off + i * 4 + 3, none⟩ = some (.string x.va)) ∧
          x.pre.size ≤ Rows.uptoBulk (D i) ∧ x.nm.size ≤ Rows.uptoBulk (D i) ∧ x.va.size ≤ Rows.uptoBulk (D i) := fun i hil => by
        obtain ⟨ys, n, hD, _, _, hff⟩ := hi i (by omega)
        obtain ⟨x, q0, q1, q2, q3⟩ := open_attr h0 h1 h2 h3 hff
        rw [hD, Rows.uptoBulk]
        exact ⟨x, q0, by omega, by omega, by omega⟩
      let X : Nat → A4 := fun i => if h : i < len' then (hex i h).choose else ⟨0, ByteArray.empty, ByteArray.empty, ByteArray.empty⟩
      have hX : ∀ i (h : i < len'), X i = (hex i h).choose := fun i h => by simp only [X, dif_pos h]
      have hlen : ((List.range len').map X).length = len' := by simp
      have hb : ∀ i, i < len' → Rows.uptoBulk (D i) ≤ Rows.uptoBulkAll ((List.range len').map D) := fun i hil => bulk_mem (List.mem_map.2 ⟨i, by simpa using hil, rfl⟩)
      refine ⟨some ⟨b, off, none⟩, cap', (List.range len').map X, by rw [hlen]; exact hcs, fun _ => ⟨b, off, rfl, fun k hk => ?_⟩, (fun h => by cases h), ?_, fun s hs => ?_⟩
      · have hk' : k < len' := by rwa [hlen] at hk
        have e : ((List.range len').map X)[k] = X k := by simp
        rw [e, hX k hk']
        exact (hex k hk').choose_spec.1
      · rw [hlen]
        dsimp only
        have := bulk_len ((List.range len').map D)
        rw [List.length_map, List.length_range] at this
        rw [Rows.uptoBulk]
        omega
      · dsimp only
        rw [Rows.uptoBulk]
        obtain ⟨y, hy, hs⟩ := List.mem_flatMap.1 hs
        obtain ⟨k, hk, rfl⟩ := List.mem_map.1 hy
        have hk' : k < len' := by simpa using hk
        have q := (hex k hk').choose_spec.2
        rw [← hX k hk'] at q
        have := hb k hk'
        simp only [List.mem_cons, List.not_mem_nil, or_false] at hs
        rcases hs with rfl | rfl | rfl <;> omega
theorem open_elem {i off : Nat} {n : Nat} {b : Nat} {f0 f1 f2 f3 : Field} {ys : List (DataW H × List MemPlace)} (h0 : f0.type = 3) (h1 : f1.type = 3) (h2 : f2.type = 9) (h3 : f3.type = 22)
    (hf : ∀ (j : Nat) (f : Field), #[f0, f1, f2, f3][j]? = some f → ∃ (v : Value) (y : DataW H × List MemPlace), w.cell? ((⟨b, off, none⟩ : Addr).add (i * 4 + j)) = some v ∧ ys[j]? = some y ∧ DataW.trod enc Tryz.prog w base spare held n f.type [v] = some y) :
    ∃ x : El, (w.cell? ⟨b, off + i * 4, none⟩ = some (.int .i64 x.what) ∧ w.cell? ⟨b, off + i * 4 + 1, none⟩ = some (.int .i64 x.up) ∧ w.cell? ⟨b, off + i * 4 + 2, none⟩ = some (.string x.text) ∧ w.cell? ⟨b, off + i * 4 + 3, none⟩ = some (.slice x.aa x.al.length x.ac) ∧
      RdA w x.aa x.al ∧ (x.aa = none → x.al = [] ∧ x.ac = 0)) ∧ x.text.size ≤ Rows.uptoBulkAll (ys.map (·.1)) ∧ (∀ s ∈ txtA x.al, s.size ≤ Rows.uptoBulkAll (ys.map (·.1))) ∧ x.al.length ≤ Rows.uptoBulkAll (ys.map (·.1)) := by
  obtain ⟨v0, y0, c0, _, t0⟩ := hf 0 f0 rfl
  obtain ⟨v1, y1, c1, g1, t1⟩ := hf 1 f1 rfl
  obtain ⟨v2, y2, c2, g2, t2⟩ := hf 2 f2 rfl
  obtain ⟨v3, y3, c3, g3, t3⟩ := hf 3 f3 rfl
  rw [h0] at t0
  rw [h1] at t1
  rw [h2] at t2
  rw [h3] at t3
  obtain ⟨n0, e0, _, _⟩ := DataW.trod_int Tryz.underlying3 t0
  obtain ⟨n1, e1, _, _⟩ := DataW.trod_int Tryz.underlying3 t1
  obtain ⟨s2, e2, x2, z2⟩ := DataW.trod_string Tryz.underlying9 t2
  obtain ⟨oa, cap, L, rfl, hR, hn, hl, hs⟩ := open_attrs_v t3
  simp only [List.cons.injEq, and_true] at e0 e1 e2
  subst e0 e1 e2
  rw [add_plain] at c0 c1 c2 c3
  have b2 := lit_bulk (l := s2.data.toList) (ys := ys) (List.mem_map.2 ⟨y2, List.mem_of_getElem? g2, by rw [x2]⟩)
  rw [dlen] at b2
  have b3 : Rows.uptoBulk y3.1 ≤ Rows.uptoBulkAll (ys.map (·.1)) := bulk_mem (List.mem_map.2 ⟨y3, List.mem_of_getElem? g3, rfl⟩)
  exact ⟨⟨n0, n1, s2, L, oa, cap⟩, ⟨c0, c1, c2, c3, hR, hn⟩, by dsimp only; omega, fun s h => Nat.le_trans (hs s h) b3, Nat.le_trans hl b3⟩
/-- A slice of elements. -/
theorem open_elems_v {v : Value} {fuel : Nat} {x : DataW H × List MemPlace} (hf : DataW.trod enc Tryz.prog w base spare held fuel 23 [v] = some x) (hb : Rows.uptoBulk x.1 ≤ 1048576) :
    ∃ oe ce, ∃ es : List El, v = .slice oe es.length ce ∧ RdE w oe es ∧ es.length ≤ 1048576 := by
  obtain ⟨f0, f1, f2, f3, hu, h0, h1, h2, h3, hone⟩ := shape47
  rcases open_slice_fields Tryz.underlying23 hu hone cells47 hf with ⟨hcs, _⟩ | ⟨a, len', cap', m, D, Pl, hcs, _, hlc, _, hm, hx, hi⟩
  · simp at hcs
    exact ⟨none, 0, [], hcs, fun h => absurd rfl h, Nat.zero_le _⟩
  · simp at hcs
    subst hx
    have hle : len' ≤ m := by rw [hm]; split <;> omega
    rcases Nat.eq_zero_or_pos len' with rfl | hpos
    · exact ⟨some a, cap', [], hcs, fun h => absurd rfl h, Nat.zero_le _⟩
    · obtain ⟨b, off, spot⟩ := a
      have hspot : spot = none := by
        obtain ⟨ys, n, _, _, _, hff⟩ := hi 0 (by omega)
        obtain ⟨v, y, hc, _, _⟩ := hff 0 f0 rfl
        simpa [Addr.add] using World.cell?_spot hc
      subst hspot
      dsimp only at hb
      rw [Rows.uptoBulk] at hb
      have hbi : ∀ i, i < len' → Rows.uptoBulk (D i) ≤ 1048576 := fun i hil => by
        have : Rows.uptoBulk (D i) ≤ Rows.uptoBulkAll ((List.range len').map D) := bulk_mem (List.mem_map.2 ⟨i, by simpa using hil, rfl⟩)
        omega
      have hex : ∀ i, i < len' → ∃ x : El, (w.cell? ⟨b, off + i * 4, none⟩ = some (.int .i64 x.what) ∧ w.cell? ⟨b, off + i * 4 + 1, none⟩ = some (.int .i64 x.up) ∧ w.cell? ⟨b, off + i * 4 + 2, none⟩ = some (.string x.text) ∧ w.cell? ⟨b, off + i * 4 + 3, none⟩ = some (.slice x.aa x.al.length x.ac) ∧
          RdA w x.aa x.al ∧ (x.aa = none → x.al = [] ∧ x.ac = 0)) ∧ x.text.size ≤ 1048576 ∧ (∀ s ∈ txtA x.al, s.size ≤ 1048576) ∧ x.al.length ≤ 1048576 := fun i hil => by
        obtain ⟨ys, n, hD, _, _, hff⟩ := hi i (by omega)
        obtain ⟨x, q0, q1, q2, q3⟩ := open_elem h0 h1 h2 h3 hff
        have := hbi i hil
        rw [hD, Rows.uptoBulk] at this
        exact ⟨x, q0, by omega, fun s h => by have := q2 s h; omega, by omega⟩
      let X : Nat → El := fun i => if h : i < len' then (hex i h).choose else ⟨0, 0, ByteArray.empty, [], none, 0⟩
      have hX : ∀ i (h : i < len'), X i = (hex i h).choose := fun i h => by simp only [X, dif_pos h]
      have hlen : ((List.range len').map X).length = len' := by simp
      refine ⟨some ⟨b, off, none⟩, cap', (List.range len').map X, by rw [hlen]; exact hcs, fun _ => ⟨b, off, rfl, fun k hk => ?_⟩, ?_⟩
      · have hk' : k < len' := by rwa [hlen] at hk
        have e : ((List.range len').map X)[k] = X k := by simp
        rw [e, hX k hk']
        obtain ⟨⟨a0, a1, a2, a3, a4, a5⟩, b0, b1, b2⟩ := (hex k hk').choose_spec
        exact ⟨a0, a1, a2, a3, a4, a5, b0, b1, b2⟩
      · rw [hlen]
        have := bulk_len ((List.range len').map D)
        rw [List.length_map, List.length_range] at this
        omega
set_option maxRecDepth 100000 in
theorem open_attrs {r : Reach} {b0 : Nat} {v : Value} {d : DataW H} {ps : List MemPlace} (hval : Value.okWide Tryz.prog w r b0 22 v) (h : DataW.Trod enc Tryz.prog w base spare held 22 v d ps) :
    ∃ oa cap, ∃ L : List A4, v = .slice oa L.length cap ∧ RdA w oa L ∧ (oa = none → L = [] ∧ cap = 0) ∧ L.length ≤ Rows.uptoBulk d ∧ ∀ s ∈ txtA L, s.size ≤ Rows.uptoBulk d := by
  obtain ⟨oa, len, cap, rfl⟩ := okWide_slice Tryz.underlying22 hval
  obtain ⟨fuel, hf⟩ := h
  exact open_attrs_v (x := (d, ps)) hf
set_option maxRecDepth 100000 in
theorem open_elems {r : Reach} {b0 : Nat} {v : Value} {d : DataW H} {ps : List MemPlace} (hval : Value.okWide Tryz.prog w r b0 23 v) (h : DataW.Trod enc Tryz.prog w base spare held 23 v d ps) (hb : Rows.uptoBulk d ≤ 1048576) :
    ∃ oe ce, ∃ es : List El, v = .slice oe es.length ce ∧ RdE w oe es ∧ es.length ≤ 1048576 := by
  obtain ⟨oa, len, cap, rfl⟩ := okWide_slice Tryz.underlying23 hval
  obtain ⟨fuel, hf⟩ := h
  exact open_elems_v (x := (d, ps)) hf hb
end
end Go.Proofs.YthfdiinfeljeeaaGreatDoor
/- From what a row lists to what the walks ask of the library's variables; the second form's bound. -/
namespace Go.Proofs.YthfdiinfeljeeaaGreatDoor
open Go.RowKit Go.Shelf Go.Lib
theorem utf8X : U8Extra Tryz.prog Tryz.lays260_ren := ⟨by kernel_rfl, by kernel_rfl, by kernel_rfl, by kernel_rfl, by kernel_rfl, by kernel_rfl, by kernel_rfl⟩
theorem env_of {W : World} {l : List (String × DataW Unit)} (h : laidMetH Tryz.prog l W) (hp : (l.all fun x => x.2.handleName?.isNone) = true) (h1 : ("unicode/utf8.acceptRanges", Rows.laid_unicode_utf8_acceptRanges) ∈ l) (h2 : ("unicode/utf8.first", Rows.laid_unicode_utf8_first) ∈ l)
    (hM : ∃ m, W.cell? ⟨2, 0, none⟩ = some (.int .i64 m)) : Env W := by
  rw [MakeChecks.laidMetH_plain _ _ _ hp] at h
  have r1 := Lib.laidMet.reads h h1
  have r2 := Lib.laidMet.reads h h2
  have d1 : (Rows.laid_unicode_utf8_acceptRanges : DataW Unit) = Lib.acceptData := by as_aux_lemma => kernel_rfl
  have d2 : Rows.laid_unicode_utf8_first = Lib.firstData := by as_aux_lemma => kernel_rfl
  rw [d1] at r1
  rw [d2] at r2
  exact ⟨utf8Tabs_of_reads Tryz.lays260 utf8X r2 r1, hM⟩
theorem bulk_arg {H : Type} {l : List (DataW H)} {d : DataW H} (h : Rows.uptoSmall H l = true) (hd : d ∈ l) : Rows.uptoBulk d ≤ 1048576 := Nat.le_trans (bulk_mem hd) (bulk_most h)
end Go.Proofs.YthfdiinfeljeeaaGreatDoor
