/- The program is awake; a page that is nil; the encoding of a beginning. -/
import Derived.Test.YtcmhfcnjfhcpdaaDoorB2
import Derived.Test.YtcmhfcnjfhcpdaaDoorKitD
namespace Go.Proofs.YtcmhfcnjfhcpdaaDoor
open Go.RowKit
def awW : List UInt8 := [60, 109, 101, 116, 97, 32, 99, 104, 97, 114, 115, 101, 116, 61, 117, 116, 102, 45, 56, 62]
theorem awake_plain : preT awW = some 0 := by decide +kernel
set_option maxRecDepth 100000 in
theorem awake10 (w : World) (hT : Tabs w) : Calls Tryd.prog 10 #[] w fun e w' => e = .returned (.bool true) ∧ Below w.heap.size w w' := by
  have hcv := Go.Lib.run_convert_bytes_const (P := Tryd.prog) w 26 5 (u8s awW).toArray 20 20 Tryd.underlying26 Tryd.underlying5
  have hbl : Below w.heap.size w (w.alloc (.cells (u8s awW).toArray 5 (20, 21))) := bal (Below.refl _ w) _
  have P := prescan11 ⟨w.heap.size, 0, none⟩ 20 awW (w.alloc (.cells (u8s awW).toArray 5 (20, 21))) (by decide) (rd_new w awW (20, 21)) (by decide) (hT.below hbl)
  rw [awake_plain, show awW.length = 20 from rfl] at P
  rw [show (u8s awW).toArray = #[.int .u8 60, .int .u8 109, .int .u8 101, .int .u8 116, .int .u8 97, .int .u8 32, .int .u8 99, .int .u8 104, .int .u8 97, .int .u8 114, .int .u8 115, .int .u8 101, .int .u8 116, .int .u8 61, .int .u8 117, .int .u8 116, .int .u8 102, .int .u8 45, .int .u8 56, .int .u8 62] from rfl] at *
  go_enter Tryd.func10, Tryd.ntmps10
  go_wp2_with fail
  refine P.mono ?_
  rintro e w1 ⟨rfl, hb1⟩
  dsimp only [preE]
  go_wp2
  go_ret
  exact ⟨rfl, btr hbl hb1⟩
set_option maxHeartbeats 4000000 in
set_option maxRecDepth 100000 in
theorem prescan_nil (w : World) : Calls Tryd.prog 11 #[.slice none 0 0] w fun e w' => e = preE (preT []) ∧ Below w.heap.size w w' := by
  have S := small15 none 0 [] w (by decide) (fun j hj => by simp at hj)
  rw [show ([] : List UInt8).length = 0 from rfl] at S
  rw [show preT [] = none by decide +kernel]
  go_enter Tryd.func11, Tryd.ntmps11
  go_wp2_with fail
  refine S.mono ?_
  rintro e w1 ⟨rfl, hg, hb1⟩
  go_wp2_with fail
  have hbw := bal hb1 (.cells #[.slice (some ⟨w.heap.size, 0, none⟩) 0 0, .int .i64 0] 43)
  have hsc0 : Sc (w1.alloc (.cells #[.slice (some ⟨w.heap.size, 0, none⟩) 0 0, .int .i64 0] 43)) w1.heap.size w.heap.size [] 0 := by
    have h2 := blk_lt hg
    exact ⟨at_new w1 _ _ rfl, at_old hg _, by omega, by decide⟩
  generalize w1.alloc (.cells #[.slice (some ⟨w.heap.size, 0, none⟩) 0 0, .int .i64 0] 43) = W2 at *
  clear hg hb1 S
  generalize w1.heap.size = sb at *
  obtain ⟨g, hgg⟩ : ∃ g, g = w.heap.size := ⟨_, rfl⟩
  rw [← hgg] at hsc0
  go_loopw [5] (fun v5 wr => v5 = .bool true ∧ Sc wr sb g [] 0 ∧ Below w.heap.size w wr) (fun _ _ => 0)
  case atStart => exact ⟨rfl, hsc0, hbw⟩
  case round =>
    clear hsc0 hbw
    obtain ⟨rfl, hsc, hbw⟩ := hrel
    go_wp2_with fail
    refine (done27 sb g [] 0 wr hsc).mono ?_
    rintro e w3 ⟨rfl, n3, rfl⟩
    have hbw3 : Below w.heap.size w (wr.drewN n3) := hbw.trans ⟨rfl, rfl, rfl, Nat.le_refl _, fun _ _ => rfl⟩
    go_wp2
    go_ret2
    exact ⟨rfl, hbw3⟩
theorem own_bytes {w : World} {base : Nat} {v : Value} {L : List UInt8} (h : w.ownsRow base 5 1 v L.length (u8s L)) : ∃ oa cap, v = .slice oa L.length cap ∧ L.length ≤ cap ∧ RdB w oa L ∧ (oa = none → L = [] ∧ cap = 0) := by
  obtain ⟨oa, cap, rfl⟩ := own_slice h
  have hr := (own_read h).2
  have hrd : RdB w oa L := fun j hj => hr j _ (by simp [u8s, hj])
  rcases h.2 with ⟨hv, h0⟩ | ⟨g, c, cur, hv, _, _, hnc, _⟩
  · injection hv with e1 e2 e3
    exact ⟨oa, cap, rfl, by omega, hrd, fun _ => ⟨List.eq_nil_of_length_eq_zero e2, e3⟩⟩
  · injection hv with e1 e2 e3
    exact ⟨oa, cap, rfl, by omega, hrd, fun e => by rw [e1] at e; cases e⟩
theorem prescanN (oa : Option Addr) (c : Nat) (b : List UInt8) (w : World) (hc : b.length ≤ c) (hn : oa = none → b = [] ∧ c = 0) (hR : RdB w oa b) (hb : b.length ≤ 140737488351232) (hT : Tabs w) :
    Calls Tryd.prog 11 #[.slice oa b.length c] w fun e w' => e = preE (preT b) ∧ Below w.heap.size w w' := by
  cases oa with
  | none =>
    obtain ⟨rfl, rfl⟩ := hn rfl
    exact prescan_nil w
  | some ad => exact prescan11 ad c b w hc hR hb hT
/-- The encoding of a beginning that is long enough. -/
def chooseF (b hint : List UInt8) : Int × Int :=
  if (markF b).2.2 = 0 then ((markF b).1, (markF b).2.1)
  else if (csOf hint).2 = 0 then ((csOf hint).1, 0)
  else match preT b with
    | some x => (x, 0)
    | none => (3, 0)
set_option maxHeartbeats 1000000 in
set_option maxRecDepth 100000 in
theorem choose14 (ad : Addr) (c : Nat) (b : List UInt8) (en : Bool) (hint : ByteArray) (w : World) (hl : 1024 ≤ b.length) (hc : b.length ≤ c) (hR : RdB w (some ad) b) (hb : b.length ≤ 140737488351232) (hh : hint.size ≤ 1048576) (hT : Tabs w) :
    Calls Tryd.prog 14 #[.slice (some ad) b.length c, .bool en, .string hint] w fun e w' => e = .returned (.tuple #[.int .i64 (chooseF b hint.data.toList).1, .int .i64 (chooseF b hint.data.toList).2, .bool true]) ∧ Below w.heap.size w w' := by
  have hl1 : decide ((b.length : Int) < 1024) = false := decide_eq_false (by omega)
  have M := mark12 (some ad) c b w hc hR
  have H := fun (w1 : World) (h : Below w.heap.size w w1) => of8 hint w1 (by omega) (hT.below h)
  have P := fun (w1 : World) (h : Below w.heap.size w w1) => prescan11 ad c b w1 hc (hR.below h) hb (hT.below h)
  rw [show ofL (low (trimBl hint.data.toList)) = csOf hint.data.toList from rfl] at H
  have HF := Go.Lib.hid (show chooseF b hint.data.toList = if (markF b).2.2 = 0 then ((markF b).1, (markF b).2.1) else if (csOf hint.data.toList).2 = 0 then ((csOf hint.data.toList).1, 0) else match preT b with | some x => (x, 0) | none => (3, 0) by rfl)
  generalize chooseF b hint.data.toList = r at *
  generalize markF b = m at *
  generalize csOf hint.data.toList = q at *
  generalize preT b = p at *
  have H' := Go.Lib.hid H
  have P' := Go.Lib.hid P
  clear H P
  go_enter Tryd.func14, Tryd.ntmps14
  cases en
  all_goals
    go_wp2_with fail
    refine M.mono ?_
    rintro e w1 ⟨rfl, hb1⟩
    by_cases hm : m.2.2 = 0
    · have HR := Go.Lib.hid (show r = (m.1, m.2.1) by rw [HF.out, if_pos hm])
      rw [hm]
      clear hm
      go_wp2
      go_ret3
      exact ⟨by obtain rfl := HR.out; rfl, hb1⟩
    · have hmb : (m.2.2 == 0) = false := by simpa using hm
      have HM := Go.Lib.hid hm
      clear hm
      go_wp2_with fail
      refine (H'.out w1 hb1).mono ?_
      rintro e w2 ⟨rfl, hb2'⟩
      have hb2 := btr hb1 hb2'
      by_cases hq : q.2 = 0
      · have HR := Go.Lib.hid (show r = (q.1, 0) by rw [HF.out, if_neg HM.out, if_pos hq])
        rw [hq]
        clear hq
        go_wp2
        go_ret3
        exact ⟨by obtain rfl := HR.out; rfl, hb2⟩
      · have hqb : (q.2 == 0) = false := by simpa using hq
        have HQ := Go.Lib.hid hq
        clear hq
        go_wp2_with fail
        refine (P'.out w2 hb2).mono ?_
        rintro e w3 ⟨rfl, hb3'⟩
        have hb3 := btr hb2 hb3'
        cases p with
        | none =>
          have HR := Go.Lib.hid (show r = (3, 0) by rw [HF.out, if_neg HM.out, if_neg HQ.out])
          dsimp only [preE]
          go_wp2
          go_ret3
          exact ⟨by obtain rfl := HR.out; rfl, hb3⟩
        | some x =>
          have HR := Go.Lib.hid (show r = (x, 0) by rw [HF.out, if_neg HM.out, if_neg HQ.out])
          dsimp only [preE]
          go_wp2
          go_ret3
          exact ⟨by obtain rfl := HR.out; rfl, hb3⟩
end Go.Proofs.YtcmhfcnjfhcpdaaDoor
