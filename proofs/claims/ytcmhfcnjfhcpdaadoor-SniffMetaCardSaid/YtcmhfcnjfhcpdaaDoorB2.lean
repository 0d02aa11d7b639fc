/- What a page says of itself. -/
import Derived.Test.YtcmhfcnjfhcpdaaDoorB1
import Derived.RegionTactic
import Derived.RegionCalls
import Derived.Outline
import Derived.Deep.DeepCutAuto
namespace Go.Proofs.YtcmhfcnjfhcpdaaDoor
open Go.RowKit
def cmW : List UInt8 := [60, 33, 45, 45]
def mtW : List UInt8 := [60, 109, 101, 116, 97]
def ceW : List UInt8 := [45, 45, 62]
/-- Behind a tag's attributes. -/
def attL (L : List UInt8) : Nat → Nat → Nat
  | 0, i => i
  | f + 1, i => match attrF L i with
    | (none, j) => j
    | (some _, j) => attL L f j
def slAt (l : List UInt8) : Bool := decide (5 < l.length) && isSl (l.getD 5 0)
/-- What the bytes from a place on say. -/
def preL (L : List UInt8) : Nat → Nat → Option Int
  | 0, _ => none
  | f + 1, i =>
    if L.length ≤ i then none
    else if Lib.hasPrefix (L.drop i) cmW = true then
      if Lib.index (L.drop (i + 2)) ceW < 0 then none else preL L f (i + ((Lib.index (L.drop (i + 2)) ceW).toNat + 5))
    else if Lib.hasPrefix (L.drop i) mtW = true ∧ slAt (L.drop i) = true then
      if 0 ≤ csEnd (csL L (L.length + 1) (i + 5) cs0).1 then some (csEnd (csL L (L.length + 1) (i + 5) cs0).1) else preL L f (csL L (L.length + 1) (i + 5) cs0).2
    else if (Lib.hasPrefix (L.drop i) [60] = true ∧ letF (L.drop (i + 1)) = true) ∨ (Lib.hasPrefix (L.drop i) [60, 47] = true ∧ letF (L.drop (i + 2)) = true) then
      preL L f (attL L (L.length + 1) (run nTe L i))
    else if Lib.hasPrefix (L.drop i) [60, 47] = true ∨ Lib.hasPrefix (L.drop i) [60, 33] = true ∨ Lib.hasPrefix (L.drop i) [60, 63] = true then
      if run (· != 62) L i < L.length then preL L f (run (· != 62) L i + 1) else none
    else preL L f (i + 1)
def preT (b : List UInt8) : Option Int := preL (low (b.take 1024)) 1025 0
def preE : Option Int → Ending
  | none => .returned (.tuple #[.int .i64 0, .int .i64 6])
  | some x => .returned (.tuple #[.int .i64 x, .int .i64 0])
theorem att_le (L : List UInt8) : ∀ (f i : Nat), i ≤ L.length → i ≤ attL L f i ∧ attL L f i ≤ L.length
  | 0, i, h => ⟨Nat.le_refl _, h⟩
  | f + 1, i, h => by
    have a := attr_le L i h
    unfold attL
    generalize attrF L i = r at a ⊢
    obtain ⟨o, j⟩ := r
    cases o with
    | none => exact ⟨a.1, a.2.1⟩
    | some x =>
      have ih := att_le L f j a.2.1
      have := a.1
      dsimp only at this ih ⊢
      exact ⟨by omega, ih.2⟩
theorem hasPrefix_len {X Y : List UInt8} (h : Lib.hasPrefix X Y = true) : Y.length ≤ X.length := (List.isPrefixOf_iff_prefix.1 h).length_le
theorem run_lt {L : List UInt8} {i : Nat} (h : Lib.hasPrefix (L.drop i) [60] = true) : i < run nTe L i := by
  unfold run
  cases hd : L.drop i with
  | nil => rw [hd] at h; cases h
  | cons c r =>
    rw [hd] at h
    have hc : c = 60 := by
      have := List.isPrefixOf_iff_prefix.1 h
      obtain ⟨t, ht⟩ := this
      injection ht with h1 _
      exact h1.symm
    subst hc
    rw [List.takeWhile_cons, if_pos (by decide)]
    simp only [List.length_cons]
    omega
theorem prefix_one {X : List UInt8} (h : Lib.hasPrefix X [60, 47] = true) : Lib.hasPrefix X [60] = true := by
  obtain ⟨t, ht⟩ := List.isPrefixOf_iff_prefix.1 h
  subst ht
  rfl
def preM (n sb : Nat) (v : Value) (w : World) : Nat := match v with
  | .bool true => n + 1 - scPos w sb
  | _ => 0
set_option maxHeartbeats 4000000 in
set_option maxRecDepth 100000 in
theorem prescan11 (ad : Addr) (c : Nat) (b : List UInt8) (w : World) (hc : b.length ≤ c) (hR : RdB w (some ad) b) (hb : b.length ≤ 140737488351232) (hT : Tabs w) :
    Calls Tryd.prog 11 #[.slice (some ad) b.length c] w fun e w' => e = preE (preT b) ∧ Below w.heap.size w w' := by
  go_enter Tryd.func11, Tryd.ntmps11
  go_wp2_with fail
  have hbl : (b.take 1024).length = (min (b.length : Int) 1024).toNat := by rw [List.length_take]; omega
  have hRt : RdB w (some ad) (b.take 1024) := RdB.take hR 1024
  have S := small15 (some ad) c (b.take 1024) w (by rw [List.length_take]; omega) hRt
  rw [hbl] at S
  refine S.mono ?_
  rintro e w1 ⟨rfl, hg, hb1⟩
  obtain ⟨LL, hLL⟩ : ∃ LL, LL = low (b.take 1024) := ⟨_, rfl⟩
  have hLn : (min (b.length : Int) 1024).toNat = LL.length := by rw [hLL, low_len, hbl]
  have hL1 : LL.length ≤ 1024 := by rw [hLL, low_len, List.length_take]; omega
  have HP := Go.Lib.hid (show preT b = preL LL 1025 0 by rw [preT, hLL])
  rw [← hLL] at hg
  rw [hLn]
  clear hLL hLn hRt S hbl
  go_wp2_with fail
  have hbw := bal hb1 (.cells #[.slice (some ⟨w.heap.size, 0, none⟩) LL.length LL.length, .int .i64 0] 43)
  have hsc0 : Sc (w1.alloc (.cells #[.slice (some ⟨w.heap.size, 0, none⟩) LL.length LL.length, .int .i64 0] 43)) w1.heap.size w.heap.size LL 0 := by
    have h2 := blk_lt hg
    exact ⟨at_new w1 _ _ rfl, at_old hg _, by omega, by omega⟩
  have hsbw : w.heap.size ≤ w1.heap.size := hb1.size
  generalize w1.alloc (.cells #[.slice (some ⟨w.heap.size, 0, none⟩) LL.length LL.length, .int .i64 0] 43) = W2 at *
  clear hg hb1 hR hc hb
  generalize w1.heap.size = sb at *
  obtain ⟨g, hgg⟩ : ∃ g, g = w.heap.size := ⟨_, rfl⟩
  rw [← hgg] at hsc0
  go_loopw [5] (fun v5 wr => ∃ (k f : Nat) (ok : Bool), v5 = .bool ok ∧ k ≤ LL.length ∧ LL.length < k + f ∧ Go.RowKit.Hid (if ok = true then preL LL f k = preL LL 1025 0 else preL LL 1025 0 = none) ∧ Sc wr sb g LL k ∧ Below w.heap.size w wr) (fun v5 wr => preM LL.length sb v5 wr)
  case atStart => exact ⟨0, 1025, true, rfl, by omega, by omega, rfl, by rw [hgg]; rw [← hgg]; exact hsc0, hbw⟩
  case round =>
    clear hsc0 hbw
    obtain ⟨k, f, ok, rfl, hk, hf, hfx, hsc, hbw⟩ := hrel
    cases ok with
    | false =>
      have HN := Go.Lib.hid (show preT b = none from HP.out.trans hfx.out)
      go_wp2
      go_ret2
      exact ⟨by rw [HN.out]; rfl, hbw⟩
    | true =>
      obtain ⟨f, rfl⟩ : ∃ f', f = f' + 1 := ⟨f - 1, by omega⟩
      have HF := Go.Lib.hid (show preL LL (f + 1) k = preL LL 1025 0 from hfx.out)
      clear hfx
      go_wp2_with fail
      refine (done27 sb g LL k wr hsc).mono ?_
      rintro e w3 ⟨rfl, n3, rfl⟩
      by_cases hd : LL.length ≤ k
      · have HN := Go.Lib.hid (show preT b = none by rw [HP.out, ← HF.out, preL, if_pos hd])
        have hbw3 : Below w.heap.size w (wr.drewN n3) := hbw.trans ⟨rfl, rfl, rfl, Nat.le_refl _, fun _ _ => rfl⟩
        have hd1 : decide (LL.length ≤ k) = true := decide_eq_true hd
        clear hd
        go_wp2
        go_ret2
        exact ⟨by rw [HN.out]; rfl, hbw3⟩
      · have hd1 : decide (LL.length ≤ k) = false := decide_eq_false hd
        have HD := Go.Lib.hid hd
        have hsc3 := hsc.drewN n3
        have hbw3 : Below w.heap.size w (wr.drewN n3) := hbw.trans ⟨rfl, rfl, rfl, Nat.le_refl _, fun _ _ => rfl⟩
        have hpos := hsc.pos
        clear hd hsc hbw
        generalize wr.drewN n3 = W3 at *
        go_wp2_with fail
        refine (left17 sb g LL k W3 hsc3 hk).mono ?_
        rintro e w4 ⟨oa, rfl, ⟨al, rfl⟩, hrd, n4, rfl⟩
        have hsc4 := hsc3.drewN n4
        have hbw4 : Below w.heap.size w (W3.drewN n4) := hbw3.trans ⟨rfl, rfl, rfl, Nat.le_refl _, fun _ _ => rfl⟩
        clear hsc3 hbw3 hd1
        generalize W3.drewN n4 = W4 at *
        go_wp2_with fail
        refine (begins28 sb g LL k ⟨#[60, 33, 45, 45]⟩ W4 hsc4 hk).mono ?_
        rintro e w5 ⟨rfl, hb5⟩
        have hsc5 := hsc4.below hb5
        have hrd5 := hrd.below hb5
        have hbw5 := btr hbw4 hb5
        clear hsc4 hrd hbw4 hb5
        rw [show Lib.hasPrefix (LL.drop k) (⟨#[60, 33, 45, 45]⟩ : ByteArray).data.toList = Lib.hasPrefix (LL.drop k) cmW from rfl]
        by_cases p1 : Lib.hasPrefix (LL.drop k) cmW = true
        · have hlen := hasPrefix_len p1
          rw [List.length_drop, show cmW.length = 4 from rfl] at hlen
          have P1 := Go.Lib.hid p1
          rw [p1]
          clear p1
          have q1 : (2 : Int) ≤ ((LL.length - k : Nat) : Int) := by omega
          have hcv := Go.Lib.run_convert_bytes_const (P := Tryd.prog) w5 26 5 #[.int .u8 45, .int .u8 45, .int .u8 62] 3 3 Tryd.underlying26 Tryd.underlying5
          go_wp2_with fail
          have hbl : Below w5.heap.size w5 (w5.alloc (.cells #[.int .u8 45, .int .u8 45, .int .u8 62] 5 (3, 4))) := bal (Below.refl _ w5) _
          have hsc6 := hsc5.below hbl
          have hbw6 := btr hbw5 hbl
          have hdr : (LL.drop (k + 2)).length = LL.length - k - 2 := by rw [List.length_drop]; omega
          have hr1 : RdB w5 (some ⟨al.block, al.off + 2, none⟩) (LL.drop (k + 2)) := by have := hrd5.cut_at 2 (by omega); rwa [List.drop_drop] at this
          have I := idx16 ⟨al.block, al.off + 2, none⟩ ⟨w5.heap.size, 0, none⟩ (LL.drop (k + 2)) ceW (LL.length - k - 2) 3 _ (hT.below hbw6) (by omega) (by decide) (by omega) (hr1.below hbl) (rd_new w5 ceW (3, 4))
          have hfit := index_fit (LL.drop (k + 2)) ceW
          have hge := Lib.index_ge (LL.drop (k + 2)) ceW
          rw [hdr, show ceW.length = 3 from rfl] at I hfit
          obtain ⟨x, hx⟩ : ∃ x, x = Lib.index (LL.drop (k + 2)) ceW := ⟨_, rfl⟩
          rw [← hx] at I hfit hge
          have HX := Go.Lib.hid hx
          clear hx hr1 hdr hbl hcv hrd5 hsc5 hbw5
          generalize w5.alloc (.cells #[.int .u8 45, .int .u8 45, .int .u8 62] 5 (3, 4)) = w6 at *
          refine I.mono ?_
          rintro e w7 ⟨rfl, n7, rfl⟩
          have hsc7 := hsc6.drewN n7
          have hbw7 : Below w.heap.size w (w6.drewN n7) := hbw6.trans ⟨rfl, rfl, rfl, Nat.le_refl _, fun _ _ => rfl⟩
          clear I hsc6 hbw6
          generalize w6.drewN n7 = w7 at *
          have h1 := hsc7.c1
          have hf1 := hsc7.fr 1
          by_cases hx0 : x < 0
          · have HN := Go.Lib.hid (show preL LL 1025 0 = none by rw [← HF.out, preL, if_neg HD.out, if_pos P1.out, ← HX.out, if_pos hx0])
            obtain rfl : x = -1 := by omega
            clear hx0 hfit hge HX
            go_wp2
            have hsc8 := hsc7.set (k + 4) (.int .i64 (↑k + 4)) (by go_num)
            have hbw8 : Below w.heap.size w (w7.setCell ⟨sb, 1, none⟩ (.int .i64 (↑k + 4))) := hbw7.setCell (p := ⟨sb, 1, none⟩) hsbw _
            go_roundw
            case rel => exact ⟨k + 4, f + 1, false, rfl, by omega, by omega, HN.out, hsc8, hbw8⟩
            case measure => show 0 < preM LL.length sb (.bool true) wr; unfold preM; rw [hpos]; simp only []; omega
          · have hfit2 := hfit (by omega)
            obtain ⟨y, rfl⟩ : ∃ y : Nat, x = y := ⟨x.toNat, by omega⟩
            have HN := Go.Lib.hid (show preL LL f (k + (y + 5)) = preL LL 1025 0 by rw [← HF.out, preL, if_neg HD.out, if_pos P1.out, ← HX.out, if_neg hx0, Int.toNat_natCast])
            have hb0 : decide ((y : Int) ≥ 0) = true := decide_eq_true (by omega)
            clear hx0 hfit hge HX
            go_wp2
            have hsc8 := hsc7.set (k + (y + 5)) (.int .i64 (↑k + (↑y + 5))) (by go_num)
            have hbw8 : Below w.heap.size w (w7.setCell ⟨sb, 1, none⟩ (.int .i64 (↑k + (↑y + 5)))) := hbw7.setCell (p := ⟨sb, 1, none⟩) hsbw _
            go_roundw
            case rel => exact ⟨k + (y + 5), f, true, rfl, by omega, by omega, HN.out, hsc8, hbw8⟩
            case measure => unfold preM; simp only []; rw [hpos, hsc8.pos]; omega
        · have P1 := Go.Lib.hid p1
          rw [Bool.not_eq_true] at p1
          rw [p1]
          clear p1
          have hlk : k < LL.length := by have := HD.out; omega
          go_upto_region 6 with (fail)
          go_cut [29] (fun v29 wc => v29 = .bool (Lib.hasPrefix (LL.drop k) mtW && slAt (LL.drop k)) ∧ Sc wc sb g LL k ∧ RdB wc (some al) (LL.drop k) ∧ Below w.heap.size w wc)
          case first =>
            go_wp2_with fail
            refine (begins28 sb g LL k ⟨#[60, 109, 101, 116, 97]⟩ w5 hsc5 hk).mono ?_
            rintro e w6 ⟨rfl, hb6⟩
            have hsc6 := hsc5.below hb6
            have hrd6 := hrd5.below hb6
            have hbw6 := btr hbw5 hb6
            clear hsc5 hrd5 hbw5 hb6
            rw [show Lib.hasPrefix (LL.drop k) (⟨#[60, 109, 101, 116, 97]⟩ : ByteArray).data.toList = Lib.hasPrefix (LL.drop k) mtW from rfl]
            by_cases p2 : Lib.hasPrefix (LL.drop k) mtW = true
            · rw [p2]
              have HP2 := Go.Lib.hid p2
              clear p2
              have hdl : (LL.drop k).length = LL.length - k := List.length_drop
              by_cases hl : 5 < LL.length - k
              · have hlb : decide (((LL.length - k : Nat) : Int) > 5) = true := decide_eq_true (by omega)
                have l0 : (5 : Int) < ((LL.length - k : Nat) : Int) := by omega
                obtain ⟨ax, hax, hcx⟩ := hrd6 5 (by omega)
                injection hax with hax
                subst hax
                rw [show al.add 5 = ⟨al.block, al.off + 5, none⟩ by unfold Addr.add; rw [if_neg (by omega)]] at hcx
                have HS := Go.Lib.hid (show slAt (LL.drop k) = isSl (LL.drop k)[5] by rw [slAt, decide_eq_true (by rw [hdl]; exact hl), Bool.true_and, List.getD_eq_getElem?_getD, List.getElem?_eq_getElem (by omega)]; rfl)
                generalize (LL.drop k)[5] = q at HS hcx
                clear hl hdl
                go_wp2_with fail
                refine (slashed29 q w6).mono ?_
                rintro e w7 ⟨rfl, rfl⟩
                go_wp2
                go_meet
                case rel => exact ⟨by rw [HP2.out, HS.out, Bool.true_and], hsc6, hrd6, hbw6⟩
              · have hlb : decide (((LL.length - k : Nat) : Int) > 5) = false := decide_eq_false (by omega)
                have HS := Go.Lib.hid (show slAt (LL.drop k) = false by rw [slAt, decide_eq_false (by rw [hdl]; exact hl), Bool.false_and])
                clear hl hdl
                go_wp2
                go_meet
                case rel => exact ⟨by rw [HP2.out, HS.out, Bool.true_and], hsc6, hrd6, hbw6⟩
            · rw [Bool.not_eq_true] at p2
              rw [p2]
              have HM := Go.Lib.hid p2
              clear p2
              go_wp2
              go_meet
              case rel => exact ⟨by rw [HM.out, Bool.false_and], hsc6, hrd6, hbw6⟩
          case rest =>
            clear hsc5 hrd5 hbw5
            obtain ⟨rfl, hsc6, hrd6, hbw6⟩ := hcut
            by_cases p2 : Lib.hasPrefix (LL.drop k) mtW = true ∧ slAt (LL.drop k) = true
            · have P2 := Go.Lib.hid p2
              have hlen := hasPrefix_len p2.1
              rw [List.length_drop, show mtW.length = 5 from rfl] at hlen
              rw [p2.1, p2.2]
              clear p2
              have h1 := hsc6.c1
              have hf1 := hsc6.fr 1
              go_wp2_with fail
              have hsc7 := hsc6.set (k + 5) (.int .i64 (↑k + 5)) (by go_num)
              have hbw7 : Below w.heap.size w (wc.setCell ⟨sb, 1, none⟩ (.int .i64 (↑k + 5))) := hbw6.setCell (p := ⟨sb, 1, none⟩) hsbw _
              generalize wc.setCell ⟨sb, 1, none⟩ (.int .i64 (↑k + 5)) = W7 at *
              clear h1 hf1 hsc6 hbw6 hrd6
              refine (charset30 sb g LL (k + 5) w W7 hsc7 (by omega) hT hbw7 hsbw).mono ?_
              rintro e w8 ⟨rfl, hsc8, hst8⟩
              have hbw8 := hst8.below hbw7 hsbw hbw7.size
              obtain ⟨j1, j2⟩ := cs_le LL (LL.length + 1) (k + 5) cs0 (by omega)
              have hE : preL LL (f + 1) k = if 0 ≤ csEnd (csL LL (LL.length + 1) (k + 5) cs0).1 then some (csEnd (csL LL (LL.length + 1) (k + 5) cs0).1) else preL LL f (csL LL (LL.length + 1) (k + 5) cs0).2 := by
                rw [preL, if_neg HD.out, if_neg P1.out, if_pos P2.out]
              rw [HF.out] at hE
              generalize csL LL (LL.length + 1) (k + 5) cs0 = r at hE j1 j2 hsc8 ⊢
              generalize csEnd r.1 = z at hE ⊢
              clear hsc7 hbw7 hst8
              by_cases hz : 0 ≤ z
              · rw [if_pos hz] at hE
                have HE := Go.Lib.hid (show preT b = some z from HP.out.trans hE)
                have hzb : decide (z ≥ 0) = true := decide_eq_true hz
                clear hz hE
                go_wp2
                go_ret2
                exact ⟨by rw [HE.out]; rfl, hbw8⟩
              · rw [if_neg hz] at hE
                have HE := Go.Lib.hid hE.symm
                have hzb : decide (z ≥ 0) = false := decide_eq_false hz
                clear hz hE
                go_wp2
                go_roundw
                case rel => exact ⟨r.2, f, true, rfl, by omega, by omega, HE.out, hsc8, hbw8⟩
                case measure => unfold preM; simp only []; rw [hpos, hsc8.pos]; omega
            · have P2 := Go.Lib.hid p2
              have hm : (Lib.hasPrefix (LL.drop k) mtW && slAt (LL.drop k)) = false := by rw [Bool.eq_false_iff]; intro h; rw [Bool.and_eq_true] at h; exact p2 h
              rw [hm]
              clear p2 hm
              go_upto_region 7 with (fail)
              go_cut [6, 43] (fun v6 v43 wd => v6 = .slice (some al) (LL.length - k) (LL.length - k) ∧ v43 = .bool (Lib.hasPrefix (LL.drop k) [60] && letF (LL.drop (k + 1))) ∧ Sc wd sb g LL k ∧ RdB wd (some al) (LL.drop k) ∧ Below w.heap.size w wd)
              case first =>
                go_wp2_with fail
                refine (begins28 sb g LL k ⟨#[60]⟩ wc hsc6 hk).mono ?_
                rintro e w7 ⟨rfl, hb7⟩
                have hsc7 := hsc6.below hb7
                have hrd7 := hrd6.below hb7
                have hbw7 := btr hbw6 hb7
                clear hsc6 hrd6 hbw6 hb7
                rw [show Lib.hasPrefix (LL.drop k) (⟨#[60]⟩ : ByteArray).data.toList = Lib.hasPrefix (LL.drop k) [60] from rfl]
                by_cases p3 : Lib.hasPrefix (LL.drop k) [60] = true
                · rw [p3]
                  have HP3 := Go.Lib.hid p3
                  clear p3
                  have l1 : (1 : Int) ≤ ((LL.length - k : Nat) : Int) := by omega
                  by_cases hl1 : LL.length - k = 1
                  · have hnil : LL.drop (k + 1) = [] := List.drop_eq_nil_of_le (by omega)
                    have HNL := Go.Lib.hid hnil
                    have hl2 := hl1
                    have HL2 := Go.Lib.hid hl2
                    clear hnil hl2
                    go_wp2_with fail
                    refine (letter31 (some al) 0 [] w7 (by decide) (fun j hj => by simp at hj)).mono ?_
                    rintro e w8 ⟨rfl, rfl⟩
                    go_wp2
                    go_meet
                    case rel => exact ⟨by rw [HL2.out], by rw [HP3.out, HNL.out, Bool.true_and], hsc7, hrd7, hbw7⟩
                  · have hr1 : RdB w7 (some ⟨al.block, al.off + 1, none⟩) (LL.drop (k + 1)) := by have := hrd7.cut_at 1 (by omega); rwa [List.drop_drop] at this
                    have LT := letter31 (some ⟨al.block, al.off + 1, none⟩) (LL.length - k - 1) (LL.drop (k + 1)) w7 (by rw [List.length_drop]; omega) hr1
                    rw [show (LL.drop (k + 1)).length = LL.length - k - 1 by rw [List.length_drop]; omega] at LT
                    clear hr1
                    go_wp2_with fail
                    refine LT.mono ?_
                    rintro e w8 ⟨rfl, rfl⟩
                    go_wp2
                    go_meet
                    case rel => exact ⟨rfl, by rw [HP3.out, Bool.true_and], hsc7, hrd7, hbw7⟩
                · rw [Bool.not_eq_true] at p3
                  rw [p3]
                  have HM := Go.Lib.hid p3
                  clear p3
                  go_wp2
                  go_meet
                  case rel => exact ⟨rfl, by rw [HM.out, Bool.false_and], hsc7, hrd7, hbw7⟩
              case rest =>
                clear hsc6 hrd6 hbw6
                obtain ⟨rfl, rfl, hsc8, hrd8, hbw8⟩ := hcut
                by_cases p3 : Lib.hasPrefix (LL.drop k) [60] = true ∧ letF (LL.drop (k + 1)) = true
                · have P3 := Go.Lib.hid p3
                  have p60 := Go.Lib.hid p3.1
                  have htag : preL LL f (attL LL (LL.length + 1) (run nTe LL k)) = preL LL 1025 0 := by rw [← HF.out, preL, if_neg HD.out, if_neg P1.out, if_neg P2.out, if_pos (Or.inl P3.out)]
                  rw [p3.1, p3.2]
                  clear p3
                  have U := until20 32 enter32 isTe tagEnd32 sb g LL k wc hsc8 hk
                  obtain ⟨r1, r2⟩ := run_le nTe LL k hk
                  go_wp2_with fail
                  refine U.mono ?_
                  rintro e w9 ⟨rfl, hsc9, hst9⟩
                  have hsc9' : Sc w9 sb g LL (run nTe LL k) := hsc9
                  have hbw9 := hst9.below hbw8 hsbw hbw8.size
                  have hgt := run_lt p60.out
                  have HT := Go.Lib.hid htag
                  clear htag U hsc9 hst9 hsc8 hbw8 hrd8
                  obtain ⟨i9, hi9⟩ : ∃ i9, i9 = run nTe LL k := ⟨_, rfl⟩
                  rw [← hi9] at hsc9' hgt r1 r2 HT
                  clear hi9
                  go_wp2_with fail
                  go_loopw [5] (fun v5 wi => ∃ (j f2 : Nat) (ok : Bool), v5 = .bool ok ∧ j ≤ LL.length ∧ LL.length < j + f2 ∧ Go.RowKit.Hid (if ok = true then attL LL f2 j = attL LL (LL.length + 1) i9 else j = attL LL (LL.length + 1) i9) ∧ Sc wi sb g LL j ∧ Below w.heap.size w wi) (fun v5 wi => preM LL.length sb v5 wi)
                  case atStart => exact ⟨i9, LL.length + 1, true, rfl, r2, by omega, rfl, hsc9', hbw9⟩
                  case round =>
                    clear hsc9' hbw9
                    obtain ⟨j, f2, ok, rfl, hj, hf2, hfx, hscj, hbwj⟩ := hrel
                    cases ok with
                    | false =>
                      have hje : j = attL LL (LL.length + 1) i9 := hfx.out
                      have hge := (att_le LL (LL.length + 1) i9 r2).1
                      rw [← hje] at hge
                      have HT2 := Go.Lib.hid (show preL LL f j = preL LL 1025 0 by rw [hje]; exact HT.out)
                      clear hje hfx
                      go_wp2
                      go_roundw
                      case rel => exact ⟨j, f, true, rfl, hj, by omega, HT2.out, hscj, hbwj⟩
                      case measure => unfold preM; simp only []; rw [hpos, hscj.pos]; omega
                    | true =>
                      obtain ⟨f2, rfl⟩ : ∃ f', f2 = f' + 1 := ⟨f2 - 1, by omega⟩
                      have hposj := hscj.pos
                      go_wp2_with fail
                      refine (attribute33 sb g LL j wr hscj hj).mono ?_
                      rintro e w10 ⟨rfl, hsc10, hst10⟩
                      have hbw10 := hst10.below hbwj hsbw hbwj.size
                      obtain ⟨a1, a2, a3⟩ := attr_le LL j hj
                      have hat : attL LL (f2 + 1) j = attL LL (LL.length + 1) i9 := hfx.out
                      rw [attL] at hat
                      generalize attrF LL j = rr at a1 a2 a3 hat hsc10 ⊢
                      obtain ⟨o, jj⟩ := rr
                      dsimp only at a1 a2 a3 hsc10 hat
                      clear hfx hscj hbwj hst10
                      cases o with
                      | none =>
                        have HAT := Go.Lib.hid hat
                        clear hat a3
                        dsimp only [attrE]
                        go_wp2
                        go_roundw
                        case rel => exact ⟨jj, f2 + 1, false, rfl, a2, by omega, HAT.out, hsc10, hbw10⟩
                        case measure => unfold preM; simp only []; rw [hposj]; omega
                      | some x =>
                        have HAT := Go.Lib.hid hat
                        have hlt := a3 x rfl
                        clear hat a3
                        dsimp only [attrE]
                        go_wp2
                        go_roundw
                        case rel => exact ⟨jj, f2, true, rfl, a2, by omega, HAT.out, hsc10, hbw10⟩
                        case measure => unfold preM; simp only []; rw [hposj, hsc10.pos]; omega
                · have P3 := Go.Lib.hid p3
                  have hm : (Lib.hasPrefix (LL.drop k) [60] && letF (LL.drop (k + 1))) = false := by rw [Bool.eq_false_iff]; intro h; rw [Bool.and_eq_true] at h; exact p3 h
                  rw [hm]
                  clear p3 hm
                  go_upto_region 8 with (fail)
                  go_cut [6, 43] (fun v6 v43 wd => v6 = .slice (some al) (LL.length - k) (LL.length - k) ∧ v43 = .bool (Lib.hasPrefix (LL.drop k) [60, 47] && letF (LL.drop (k + 2))) ∧ Sc wd sb g LL k ∧ RdB wd (some al) (LL.drop k) ∧ Below w.heap.size w wd)
                  case first =>
                    go_wp2_with fail
                    refine (begins28 sb g LL k ⟨#[60, 47]⟩ wc hsc8 hk).mono ?_
                    rintro e w7 ⟨rfl, hb7⟩
                    have hsc7 := hsc8.below hb7
                    have hrd7 := hrd8.below hb7
                    have hbw7 := btr hbw8 hb7
                    clear hsc8 hrd8 hbw8 hb7
                    rw [show Lib.hasPrefix (LL.drop k) (⟨#[60, 47]⟩ : ByteArray).data.toList = Lib.hasPrefix (LL.drop k) [60, 47] from rfl]
                    by_cases p4 : Lib.hasPrefix (LL.drop k) [60, 47] = true
                    · rw [p4]
                      have HP4 := Go.Lib.hid p4
                      have hlen := hasPrefix_len p4
                      rw [List.length_drop, show ([60, 47] : List UInt8).length = 2 from rfl] at hlen
                      clear p4
                      have l1 : (2 : Int) ≤ ((LL.length - k : Nat) : Int) := by omega
                      by_cases hl1 : LL.length - k = 2
                      · have hnil : LL.drop (k + 2) = [] := List.drop_eq_nil_of_le (by omega)
                        have HNL := Go.Lib.hid hnil
                        have hl2 := hl1
                        have HL2 := Go.Lib.hid hl2
                        clear hnil hl2 hlen
                        go_wp2_with fail
                        refine (letter31 (some al) 0 [] w7 (by decide) (fun j hj => by simp at hj)).mono ?_
                        rintro e w8 ⟨rfl, rfl⟩
                        go_wp2
                        go_meet
                        case rel => exact ⟨by rw [HL2.out], by rw [HP4.out, HNL.out, Bool.true_and], hsc7, hrd7, hbw7⟩
                      · have hr1 : RdB w7 (some ⟨al.block, al.off + 2, none⟩) (LL.drop (k + 2)) := by have := hrd7.cut_at 2 (by omega); rwa [List.drop_drop] at this
                        have LT := letter31 (some ⟨al.block, al.off + 2, none⟩) (LL.length - k - 2) (LL.drop (k + 2)) w7 (by rw [List.length_drop]; omega) hr1
                        rw [show (LL.drop (k + 2)).length = LL.length - k - 2 by rw [List.length_drop]; omega] at LT
                        clear hr1
                        go_wp2_with fail
                        refine LT.mono ?_
                        rintro e w8 ⟨rfl, rfl⟩
                        go_wp2
                        go_meet
                        case rel => exact ⟨rfl, by rw [HP4.out, Bool.true_and], hsc7, hrd7, hbw7⟩
                    · rw [Bool.not_eq_true] at p4
                      rw [p4]
                      have HM := Go.Lib.hid p4
                      clear p4
                      go_wp2
                      go_meet
                      case rel => exact ⟨rfl, by rw [HM.out, Bool.false_and], hsc7, hrd7, hbw7⟩
                  case rest =>
                    clear hsc8 hrd8 hbw8
                    obtain ⟨rfl, rfl, hsc8, hrd8, hbw8⟩ := hcut
                    by_cases p4 : Lib.hasPrefix (LL.drop k) [60, 47] = true ∧ letF (LL.drop (k + 2)) = true
                    · have P4 := Go.Lib.hid p4
                      have p60 := Go.Lib.hid (prefix_one p4.1)
                      have htag : preL LL f (attL LL (LL.length + 1) (run nTe LL k)) = preL LL 1025 0 := by rw [← HF.out, preL, if_neg HD.out, if_neg P1.out, if_neg P2.out, if_pos (Or.inr P4.out)]
                      rw [p4.1, p4.2]
                      clear p4
                      have U := until20 32 enter32 isTe tagEnd32 sb g LL k wc hsc8 hk
                      obtain ⟨r1, r2⟩ := run_le nTe LL k hk
                      go_wp2_with fail
                      refine U.mono ?_
                      rintro e w9 ⟨rfl, hsc9, hst9⟩
                      have hsc9' : Sc w9 sb g LL (run nTe LL k) := hsc9
                      have hbw9 := hst9.below hbw8 hsbw hbw8.size
                      have hgt := run_lt p60.out
                      have HT := Go.Lib.hid htag
                      clear htag U hsc9 hst9 hsc8 hbw8 hrd8
                      obtain ⟨i9, hi9⟩ : ∃ i9, i9 = run nTe LL k := ⟨_, rfl⟩
                      rw [← hi9] at hsc9' hgt r1 r2 HT
                      clear hi9
                      go_wp2_with fail
                      go_loopw [5] (fun v5 wi => ∃ (j f2 : Nat) (ok : Bool), v5 = .bool ok ∧ j ≤ LL.length ∧ LL.length < j + f2 ∧ Go.RowKit.Hid (if ok = true then attL LL f2 j = attL LL (LL.length + 1) i9 else j = attL LL (LL.length + 1) i9) ∧ Sc wi sb g LL j ∧ Below w.heap.size w wi) (fun v5 wi => preM LL.length sb v5 wi)
                      case atStart => exact ⟨i9, LL.length + 1, true, rfl, r2, by omega, rfl, hsc9', hbw9⟩
                      case round =>
                        clear hsc9' hbw9
                        obtain ⟨j, f2, ok, rfl, hj, hf2, hfx, hscj, hbwj⟩ := hrel
                        cases ok with
                        | false =>
                          have hje : j = attL LL (LL.length + 1) i9 := hfx.out
                          have hge := (att_le LL (LL.length + 1) i9 r2).1
                          rw [← hje] at hge
                          have HT2 := Go.Lib.hid (show preL LL f j = preL LL 1025 0 by rw [hje]; exact HT.out)
                          clear hje hfx
                          go_wp2
                          go_roundw
                          case rel => exact ⟨j, f, true, rfl, hj, by omega, HT2.out, hscj, hbwj⟩
                          case measure => unfold preM; simp only []; rw [hpos, hscj.pos]; omega
                        | true =>
                          obtain ⟨f2, rfl⟩ : ∃ f', f2 = f' + 1 := ⟨f2 - 1, by omega⟩
                          have hposj := hscj.pos
                          go_wp2_with fail
                          refine (attribute33 sb g LL j wr hscj hj).mono ?_
                          rintro e w10 ⟨rfl, hsc10, hst10⟩
                          have hbw10 := hst10.below hbwj hsbw hbwj.size
                          obtain ⟨a1, a2, a3⟩ := attr_le LL j hj
                          have hat : attL LL (f2 + 1) j = attL LL (LL.length + 1) i9 := hfx.out
                          rw [attL] at hat
                          generalize attrF LL j = rr at a1 a2 a3 hat hsc10 ⊢
                          obtain ⟨o, jj⟩ := rr
                          dsimp only at a1 a2 a3 hsc10 hat
                          clear hfx hscj hbwj hst10
                          cases o with
                          | none =>
                            have HAT := Go.Lib.hid hat
                            clear hat a3
                            dsimp only [attrE]
                            go_wp2
                            go_roundw
                            case rel => exact ⟨jj, f2 + 1, false, rfl, a2, by omega, HAT.out, hsc10, hbw10⟩
                            case measure => unfold preM; simp only []; rw [hposj]; omega
                          | some x =>
                            have HAT := Go.Lib.hid hat
                            have hlt := a3 x rfl
                            clear hat a3
                            dsimp only [attrE]
                            go_wp2
                            go_roundw
                            case rel => exact ⟨jj, f2, true, rfl, a2, by omega, HAT.out, hsc10, hbw10⟩
                            case measure => unfold preM; simp only []; rw [hposj, hsc10.pos]; omega
                    · have P34 := Go.Lib.hid (show ¬ ((Lib.hasPrefix (LL.drop k) [60] = true ∧ letF (LL.drop (k + 1)) = true) ∨ (Lib.hasPrefix (LL.drop k) [60, 47] = true ∧ letF (LL.drop (k + 2)) = true)) from fun h => h.elim P3.out p4)
                      have hm : (Lib.hasPrefix (LL.drop k) [60, 47] && letF (LL.drop (k + 2))) = false := by rw [Bool.eq_false_iff]; intro h; rw [Bool.and_eq_true] at h; exact p4 h
                      rw [hm]
                      clear p4 hm hrd8
                      go_wp2_with fail
                      refine (begins28 sb g LL k ⟨#[60, 47]⟩ wc hsc8 hk).mono ?_
                      rintro e w11 ⟨rfl, hb5⟩
                      have hsc11 := hsc8.below hb5
                      have hbw11 := btr hbw8 hb5
                      clear hsc8 hbw8 hb5
                      rw [show Lib.hasPrefix (LL.drop k) (⟨#[60, 47]⟩ : ByteArray).data.toList = Lib.hasPrefix (LL.drop k) [60, 47] from rfl]
                      by_cases p5 : Lib.hasPrefix (LL.drop k) [60, 47] = true
                      · have P5 := Go.Lib.hid p5
                        rw [p5]
                        clear p5
                        have PS := past19 sb g LL k 62 w11 hsc11 hk
                        rw [show (((62 : UInt8).toNat : Nat) : Int) = 62 from rfl] at PS
                        obtain ⟨r1, r2⟩ := run_le (· != 62) LL k hk
                        go_wp2_with fail
                        refine PS.mono ?_
                        rintro e w20 ⟨rfl, hsc20, hst20⟩
                        have hbw20 := hst20.below hbw11 hsbw hbw11.size
                        clear PS hst20 hsc11 hbw11
                        by_cases hp : run (· != 62) LL k < LL.length
                        · have HN := Go.Lib.hid (show preL LL f (run (· != 62) LL k + 1) = preL LL 1025 0 by rw [← HF.out, preL, if_neg HD.out, if_neg P1.out, if_neg P2.out, if_neg P34.out, if_pos (Or.inl P5.out), if_pos hp])
                          rw [show pastI LL k 62 = run (· != 62) LL k + 1 by rw [pastI, if_pos hp]] at hsc20
                          rw [decide_eq_true hp]
                          generalize run (· != 62) LL k = q at HN hsc20 hp r1 r2
                          go_wp2
                          go_roundw
                          case rel => exact ⟨q + 1, f, true, rfl, by omega, by omega, HN.out, hsc20, hbw20⟩
                          case measure => unfold preM; simp only []; rw [hpos, hsc20.pos]; omega
                        · have HN := Go.Lib.hid (show preL LL 1025 0 = none by rw [← HF.out, preL, if_neg HD.out, if_neg P1.out, if_neg P2.out, if_neg P34.out, if_pos (Or.inl P5.out), if_neg hp])
                          rw [show pastI LL k 62 = LL.length by rw [pastI, if_neg hp]] at hsc20
                          rw [decide_eq_false hp]
                          generalize run (· != 62) LL k = q at HN hsc20 hp r1 r2
                          clear hp
                          go_wp2
                          go_roundw
                          case rel => exact ⟨LL.length, f + 1, false, rfl, by omega, by omega, HN.out, hsc20, hbw20⟩
                          case measure => show 0 < preM LL.length sb (.bool true) wr; unfold preM; rw [hpos]; simp only []; omega
                      · have P5 := Go.Lib.hid p5
                        rw [Bool.not_eq_true] at p5
                        rw [p5]
                        clear p5
                        go_wp2_with fail
                        refine (begins28 sb g LL k ⟨#[60, 33]⟩ w11 hsc11 hk).mono ?_
                        rintro e w12 ⟨rfl, hb6⟩
                        have hsc12 := hsc11.below hb6
                        have hbw12 := btr hbw11 hb6
                        clear hsc11 hbw11 hb6
                        rw [show Lib.hasPrefix (LL.drop k) (⟨#[60, 33]⟩ : ByteArray).data.toList = Lib.hasPrefix (LL.drop k) [60, 33] from rfl]
                        by_cases p6 : Lib.hasPrefix (LL.drop k) [60, 33] = true
                        · have P6 := Go.Lib.hid p6
                          rw [p6]
                          clear p6
                          have PS := past19 sb g LL k 62 w12 hsc12 hk
                          rw [show (((62 : UInt8).toNat : Nat) : Int) = 62 from rfl] at PS
                          obtain ⟨r1, r2⟩ := run_le (· != 62) LL k hk
                          go_wp2_with fail
                          refine PS.mono ?_
                          rintro e w20 ⟨rfl, hsc20, hst20⟩
                          have hbw20 := hst20.below hbw12 hsbw hbw12.size
                          clear PS hst20 hsc12 hbw12
                          by_cases hp : run (· != 62) LL k < LL.length
                          · have HN := Go.Lib.hid (show preL LL f (run (· != 62) LL k + 1) = preL LL 1025 0 by rw [← HF.out, preL, if_neg HD.out, if_neg P1.out, if_neg P2.out, if_neg P34.out, if_pos (Or.inr (Or.inl P6.out)), if_pos hp])
                            rw [show pastI LL k 62 = run (· != 62) LL k + 1 by rw [pastI, if_pos hp]] at hsc20
                            rw [decide_eq_true hp]
                            generalize run (· != 62) LL k = q at HN hsc20 hp r1 r2
                            go_wp2
                            go_roundw
                            case rel => exact ⟨q + 1, f, true, rfl, by omega, by omega, HN.out, hsc20, hbw20⟩
                            case measure => unfold preM; simp only []; rw [hpos, hsc20.pos]; omega
                          · have HN := Go.Lib.hid (show preL LL 1025 0 = none by rw [← HF.out, preL, if_neg HD.out, if_neg P1.out, if_neg P2.out, if_neg P34.out, if_pos (Or.inr (Or.inl P6.out)), if_neg hp])
                            rw [show pastI LL k 62 = LL.length by rw [pastI, if_neg hp]] at hsc20
                            rw [decide_eq_false hp]
                            generalize run (· != 62) LL k = q at HN hsc20 hp r1 r2
                            clear hp
                            go_wp2
                            go_roundw
                            case rel => exact ⟨LL.length, f + 1, false, rfl, by omega, by omega, HN.out, hsc20, hbw20⟩
                            case measure => show 0 < preM LL.length sb (.bool true) wr; unfold preM; rw [hpos]; simp only []; omega
                        · have P6 := Go.Lib.hid p6
                          rw [Bool.not_eq_true] at p6
                          rw [p6]
                          clear p6
                          go_wp2_with fail
                          refine (begins28 sb g LL k ⟨#[60, 63]⟩ w12 hsc12 hk).mono ?_
                          rintro e w13 ⟨rfl, hb7⟩
                          have hsc13 := hsc12.below hb7
                          have hbw13 := btr hbw12 hb7
                          clear hsc12 hbw12 hb7
                          rw [show Lib.hasPrefix (LL.drop k) (⟨#[60, 63]⟩ : ByteArray).data.toList = Lib.hasPrefix (LL.drop k) [60, 63] from rfl]
                          by_cases p7 : Lib.hasPrefix (LL.drop k) [60, 63] = true
                          · have P7 := Go.Lib.hid p7
                            rw [p7]
                            clear p7
                            have PS := past19 sb g LL k 62 w13 hsc13 hk
                            rw [show (((62 : UInt8).toNat : Nat) : Int) = 62 from rfl] at PS
                            obtain ⟨r1, r2⟩ := run_le (· != 62) LL k hk
                            go_wp2_with fail
                            refine PS.mono ?_
                            rintro e w20 ⟨rfl, hsc20, hst20⟩
                            have hbw20 := hst20.below hbw13 hsbw hbw13.size
                            clear PS hst20 hsc13 hbw13
                            by_cases hp : run (· != 62) LL k < LL.length
                            · have HN := Go.Lib.hid (show preL LL f (run (· != 62) LL k + 1) = preL LL 1025 0 by rw [← HF.out, preL, if_neg HD.out, if_neg P1.out, if_neg P2.out, if_neg P34.out, if_pos (Or.inr (Or.inr P7.out)), if_pos hp])
                              rw [show pastI LL k 62 = run (· != 62) LL k + 1 by rw [pastI, if_pos hp]] at hsc20
                              rw [decide_eq_true hp]
                              generalize run (· != 62) LL k = q at HN hsc20 hp r1 r2
                              go_wp2
                              go_roundw
                              case rel => exact ⟨q + 1, f, true, rfl, by omega, by omega, HN.out, hsc20, hbw20⟩
                              case measure => unfold preM; simp only []; rw [hpos, hsc20.pos]; omega
                            · have HN := Go.Lib.hid (show preL LL 1025 0 = none by rw [← HF.out, preL, if_neg HD.out, if_neg P1.out, if_neg P2.out, if_neg P34.out, if_pos (Or.inr (Or.inr P7.out)), if_neg hp])
                              rw [show pastI LL k 62 = LL.length by rw [pastI, if_neg hp]] at hsc20
                              rw [decide_eq_false hp]
                              generalize run (· != 62) LL k = q at HN hsc20 hp r1 r2
                              clear hp
                              go_wp2
                              go_roundw
                              case rel => exact ⟨LL.length, f + 1, false, rfl, by omega, by omega, HN.out, hsc20, hbw20⟩
                              case measure => show 0 < preM LL.length sb (.bool true) wr; unfold preM; rw [hpos]; simp only []; omega
                          · have P7 := Go.Lib.hid p7
                            rw [Bool.not_eq_true] at p7
                            rw [p7]
                            clear p7
                            have HN := Go.Lib.hid (show preL LL f (k + 1) = preL LL 1025 0 by rw [← HF.out, preL, if_neg HD.out, if_neg P1.out, if_neg P2.out, if_neg P34.out, if_neg (fun h => h.elim P5.out fun h => h.elim P6.out P7.out)])
                            have h1 := hsc13.c1
                            have hf1 := hsc13.fr 1
                            go_wp2
                            have hsc14 := hsc13.set (k + 1) (.int .i64 (↑k + 1)) (by go_num)
                            have hbw14 : Below w.heap.size w (w13.setCell ⟨sb, 1, none⟩ (.int .i64 (↑k + 1))) := hbw13.setCell (p := ⟨sb, 1, none⟩) hsbw _
                            go_roundw
                            case rel => exact ⟨k + 1, f, true, rfl, by omega, by omega, HN.out, hsc14, hbw14⟩
                            case measure => unfold preM; simp only []; rw [hpos, hsc14.pos]; omega
end Go.Proofs.YtcmhfcnjfhcpdaaDoor
