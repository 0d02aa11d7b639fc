/- The reference's small functions over bytes: blanks, small letters, does a text begin, behind blanks, behind a byte. -/
import Derived.Test.YtcmhfcnjfhcpdaaDoorC4
import Derived.IntWalk
namespace Go.Proofs.YtcmhfcnjfhcpdaaDoor
open Go.RowKit
theorem refblank26 (c : UInt8) (w : World) : Calls Tryd.prog 26 #[.int .u8 c.toNat] w fun e w' => e = .returned (.bool (isBl c)) ∧ w' = w := by
  have key : ∀ d : Fin 256, (isBl (UInt8.ofNat d.val) = true ↔ (d.val = 9 ∨ d.val = 10 ∨ d.val = 12 ∨ d.val = 13 ∨ d.val = 32)) := by decide +kernel
  have hk := key ⟨c.toNat, c.toNat_lt⟩
  simp only [UInt8.ofNat_toNat] at hk
  have HK := Go.Lib.hid hk
  clear hk key
  generalize isBl c = b at *
  generalize c.toNat = n at *
  go_enter Tryd.func26, Tryd.ntmps26
  go_wp2
  all_goals
    go_ret
    refine ⟨ret_bool ?_, rfl⟩
    rw [Bool.eq_iff_iff, HK.out]
    first | (exact ⟨fun _ => by omega, fun _ => rfl⟩) | (simp only [Bool.or_eq_true, beq_iff_eq]; omega)
theorem refsmall44 (c : UInt8) (w : World) : Calls Tryd.prog 44 #[.int .u8 c.toNat] w fun e w' => e = .returned (.int .u8 (lowB c).toNat) ∧ w' = w := by
  have hl := lowB_at c
  have HL := Go.Lib.hid hl
  have hb := c.toNat_lt
  clear hl
  generalize lowB c = d at *
  generalize c.toNat = n at *
  go_enter Tryd.func44, Tryd.ntmps44
  go_wp2
  all_goals
    go_ret
    refine ⟨ret_int ?_, rfl⟩
    rw [HL.out]
    first | (rw [if_pos (by omega)]; omega) | (rw [if_neg (by omega)])
theorem run_stop (p : UInt8 → Bool) (L : List UInt8) (k : Nat) (hk : k < L.length) (h : p L[k] = false) : run p L k = k := by
  unfold run
  rw [List.drop_eq_getElem_cons hk, List.takeWhile_cons, h]
  rfl
theorem run_step (p : UInt8 → Bool) (L : List UInt8) (k : Nat) (hk : k < L.length) (h : p L[k] = true) : run p L k = run p L (k + 1) := by
  unfold run
  rw [List.drop_eq_getElem_cons hk, List.takeWhile_cons, h, if_pos rfl, List.length_cons]
  omega
theorem run_len (p : UInt8 → Bool) (L : List UInt8) (k : Nat) (hk : L.length ≤ k) : run p L k = k := by
  unfold run
  rw [List.drop_of_length_le hk]
  rfl
/-- The bytes L lie in a block from its head on. -/
def Bts (w : World) (g : Nat) (L : List UInt8) : Prop := ∀ j (h : j < L.length), w.cell? ⟨g, j, none⟩ = some (.int .u8 (L[j]).toNat)
theorem Bts.drewN {w : World} {g : Nat} {L : List UInt8} (h : Bts w g L) (n : Nat) : Bts (w.drewN n) g L := h
def behF (L : List UInt8) (i : Nat) (q : UInt8) : Int := if run (· != q) L i < L.length then (run (· != q) L i : Int) + 1 else -1
theorem behind25 (g c : Nat) (L : List UInt8) (i : Nat) (q : UInt8) (w : World) (hi : i ≤ L.length) (hm : L.length ≤ 140737488351232) (hb : Bts w g L) :
    Calls Tryd.prog 25 #[.slice (some ⟨g, 0, none⟩) L.length c, .int .i64 i, .int .u8 q.toNat] w fun e w' => e = .returned (.int .i64 (behF L i q)) ∧ w' = w := by
  go_enter Tryd.func25, Tryd.ntmps25
  go_wp2
  go_loop [7] (fun v7 => ∃ k : Nat, k ≤ L.length ∧ v7 = .int .i64 k ∧ Go.RowKit.Hid (run (· != q) L k = run (· != q) L i)) (fun v7 => L.length - (intOf v7).toNat)
  case atStart => exact ⟨i, hi, rfl, rfl⟩
  case round =>
    obtain ⟨k, hk, rfl, hr⟩ := hrel
    by_cases hlt : k < L.length
    · have hc := hb k hlt
      have hq := beq_toNat L[k] q
      cases hx : (L[k] == q) with
      | true =>
        rw [hx] at hq
        have HR := Go.Lib.hid (show behF L i q = (k : Int) + 1 by
          have h2 := run_stop (· != q) L k hlt (by simpa using hx)
          rw [behF, ← hr.out, h2, if_pos hlt])
        clear hx
        go_wp2
        go_ret
        exact ⟨ret_int HR.out.symm, rfl⟩
      | false =>
        rw [hx] at hq
        have HR := Go.Lib.hid ((run_step (· != q) L k hlt (by simpa using hx)).symm.trans hr.out)
        clear hx
        go_wp2
        go_round
        case rel => exact ⟨k + 1, by omega, by go_num, HR⟩
        case measure => simp [intOf]; omega
    · obtain rfl : k = L.length := by omega
      have HR := Go.Lib.hid (show behF L i q = -1 by rw [behF, ← hr.out, run_len _ _ _ (Nat.le_refl _), if_neg (by omega)])
      go_wp2
      go_ret
      exact ⟨ret_int HR.out.symm, rfl⟩
theorem pass24 (g c : Nat) (L : List UInt8) (i : Nat) (w : World) (hi : i ≤ L.length) (hm : L.length ≤ 140737488351232) (hb : Bts w g L) :
    Calls Tryd.prog 24 #[.slice (some ⟨g, 0, none⟩) L.length c, .int .i64 i, .bool false] w fun e w' => e = .returned (.int .i64 (run isBl L i)) ∧ w' = w := by
  go_enter Tryd.func24, Tryd.ntmps24
  go_wp2
  go_loop [1] (fun v1 => ∃ k : Nat, k ≤ L.length ∧ v1 = .int .i64 k ∧ Go.RowKit.Hid (run isBl L k = run isBl L i)) (fun v1 => L.length - (intOf v1).toNat)
  case atStart => exact ⟨i, hi, rfl, rfl⟩
  case round =>
    obtain ⟨k, hk, rfl, hr⟩ := hrel
    by_cases hlt : k < L.length
    · have hc := hb k hlt
      have B := refblank26 L[k]
      cases hx : isBl L[k] with
      | true =>
        rw [hx] at B
        have HR := Go.Lib.hid ((run_step isBl L k hlt hx).symm.trans hr.out)
        clear hx
        go_wp2_with (go_at_call 26; refine (B _).mono ?_; rintro e w1 ⟨rfl, rfl⟩)
        go_round
        case rel => exact ⟨k + 1, by omega, by go_num, HR⟩
        case measure => simp [intOf]; omega
      | false =>
        rw [hx] at B
        have HR := Go.Lib.hid (show run isBl L i = k by rw [← hr.out, run_stop isBl L k hlt hx])
        clear hx
        go_wp2_with (go_at_call 26; refine (B _).mono ?_; rintro e w1 ⟨rfl, rfl⟩)
        go_ret
        exact ⟨ret_int (by rw [HR.out]), rfl⟩
    · obtain rfl : k = L.length := by omega
      have HR := Go.Lib.hid (show run isBl L i = L.length by rw [← hr.out, run_len _ _ _ (Nat.le_refl _)])
      go_wp2
      go_ret
      exact ⟨ret_int (by rw [HR.out]), rfl⟩
theorem Drn.then {w w' : World} (h : Drn w w') (n : Nat) : Drn w (w'.drewN n) := by
  obtain ⟨m, rfl⟩ := h
  exact ⟨m + n, World.drewN_drewN ..⟩
theorem pre_step (X Y : List UInt8) (x y : UInt8) (h : x = y) : Lib.hasPrefix (x :: X) (y :: Y) = Lib.hasPrefix X Y := by rw [pre_cons, h, beq_self_eq_true, Bool.true_and]
theorem pre_short (X Y : List UInt8) (h : X.length < Y.length) : Lib.hasPrefix X Y = false := by
  rw [Bool.eq_false_iff]
  intro h1
  have := hasPrefix_len h1
  omega
set_option maxHeartbeats 1000000 in
theorem begins23 (g c : Nat) (L : List UInt8) (i : Nat) (S : ByteArray) (w : World) (hi : i ≤ L.length) (hm : L.length ≤ 140737488351232) (hS : S.size ≤ 1000) (hb : Bts w g L) :
    Calls Tryd.prog 23 #[.slice (some ⟨g, 0, none⟩) L.length c, .int .i64 i, .string S] w fun e w' => e = .returned (.bool (Lib.hasPrefix ((low L).drop i) S.data.toList)) ∧ Drn w w' := by
  have hdl := dlen S
  have hll := low_len L
  by_cases hsh : L.length - i < S.size
  · have HF := Go.Lib.hid (pre_short ((low L).drop i) S.data.toList (by rw [List.length_drop, hll, hdl]; exact hsh))
    have h1 : decide ((L.length : Int) - i < S.size) = true := decide_eq_true (by omega)
    clear hsh hdl hll
    go_enter Tryd.func23, Tryd.ntmps23
    go_wp2
    go_ret
    exact ⟨ret_bool HF.out.symm, 0, rfl⟩
  · have h1 : decide ((L.length : Int) - i < S.size) = false := decide_eq_false (by omega)
    have hle : i + S.size ≤ L.length := by omega
    have HD := Go.Lib.hid hdl
    have HL := Go.Lib.hid hll
    clear hsh hdl hll
    go_enter Tryd.func23, Tryd.ntmps23
    go_wp2
    clear h1
    go_loopw [7] (fun v7 wr => ∃ k : Nat, k ≤ S.size ∧ v7 = .int .i64 k ∧ Drn w wr ∧ Go.RowKit.Hid (Lib.hasPrefix ((low L).drop (i + k)) (S.data.toList.drop k) = Lib.hasPrefix ((low L).drop i) S.data.toList)) (fun v7 _ => S.size - (intOf v7).toNat)
    case atStart => exact ⟨0, Nat.zero_le _, rfl, ⟨0, rfl⟩, rfl⟩
    case round =>
      obtain ⟨k, hk, rfl, hd, hr⟩ := hrel
      have hbr : Bts wr g L := by obtain ⟨n0, rfl⟩ := hd; exact hb
      by_cases hlt : k < S.size
      · have hik : i + k < L.length := by omega
        have hc := hbr (i + k) hik
        have e1 : (low L).drop (i + k) = lowB L[i + k] :: (low L).drop (i + (k + 1)) := by
          rw [List.drop_eq_getElem_cons (by rw [HL.out]; exact hik)]
          simp [low, Nat.add_assoc]
        have e2 : S.data.toList.drop k = S[k] :: S.data.toList.drop (k + 1) := by
          rw [List.drop_eq_getElem_cons (by rw [HD.out]; exact hlt)]
          rfl
        have HR := hr.out
        rw [e1, e2] at HR
        have SM := refsmall44 L[i + k]
        have hq : (((lowB L[i + k]).toNat : Int) == ((S[k]).toNat : Int)) = (lowB L[i + k] == S[k]) := beq_toNat _ _
        have i0 : (0 : Int) ≤ (i : Int) + k := by omega
        have i1 : (i : Int) + k < L.length := by omega
        have i2 : ((i : Int) + k).toNat = i + k := by omega
        have i3 : (0 : Int) ≤ k := by omega
        have i4 : (k : Int) < S.size := by omega
        have i5 : IntKind.i64.wrap ((i : Int) + k) = (i : Int) + k := IntWalk.i64_in _ (by omega)
        cases hx : (lowB L[i + k] == S[k]) with
        | true =>
          rw [hx] at hq
          have hq2 : (((lowB L[i + k]).toNat : Int) != ((S[k]).toNat : Int)) = false := by rw [bne, hq]; rfl
          rw [pre_step _ _ _ _ (by simpa using hx)] at HR
          have HR2 := Go.Lib.hid HR
          clear hx HR e1 e2 hr
          go_wp2
          go_quiet ((go_at_call 44; exact Calls.quiet_of_same (SM _)))
          go_wp2
          go_roundw
          case rel => exact ⟨k + 1, by omega, by go_num, Drn.then hd nq, HR2⟩
          case measure => simp [intOf]; omega
        | false =>
          rw [hx] at hq
          have hq2 : (((lowB L[i + k]).toNat : Int) != ((S[k]).toNat : Int)) = true := by rw [bne, hq]; rfl
          rw [pre_cons, hx, Bool.false_and] at HR
          have HR2 := Go.Lib.hid HR
          clear hx HR e1 e2 hr
          go_wp2
          go_quiet ((go_at_call 44; exact Calls.quiet_of_same (SM _)))
          go_wp2
          go_ret
          exact ⟨ret_bool HR2.out, Drn.then hd nq⟩
      · obtain rfl : k = S.size := by omega
        have HR := Go.Lib.hid (show Lib.hasPrefix ((low L).drop i) S.data.toList = true by rw [← hr.out, show S.data.toList.drop S.size = [] from List.drop_of_length_le (by rw [HD.out]; exact Nat.le_refl _), pre_nil])
        go_wp2
        go_ret
        exact ⟨ret_bool HR.out.symm, hd⟩
end Go.Proofs.YtcmhfcnjfhcpdaaDoor
