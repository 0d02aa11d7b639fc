/- The reference's numbers and places. -/
import Derived.Test.YtghhidaihajdmaaDoorS0
namespace Go.Proofs.YtghhidaihajdmaaDoor
open Go.RowKit
theorem dec_step (n : Nat) : Lib.decDigits n = if n < 10 then [UInt8.ofNat (48 + n % 10)] else Lib.decDigits (n / 10) ++ [UInt8.ofNat (48 + n % 10)] := by
  rw [Lib.decDigits]
  split
  · next h => rw [Nat.mod_eq_of_lt h]
  · rfl
theorem dec_len (f : Nat) : ∀ n, n < 10 ^ (f + 1) → (Lib.decDigits n).length ≤ f + 1 := by
  induction f with
  | zero => intro n h; rw [dec_step, if_pos (by omega)]; simp
  | succ f ih =>
    intro n h
    rw [dec_step]
    split
    · simp
    · rw [List.length_append]
      have := ih (n / 10) (by rw [Nat.pow_succ] at h; omega)
      simp
      omega
set_option maxRecDepth 100000 in
theorem told32 (n : Nat) : ∀ (w : World), n < 1000000 → Calls Tryd.prog 32 #[.int .i64 n] w fun e w' => e = .returned (.string (mkS (Lib.decDigits n))) ∧ Below w.heap.size w w' := by
  induction n using Nat.strongRecOn with
  | ind n ih =>
    intro w hn
    have hdg := dec_step n
    have kc : (convert 37 9 (.slice (some ⟨w.heap.size, 0, none⟩) 1 1)).run Tryd.prog (w.alloc (.cells #[.int .u8 (48 + (n : Int) % 10)] 5)) = .ok (.string (mkS [UInt8.ofNat (48 + n % 10)])) (w.alloc (.cells #[.int .u8 (48 + (n : Int) % 10)] 5)) := by
      have hB : BRow (w.alloc (.cells #[.int .u8 (48 + (n : Int) % 10)] 5)) w.heap.size 5 [UInt8.ofNat (48 + n % 10)] [] (0, 0) := ⟨by
        show (w.heap.push _)[w.heap.size]? = some _
        have : (48 + (n : Int) % 10) = (((UInt8.ofNat (48 + n % 10)).toNat : Nat) : Int) := by rw [UInt8.toNat_ofNat']; omega
        rw [this]
        simp [u8s], .inl (by rfl)⟩
      exact hB.back 37 5 1 1 rfl Tryd.underlying37 Tryd.underlying5 9 Tryd.underlying9
    have hb1 : Below w.heap.size w (w.alloc (.cells #[.int .u8 (48 + (n : Int) % 10)] 5)) := (Below.refl _ w).alloc (Nat.le_refl _) _
    by_cases h : n < 10
    · rw [if_pos h] at hdg
      generalize UInt8.ofNat (48 + n % 10) = c at *
      have HD := Go.Lib.hid hdg
      clear hdg ih
      go_enter Tryd.func32, Tryd.ntmps32
      go_wp2
      go_ret
      exact ⟨by rw [HD.out]; rfl, hb1⟩
    · rw [if_neg h] at hdg
      have hl := dec_len 5 (n / 10) (by omega)
      have K := ih (n / 10) (by omega) (w.alloc (.cells #[.int .u8 (48 + (n : Int) % 10)] 5)) (by omega)
      clear ih
      obtain ⟨m, hm⟩ : ∃ m : Nat, (n : Int) / 10 = m := ⟨n / 10, by omega⟩
      have hm2 : n / 10 = m := by omega
      have hm3 : m < 1000000 := by omega
      rw [hm2] at K hl hdg
      obtain ⟨t, ht⟩ : ∃ t, t = mkS (Lib.decDigits m) := ⟨_, rfl⟩
      obtain ⟨u, hu⟩ : ∃ u, u = mkS [UInt8.ofNat (48 + n % 10)] := ⟨_, rfl⟩
      have htz : t.size ≤ 6 := by rw [ht]; exact hl
      have huz : u.size = 1 := by rw [hu]; rfl
      have hcat : mkS (Lib.decDigits n) = t ++ u := by rw [hdg, ht, hu]; unfold mkS; apply ByteArray.ext; simp
      rw [← ht] at K
      rw [← hu] at kc
      have HC := Go.Lib.hid hcat
      clear hcat ht hu hdg hl hm2
      go_enter Tryd.func32, Tryd.ntmps32
      go_wp2_with fail
      refine K.mono ?_
      rintro e w1 ⟨rfl, hb2⟩
      go_wp2
      go_ret
      exact ⟨by rw [HC.out]; rfl, btr hb1 hb2⟩
theorem place17 (n : Int) (h0 : -9223372036854775808 ≤ n) (h1 : n ≤ 9223372036854775807) (w : World) : Calls Tryd.prog 17 #[.int .i64 n] w fun e w' => e = .returned (.tuple #[.string (if -1 ≤ n ∧ n ≤ 99999 then mkS (numL n) else ⟨#[]⟩), .bool (decide (-1 ≤ n ∧ n ≤ 99999))]) ∧ Below w.heap.size w w' := by
  by_cases hm : n = -1
  · subst hm
    go_enter Tryd.func17, Tryd.ntmps17
    go_wp2
    go_ret2
    exact ⟨rfl, Below.refl _ w⟩
  · by_cases hr : 0 ≤ n ∧ n ≤ 99999
    · obtain ⟨k, rfl⟩ : ∃ k : Nat, n = k := ⟨n.toNat, by omega⟩
      have K := told32 k w (by omega)
      rw [if_pos (by omega), show numL (k : Int) = Lib.decDigits k by rw [numL, if_neg hm, Lib.itoa, if_neg (by omega)]; rfl]
      have hd : decide (-1 ≤ (k : Int) ∧ (k : Int) ≤ 99999) = true := by simp; omega
      rw [hd]
      have hk : (k : Int) ≤ 99999 := hr.2
      clear hr hd
      go_enter Tryd.func17, Tryd.ntmps17
      go_wp2_with fail
      refine K.mono ?_
      rintro e w1 ⟨rfl, hb2⟩
      go_wp2
      go_ret2
      exact ⟨rfl, hb2⟩
    · rw [if_neg (by omega)]
      have hd : decide (-1 ≤ n ∧ n ≤ 99999) = false := by simp; omega
      rw [hd]
      have hx : n < 0 ∨ (¬ n < 0 ∧ 99999 < n) := by omega
      clear hr hd
      go_enter Tryd.func17, Tryd.ntmps17
      rcases hx with hx | ⟨hx, hy⟩
      all_goals go_wp2
      all_goals go_ret2
      all_goals exact ⟨rfl, Below.refl _ w⟩
end Go.Proofs.YtghhidaihajdmaaDoor
