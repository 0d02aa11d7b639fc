/- The reference's look at the first code point of UTF-8. -/
import Derived.Test.YtmfifaigphnbmaaF1
namespace Go.Proofs.Ytmfifaigphnbmaa
open Go.RowKit
/-- Ahead of byte i of a code point that wants n bytes behind its first. -/
def RelU (L : List UInt8) (n i : Nat) (s : U8) : Prop := s.ok ∧ 1 ≤ i ∧ i ≤ L.length ∧
  ((i ≤ n ∧ s.w = n + 1 - i ∧ run U8.step U8.zero (nums (L.take i)) = (s, [])) ∨ (i = n + 1 ∧ s.w = 0 ∧ run U8.step U8.zero (nums (L.take i)) = (s, [s.h])))
theorem RelU.next {L : List UInt8} {n i : Nat} {s : U8} (h : RelU L n i s) (hi : i ≤ n) (hl : i < L.length) (hr : s.lo ≤ (L[i].toNat : Int) ∧ (L[i].toNat : Int) ≤ s.hi) :
    RelU L n (i + 1) ⟨64 * s.h + ((L[i].toNat : Int) - 128), s.w - 1, 128, 191⟩ := by
  obtain ⟨hok, h1, _, h3⟩ := h
  rcases h3 with ⟨_, hw, hrun⟩ | ⟨h3, _⟩
  · have hst : s.step (L[i].toNat : Int) = (⟨64 * s.h + ((L[i].toNat : Int) - 128), s.w - 1, 128, 191⟩, if s.w = 1 then [64 * s.h + ((L[i].toNat : Int) - 128)] else []) := by
      rw [U8.step, if_pos (by omega), if_pos hr]
    have hk := U8.step_ok s (L[i].toNat : Int) hok
    rw [hst] at hk
    have hrn : run U8.step U8.zero (nums (L.take (i + 1))) = (⟨64 * s.h + ((L[i].toNat : Int) - 128), s.w - 1, 128, 191⟩, if s.w = 1 then [64 * s.h + ((L[i].toNat : Int) - 128)] else []) := by
      rw [nums_take L i hl, run_snoc, hrun]
      simp only [hst, List.nil_append]
    refine ⟨hk, by omega, by omega, ?_⟩
    by_cases hw1 : s.w = 1
    · rw [if_pos hw1] at hrn
      exact .inr ⟨by omega, by show s.w - 1 = 0; omega, hrn⟩
    · rw [if_neg hw1] at hrn
      exact .inl ⟨by omega, by show s.w - 1 = _; omega, hrn⟩
  · omega
theorem nums_app (a b : List UInt8) : nums (a ++ b) = nums a ++ nums b := by simp [nums]
theorem RelU.split {L : List UInt8} (i : Nat) : tells8 U8.zero (nums L) = (run U8.step U8.zero (nums (L.take i))).2 ++ tells8 (run U8.step U8.zero (nums (L.take i))).1 (nums (L.drop i)) := by
  rw [← tells8_run, ← nums_app, List.take_append_drop]
theorem RelU.done {L : List UInt8} {n i : Nat} {s : U8} (h : RelU L n i s) (hi : ¬ i ≤ n) : i = n + 1 ∧ tells8 U8.zero (nums L) = s.h :: tells8 U8.zero (nums (L.drop i)) := by
  obtain ⟨_, h1, _, h3⟩ := h
  rcases h3 with ⟨h3, _⟩ | ⟨h3, hw, hrun⟩
  · omega
  · refine ⟨h3, ?_⟩
    rw [RelU.split i, hrun, tells8_zero _ s hw]
    rfl
theorem RelU.misfit {L : List UInt8} {n i : Nat} {s : U8} (h : RelU L n i s) (hi : i ≤ n) (hl : i < L.length) (hr : ¬ (s.lo ≤ (L[i].toNat : Int) ∧ (L[i].toNat : Int) ≤ s.hi)) :
    tells8 U8.zero (nums L) = 65533 :: tells8 U8.zero (nums (L.drop i)) := by
  obtain ⟨_, h1, _, h3⟩ := h
  rcases h3 with ⟨_, hw, hrun⟩ | ⟨h3, _⟩
  · rw [RelU.split i, hrun, List.drop_eq_getElem_cons hl, nums_cons, tells8_misfit s _ _ (by omega) hr]
    rfl
  · omega
theorem RelU.short {L : List UInt8} {n i : Nat} {s : U8} (h : RelU L n i s) (hi : i ≤ n) (hl : i = L.length) : tells8 U8.zero (nums L) = 65533 :: tells8 U8.zero (nums (L.drop i)) := by
  obtain ⟨_, h1, _, h3⟩ := h
  rcases h3 with ⟨_, hw, hrun⟩ | ⟨h3, _⟩
  · rw [RelU.split i, hrun, hl, List.drop_length]
    show [] ++ tells8 s [] = _
    rw [tells8_end s (by omega)]
    rfl
  · omega
theorem RelU.first {a : UInt8} {r : List UInt8} {n : Nat} {s : U8} (h : U8.zero.fresh (a.toNat : Int) = (s, [])) (hw : s.w = n) (hn : 1 ≤ n) : RelU (a :: r) n 1 s := by
  have hk := U8.fresh_ok U8.zero (a.toNat : Int) U8.ok_zero rfl
  rw [h] at hk
  refine ⟨hk, by omega, by simp, .inl ⟨hn, by omega, ?_⟩⟩
  show run U8.step U8.zero [(a.toNat : Int)] = _
  simp only [run, step8_clean U8.zero _ rfl, h, List.append_nil]
/-- What bounds a state that still wants. -/
theorem RelU.bounds {L : List UInt8} {n i : Nat} {s : U8} (h : RelU L n i s) (hi : i ≤ n) : 0 ≤ s.h ∧ s.h < 32768 ∧ 128 ≤ s.lo ∧ s.hi ≤ 191 := by
  obtain ⟨⟨k1, k2, k3⟩, h1, _, h3⟩ := h
  rcases h3 with ⟨_, hw, _⟩ | ⟨h3, _⟩
  · have := k3 (by omega)
    omega
  · omega
set_option maxRecDepth 100000 in
set_option maxHeartbeats 2000000 in
theorem utf8_32 (fin : Bool) (oa : Option Addr) (n cap : Nat) (L : List UInt8) (w : World) (hne : L ≠ []) (hn : n = L.length) (hm : n ≤ maxLen) (hR : RdB w oa L) :
    Calls Try.prog 32 #[.slice oa n cap, .bool fin] w fun e w' => Looked (tells8 U8.zero) L fin e ∧ w = w' := by
  unfold maxLen at hm
  obtain ⟨a, r, rfl⟩ := List.exists_cons_of_ne_nil hne
  obtain ⟨ad, rfl, h0⟩ := hR 0 (by simp)
  rw [Addr.add_zero'] at h0
  have h0 : w.cell? ad = some (.int .u8 a.toNat) := h0
  have ha := a.toNat_lt
  have hn1 : 1 ≤ n := by rw [hn]; simp
  have W := wants36 a.toNat w (by omega) (by omega)
  have HN := Go.Lib.hid hn
  clear hn hne
  rcases wantsF_cases (a.toNat : Int) with ⟨h1, h2⟩ | ⟨h1, h2⟩ | ⟨k, hk, h1, h2, _, _⟩
  · have h3 : tells8 U8.zero (nums (a :: r)) = 65533 :: tells8 U8.zero (nums ((a :: r).drop 1)) := by
      rw [nums_cons, tells8_cons, step8_clean _ _ rfl, h2]; rfl
    have H3 := Go.Lib.hid h3
    rw [h1] at W
    clear h1 h2 h3 hR
    go_enter Try.func32, Try.ntmps32
    go_wp2_with (go_at_call 36; (with_reducible refine W.mono ?_); rintro e w1 ⟨rfl, rfl⟩)
    go_ret2
    exact ⟨Looked.some 1 (by omega) (by simp) H3.out, rfl⟩
  · have h3 : tells8 U8.zero (nums (a :: r)) = (a.toNat : Int) :: tells8 U8.zero (nums ((a :: r).drop 1)) := by
      rw [nums_cons, tells8_cons, step8_clean _ _ rfl, h2]; rfl
    have H3 := Go.Lib.hid h3
    rw [h1] at W
    clear h1 h2 h3 hR
    go_enter Try.func32, Try.ntmps32
    go_wp2_with (go_at_call 36; (with_reducible refine W.mono ?_); rintro e w1 ⟨rfl, rfl⟩)
    go_ret2
    exact ⟨Looked.some 1 (by omega) (by simp) H3.out, rfl⟩
  · have hF := RelU.first (r := r) h2 rfl (by omega)
    obtain ⟨lo, hlo⟩ : ∃ lo, (wantsF (a.toNat : Int)).2.1 = lo := ⟨_, rfl⟩
    obtain ⟨hi, hhi⟩ : ∃ hi, (wantsF (a.toNat : Int)).2.2 = hi := ⟨_, rfl⟩
    rw [h1, hlo, hhi] at W
    rw [hlo, hhi] at hF
    clear h1 h2 hlo hhi
    rcases hk with rfl | rfl | rfl
    · go_enter Try.func32, Try.ntmps32
      go_wp2_with (go_at_call 36; (with_reducible refine W.mono ?_); rintro e w1 ⟨rfl, rfl⟩)
      go_loop [7, 8, 9, 10] (fun v7 v8 v9 v10 => ∃ (i : Nat) (s : U8), v10 = .int .i64 i ∧ v7 = .int .u8 s.lo ∧ v8 = .int .u8 s.hi ∧ v9 = .int .i32 s.h ∧ RelU (a :: r) 1 i s) (fun _ _ _ v10 => 5 - (intOf v10).toNat)
      case atStart => exact ⟨1, _, rfl, rfl, rfl, rfl, hF⟩
      case round =>
        obtain ⟨i, s, rfl, rfl, rfl, rfl, hU⟩ := hrel
        have hil : 1 ≤ i ∧ i ≤ n := by rw [HN.out]; exact ⟨hU.2.1, hU.2.2.1⟩
        obtain ⟨hi1, hil⟩ := hil
        by_cases hi : i ≤ 1
        · obtain ⟨b1, b2, b3, b4⟩ := hU.bounds hi
          by_cases hq : i = n
          · have hT := Go.Lib.hid (hU.short hi (hq.trans HN.out))
            have hqb : ((i : Int) == (n : Int)) = true := by rw [beq_iff_eq]; omega
            clear hq hU
            cases fin
            · go_wp2
              go_ret2
              exact ⟨Looked.none _ _, rfl⟩
            · go_wp2
              go_ret2
              exact ⟨Looked.some i (by omega) (by rw [← HN.out]; omega) hT.out, rfl⟩
          · have hlt : i < (a :: r).length := by rw [← HN.out]; omega
            have hlt' : i < n := by omega
            have hqb : ((i : Int) == (n : Int)) = false := by rw [beq_eq_false_iff_ne]; omega
            obtain ⟨ad', h', hc⟩ := hR i hlt
            cases h'
            have hnx := fun hr => hU.next hi hlt hr
            have hmf := fun hr => hU.misfit hi hlt hr
            have hb := (a :: r)[i].toNat_lt
            obtain ⟨c, hcc⟩ : ∃ c : Int, ((a :: r)[i].toNat : Int) = c := ⟨_, rfl⟩
            have c0 : 0 ≤ c := by omega
            have c1 : c < 256 := by omega
            rw [hcc] at hc hnx hmf
            clear hcc hb hq
            by_cases hr : s.lo ≤ c ∧ c ≤ s.hi
            · have hU2 := hnx hr
              obtain ⟨r1, r2⟩ := hr
              have e1 := Go.Lib.hid (show s.h * 64 + c % 64 = 64 * s.h + (c - 128) by omega)
              clear hnx hmf hU
              go_wp2
              go_round
              case rel =>
                refine ⟨i + 1, _, by go_num, rfl, rfl, ?_, hU2⟩
                exact congrArg (Value.int .i32) e1.out
              case measure => simp [intOf]; omega
            · have hT := Go.Lib.hid (hmf hr)
              have hr' : c < s.lo ∨ s.hi < c := by omega
              clear hnx hmf hU hr
              rcases hr' with hr' | hr'
              all_goals
                go_wp2
                all_goals go_ret2
                all_goals exact ⟨Looked.some i (by omega) (by rw [← HN.out]; omega) hT.out, rfl⟩
        · obtain ⟨hie, hT⟩ := hU.done hi
          subst hie
          have HT := Go.Lib.hid hT
          clear hT hU
          go_wp2
          go_ret2
          exact ⟨Looked.some 2 (by omega) (by rw [← HN.out]; omega) HT.out, rfl⟩
    · go_enter Try.func32, Try.ntmps32
      go_wp2_with (go_at_call 36; (with_reducible refine W.mono ?_); rintro e w1 ⟨rfl, rfl⟩)
      go_loop [7, 8, 9, 10] (fun v7 v8 v9 v10 => ∃ (i : Nat) (s : U8), v10 = .int .i64 i ∧ v7 = .int .u8 s.lo ∧ v8 = .int .u8 s.hi ∧ v9 = .int .i32 s.h ∧ RelU (a :: r) 2 i s) (fun _ _ _ v10 => 5 - (intOf v10).toNat)
      case atStart => exact ⟨1, _, rfl, rfl, rfl, rfl, hF⟩
      case round =>
        obtain ⟨i, s, rfl, rfl, rfl, rfl, hU⟩ := hrel
        have hil : 1 ≤ i ∧ i ≤ n := by rw [HN.out]; exact ⟨hU.2.1, hU.2.2.1⟩
        obtain ⟨hi1, hil⟩ := hil
        by_cases hi : i ≤ 2
        · obtain ⟨b1, b2, b3, b4⟩ := hU.bounds hi
          by_cases hq : i = n
          · have hT := Go.Lib.hid (hU.short hi (hq.trans HN.out))
            have hqb : ((i : Int) == (n : Int)) = true := by rw [beq_iff_eq]; omega
            clear hq hU
            cases fin
            · go_wp2
              go_ret2
              exact ⟨Looked.none _ _, rfl⟩
            · go_wp2
              go_ret2
              exact ⟨Looked.some i (by omega) (by rw [← HN.out]; omega) hT.out, rfl⟩
          · have hlt : i < (a :: r).length := by rw [← HN.out]; omega
            have hlt' : i < n := by omega
            have hqb : ((i : Int) == (n : Int)) = false := by rw [beq_eq_false_iff_ne]; omega
            obtain ⟨ad', h', hc⟩ := hR i hlt
            cases h'
            have hnx := fun hr => hU.next hi hlt hr
            have hmf := fun hr => hU.misfit hi hlt hr
            have hb := (a :: r)[i].toNat_lt
            obtain ⟨c, hcc⟩ : ∃ c : Int, ((a :: r)[i].toNat : Int) = c := ⟨_, rfl⟩
            have c0 : 0 ≤ c := by omega
            have c1 : c < 256 := by omega
            rw [hcc] at hc hnx hmf
            clear hcc hb hq
            by_cases hr : s.lo ≤ c ∧ c ≤ s.hi
            · have hU2 := hnx hr
              obtain ⟨r1, r2⟩ := hr
              have e1 := Go.Lib.hid (show s.h * 64 + c % 64 = 64 * s.h + (c - 128) by omega)
              clear hnx hmf hU
              go_wp2
              go_round
              case rel =>
                refine ⟨i + 1, _, by go_num, rfl, rfl, ?_, hU2⟩
                exact congrArg (Value.int .i32) e1.out
              case measure => simp [intOf]; omega
            · have hT := Go.Lib.hid (hmf hr)
              have hr' : c < s.lo ∨ s.hi < c := by omega
              clear hnx hmf hU hr
              rcases hr' with hr' | hr'
              all_goals
                go_wp2
                all_goals go_ret2
                all_goals exact ⟨Looked.some i (by omega) (by rw [← HN.out]; omega) hT.out, rfl⟩
        · obtain ⟨hie, hT⟩ := hU.done hi
          subst hie
          have HT := Go.Lib.hid hT
          clear hT hU
          go_wp2
          go_ret2
          exact ⟨Looked.some 3 (by omega) (by rw [← HN.out]; omega) HT.out, rfl⟩
    · go_enter Try.func32, Try.ntmps32
      go_wp2_with (go_at_call 36; (with_reducible refine W.mono ?_); rintro e w1 ⟨rfl, rfl⟩)
      go_loop [7, 8, 9, 10] (fun v7 v8 v9 v10 => ∃ (i : Nat) (s : U8), v10 = .int .i64 i ∧ v7 = .int .u8 s.lo ∧ v8 = .int .u8 s.hi ∧ v9 = .int .i32 s.h ∧ RelU (a :: r) 3 i s) (fun _ _ _ v10 => 5 - (intOf v10).toNat)
      case atStart => exact ⟨1, _, rfl, rfl, rfl, rfl, hF⟩
      case round =>
        obtain ⟨i, s, rfl, rfl, rfl, rfl, hU⟩ := hrel
        have hil : 1 ≤ i ∧ i ≤ n := by rw [HN.out]; exact ⟨hU.2.1, hU.2.2.1⟩
        obtain ⟨hi1, hil⟩ := hil
        by_cases hi : i ≤ 3
        · obtain ⟨b1, b2, b3, b4⟩ := hU.bounds hi
          by_cases hq : i = n
          · have hT := Go.Lib.hid (hU.short hi (hq.trans HN.out))
            have hqb : ((i : Int) == (n : Int)) = true := by rw [beq_iff_eq]; omega
            clear hq hU
            cases fin
            · go_wp2
              go_ret2
              exact ⟨Looked.none _ _, rfl⟩
            · go_wp2
              go_ret2
              exact ⟨Looked.some i (by omega) (by rw [← HN.out]; omega) hT.out, rfl⟩
          · have hlt : i < (a :: r).length := by rw [← HN.out]; omega
            have hlt' : i < n := by omega
            have hqb : ((i : Int) == (n : Int)) = false := by rw [beq_eq_false_iff_ne]; omega
            obtain ⟨ad', h', hc⟩ := hR i hlt
            cases h'
            have hnx := fun hr => hU.next hi hlt hr
            have hmf := fun hr => hU.misfit hi hlt hr
            have hb := (a :: r)[i].toNat_lt
            obtain ⟨c, hcc⟩ : ∃ c : Int, ((a :: r)[i].toNat : Int) = c := ⟨_, rfl⟩
            have c0 : 0 ≤ c := by omega
            have c1 : c < 256 := by omega
            rw [hcc] at hc hnx hmf
            clear hcc hb hq
            by_cases hr : s.lo ≤ c ∧ c ≤ s.hi
            · have hU2 := hnx hr
              obtain ⟨r1, r2⟩ := hr
              have e1 := Go.Lib.hid (show s.h * 64 + c % 64 = 64 * s.h + (c - 128) by omega)
              clear hnx hmf hU
              go_wp2
              go_round
              case rel =>
                refine ⟨i + 1, _, by go_num, rfl, rfl, ?_, hU2⟩
                exact congrArg (Value.int .i32) e1.out
              case measure => simp [intOf]; omega
            · have hT := Go.Lib.hid (hmf hr)
              have hr' : c < s.lo ∨ s.hi < c := by omega
              clear hnx hmf hU hr
              rcases hr' with hr' | hr'
              all_goals
                go_wp2
                all_goals go_ret2
                all_goals exact ⟨Looked.some i (by omega) (by rw [← HN.out]; omega) hT.out, rfl⟩
        · obtain ⟨hie, hT⟩ := hU.done hi
          subst hie
          have HT := Go.Lib.hid hT
          clear hT hU
          go_wp2
          go_ret2
          exact ⟨Looked.some 4 (by omega) (by rw [← HN.out]; omega) HT.out, rfl⟩
end Go.Proofs.Ytmfifaigphnbmaa
