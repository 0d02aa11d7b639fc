/- The reference's look at the first code point: walks of wants, unit, utf8, utf16, single. -/
import Derived.Test.YtmfifaigphnbmaaF0
import Derived.Deep.QuietTactic
import Derived.BigQuiet
namespace Go.Proofs.Ytmfifaigphnbmaa
open Go.RowKit
theorem wants36 (c : Int) (w : World) (hc0 : 0 ≤ c) (hc1 : c < 256) : Calls Try.prog 36 #[.int .u8 c] w fun e w' => e = .returned (.tuple #[.int .i64 (wantsF c).1, .int .u8 (wantsF c).2.1, .int .u8 (wantsF c).2.2]) ∧ w = w' := by
  obtain ⟨p, hp⟩ : ∃ p, p = wantsF c := ⟨_, rfl⟩
  rw [← hp]
  have HP := Go.Lib.hid hp
  clear hp
  go_enter Try.func36, Try.ntmps36
  go_wp2
  all_goals go_ret3
  all_goals (have hp := HP.out; clear HP; (try simp only [beq_iff_eq, beq_eq_false_iff_ne, ne_eq] at *); unfold wantsF at hp; repeat' split at hp)
  all_goals first
    | (subst hp; first | exact ⟨rfl, rfl⟩ | exact ⟨rfl, trivial⟩ | rfl)
    | (exfalso; omega)
theorem unit37 (big : Bool) (k : Int) (hk : k = if big then 2 else 1) (oa : Option Addr) (n cap : Nat) (L : List UInt8) (a b : UInt8) (r : List UInt8) (w : World) (hL : L = a :: b :: r) (hn : n = L.length) (hR : RdB w oa L) :
    Calls Try.prog 37 #[.int .i64 k, .slice oa n cap] w fun e w' => e = .returned (.int .i32 (unitOf big a.toNat b.toNat)) ∧ ∃ k, w' = w.drewN k := by
  subst hn hL hk
  obtain ⟨ad, rfl, h0⟩ := hR 0 (by simp)
  obtain ⟨ad', h', h1⟩ := hR 1 (by simp)
  cases h'
  have ha := a.toNat_lt
  have hb := b.toNat_lt
  have h0 : w.cell? (ad.add 0) = some (.int .u8 a.toNat) := h0
  have h1 : w.cell? (ad.add 1) = some (.int .u8 b.toNat) := h1
  have hlen : 1 < (a :: b :: r).length := by simp
  have hz : ad.add 0 = ad := by unfold Addr.add; simp
  rw [hz] at h0
  clear hz
  have h1 : w.cell? ⟨ad.block, ad.off + 1, none⟩ = some (.int .u8 b.toNat) := by simpa [Addr.add] using h1
  have hlen' : (1 : Int) < ((a :: b :: r).length : Int) := by simp; omega
  have hlen0' : (0 : Int) < ((a :: b :: r).length : Int) := by simp; omega
  have hlen0 : 0 < (a :: b :: r).length := by simp
  generalize (a :: b :: r).length = m at *
  clear hR
  cases big
  · show Calls Try.prog 37 #[.int .i64 1, _] _ _
    go_enter Try.func37, Try.ntmps37
    go_wp2
    go_quiet (fail)
    go_wp2
    go_ret
    exact ⟨rfl, _, rfl⟩
  · show Calls Try.prog 37 #[.int .i64 2, _] _ _
    go_enter Try.func37, Try.ntmps37
    go_wp2
    go_quiet (fail)
    go_wp2
    go_ret
    exact ⟨rfl, _, rfl⟩

/-- An answer of the reference's look. -/
def Looked (T : List Int → List Int) (L : List UInt8) (fin : Bool) (e : Ending) : Prop := ∃ (r : Int) (m : Nat), e = .returned (.tuple #[.int .i32 r, .int .i64 m]) ∧ Got T L fin r m
theorem Looked.none (T : List Int → List Int) (L : List UInt8) : Looked T L false (.returned (.tuple #[.int .i32 0, .int .i64 0])) := ⟨0, 0, rfl, .inl ⟨rfl, rfl⟩⟩
theorem Looked.some {T : List Int → List Int} {L : List UInt8} {fin : Bool} {r : Int} (m : Nat) (h0 : 0 < m) (h1 : m ≤ L.length) (h : T (nums L) = r :: T (nums (L.drop m))) : Looked T L fin (.returned (.tuple #[.int .i32 r, .int .i64 m])) := ⟨r, m, rfl, .inr ⟨h0, h1, h⟩⟩
theorem unitOf_range (big : Bool) (a b : UInt8) : 0 ≤ unitOf big a.toNat b.toNat ∧ unitOf big a.toNat b.toNat < 65536 := by
  have ha := a.toNat_lt
  have hb := b.toNat_lt
  cases big <;> simp [unitOf] <;> omega
theorem RdB.cut {w : World} {oa : Option Addr} {L : List UInt8} (h : RdB w oa L) (k : Nat) : RdB w (oa.map (·.add k)) (L.drop k) := fun j hj => by
  rw [List.length_drop] at hj
  obtain ⟨ad, rfl, hc⟩ := h (k + j) (by omega)
  refine ⟨_, rfl, ?_⟩
  rw [show (ad.add k).add j = ad.add (k + j) by unfold Addr.add; by_cases hk : k = 0 <;> by_cases hj : j = 0 <;> simp [hk, hj, Nat.add_assoc], hc]
  simp
theorem RdB.cut_at {w : World} {ad : Addr} {L : List UInt8} (h : RdB w (some ad) L) (k : Nat) (hk : 0 < k) : RdB w (some ⟨ad.block, ad.off + k, none⟩) (L.drop k) := by
  have := h.cut k
  rwa [Option.map_some, show ad.add k = ⟨ad.block, ad.off + k, none⟩ by unfold Addr.add; rw [if_neg (by omega)]] at this
theorem nums_cons (a : UInt8) (r : List UInt8) : nums (a :: r) = (a.toNat : Int) :: nums r := rfl
theorem fresh16_low (u : Int) (h : 56320 ≤ u ∧ u ≤ 57343) : U16.fresh u = (U16.zero, [65533]) := by unfold U16.fresh; rw [if_pos h]; rfl
theorem fresh16_lead (u : Int) (h1 : 55296 ≤ u) (h2 : u ≤ 56319) : U16.fresh u = (⟨-1, u⟩, []) := by unfold U16.fresh; rw [if_neg (by omega), if_pos ⟨h1, h2⟩]
theorem fresh16_plain (u : Int) (h : u < 55296 ∨ 57343 < u) : U16.fresh u = (U16.zero, [u]) := by unfold U16.fresh; rw [if_neg (by omega), if_neg (by omega)]; rfl
set_option maxHeartbeats 1000000 in
theorem utf16_33 (big : Bool) (k : Int) (hk : k = if big then 2 else 1) (fin : Bool) (oa : Option Addr) (n cap : Nat) (L : List UInt8) (w : World) (hne : L ≠ []) (hn : n = L.length) (hcap : n ≤ cap) (hm : n ≤ maxLen) (hR : RdB w oa L) :
    Calls Try.prog 33 #[.int .i64 k, .slice oa n cap, .bool fin] w fun e w' => Looked (tells16 big U16.zero) L fin e ∧ ∃ j, w' = w.drewN j := by
  unfold maxLen at hm
  match L, hne with
  | [a], _ =>
    have h1 : tells16 big U16.zero (nums [a]) = 65533 :: tells16 big U16.zero (nums ([a].drop 1)) := by
      rw [nums_cons, show nums [] = [] from rfl, show U16.zero = ⟨-1, -1⟩ from rfl, tells16_half big _ _ (by omega)]; rfl
    have H := Go.Lib.hid h1
    obtain rfl : n = 1 := hn
    clear h1 hk hR
    cases fin
    · go_enter Try.func33, Try.ntmps33
      go_wp2
      go_ret2
      exact ⟨Looked.none _ _, 0, rfl⟩
    · go_enter Try.func33, Try.ntmps33
      go_wp2
      go_ret2
      exact ⟨Looked.some 1 (by omega) (by simp) H.out, 0, rfl⟩
  | a :: b :: r, _ =>
    have U := unit37 big k hk oa n cap _ a b r w rfl hn hR
    obtain ⟨u0, u1⟩ := unitOf_range big a b
    have h2 := tells16_two big a.toNat b.toNat (nums r) (by omega)
    have hn2 : 2 ≤ n := by rw [hn]; simp
    have HN := Go.Lib.hid hn
    clear hn
    generalize unitOf big a.toNat b.toNat = u at *
    by_cases hA : 56320 ≤ u ∧ u ≤ 57343
    · rw [fresh16_low u hA] at h2
      have H2 := Go.Lib.hid h2
      obtain ⟨hA1, hA2⟩ := hA
      clear h2 hk hR
      go_enter Try.func33, Try.ntmps33
      go_wp2_with (go_at_call 37; (with_reducible refine U.mono ?_); rintro e w1 ⟨rfl, j, rfl⟩)
      go_ret2
      exact ⟨Looked.some 2 (by omega) (by simp) H2.out, _, rfl⟩
    by_cases hB : 55296 ≤ u ∧ u ≤ 56319
    · obtain ⟨hB1, hB2⟩ := hB
      rw [fresh16_lead u hB1 hB2] at h2
      have h56 : ¬ 56320 ≤ u := by omega
      clear hA
      match r with
      | [] =>
        have h3 : tells16 big U16.zero (nums [a, b]) = 65533 :: tells16 big U16.zero (nums ([a, b].drop 2)) := by
          rw [nums_cons, nums_cons, h2]
          show tells16 big ⟨-1, u⟩ [] = _
          rw [tells16_nil, U16.fin, if_pos (.inr (by show 0 ≤ u; omega))]; rfl
        have H3 := Go.Lib.hid h3
        obtain rfl : n = 2 := HN.out
        clear h3 h2 hk hR
        cases fin
        · go_enter Try.func33, Try.ntmps33
          go_wp2_with (go_at_call 37; (with_reducible refine U.mono ?_); rintro e w1 ⟨rfl, j, rfl⟩)
          go_ret2
          exact ⟨Looked.none _ _, _, rfl⟩
        · go_enter Try.func33, Try.ntmps33
          go_wp2_with (go_at_call 37; (with_reducible refine U.mono ?_); rintro e w1 ⟨rfl, j, rfl⟩)
          go_ret2
          exact ⟨Looked.some 2 (by omega) (by simp) H3.out, _, rfl⟩
      | [c] =>
        have h3 : tells16 big U16.zero (nums [a, b, c]) = 65533 :: tells16 big U16.zero (nums ([a, b, c].drop 3)) := by
          rw [nums_cons, nums_cons, h2]
          show tells16 big ⟨-1, u⟩ [(c.toNat : Int)] = _
          rw [tells16_half big _ _ (by omega)]; rfl
        have H3 := Go.Lib.hid h3
        obtain rfl : n = 3 := HN.out
        clear h3 h2 hk hR
        cases fin
        · go_enter Try.func33, Try.ntmps33
          go_wp2_with (go_at_call 37; (with_reducible refine U.mono ?_); rintro e w1 ⟨rfl, j, rfl⟩)
          go_ret2
          exact ⟨Looked.none _ _, _, rfl⟩
        · go_enter Try.func33, Try.ntmps33
          go_wp2_with (go_at_call 37; (with_reducible refine U.mono ?_); rintro e w1 ⟨rfl, j, rfl⟩)
          go_ret2
          exact ⟨Looked.some 3 (by omega) (by simp) H3.out, _, rfl⟩
      | c :: d :: r2 =>
        obtain ⟨ad, rfl⟩ : ∃ ad, oa = some ad := by
          obtain ⟨ad, h, _⟩ := hR 0 (by simp)
          exact ⟨ad, h⟩
        have V := fun (w1 : World) (j : Nat) (hw : w1 = w.drewN j) => unit37 big k hk (some ⟨ad.block, ad.off + 2, none⟩) (n - 2) (cap - 2) (c :: d :: r2) c d r2 w1 rfl (by rw [HN.out]; rfl) (by subst hw; exact hR.cut_at 2 (by omega))
        obtain ⟨v0, v1⟩ := unitOf_range big c d
        have h4 := tells16_lead big u c.toNat d.toNat (nums r2) (by omega) (by omega)
        generalize unitOf big c.toNat d.toNat = v at *
        have hn4 : 4 ≤ n := by rw [HN.out]; simp
        have hcap2 : ¬ cap = 2 := by omega
        clear hR hk
        by_cases hv : 56320 ≤ v ∧ v ≤ 57343
        · rw [if_pos hv] at h4
          have H4 := Go.Lib.hid (show tells16 big U16.zero (nums (a :: b :: c :: d :: r2)) = (65536 + 1024 * (u - 55296) + v - 56320) :: tells16 big U16.zero (nums r2) by rw [Int.mul_comm 1024]; exact h2.trans h4)
          obtain ⟨hv1, hv2⟩ := hv
          clear h2 h4
          go_enter Try.func33, Try.ntmps33
          go_wp2_with (first | (go_at_call 37; (with_reducible refine U.mono ?_); rintro e w1 ⟨rfl, j, rfl⟩) | (go_at_call 37; (with_reducible refine (V _ _ rfl).mono ?_); rintro e w1 ⟨rfl, j2, rfl⟩))
          go_ret2
          exact ⟨Looked.some 4 (by omega) (by simp) H4.out, _, rfl⟩
        · rw [if_neg hv] at h4
          have H4 := Go.Lib.hid (h2.trans h4)
          have hv' : v < 56320 ∨ 57343 < v := by omega
          clear h2 h4 hv
          rcases hv' with h | h
          all_goals
            go_enter Try.func33, Try.ntmps33
            go_wp2_with (first | (go_at_call 37; (with_reducible refine U.mono ?_); rintro e w1 ⟨rfl, j, rfl⟩) | (go_at_call 37; (with_reducible refine (V _ _ rfl).mono ?_); rintro e w1 ⟨rfl, j2, rfl⟩))
            go_ret2
            exact ⟨Looked.some 2 (by omega) (by simp) H4.out, _, rfl⟩
    · rw [fresh16_plain u (by omega)] at h2
      have H2 := Go.Lib.hid h2
      have hA' : u < 55296 ∨ 57343 < u := by omega
      clear h2 hk hR hA hB
      rcases hA' with h | h
      all_goals
        go_enter Try.func33, Try.ntmps33
        go_wp2_with (go_at_call 37; (with_reducible refine U.mono ?_); rintro e w1 ⟨rfl, j, rfl⟩)
        go_ret2
        exact ⟨Looked.some 2 (by omega) (by simp) H2.out, _, rfl⟩
end Go.Proofs.Ytmfifaigphnbmaa
