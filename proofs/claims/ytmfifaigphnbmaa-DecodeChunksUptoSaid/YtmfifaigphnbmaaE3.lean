/- The walk of the law that each byte that can't be is one mark. -/
import Derived.Test.YtmfifaigphnbmaaE2
namespace Go.Proofs.Ytmfifaigphnbmaa
open Go.RowKit
/-- The byte that the law takes. -/
def mkB (b : UInt8) : UInt8 := if b % 3 = 0 then 0xF5 + b % 11 else 0x80 + b % 0x40
def marks (l : List UInt8) : List UInt8 := l.flatMap fun b => [mkB b, 97]
theorem marks_snoc (l : List UInt8) (b : UInt8) : marks (l ++ [b]) = marks l ++ [mkB b, 97] := by simp [marks]
theorem marks_length (l : List UInt8) : (marks l).length = 2 * l.length := by
  induction l with
  | nil => rfl
  | cons b r ih => simp only [marks, List.flatMap_cons, List.length_append, List.length_cons, List.length_nil] at *; omega
theorem bytes_all' (p : UInt8 → Bool) (h : (List.range 256).all (fun n => p (UInt8.ofNat n)) = true) (c : UInt8) : p c = true := by
  have := List.all_eq_true.1 h c.toNat (by simp [List.mem_range]; exact c.toNat_lt)
  simpa using this
theorem mkB_range (b : UInt8) : 128 ≤ (mkB b).toNat ∧ (mkB b).toNat ≤ 191 ∨ 245 ≤ (mkB b).toNat := by
  have := bytes_all' (fun b => decide (128 ≤ (mkB b).toNat ∧ (mkB b).toNat ≤ 191 ∨ 245 ≤ (mkB b).toNat)) (by decide +kernel) b
  exact of_decide_eq_true this
theorem mkB_yes (b : UInt8) (h : ((b.toNat : Int) % 3 == 0) = true) : 245 + (b.toNat : Int) % 11 = ((mkB b).toNat : Int) := by
  have := bytes_all' (fun b => !((b.toNat : Int) % 3 == 0) || (245 + (b.toNat : Int) % 11 == ((mkB b).toNat : Int))) (by decide +kernel) b
  rw [h] at this
  simpa using this
theorem mkB_no (b : UInt8) (h : ((b.toNat : Int) % 3 == 0) = false) : 128 + (b.toNat : Int) % 64 = ((mkB b).toNat : Int) := by
  have := bytes_all' (fun b => ((b.toNat : Int) % 3 == 0) || (128 + (b.toNat : Int) % 64 == ((mkB b).toNat : Int))) (by decide +kernel) b
  rw [h] at this
  simpa using this
theorem fresh_mark (c : Int) (h : 128 ≤ c ∧ c ≤ 191 ∨ 245 ≤ c) (s : U8) : s.fresh c = (s, [65533]) := by
  unfold U8.fresh
  repeat' split
  all_goals first
    | rfl
    | (exfalso; omega)
theorem told8_marks (l : List UInt8) : told8 (marks l) = l.flatMap fun _ => [65533, 97] := by
  have key : run U8.step U8.zero (nums (marks l)) = (U8.zero, l.flatMap fun _ => [65533, 97]) := by
    induction l with
    | nil => rfl
    | cons b r ih =>
      have h1 : U8.zero.step ((mkB b).toNat : Int) = (U8.zero, [65533]) := by
        have := mkB_range b
        rw [U8.step, if_neg (by simp [U8.zero]), fresh_mark _ (by omega)]
      have h2 : U8.zero.step 97 = (U8.zero, [97]) := rfl
      have h3 : nums (marks (b :: r)) = ((mkB b).toNat : Int) :: 97 :: nums (marks r) := by simp [marks, nums]
      rw [h3]
      simp only [run, h1, h2, ih, List.flatMap_cons, List.cons_append, List.nil_append]
  rw [told8, key]
  simp [U8.fin, U8.zero]
theorem marks_even (l : List UInt8) (m : Nat) (h : m < l.length) : (l.flatMap fun _ => [(65533 : Int), 97])[2 * m]? = some 65533 ∧ (l.flatMap fun _ => [(65533 : Int), 97])[2 * m + 1]? = some 97 := by
  induction l generalizing m with
  | nil => cases h
  | cons b r ih =>
    cases m with
    | zero => simp
    | succ m =>
      have := ih m (by simpa using h)
      simp only [List.flatMap_cons, List.cons_append, List.nil_append]
      rw [show 2 * (m + 1) = 2 * m + 1 + 1 from by omega]
      simpa using this
theorem two_length (K : List UInt8) : (K.flatMap fun _ => [(65533 : Int), 97]).length = 2 * K.length := by
  induction K with
  | nil => rfl
  | cons b r ih => simp only [List.flatMap_cons, List.length_append, List.length_cons, List.length_nil] at *; omega
theorem Try.info5 : (Try.prog.info? 5).map (fun i => (i.zero, i.size, i.bytes)) = some (some (.int .u8 0), 1, 1) := by kernel_rfl
theorem u8_one (l : List UInt8) : ∀ u ∈ u8s l, u.oneCell' = true := by
  intro u hu
  obtain ⟨x, _, rfl⟩ := List.mem_map.1 hu
  rfl
set_option maxRecDepth 100000 in
set_option maxHeartbeats 1000000 in
theorem marks8 (oa : Option Addr) (n cap : Nat) (L : List UInt8) (w : World) (hn : n = L.length) (hL : n ≤ maxLen) (hR : RdB w oa L) :
    Calls Try.prog 8 #[.slice oa n cap] w fun e w' => e = .returned (.bool true) ∧ Below w.heap.size w w' := by
  subst hn
  unfold maxLen at hL
  go_enter Try.func8, Try.ntmps8
  go_wp2
  go_loopw [3, 4, 5] (fun v3 v4 _ wr => ∃ k : Nat, k ≤ L.length ∧ k ≤ 1000 ∧ v4 = .int .i64 k ∧ wr.ownsRow w.heap.size 5 1 v3 (2 * k) (u8s (marks (L.take k))) ∧ Below w.heap.size w wr) (fun _ v4 _ _ => L.length - (intOf v4).toNat)
  case atStart => exact ⟨0, Nat.zero_le _, by omega, rfl, own_nil _ _ _ _, Below.refl _ _⟩
  case round =>
    obtain ⟨k, hk, hk2, rfl, ho, hB⟩ := hrel
    by_cases hlt : k < L.length ∧ k < 1000
    · obtain ⟨hlt, hlt2⟩ := hlt
      obtain ⟨ad, rfl, hc⟩ := (hR.below hB) k hlt
      have hb := L[k].toNat_lt
      have hs := Go.Lib.hid (show marks (L.take (k + 1)) = marks (L.take k) ++ [mkB L[k], 97] by rw [List.take_succ_eq_append_getElem hlt, marks_snoc])
      have hy := mkB_yes L[k]
      have hno := mkB_no L[k]
      generalize L[k] = b at *
      obtain ⟨x, hx⟩ : ∃ x, x = mkB b := ⟨_, rfl⟩
      rw [← hx] at hy hno
      rw [← hx] at hs
      clear hx
      have hwb := hB.size
      have hA := fun (W : World) (hW : W = wr.alloc (.cells #[.int .u8 x.toNat, .int .u8 97] 5)) (j : Nat) (u : Value) (hu : [Value.int .u8 x.toNat, Value.int .u8 97][j]? = some u) => show ∃ ad, some (⟨wr.heap.size, 0, none⟩ : Addr) = some ad ∧ W.cell? (ad.add j) = some u from by
        subst hW
        refine ⟨_, rfl, ?_⟩
        match j, hu with
        | 0, hu => rw [← hu]; exact blk_cells (at_new wr (.cells #[.int .u8 x.toNat, .int .u8 97] 5) _ rfl) 0
        | 1, hu => rw [← hu]; exact blk_cells (at_new wr (.cells #[.int .u8 x.toNat, .int .u8 97] 5) _ rfl) 1
      have h1' : ∀ u ∈ [Value.int .u8 x.toNat, Value.int .u8 97], u.oneCell' = true := by intro u hu; simp at hu; rcases hu with rfl | rfl <;> rfl
      obtain ⟨oa3, c3, rfl⟩ := own_slice ho
      have HO := ho.alloc (.cells #[.int .u8 x.toNat, .int .u8 97] 5)
      have HB := hB.alloc hwb (.cells #[.int .u8 x.toNat, .int .u8 97] 5)
      have hbs : w.heap.size ≤ (wr.alloc (.cells #[.int .u8 x.toNat, .int .u8 97] 5)).heap.size := by simp; omega
      have hrd := hA _ rfl
      have hl2 : (2 * k + 2) * 1 ≤ 140737488355328 := by omega
      have fin : ∀ (v1 : Value) (w4 : World), w4.ownsRow w.heap.size 5 1 v1 (2 * k + 2) (u8s (marks (L.take k)) ++ [.int .u8 x.toNat, .int .u8 97]) → w4.ownsRow w.heap.size 5 1 v1 (2 * (k + 1)) (u8s (marks (L.take (k + 1)))) := by
        intro v1 w4 h
        rw [hs.out]
        simpa [u8s, Nat.mul_add] using h
      clear hA ho hs
      cases h3 : ((b.toNat : Int) % 3 == 0)
      · have hq := hno h3
        clear hy hno
        go_wp2_with (at_builtin; refine step_append_slice (w0 := w) rfl w.heap.size _ _ _ _ (.int .u8 0) 1 1 rfl Try.underlying22 Try.info5 rfl (by decide) (by decide) _ _ _ _ _ _ _ rfl rfl rfl hrd h1' HO HB hbs hl2 ?_; intro v1 w4 hown hb4)
        go_roundw
        case rel => exact ⟨k + 1, by omega, by omega, by go_num, fin _ _ hown, hb4⟩
        case measure => simp [intOf]; omega
      · have hq := hy h3
        clear hy hno
        go_wp2_with (at_builtin; refine step_append_slice (w0 := w) rfl w.heap.size _ _ _ _ (.int .u8 0) 1 1 rfl Try.underlying22 Try.info5 rfl (by decide) (by decide) _ _ _ _ _ _ _ rfl rfl rfl hrd h1' HO HB hbs hl2 ?_; intro v1 w4 hown hb4)
        go_roundw
        case rel => exact ⟨k + 1, by omega, by omega, by go_num, fin _ _ hown, hb4⟩
        case measure => simp [intOf]; omega
    · have hlt' : ¬ ((k : Int) < L.length ∧ (k : Int) < 1000) := by omega
      obtain ⟨oa3, c3, rfl⟩ := own_slice ho
      obtain ⟨-, hrd⟩ := own_read ho
      obtain ⟨M, hM⟩ : ∃ M, M = marks (L.take k) := ⟨_, rfl⟩
      have hT : told8 M = (L.take k).flatMap fun _ => [65533, 97] := by rw [hM, told8_marks]
      have hTl : (L.take k).length = k := by rw [List.length_take]; omega
      generalize L.take k = K at *
      have hMl : M.length = 2 * k := by rw [hM, marks_length, hTl]
      rw [← hM] at ho hrd
      clear hM
      have hR2 : RdB wr oa3 M := fun j hj => by
        obtain ⟨ad, h1, h2⟩ := hrd j (.int .u8 (M[j]).toNat) (by simp [u8s, hj])
        exact ⟨ad, h1, h2⟩
      have F := text13_8 oa3 (2 * k) c3 M wr hMl.symm hR2 (by omega)
      rw [hT] at F
      have hlen := two_length K
      rw [hTl] at hlen
      rw [hlen] at F
      have hE := fun m (h : m < K.length) => marks_even K m h
      rw [hTl] at hE
      generalize (K.flatMap fun _ => [(65533 : Int), 97]) = R at *
      clear hT hTl hMl hR2 hrd hlen
      by_cases hkl : k < L.length
      · have hk3 : ¬ (k : Int) < 1000 := by omega
        go_wp2_with (go_at_call 13; (with_reducible refine F.mono ?_); rintro e w1 ⟨v1, rfl, ho1, hb1⟩; obtain ⟨oa6, c6, rfl⟩ := own_slice ho1)
        have hB1 := hB.trans (hb1.mono hB.size)
        obtain ⟨-, hrd⟩ := own_read ho1
        clear ho ho1 F hB
        go_loopw [8] (fun v8 w2 => ∃ m : Nat, m ≤ 2 * k ∧ v8 = .int .i64 m ∧ w2 = w1) (fun v8 _ => 2 * k - (intOf v8).toNat)
        case atStart => exact ⟨0, Nat.zero_le _, rfl, rfl⟩
        case round =>
          obtain ⟨m, hm, rfl, rfl⟩ := hrel
          by_cases hmk : m < 2 * k
          · rcases Nat.mod_two_eq_zero_or_one m with h2 | h2
            · have hcm : R[m]? = some 65533 := by
                obtain ⟨j, rfl⟩ : ∃ j, m = 2 * j := ⟨m / 2, by omega⟩
                exact (hE j (by omega)).1
              obtain ⟨ad, rfl, hc⟩ := hrd m (.int .i32 65533) (by rw [List.getElem?_map, hcm]; rfl)
              have hi2 : (m : Int) % 2 = 0 := by omega
              clear hrd hE h2 hcm
              go_wp2
              go_roundw
              case rel => exact ⟨m + 1, by omega, by go_num, by first | rfl | trivial⟩
              case measure => simp [intOf]; omega
            · have hcm : R[m]? = some 97 := by
                obtain ⟨j, rfl⟩ : ∃ j, m = 2 * j + 1 := ⟨m / 2, by omega⟩
                exact (hE j (by omega)).2
              obtain ⟨ad, rfl, hc⟩ := hrd m (.int .i32 97) (by rw [List.getElem?_map, hcm]; rfl)
              have hi2 : (m : Int) % 2 = 1 := by omega
              clear hrd hE h2 hcm
              go_wp2
              go_roundw
              case rel => exact ⟨m + 1, by omega, by go_num, by first | rfl | trivial⟩
              case measure => simp [intOf]; omega
          · obtain rfl : m = 2 * k := by omega
            go_wp2_with (go_at_call 16; (with_reducible refine (awake16 _).mono ?_); rintro e w3 ⟨rfl, hb3⟩)
            go_ret
            exact ⟨rfl, btr hB1 hb3⟩
      · have hk3 : ¬ (k : Int) < L.length := by omega
        go_wp2_with (go_at_call 13; (with_reducible refine F.mono ?_); rintro e w1 ⟨v1, rfl, ho1, hb1⟩; obtain ⟨oa6, c6, rfl⟩ := own_slice ho1)
        have hB1 := hB.trans (hb1.mono hB.size)
        obtain ⟨-, hrd⟩ := own_read ho1
        clear ho ho1 F hB
        go_loopw [8] (fun v8 w2 => ∃ m : Nat, m ≤ 2 * k ∧ v8 = .int .i64 m ∧ w2 = w1) (fun v8 _ => 2 * k - (intOf v8).toNat)
        case atStart => exact ⟨0, Nat.zero_le _, rfl, rfl⟩
        case round =>
          obtain ⟨m, hm, rfl, rfl⟩ := hrel
          by_cases hmk : m < 2 * k
          · rcases Nat.mod_two_eq_zero_or_one m with h2 | h2
            · have hcm : R[m]? = some 65533 := by
                obtain ⟨j, rfl⟩ : ∃ j, m = 2 * j := ⟨m / 2, by omega⟩
                exact (hE j (by omega)).1
              obtain ⟨ad, rfl, hc⟩ := hrd m (.int .i32 65533) (by rw [List.getElem?_map, hcm]; rfl)
              have hi2 : (m : Int) % 2 = 0 := by omega
              clear hrd hE h2 hcm
              go_wp2
              go_roundw
              case rel => exact ⟨m + 1, by omega, by go_num, by first | rfl | trivial⟩
              case measure => simp [intOf]; omega
            · have hcm : R[m]? = some 97 := by
                obtain ⟨j, rfl⟩ : ∃ j, m = 2 * j + 1 := ⟨m / 2, by omega⟩
                exact (hE j (by omega)).2
              obtain ⟨ad, rfl, hc⟩ := hrd m (.int .i32 97) (by rw [List.getElem?_map, hcm]; rfl)
              have hi2 : (m : Int) % 2 = 1 := by omega
              clear hrd hE h2 hcm
              go_wp2
              go_roundw
              case rel => exact ⟨m + 1, by omega, by go_num, by first | rfl | trivial⟩
              case measure => simp [intOf]; omega
          · obtain rfl : m = 2 * k := by omega
            go_wp2_with (go_at_call 16; (with_reducible refine (awake16 _).mono ?_); rintro e w3 ⟨rfl, hb3⟩)
            go_ret
            exact ⟨rfl, btr hB1 hb3⟩
end Go.Proofs.Ytmfifaigphnbmaa
