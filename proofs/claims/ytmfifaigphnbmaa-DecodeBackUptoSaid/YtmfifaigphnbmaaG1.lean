/- Code points as bytes: the program's walk and the reference's. -/
import Derived.Test.YtmfifaigphnbmaaG0
import Derived.Test.YtmfifaigphnbmaaF8
namespace Go.Proofs.Ytmfifaigphnbmaa
open Go.RowKit
theorem mkS_eq {s : ByteArray} {l : List UInt8} (h : s.data.toList = l) : s = mkS l := by rw [← h]; rfl
theorem conv_runes (w : World) (oa : Option Addr) (n cap : Nat) (X : List Int) (hn : n = X.length) (hR : RdR w oa X) : (convert 28 9 (.slice oa n cap)).run Try.prog w = .ok (.string (mkS (encs X))) w := by
  subst hn
  rcases oa with _ | a
  · have : X = [] := by
      rcases X with _ | ⟨x, t⟩
      · rfl
      · obtain ⟨ad, h, _⟩ := hR 0 (by simp)
        cases h
    subst this
    rw [run_convert_runes_nil w 28 9 21 _ _ Try.underlying28 Try.underlying21 Try.underlying9]
    rfl
  · rw [run_convert_runes w 28 9 21 a X.length cap X (Nat.le_refl _) Try.underlying28 Try.underlying21 Try.underlying9 (fun j hj => by
      obtain ⟨ad, h, hc⟩ := hR j hj
      cases h
      rw [hc]
      simp [hj])]
    rw [List.take_length, mkS_eq (runesBytes_encs X)]
theorem utf8_18 (oa : Option Addr) (n cap : Nat) (X : List Int) (w : World) (hn : n = X.length) (hR : RdR w oa X) :
    Calls Try.prog 18 #[.slice oa n cap] w fun e w' => ∃ g z fr c, e = .returned (.slice (some ⟨g, 0, none⟩) (encs X).length c) ∧ BRow w' g 5 (encs X) z fr ∧ w.heap.size ≤ g ∧ Below w.heap.size w w' := by
  have k1 := conv_runes w oa n cap X hn hR
  obtain ⟨S, hS⟩ : ∃ S, S = mkS (encs X) := ⟨_, rfl⟩
  rw [← hS] at k1
  have hz : S.size = (encs X).length := by rw [hS]; rfl
  have hd : S.data.toList = encs X := by rw [hS]; rfl
  have k2 := Go.Lib.run_convert_string_bytes (P := Try.prog) w 9 22 5 S Try.underlying9 Try.underlying22 Try.underlying5
  have hB := BRow.conv w 5 S
  rw [hz] at k2
  rw [hd] at hB
  have hb := conv_below w 5 S
  clear hS hz hd hR hn
  generalize Go.Lib.bytesWorld w 5 S = W at *
  generalize (encs X).length = m at *
  have hsz := hb.size
  go_enter Try.func18, Try.ntmps18
  go_wp2
  go_ret
  exact ⟨_, _, _, _, rfl, hB, Nat.le_refl _, hb⟩
theorem u8s_append' (a b : List UInt8) : u8s (a ++ b) = u8s a ++ u8s b := by simp [u8s]
theorem enc_step {X Y : List Int} {r : Int} {zs : List Int} {cs : List Value} {B n : Nat} {v : Value} {w : World} (hs : encs Y = encs X ++ Go.Lib.encodeRune r) (hZ : Go.Lib.encodeRuneZ r = zs) (h : w.ownsRow B 5 1 v ((encs X).length + n) (u8s (encs X) ++ cs)) (hc : cs = zs.map (Value.int .u8) := by rfl) (hn : n = zs.length := by rfl) :
    w.ownsRow B 5 1 v (encs Y).length (u8s (encs Y)) := by
  subst hc hn
  have e : u8s (Go.Lib.encodeRune r) = zs.map (Value.int .u8) := by
    rw [← hZ, ← nums_encode]
    simp [u8s, nums]
  have el : (Go.Lib.encodeRune r).length = zs.length := by rw [← hZ]; simp [Go.Lib.encodeRune]
  rw [hs, u8s_append', List.length_append, e, el]
  exact h
set_option maxRecDepth 100000 in
set_option maxHeartbeats 4000000 in
set_option maxRecDepth 100000 in
theorem rutf8_19 (oa : Option Addr) (n cap : Nat) (X : List Int) (w : World) (hn : n = X.length) (hm : X.length ≤ 35184372088832) (hR : RdR w oa X) (hw : ∀ x ∈ X, -2147483648 ≤ x ∧ x ≤ 2147483647) :
    Calls Try.prog 19 #[.slice oa n cap] w fun e w' => ∃ v, e = .returned v ∧ w'.ownsRow w.heap.size 5 1 v (encs X).length (u8s (encs X)) ∧ Below w.heap.size w w' := by
  subst hn
  go_enter Try.func19, Try.ntmps19
  go_wp2
  go_loopw [3, 4, 5] (fun v3 v4 _ wr => ∃ k : Nat, k ≤ X.length ∧ v4 = .int .i64 k ∧ wr.ownsRow w.heap.size 5 1 v3 (encs (X.take k)).length (u8s (encs (X.take k))) ∧ Below w.heap.size w wr) (fun _ v4 _ _ => X.length - (intOf v4).toNat)
  case atStart => exact ⟨0, Nat.zero_le _, rfl, own_nil _ _ _ _, Below.refl _ _⟩
  case round =>
    obtain ⟨k, hk, rfl, ho, hB⟩ := hrel
    by_cases hlt : k < X.length
    · obtain ⟨ad, rfl, hc⟩ := (hR.below hB) k hlt
      have hx := hw X[k] (List.getElem_mem hlt)
      have hs := Go.Lib.hid (show encs (X.take (k + 1)) = encs (X.take k) ++ Go.Lib.encodeRune X[k] by rw [List.take_succ_eq_append_getElem hlt, encs_snoc])
      have hlen := encs_len (X.take k)
      rw [List.length_take] at hlen
      generalize X[k] = r at *
      obtain ⟨hx1, hx2⟩ := hx
      have hrq : r ≤ 2147483647 := hx2
      by_cases hbad : r < 0 ∨ (55296 ≤ r ∧ r ≤ 57343) ∨ 1114111 < r
      · rcases hbad with hbad | ⟨hb1, hb2⟩ | hbad
        · have hZ : Go.Lib.encodeRuneZ r = [239, 191, 189] := (Go.Lib.encodeRuneZ_bad (.inl hbad))
          have fin : ∀ (v1 : Value) (w7 : World), w7.ownsRow w.heap.size 5 1 v1 ((encs (X.take k)).length + 3) (u8s (encs (X.take k)) ++ [.int .u8 (239), .int .u8 (191), .int .u8 (189)]) → w7.ownsRow w.heap.size 5 1 v1 (encs (X.take (k + 1))).length (u8s (encs (X.take (k + 1)))) := fun v1 w7 h => enc_step hs.out hZ h
          have HO := ho.alloc (.cells #[.int .u8 (239), .int .u8 (191), .int .u8 (189)] 5)
          have HB := hB.alloc hB.size (.cells #[.int .u8 (239), .int .u8 (191), .int .u8 (189)] 5)
          have hbs : w.heap.size ≤ (wr.alloc (.cells #[.int .u8 (239), .int .u8 (191), .int .u8 (189)] 5)).heap.size := by have := hB.size; simp; omega
          have h1 : ∀ x ∈ ([.int .u8 (239), .int .u8 (191), .int .u8 (189)] : List Value), x.oneCell' = true := fun x hx => by simp at hx; rcases hx with rfl | rfl | rfl <;> rfl
          have hrd : ∀ i x, ([.int .u8 (239), .int .u8 (191), .int .u8 (189)] : List Value)[i]? = some x → ∃ ad, some (⟨wr.heap.size, 0, none⟩ : Addr) = some ad ∧ (wr.alloc (.cells #[.int .u8 (239), .int .u8 (191), .int .u8 (189)] 5)).cell? (ad.add i) = some x := fun i x hx => by
            refine ⟨_, rfl, ?_⟩
            match i, hx with
            | 0, hx => rw [← hx]; exact blk_cells (at_new wr (.cells #[.int .u8 (239), .int .u8 (191), .int .u8 (189)] 5) _ rfl) 0
            | 1, hx => rw [← hx]; exact blk_cells (at_new wr (.cells #[.int .u8 (239), .int .u8 (191), .int .u8 (189)] 5) _ rfl) 1
            | 2, hx => rw [← hx]; exact blk_cells (at_new wr (.cells #[.int .u8 (239), .int .u8 (191), .int .u8 (189)] 5) _ rfl) 2
          have hl : ((encs (X.take k)).length + 3) * 1 ≤ 140737488355328 := by omega
          obtain ⟨oa3, c3, rfl⟩ := own_slice ho
          clear ho hB hZ hlen
          go_wp2_with (at_builtin; refine step_append_slice (w0 := w) rfl w.heap.size (.tmp 76) (.tmp 90) 22 5 (.int .u8 0) 1 1 rfl Try.underlying22 Try.info5 rfl (by decide) (by decide) (.slice oa3 (encs (X.take k)).length c3) (encs (X.take k)).length 3 3 (some ⟨wr.heap.size, 0, none⟩) (u8s (encs (X.take k))) [.int .u8 (239), .int .u8 (191), .int .u8 (189)] rfl rfl rfl hrd h1 HO HB hbs hl ?_; intro v1 w4 hown hb4)
          all_goals go_roundw
          all_goals first
            | (case rel => exact ⟨k + 1, by omega, by go_num, fin _ _ hown, hb4⟩)
            | (case measure => simp [intOf]; omega)
        · have hZ : Go.Lib.encodeRuneZ r = [239, 191, 189] := (Go.Lib.encodeRuneZ_bad (.inr (.inl ⟨hb1, hb2⟩)))
          have fin : ∀ (v1 : Value) (w7 : World), w7.ownsRow w.heap.size 5 1 v1 ((encs (X.take k)).length + 3) (u8s (encs (X.take k)) ++ [.int .u8 (239), .int .u8 (191), .int .u8 (189)]) → w7.ownsRow w.heap.size 5 1 v1 (encs (X.take (k + 1))).length (u8s (encs (X.take (k + 1)))) := fun v1 w7 h => enc_step hs.out hZ h
          have HO := ho.alloc (.cells #[.int .u8 (239), .int .u8 (191), .int .u8 (189)] 5)
          have HB := hB.alloc hB.size (.cells #[.int .u8 (239), .int .u8 (191), .int .u8 (189)] 5)
          have hbs : w.heap.size ≤ (wr.alloc (.cells #[.int .u8 (239), .int .u8 (191), .int .u8 (189)] 5)).heap.size := by have := hB.size; simp; omega
          have h1 : ∀ x ∈ ([.int .u8 (239), .int .u8 (191), .int .u8 (189)] : List Value), x.oneCell' = true := fun x hx => by simp at hx; rcases hx with rfl | rfl | rfl <;> rfl
          have hrd : ∀ i x, ([.int .u8 (239), .int .u8 (191), .int .u8 (189)] : List Value)[i]? = some x → ∃ ad, some (⟨wr.heap.size, 0, none⟩ : Addr) = some ad ∧ (wr.alloc (.cells #[.int .u8 (239), .int .u8 (191), .int .u8 (189)] 5)).cell? (ad.add i) = some x := fun i x hx => by
            refine ⟨_, rfl, ?_⟩
            match i, hx with
            | 0, hx => rw [← hx]; exact blk_cells (at_new wr (.cells #[.int .u8 (239), .int .u8 (191), .int .u8 (189)] 5) _ rfl) 0
            | 1, hx => rw [← hx]; exact blk_cells (at_new wr (.cells #[.int .u8 (239), .int .u8 (191), .int .u8 (189)] 5) _ rfl) 1
            | 2, hx => rw [← hx]; exact blk_cells (at_new wr (.cells #[.int .u8 (239), .int .u8 (191), .int .u8 (189)] 5) _ rfl) 2
          have hl : ((encs (X.take k)).length + 3) * 1 ≤ 140737488355328 := by omega
          obtain ⟨oa3, c3, rfl⟩ := own_slice ho
          clear ho hB hZ hlen
          go_wp2_with (at_builtin; refine step_append_slice (w0 := w) rfl w.heap.size (.tmp 76) (.tmp 90) 22 5 (.int .u8 0) 1 1 rfl Try.underlying22 Try.info5 rfl (by decide) (by decide) (.slice oa3 (encs (X.take k)).length c3) (encs (X.take k)).length 3 3 (some ⟨wr.heap.size, 0, none⟩) (u8s (encs (X.take k))) [.int .u8 (239), .int .u8 (191), .int .u8 (189)] rfl rfl rfl hrd h1 HO HB hbs hl ?_; intro v1 w4 hown hb4)
          all_goals go_roundw
          all_goals first
            | (case rel => exact ⟨k + 1, by omega, by go_num, fin _ _ hown, hb4⟩)
            | (case measure => simp [intOf]; omega)
        · have hZ : Go.Lib.encodeRuneZ r = [239, 191, 189] := (Go.Lib.encodeRuneZ_bad (.inr (.inr hbad)))
          have fin : ∀ (v1 : Value) (w7 : World), w7.ownsRow w.heap.size 5 1 v1 ((encs (X.take k)).length + 3) (u8s (encs (X.take k)) ++ [.int .u8 (239), .int .u8 (191), .int .u8 (189)]) → w7.ownsRow w.heap.size 5 1 v1 (encs (X.take (k + 1))).length (u8s (encs (X.take (k + 1)))) := fun v1 w7 h => enc_step hs.out hZ h
          have HO := ho.alloc (.cells #[.int .u8 (239), .int .u8 (191), .int .u8 (189)] 5)
          have HB := hB.alloc hB.size (.cells #[.int .u8 (239), .int .u8 (191), .int .u8 (189)] 5)
          have hbs : w.heap.size ≤ (wr.alloc (.cells #[.int .u8 (239), .int .u8 (191), .int .u8 (189)] 5)).heap.size := by have := hB.size; simp; omega
          have h1 : ∀ x ∈ ([.int .u8 (239), .int .u8 (191), .int .u8 (189)] : List Value), x.oneCell' = true := fun x hx => by simp at hx; rcases hx with rfl | rfl | rfl <;> rfl
          have hrd : ∀ i x, ([.int .u8 (239), .int .u8 (191), .int .u8 (189)] : List Value)[i]? = some x → ∃ ad, some (⟨wr.heap.size, 0, none⟩ : Addr) = some ad ∧ (wr.alloc (.cells #[.int .u8 (239), .int .u8 (191), .int .u8 (189)] 5)).cell? (ad.add i) = some x := fun i x hx => by
            refine ⟨_, rfl, ?_⟩
            match i, hx with
            | 0, hx => rw [← hx]; exact blk_cells (at_new wr (.cells #[.int .u8 (239), .int .u8 (191), .int .u8 (189)] 5) _ rfl) 0
            | 1, hx => rw [← hx]; exact blk_cells (at_new wr (.cells #[.int .u8 (239), .int .u8 (191), .int .u8 (189)] 5) _ rfl) 1
            | 2, hx => rw [← hx]; exact blk_cells (at_new wr (.cells #[.int .u8 (239), .int .u8 (191), .int .u8 (189)] 5) _ rfl) 2
          have hl : ((encs (X.take k)).length + 3) * 1 ≤ 140737488355328 := by omega
          obtain ⟨oa3, c3, rfl⟩ := own_slice ho
          clear ho hB hZ hlen
          go_wp2_with (at_builtin; refine step_append_slice (w0 := w) rfl w.heap.size (.tmp 76) (.tmp 90) 22 5 (.int .u8 0) 1 1 rfl Try.underlying22 Try.info5 rfl (by decide) (by decide) (.slice oa3 (encs (X.take k)).length c3) (encs (X.take k)).length 3 3 (some ⟨wr.heap.size, 0, none⟩) (u8s (encs (X.take k))) [.int .u8 (239), .int .u8 (191), .int .u8 (189)] rfl rfl rfl hrd h1 HO HB hbs hl ?_; intro v1 w4 hown hb4)
          all_goals go_roundw
          all_goals first
            | (case rel => exact ⟨k + 1, by omega, by go_num, fin _ _ hown, hb4⟩)
            | (case measure => simp [intOf]; omega)
      have p1 : 0 ≤ r := by omega
      have p2 : r ≤ 1114111 := by omega
      have p3 : r < 55296 ∨ 57343 < r := by omega
      clear hbad hx1 hx2
      by_cases q1 : r < 128
      · clear p3
        have hZ : Go.Lib.encodeRuneZ r = [r] := Go.Lib.encodeRuneZ_one p1 (by omega)
        have fin : ∀ (v1 : Value) (w7 : World), w7.ownsRow w.heap.size 5 1 v1 ((encs (X.take k)).length + 1) (u8s (encs (X.take k)) ++ [.int .u8 (r)]) → w7.ownsRow w.heap.size 5 1 v1 (encs (X.take (k + 1))).length (u8s (encs (X.take (k + 1)))) := fun v1 w7 h => enc_step hs.out hZ h
        have HO := ho.alloc (.cells #[.int .u8 (r)] 5)
        have HB := hB.alloc hB.size (.cells #[.int .u8 (r)] 5)
        have hbs : w.heap.size ≤ (wr.alloc (.cells #[.int .u8 (r)] 5)).heap.size := by have := hB.size; simp; omega
        have h1 : ∀ x ∈ ([.int .u8 (r)] : List Value), x.oneCell' = true := fun x hx => by simp at hx; subst hx; rfl
        have hrd : ∀ i x, ([.int .u8 (r)] : List Value)[i]? = some x → ∃ ad, some (⟨wr.heap.size, 0, none⟩ : Addr) = some ad ∧ (wr.alloc (.cells #[.int .u8 (r)] 5)).cell? (ad.add i) = some x := fun i x hx => by
          refine ⟨_, rfl, ?_⟩
          match i, hx with
          | 0, hx => rw [← hx]; exact blk_cells (at_new wr (.cells #[.int .u8 (r)] 5) _ rfl) 0
        have hl : ((encs (X.take k)).length + 1) * 1 ≤ 140737488355328 := by omega
        obtain ⟨oa3, c3, rfl⟩ := own_slice ho
        clear ho hB hZ hlen
        go_wp2_with (at_builtin; refine step_append_slice (w0 := w) rfl w.heap.size (.tmp 54) (.tmp 57) 22 5 (.int .u8 0) 1 1 rfl Try.underlying22 Try.info5 rfl (by decide) (by decide) (.slice oa3 (encs (X.take k)).length c3) (encs (X.take k)).length 1 1 (some ⟨wr.heap.size, 0, none⟩) (u8s (encs (X.take k))) [.int .u8 (r)] rfl rfl rfl hrd h1 HO HB hbs hl ?_; intro v1 w4 hown hb4)
        all_goals go_roundw
        all_goals first
          | (case rel => exact ⟨k + 1, by omega, by go_num, fin _ _ hown, hb4⟩)
          | (case measure => simp [intOf]; omega)
      by_cases q2 : r < 2048
      · clear p3
        have hZ : Go.Lib.encodeRuneZ r = [192 + r / 64, 128 + r % 64] := Go.Lib.encodeRuneZ_two (by omega) (by omega)
        have fin : ∀ (v1 : Value) (w7 : World), w7.ownsRow w.heap.size 5 1 v1 ((encs (X.take k)).length + 2) (u8s (encs (X.take k)) ++ [.int .u8 (192 + r / 64), .int .u8 (128 + r % 64)]) → w7.ownsRow w.heap.size 5 1 v1 (encs (X.take (k + 1))).length (u8s (encs (X.take (k + 1)))) := fun v1 w7 h => enc_step hs.out hZ h
        have HO := ho.alloc (.cells #[.int .u8 (192 + r / 64), .int .u8 (128 + r % 64)] 5)
        have HB := hB.alloc hB.size (.cells #[.int .u8 (192 + r / 64), .int .u8 (128 + r % 64)] 5)
        have hbs : w.heap.size ≤ (wr.alloc (.cells #[.int .u8 (192 + r / 64), .int .u8 (128 + r % 64)] 5)).heap.size := by have := hB.size; simp; omega
        have h1 : ∀ x ∈ ([.int .u8 (192 + r / 64), .int .u8 (128 + r % 64)] : List Value), x.oneCell' = true := fun x hx => by simp at hx; rcases hx with rfl | rfl <;> rfl
        have hrd : ∀ i x, ([.int .u8 (192 + r / 64), .int .u8 (128 + r % 64)] : List Value)[i]? = some x → ∃ ad, some (⟨wr.heap.size, 0, none⟩ : Addr) = some ad ∧ (wr.alloc (.cells #[.int .u8 (192 + r / 64), .int .u8 (128 + r % 64)] 5)).cell? (ad.add i) = some x := fun i x hx => by
          refine ⟨_, rfl, ?_⟩
          match i, hx with
          | 0, hx => rw [← hx]; exact blk_cells (at_new wr (.cells #[.int .u8 (192 + r / 64), .int .u8 (128 + r % 64)] 5) _ rfl) 0
          | 1, hx => rw [← hx]; exact blk_cells (at_new wr (.cells #[.int .u8 (192 + r / 64), .int .u8 (128 + r % 64)] 5) _ rfl) 1
        have hl : ((encs (X.take k)).length + 2) * 1 ≤ 140737488355328 := by omega
        obtain ⟨oa3, c3, rfl⟩ := own_slice ho
        clear ho hB hZ hlen
        go_wp2_with (at_builtin; refine step_append_slice (w0 := w) rfl w.heap.size (.tmp 62) (.tmp 71) 22 5 (.int .u8 0) 1 1 rfl Try.underlying22 Try.info5 rfl (by decide) (by decide) (.slice oa3 (encs (X.take k)).length c3) (encs (X.take k)).length 2 2 (some ⟨wr.heap.size, 0, none⟩) (u8s (encs (X.take k))) [.int .u8 (192 + r / 64), .int .u8 (128 + r % 64)] rfl rfl rfl hrd h1 HO HB hbs hl ?_; intro v1 w4 hown hb4)
        all_goals go_roundw
        all_goals first
          | (case rel => exact ⟨k + 1, by omega, by go_num, fin _ _ hown, hb4⟩)
          | (case measure => simp [intOf]; omega)
      by_cases q3 : r < 65536
      · rcases p3 with p3 | p3
        · have hZ : Go.Lib.encodeRuneZ r = [224 + r / 4096, 128 + r / 64 % 64, 128 + r % 64] := Go.Lib.encodeRuneZ_three (.inl ⟨by omega, p3⟩)
          have fin : ∀ (v1 : Value) (w7 : World), w7.ownsRow w.heap.size 5 1 v1 ((encs (X.take k)).length + 3) (u8s (encs (X.take k)) ++ [.int .u8 (224 + r / 4096), .int .u8 (128 + r / 64 % 64), .int .u8 (128 + r % 64)]) → w7.ownsRow w.heap.size 5 1 v1 (encs (X.take (k + 1))).length (u8s (encs (X.take (k + 1)))) := fun v1 w7 h => enc_step hs.out hZ h
          have HO := ho.alloc (.cells #[.int .u8 (224 + r / 4096), .int .u8 (128 + r / 64 % 64), .int .u8 (128 + r % 64)] 5)
          have HB := hB.alloc hB.size (.cells #[.int .u8 (224 + r / 4096), .int .u8 (128 + r / 64 % 64), .int .u8 (128 + r % 64)] 5)
          have hbs : w.heap.size ≤ (wr.alloc (.cells #[.int .u8 (224 + r / 4096), .int .u8 (128 + r / 64 % 64), .int .u8 (128 + r % 64)] 5)).heap.size := by have := hB.size; simp; omega
          have h1 : ∀ x ∈ ([.int .u8 (224 + r / 4096), .int .u8 (128 + r / 64 % 64), .int .u8 (128 + r % 64)] : List Value), x.oneCell' = true := fun x hx => by simp at hx; rcases hx with rfl | rfl | rfl <;> rfl
          have hrd : ∀ i x, ([.int .u8 (224 + r / 4096), .int .u8 (128 + r / 64 % 64), .int .u8 (128 + r % 64)] : List Value)[i]? = some x → ∃ ad, some (⟨wr.heap.size, 0, none⟩ : Addr) = some ad ∧ (wr.alloc (.cells #[.int .u8 (224 + r / 4096), .int .u8 (128 + r / 64 % 64), .int .u8 (128 + r % 64)] 5)).cell? (ad.add i) = some x := fun i x hx => by
            refine ⟨_, rfl, ?_⟩
            match i, hx with
            | 0, hx => rw [← hx]; exact blk_cells (at_new wr (.cells #[.int .u8 (224 + r / 4096), .int .u8 (128 + r / 64 % 64), .int .u8 (128 + r % 64)] 5) _ rfl) 0
            | 1, hx => rw [← hx]; exact blk_cells (at_new wr (.cells #[.int .u8 (224 + r / 4096), .int .u8 (128 + r / 64 % 64), .int .u8 (128 + r % 64)] 5) _ rfl) 1
            | 2, hx => rw [← hx]; exact blk_cells (at_new wr (.cells #[.int .u8 (224 + r / 4096), .int .u8 (128 + r / 64 % 64), .int .u8 (128 + r % 64)] 5) _ rfl) 2
          have hl : ((encs (X.take k)).length + 3) * 1 ≤ 140737488355328 := by omega
          obtain ⟨oa3, c3, rfl⟩ := own_slice ho
          clear ho hB hZ hlen
          go_wp2_with (at_builtin; refine step_append_slice (w0 := w) rfl w.heap.size (.tmp 76) (.tmp 90) 22 5 (.int .u8 0) 1 1 rfl Try.underlying22 Try.info5 rfl (by decide) (by decide) (.slice oa3 (encs (X.take k)).length c3) (encs (X.take k)).length 3 3 (some ⟨wr.heap.size, 0, none⟩) (u8s (encs (X.take k))) [.int .u8 (224 + r / 4096), .int .u8 (128 + r / 64 % 64), .int .u8 (128 + r % 64)] rfl rfl rfl hrd h1 HO HB hbs hl ?_; intro v1 w4 hown hb4)
          all_goals go_roundw
          all_goals first
            | (case rel => exact ⟨k + 1, by omega, by go_num, fin _ _ hown, hb4⟩)
            | (case measure => simp [intOf]; omega)
        · have hZ : Go.Lib.encodeRuneZ r = [224 + r / 4096, 128 + r / 64 % 64, 128 + r % 64] := Go.Lib.encodeRuneZ_three (.inr ⟨p3, by omega⟩)
          have fin : ∀ (v1 : Value) (w7 : World), w7.ownsRow w.heap.size 5 1 v1 ((encs (X.take k)).length + 3) (u8s (encs (X.take k)) ++ [.int .u8 (224 + r / 4096), .int .u8 (128 + r / 64 % 64), .int .u8 (128 + r % 64)]) → w7.ownsRow w.heap.size 5 1 v1 (encs (X.take (k + 1))).length (u8s (encs (X.take (k + 1)))) := fun v1 w7 h => enc_step hs.out hZ h
          have HO := ho.alloc (.cells #[.int .u8 (224 + r / 4096), .int .u8 (128 + r / 64 % 64), .int .u8 (128 + r % 64)] 5)
          have HB := hB.alloc hB.size (.cells #[.int .u8 (224 + r / 4096), .int .u8 (128 + r / 64 % 64), .int .u8 (128 + r % 64)] 5)
          have hbs : w.heap.size ≤ (wr.alloc (.cells #[.int .u8 (224 + r / 4096), .int .u8 (128 + r / 64 % 64), .int .u8 (128 + r % 64)] 5)).heap.size := by have := hB.size; simp; omega
          have h1 : ∀ x ∈ ([.int .u8 (224 + r / 4096), .int .u8 (128 + r / 64 % 64), .int .u8 (128 + r % 64)] : List Value), x.oneCell' = true := fun x hx => by simp at hx; rcases hx with rfl | rfl | rfl <;> rfl
          have hrd : ∀ i x, ([.int .u8 (224 + r / 4096), .int .u8 (128 + r / 64 % 64), .int .u8 (128 + r % 64)] : List Value)[i]? = some x → ∃ ad, some (⟨wr.heap.size, 0, none⟩ : Addr) = some ad ∧ (wr.alloc (.cells #[.int .u8 (224 + r / 4096), .int .u8 (128 + r / 64 % 64), .int .u8 (128 + r % 64)] 5)).cell? (ad.add i) = some x := fun i x hx => by
            refine ⟨_, rfl, ?_⟩
            match i, hx with
            | 0, hx => rw [← hx]; exact blk_cells (at_new wr (.cells #[.int .u8 (224 + r / 4096), .int .u8 (128 + r / 64 % 64), .int .u8 (128 + r % 64)] 5) _ rfl) 0
            | 1, hx => rw [← hx]; exact blk_cells (at_new wr (.cells #[.int .u8 (224 + r / 4096), .int .u8 (128 + r / 64 % 64), .int .u8 (128 + r % 64)] 5) _ rfl) 1
            | 2, hx => rw [← hx]; exact blk_cells (at_new wr (.cells #[.int .u8 (224 + r / 4096), .int .u8 (128 + r / 64 % 64), .int .u8 (128 + r % 64)] 5) _ rfl) 2
          have hl : ((encs (X.take k)).length + 3) * 1 ≤ 140737488355328 := by omega
          obtain ⟨oa3, c3, rfl⟩ := own_slice ho
          clear ho hB hZ hlen
          go_wp2_with (at_builtin; refine step_append_slice (w0 := w) rfl w.heap.size (.tmp 76) (.tmp 90) 22 5 (.int .u8 0) 1 1 rfl Try.underlying22 Try.info5 rfl (by decide) (by decide) (.slice oa3 (encs (X.take k)).length c3) (encs (X.take k)).length 3 3 (some ⟨wr.heap.size, 0, none⟩) (u8s (encs (X.take k))) [.int .u8 (224 + r / 4096), .int .u8 (128 + r / 64 % 64), .int .u8 (128 + r % 64)] rfl rfl rfl hrd h1 HO HB hbs hl ?_; intro v1 w4 hown hb4)
          all_goals go_roundw
          all_goals first
            | (case rel => exact ⟨k + 1, by omega, by go_num, fin _ _ hown, hb4⟩)
            | (case measure => simp [intOf]; omega)
      · clear p3
        have hZ : Go.Lib.encodeRuneZ r = [240 + r / 262144, 128 + r / 4096 % 64, 128 + r / 64 % 64, 128 + r % 64] := Go.Lib.encodeRuneZ_four (by omega) p2
        have fin : ∀ (v1 : Value) (w7 : World), w7.ownsRow w.heap.size 5 1 v1 ((encs (X.take k)).length + 4) (u8s (encs (X.take k)) ++ [.int .u8 (240 + r / 262144), .int .u8 (128 + r / 4096 % 64), .int .u8 (128 + r / 64 % 64), .int .u8 (128 + r % 64)]) → w7.ownsRow w.heap.size 5 1 v1 (encs (X.take (k + 1))).length (u8s (encs (X.take (k + 1)))) := fun v1 w7 h => enc_step hs.out hZ h
        have HO := ho.alloc (.cells #[.int .u8 (240 + r / 262144), .int .u8 (128 + r / 4096 % 64), .int .u8 (128 + r / 64 % 64), .int .u8 (128 + r % 64)] 5)
        have HB := hB.alloc hB.size (.cells #[.int .u8 (240 + r / 262144), .int .u8 (128 + r / 4096 % 64), .int .u8 (128 + r / 64 % 64), .int .u8 (128 + r % 64)] 5)
        have hbs : w.heap.size ≤ (wr.alloc (.cells #[.int .u8 (240 + r / 262144), .int .u8 (128 + r / 4096 % 64), .int .u8 (128 + r / 64 % 64), .int .u8 (128 + r % 64)] 5)).heap.size := by have := hB.size; simp; omega
        have h1 : ∀ x ∈ ([.int .u8 (240 + r / 262144), .int .u8 (128 + r / 4096 % 64), .int .u8 (128 + r / 64 % 64), .int .u8 (128 + r % 64)] : List Value), x.oneCell' = true := fun x hx => by simp at hx; rcases hx with rfl | rfl | rfl | rfl <;> rfl
        have hrd : ∀ i x, ([.int .u8 (240 + r / 262144), .int .u8 (128 + r / 4096 % 64), .int .u8 (128 + r / 64 % 64), .int .u8 (128 + r % 64)] : List Value)[i]? = some x → ∃ ad, some (⟨wr.heap.size, 0, none⟩ : Addr) = some ad ∧ (wr.alloc (.cells #[.int .u8 (240 + r / 262144), .int .u8 (128 + r / 4096 % 64), .int .u8 (128 + r / 64 % 64), .int .u8 (128 + r % 64)] 5)).cell? (ad.add i) = some x := fun i x hx => by
          refine ⟨_, rfl, ?_⟩
          match i, hx with
          | 0, hx => rw [← hx]; exact blk_cells (at_new wr (.cells #[.int .u8 (240 + r / 262144), .int .u8 (128 + r / 4096 % 64), .int .u8 (128 + r / 64 % 64), .int .u8 (128 + r % 64)] 5) _ rfl) 0
          | 1, hx => rw [← hx]; exact blk_cells (at_new wr (.cells #[.int .u8 (240 + r / 262144), .int .u8 (128 + r / 4096 % 64), .int .u8 (128 + r / 64 % 64), .int .u8 (128 + r % 64)] 5) _ rfl) 1
          | 2, hx => rw [← hx]; exact blk_cells (at_new wr (.cells #[.int .u8 (240 + r / 262144), .int .u8 (128 + r / 4096 % 64), .int .u8 (128 + r / 64 % 64), .int .u8 (128 + r % 64)] 5) _ rfl) 2
          | 3, hx => rw [← hx]; exact blk_cells (at_new wr (.cells #[.int .u8 (240 + r / 262144), .int .u8 (128 + r / 4096 % 64), .int .u8 (128 + r / 64 % 64), .int .u8 (128 + r % 64)] 5) _ rfl) 3
        have hl : ((encs (X.take k)).length + 4) * 1 ≤ 140737488355328 := by omega
        obtain ⟨oa3, c3, rfl⟩ := own_slice ho
        clear ho hB hZ hlen
        go_wp2_with (at_builtin; refine step_append_slice (w0 := w) rfl w.heap.size (.tmp 30) (.tmp 49) 22 5 (.int .u8 0) 1 1 rfl Try.underlying22 Try.info5 rfl (by decide) (by decide) (.slice oa3 (encs (X.take k)).length c3) (encs (X.take k)).length 4 4 (some ⟨wr.heap.size, 0, none⟩) (u8s (encs (X.take k))) [.int .u8 (240 + r / 262144), .int .u8 (128 + r / 4096 % 64), .int .u8 (128 + r / 64 % 64), .int .u8 (128 + r % 64)] rfl rfl rfl hrd h1 HO HB hbs hl ?_; intro v1 w4 hown hb4)
        all_goals go_roundw
        all_goals first
          | (case rel => exact ⟨k + 1, by omega, by go_num, fin _ _ hown, hb4⟩)
          | (case measure => simp [intOf]; omega)
    · obtain rfl : k = X.length := by omega
      rw [List.take_length] at ho
      go_wp2
      go_ret
      exact ⟨_, rfl, ho, hB⟩
end Go.Proofs.Ytmfifaigphnbmaa
