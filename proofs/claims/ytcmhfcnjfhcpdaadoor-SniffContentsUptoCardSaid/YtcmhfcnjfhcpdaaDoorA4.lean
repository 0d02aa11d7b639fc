/- The next attribute. -/
import Derived.Test.YtcmhfcnjfhcpdaaDoorA3
import Derived.RegionTactic
import Derived.RegionCalls
import Derived.WalkMore
import Derived.ScopeJumps
import Derived.Deep.QuietTactic
import Derived.BigQuiet
namespace Go.Proofs.YtcmhfcnjfhcpdaaDoor
open Go.RowKit
def nIs (c : UInt8) : Bool := !isNe c
def nTe (c : UInt8) : Bool := !isTe c
/-- The next attribute, and where the scan stands behind it. -/
def attrF (L : List UInt8) (i : Nat) : Option (List UInt8 × List UInt8) × Nat :=
  let i1 := run isSl L i
  if L.length ≤ i1 then (none, i1) else
  if L.getD i1 0 = 62 then (none, i1 + 1) else
  let i3 := run nIs L (i1 + 1)
  let name := L.getD i1 0 :: (L.drop (i1 + 1)).takeWhile nIs
  if L.length ≤ i3 then (none, i3) else
  let i4 := run isBl L i3
  if L.length ≤ i4 then (none, i4) else
  if L.getD i4 0 ≠ 61 then (some (name, []), i4) else
  let i5 := run isBl L (i4 + 1)
  if L.length ≤ i5 then (none, i5) else
  if L.getD i5 0 = 34 ∨ L.getD i5 0 = 39 then
    if run (· != L.getD i5 0) L (i5 + 1) < L.length then (some (name, (L.drop (i5 + 1)).takeWhile (· != L.getD i5 0)), run (· != L.getD i5 0) L (i5 + 1) + 1) else (none, L.length)
  else
    let i7 := run nTe L i5
    if L.length ≤ i7 then (none, i7) else (some (name, (L.drop i5).takeWhile nTe), i7)
def attrE : Option (List UInt8 × List UInt8) → Ending
  | none => .returned (.tuple #[.string ⟨#[]⟩, .string ⟨#[]⟩, .bool false])
  | some (n, v) => .returned (.tuple #[.string (mkS n), .string (mkS v), .bool true])
def AttrPost (sb g : Nat) (L : List UInt8) (r : Option (List UInt8 × List UInt8) × Nat) (w : World) (e : Ending) (w' : World) : Prop := e = attrE r.1 ∧ Sc w' sb g L r.2 ∧ St sb w w'
theorem cell_of_St {sb n : Nat} {W w4 : World} {v : Value} {t : TypeId} (h : St sb W w4) (hX : W.heap[n]? = some (.cells #[v] t (0, 0))) (hn : n ≠ sb) : w4.cell? ⟨n, 0, none⟩ = some v :=
  blk_cells ((h.block n (blk_lt hX) hn).trans hX) 0
theorem ret_nv (n v : List UInt8) (b : Bool) : Ending.returned (.tuple #[.string (mkS n), .string (mkS v), .bool b]) = Ending.returned (.tuple #[.string (mkS n), .string (mkS v), .bool b]) := rfl
theorem tw_take (p : UInt8 → Bool) (L : List UInt8) (i : Nat) : (L.drop i).takeWhile p = (L.drop i).take (run p L i - i) := by
  rw [show run p L i - i = ((L.drop i).takeWhile p).length by unfold run; omega]
  exact (List.prefix_iff_eq_take.1 (List.takeWhile_prefix p))
/-- A frame of so many slots. -/
def Frm (a : Act) : Prop := ∃ f : Nat → Value, a = { tmps := #[f 0, f 1, f 2, f 3, f 4, f 5, f 6, f 7, f 8, f 9, f 10, f 11, f 12, f 13, f 14, f 15, f 16, f 17, f 18, f 19, f 20, f 21, f 22, f 23, f 24, f 25, f 26, f 27, f 28, f 29, f 30, f 31, f 32, f 33, f 34, f 35, f 36, f 37, f 38, f 39, f 40, f 41, f 42, f 43, f 44, f 45, f 46, f 47, f 48, f 49, f 50, f 51, f 52, f 53, f 54, f 55, f 56, f 57, f 58, f 59, f 60, f 61, f 62, f 63, f 64, f 65, f 66, f 67, f 68, f 69, f 70, f 71, f 72, f 73, f 74, f 75, f 76, f 77, f 78, f 79, f 80, f 81, f 82, f 83, f 84, f 85, f 86, f 87, f 88, f 89, f 90, f 91, f 92, f 93, f 94, f 95, f 96, f 97, f 98, f 99, f 100, f 101, f 102, f 103, f 104, f 105, f 106, f 107, f 108, f 109, f 110, f 111, f 112, f 113, f 114, f 115, f 116, f 117, f 118, f 119, f 120], defers := [] }
theorem frm {a0 a1 a2 a3 a4 a5 a6 a7 a8 a9 a10 a11 a12 a13 a14 a15 a16 a17 a18 a19 a20 a21 a22 a23 a24 a25 a26 a27 a28 a29 a30 a31 a32 a33 a34 a35 a36 a37 a38 a39 a40 a41 a42 a43 a44 a45 a46 a47 a48 a49 a50 a51 a52 a53 a54 a55 a56 a57 a58 a59 a60 a61 a62 a63 a64 a65 a66 a67 a68 a69 a70 a71 a72 a73 a74 a75 a76 a77 a78 a79 a80 a81 a82 a83 a84 a85 a86 a87 a88 a89 a90 a91 a92 a93 a94 a95 a96 a97 a98 a99 a100 a101 a102 a103 a104 a105 a106 a107 a108 a109 a110 a111 a112 a113 a114 a115 a116 a117 a118 a119 a120 : Value} : Frm { tmps := #[a0, a1, a2, a3, a4, a5, a6, a7, a8, a9, a10, a11, a12, a13, a14, a15, a16, a17, a18, a19, a20, a21, a22, a23, a24, a25, a26, a27, a28, a29, a30, a31, a32, a33, a34, a35, a36, a37, a38, a39, a40, a41, a42, a43, a44, a45, a46, a47, a48, a49, a50, a51, a52, a53, a54, a55, a56, a57, a58, a59, a60, a61, a62, a63, a64, a65, a66, a67, a68, a69, a70, a71, a72, a73, a74, a75, a76, a77, a78, a79, a80, a81, a82, a83, a84, a85, a86, a87, a88, a89, a90, a91, a92, a93, a94, a95, a96, a97, a98, a99, a100, a101, a102, a103, a104, a105, a106, a107, a108, a109, a110, a111, a112, a113, a114, a115, a116, a117, a118, a119, a120], defers := [] } := ⟨fun k => (#[a0, a1, a2, a3, a4, a5, a6, a7, a8, a9, a10, a11, a12, a13, a14, a15, a16, a17, a18, a19, a20, a21, a22, a23, a24, a25, a26, a27, a28, a29, a30, a31, a32, a33, a34, a35, a36, a37, a38, a39, a40, a41, a42, a43, a44, a45, a46, a47, a48, a49, a50, a51, a52, a53, a54, a55, a56, a57, a58, a59, a60, a61, a62, a63, a64, a65, a66, a67, a68, a69, a70, a71, a72, a73, a74, a75, a76, a77, a78, a79, a80, a81, a82, a83, a84, a85, a86, a87, a88, a89, a90, a91, a92, a93, a94, a95, a96, a97, a98, a99, a100, a101, a102, a103, a104, a105, a106, a107, a108, a109, a110, a111, a112, a113, a114, a115, a116, a117, a118, a119, a120] : Array Value).getD k undef, rfl⟩
/-- At the label: some frame; there is no attribute. -/
def AtNone (sb g : Nat) (L : List UInt8) (r : Option (List UInt8 × List UInt8) × Nat) (w0 : World) (a : Act) (w : World) : Prop := Frm a ∧ r.1 = none ∧ Sc w sb g L r.2 ∧ St sb w0 w
theorem at_none {sb g : Nat} {L : List UInt8} {r : Option (List UInt8 × List UInt8) × Nat} {w0 w : World} {a0 a1 a2 a3 a4 a5 a6 a7 a8 a9 a10 a11 a12 a13 a14 a15 a16 a17 a18 a19 a20 a21 a22 a23 a24 a25 a26 a27 a28 a29 a30 a31 a32 a33 a34 a35 a36 a37 a38 a39 a40 a41 a42 a43 a44 a45 a46 a47 a48 a49 a50 a51 a52 a53 a54 a55 a56 a57 a58 a59 a60 a61 a62 a63 a64 a65 a66 a67 a68 a69 a70 a71 a72 a73 a74 a75 a76 a77 a78 a79 a80 a81 a82 a83 a84 a85 a86 a87 a88 a89 a90 a91 a92 a93 a94 a95 a96 a97 a98 a99 a100 a101 a102 a103 a104 a105 a106 a107 a108 a109 a110 a111 a112 a113 a114 a115 a116 a117 a118 a119 a120 : Value} {j : Nat} (h : r = (none, j)) (hs : Sc w sb g L j) (ht : St sb w0 w) : AtNone sb g L r w0 { tmps := #[a0, a1, a2, a3, a4, a5, a6, a7, a8, a9, a10, a11, a12, a13, a14, a15, a16, a17, a18, a19, a20, a21, a22, a23, a24, a25, a26, a27, a28, a29, a30, a31, a32, a33, a34, a35, a36, a37, a38, a39, a40, a41, a42, a43, a44, a45, a46, a47, a48, a49, a50, a51, a52, a53, a54, a55, a56, a57, a58, a59, a60, a61, a62, a63, a64, a65, a66, a67, a68, a69, a70, a71, a72, a73, a74, a75, a76, a77, a78, a79, a80, a81, a82, a83, a84, a85, a86, a87, a88, a89, a90, a91, a92, a93, a94, a95, a96, a97, a98, a99, a100, a101, a102, a103, a104, a105, a106, a107, a108, a109, a110, a111, a112, a113, a114, a115, a116, a117, a118, a119, a120], defers := [] } w := by
  subst h
  exact ⟨frm, rfl, hs, ht⟩
set_option maxHeartbeats 16000000 in
set_option maxRecDepth 100000 in
theorem attribute33 (sb g : Nat) (L : List UInt8) (i : Nat) (w : World) (h : Sc w sb g L i) (hi : i ≤ L.length) :
    Calls Tryd.prog 33 #[.pointer (some ⟨sb, 0, none⟩)] w (AttrPost sb g L (attrF L i) w) := by
  have hs := h.small
  have S1 := skip_named 29 enter29 isSl slashed29 sb g L i w h hi
  go_enter Tryd.func33, Tryd.ntmps33
  go_wp2
  refine wp_scope_jumps 0 (AtNone sb g L (attrF L i) w) (fun a _ => 0) rfl ?_ ?_
  rotate_left
  · rintro a' w' ⟨⟨f, rfl⟩, hn, hsc, hst⟩
    go_wp2
    simp only [Exit.jump]
    go_ret3
    exact ⟨by rw [hn]; rfl, hsc, hst⟩
  go_wp2_with fail
  refine S1.mono ?_
  rintro e w1 ⟨rfl, hsc1, hst1⟩
  obtain ⟨l1, l2⟩ := run_le isSl L i hi
  change Sc w1 sb g L (run isSl L i) at hsc1
  obtain ⟨i1, hi1⟩ : ∃ i1, i1 = run isSl L i := ⟨_, rfl⟩
  rw [← hi1] at hsc1 l1 l2
  have HI1 := Go.Lib.hid hi1
  clear hi1
  go_wp2_with fail
  refine (done27 sb g L i1 w1 hsc1).mono ?_
  rintro e w2 ⟨rfl, n2, rfl⟩
  have hsc2 := hsc1.drewN n2
  have hst2 := hst1.drewN n2
  generalize w1.drewN n2 = W2 at *
  by_cases hd1 : L.length ≤ i1
  · have hb : decide (L.length ≤ i1) = true := decide_eq_true hd1
    have HE := Go.Lib.hid (show attrF L i = (none, i1) by simp only [attrF]; rw [← HI1.out, if_pos hd1])
    clear hd1
    go_wp2
    go_step3
    exact ⟨rfl, at_none HE.out hsc2 hst2⟩
  · have hb : decide (L.length ≤ i1) = false := decide_eq_false hd1
    have hlt1 : i1 < L.length := by omega
    have hk0 : (0 : Int) ≤ i1 := by omega
    have hk1 : (i1 : Int) < L.length := by omega
    have h0 := hsc2.c0
    have h1 := hsc2.c1
    have hf1 := hsc2.fr 1
    have hby := hsc2.byte i1 hlt1
    obtain ⟨c, hc⟩ : ∃ c, c = L[i1] := ⟨_, rfl⟩
    have hcd : L.getD i1 0 = c := by rw [hc, List.getD_eq_getElem?_getD, List.getElem?_eq_getElem hlt1]; rfl
    rw [← hc] at hby
    have HCD := Go.Lib.hid hcd
    have hq := beq_toNat c 62
    rw [show ((62 : UInt8).toNat : Int) = 62 from rfl] at hq
    clear hc hcd
    cases hc62 : (c == 62) with
    | true =>
      rw [hc62] at hq
      have HE := Go.Lib.hid (show attrF L i = (none, i1 + 1) by simp only [attrF]; rw [← HI1.out, if_neg hd1, if_pos (by rw [HCD.out]; simpa using hc62)])
      clear hd1 hc62
      go_wp2
      go_quiet (fail)
      go_wp2
      go_step3
      exact ⟨rfl, at_none HE.out ((hsc2.drewN nq).set (i1 + 1) _ (by go_num)) ((hst2.drewN nq).set _)⟩
    | false =>
      rw [hc62] at hq
      have HC62 := Go.Lib.hid hc62
      have HD1 := Go.Lib.hid hd1
      clear hd1 hc62
      go_wp2
      go_quiet (fail)
      go_wp2
      have hsc3 := (hsc2.drewN nq).set (i1 + 1) (.int .i64 (↑i1 + 1)) (by go_num)
      have hst3 := (hst2.drewN nq).set (.int .i64 (↑i1 + 1))
      generalize (W2.drewN nq).setCell ⟨sb, 1, none⟩ (.int .i64 (↑i1 + 1)) = W3 at *
      clear h0 h1 hf1 hby hsc2 hst2
      have hcv1 : ∀ (W : World) (n : Nat), W.cell? ⟨n, 0, none⟩ = some (.int .u8 c.toNat) → (convert 26 9 (.slice (some ⟨n, 0, none⟩) 1 1)).run Tryd.prog W = .ok (.string (mkS [c])) W := fun W n hW => by
        have hj : ∀ j, j < 1 → W.cell? ⟨n, 0 + j, none⟩ = some (.int .u8 ([(c.toNat : Int)].getD j 0)) := fun j hj => by
          obtain rfl : j = 0 := by omega
          exact hW
        have h := run_convert_bytes_arg (P := Tryd.prog) W 26 5 Tryd.underlying26 Tryd.underlying5 n 0 1 1 [(c.toNat : Int)] rfl hj 9 Tryd.underlying9
        rw [h]
        simp [strOfNums, mkS]
      have hcat : (mkS [c]).size + (mkS ((L.drop (i1 + 1)).takeWhile fun c => !isNe c)).size ≤ 9223372036854775807 := by
        have := tw_le (fun c => !isNe c) (L.drop (i1 + 1))
        rw [List.length_drop] at this
        rw [mkS_size, mkS_size]
        simp only [List.length_singleton]
        omega
      go_region_with ((go_at_call 20; refine (until20 46 enter46 isNe nameEnd46 sb g L (i1 + 1) _ (by first | exact hsc3.drewN 1 | exact (hsc3.below (bal (Below.refl _ _) _)).drewN 1 | exact (hsc3.drewN 1).below (bal (Below.refl _ _) _)) (by omega)).mono ?_; rintro e w4 ⟨rfl, hsc4, hst4⟩; (first | (have hx4 := cell_of_St hst4 (at_new W3 (.cells #[.int .u8 c.toNat] 5) W3.heap.size rfl) (Nat.ne_of_gt hsc3.lt)) | skip)))
      all_goals
        have hsc4' : Sc w4 sb g L (run nIs L (i1 + 1)) := hsc4
        obtain ⟨l3, l4⟩ := run_le nIs L (i1 + 1) (by omega)
        obtain ⟨i3, hi3⟩ : ∃ i3, i3 = run nIs L (i1 + 1) := ⟨_, rfl⟩
        rw [← hi3] at hsc4' l3 l4
        have HI3 := Go.Lib.hid hi3
        clear hi3 hsc4 hcat hcv1
        have hst4' : St sb w w4 := by first | exact hst3.trans (((St.of_below (bal (Below.refl W3.heap.size W3) (.cells #[.int .u8 c.toNat] 5))).drewN 1).trans hst4) | exact (hst3.drewN 1).trans hst4
        clear hst4
        go_wp2_with fail
        refine (done27 sb g L i3 _ (by first | exact hsc4' | exact hsc4'.below (bal (Below.refl _ _) _) | exact hsc4'.drewN 1 | exact (hsc4'.below (bal (Below.refl _ _) _)).drewN 1)).mono ?_
        rintro e w5 ⟨rfl, hd5⟩
        have hsc5 : Sc w5 sb g L i3 := by obtain ⟨n, rfl⟩ := hd5; first | exact hsc4'.drewN n | exact (hsc4'.below (bal (Below.refl _ _) _)).drewN n
        have hst5 : St sb w w5 := by obtain ⟨n, rfl⟩ := hd5; first | exact hst4'.drewN n | exact (hst4'.trans (St.of_below (bal (Below.refl _ _) _))).drewN n
        clear hd5 hsc4' hst4'
        by_cases hd3 : L.length ≤ i3
        · have hb3 : decide (L.length ≤ i3) = true := decide_eq_true hd3
          have HE := Go.Lib.hid (show attrF L i = (none, i3) by simp only [attrF]; rw [← HI1.out, if_neg HD1.out, if_neg (by rw [HCD.out]; simpa using HC62.out), ← HI3.out, if_pos hd3])
          clear hd3
          go_wp2
          go_step3
          exact ⟨rfl, at_none HE.out hsc5 hst5⟩
        · have hb3 : decide (L.length ≤ i3) = false := decide_eq_false hd3
          have HD3 := Go.Lib.hid hd3
          clear hd3
          obtain ⟨l5, l6⟩ := run_le isBl L i3 l4
          go_wp2_with fail
          refine (skipBlank18 sb g L i3 w5 hsc5 l4).mono ?_
          obtain ⟨i4, hi4⟩ : ∃ i4, i4 = run isBl L i3 := ⟨_, rfl⟩
          rw [← hi4] at l5 l6 ⊢
          have HI4 := Go.Lib.hid hi4
          clear hi4
          rintro e w6 ⟨rfl, hsc6, hst6'⟩
          have hst6 := hst5.trans hst6'
          clear hst6'
          by_cases hd4 : L.length ≤ i4
          · have hb4 : decide (L.length ≤ i4) = true := decide_eq_true hd4
            have HE := Go.Lib.hid (show attrF L i = (none, i4) by simp only [attrF]; rw [← HI1.out, if_neg HD1.out, if_neg (by rw [HCD.out]; simpa using HC62.out), ← HI3.out, if_neg HD3.out, ← HI4.out, if_pos hd4])
            clear hd4
            go_wp2
            go_step3
            exact ⟨rfl, at_none HE.out hsc6 hst6⟩
          · have hb4 : decide (L.length ≤ i4) = false := decide_eq_false hd4
            have hlt4 : i4 < L.length := by omega
            have HD4 := Go.Lib.hid hd4
            clear hd4
            have m0 : (0 : Int) ≤ i4 := by omega
            have m1 : (i4 : Int) < L.length := by omega
            have h0 := hsc6.c0
            have h1 := hsc6.c1
            have hf1 := hsc6.fr 1
            have hby := hsc6.byte i4 hlt4
            obtain ⟨d, hdd⟩ : ∃ d, d = L[i4] := ⟨_, rfl⟩
            have hgd : L.getD i4 0 = d := by rw [hdd, List.getD_eq_getElem?_getD, List.getElem?_eq_getElem hlt4]; rfl
            rw [← hdd] at hby
            have HGD := Go.Lib.hid hgd
            have hq4 := beq_toNat d 61
            rw [show ((61 : UInt8).toNat : Int) = 61 from rfl] at hq4
            clear hdd hgd
            cases hc61 : (d == 61) with
            | false =>
              rw [hc61] at hq4
              have hq5 : ((d.toNat : Int) != 61) = true := by rw [bne, hq4]; rfl
              have HE := Go.Lib.hid (show attrF L i = (some (L.getD i1 0 :: (L.drop (i1 + 1)).takeWhile nIs, []), i4) by simp only [attrF]; rw [← HI1.out, if_neg HD1.out, if_neg (by rw [HCD.out]; simpa using HC62.out), ← HI3.out, if_neg HD3.out, ← HI4.out, if_neg HD4.out, if_pos (by rw [HGD.out]; simpa using hc61)])
              clear hc61
              go_wp2
              go_quiet (fail)
              go_wp2
              simp only [Exit.jump]
              go_ret3
              rw [HE.out]
              exact ⟨by rw [← HCD.out]; exact ret_nv _ _ _, hsc6.drewN _, hst6.drewN _⟩
            | true =>
              rw [hc61] at hq4
              have hq5 : ((d.toNat : Int) != 61) = false := by rw [bne, hq4]; rfl
              have HC61 := Go.Lib.hid hc61
              clear hc61
              go_wp2
              go_quiet (fail)
              go_wp2_with fail
              have hsc7 := (hsc6.drewN nq).set (i4 + 1) (.int .i64 (↑i4 + 1)) (by go_num)
              have hst7 := (hst6.drewN nq).set (.int .i64 (↑i4 + 1))
              generalize (w6.drewN nq).setCell ⟨sb, 1, none⟩ (.int .i64 (↑i4 + 1)) = W7 at *
              clear h0 h1 hf1 hby hsc6 hst6
              obtain ⟨l7, l8⟩ := run_le isBl L (i4 + 1) (by omega)
              refine (skipBlank18 sb g L (i4 + 1) W7 hsc7 (by omega)).mono ?_
              obtain ⟨i5, hi5⟩ : ∃ i5, i5 = run isBl L (i4 + 1) := ⟨_, rfl⟩
              rw [← hi5] at l7 l8 ⊢
              have HI5 := Go.Lib.hid hi5
              clear hi5
              rintro e w8 ⟨rfl, hsc8, hst8'⟩
              have hst8 := hst7.trans hst8'
              clear hst8' hsc7 hst7
              by_cases hd5 : L.length ≤ i5
              · have hb5 : decide (L.length ≤ i5) = true := decide_eq_true hd5
                have HE := Go.Lib.hid (show attrF L i = (none, i5) by simp only [attrF]; rw [← HI1.out, if_neg HD1.out, if_neg (by rw [HCD.out]; simpa using HC62.out), ← HI3.out, if_neg HD3.out, ← HI4.out, if_neg HD4.out, if_neg (by rw [HGD.out]; simpa using HC61.out), ← HI5.out, if_pos hd5])
                clear hd5
                go_wp2
                go_step3
                exact ⟨rfl, at_none HE.out hsc8 hst8⟩
              · have hb5 : decide (L.length ≤ i5) = false := decide_eq_false hd5
                have hlt5 : i5 < L.length := by omega
                have HD5 := Go.Lib.hid hd5
                clear hd5
                have n0 : (0 : Int) ≤ i5 := by omega
                have n1 : (i5 : Int) < L.length := by omega
                have h0 := hsc8.c0
                have h1 := hsc8.c1
                have hf1 := hsc8.fr 1
                have hby := hsc8.byte i5 hlt5
                obtain ⟨q, hqq⟩ : ∃ q, q = L[i5] := ⟨_, rfl⟩
                have hgq : L.getD i5 0 = q := by rw [hqq, List.getD_eq_getElem?_getD, List.getElem?_eq_getElem hlt5]; rfl
                rw [← hqq] at hby
                have HGQ := Go.Lib.hid hgq
                have hq34 := beq_toNat q 34
                have hq39 := beq_toNat q 39
                rw [show ((34 : UInt8).toNat : Int) = 34 from rfl] at hq34
                rw [show ((39 : UInt8).toNat : Int) = 39 from rfl] at hq39
                clear hqq hgq
                obtain ⟨bq, hbq⟩ : ∃ bq, bq = (q == 34) := ⟨_, rfl⟩
                obtain ⟨br, hbr⟩ : ∃ br, br = (q == 39) := ⟨_, rfl⟩
                rw [← hbq] at hq34
                rw [← hbr] at hq39
                have HBQ := Go.Lib.hid hbq
                have HBR := Go.Lib.hid hbr
                clear hbq hbr
                have HQ := Go.Lib.hid (show (bq || br) = true ↔ (q = 34 ∨ q = 39) by rw [HBQ.out, HBR.out]; simp)
                rcases bq with _ | _ <;> rcases br with _ | _
                · have HNQ := Go.Lib.hid (show ¬ (q = 34 ∨ q = 39) from fun h => by cases HQ.out.2 h)
                  have U := until20 32 enter32 isTe tagEnd32 sb g L i5
                  obtain ⟨l9, l10⟩ := run_le nTe L i5 (by omega)
                  go_wp2
                  go_quiet (fail)
                  go_wp2_with fail
                  refine (U _ (hsc8.drewN nq) (by omega)).mono ?_
                  rintro e w9 ⟨rfl, hsc9, hst9'⟩
                  have hsc9' : Sc w9 sb g L (run nTe L i5) := hsc9
                  have hst9 := (hst8.drewN nq).trans hst9'
                  clear hst9' hsc9 U h0 h1 hf1 hby
                  obtain ⟨i7, hi7⟩ : ∃ i7, i7 = run nTe L i5 := ⟨_, rfl⟩
                  rw [← hi7] at hsc9' l9 l10
                  have HI7 := Go.Lib.hid hi7
                  clear hi7
                  go_wp2_with fail
                  refine (done27 sb g L i7 w9 hsc9').mono ?_
                  rintro e w10 ⟨rfl, n10, rfl⟩
                  by_cases hd7 : L.length ≤ i7
                  · have hb7 : decide (L.length ≤ i7) = true := decide_eq_true hd7
                    have HE := Go.Lib.hid (show attrF L i = (none, i7) by simp only [attrF]; rw [← HI1.out, if_neg HD1.out, if_neg (by rw [HCD.out]; simpa using HC62.out), ← HI3.out, if_neg HD3.out, ← HI4.out, if_neg HD4.out, if_neg (by rw [HGD.out]; simpa using HC61.out), ← HI5.out, if_neg HD5.out, HGQ.out, if_neg HNQ.out, ← HI7.out, if_pos hd7])
                    clear hd7
                    go_wp2
                    go_step3
                    exact ⟨rfl, at_none HE.out (hsc9'.drewN _) (hst9.drewN _)⟩
                  · have hb7 : decide (L.length ≤ i7) = false := decide_eq_false hd7
                    have HE := Go.Lib.hid (show attrF L i = (some (L.getD i1 0 :: (L.drop (i1 + 1)).takeWhile nIs, (L.drop i5).takeWhile nTe), i7) by simp only [attrF]; rw [← HI1.out, if_neg HD1.out, if_neg (by rw [HCD.out]; simpa using HC62.out), ← HI3.out, if_neg HD3.out, ← HI4.out, if_neg HD4.out, if_neg (by rw [HGD.out]; simpa using HC61.out), ← HI5.out, if_neg HD5.out, HGQ.out, if_neg HNQ.out, ← HI7.out, if_neg hd7])
                    clear hd7
                    go_wp2
                    simp only [Exit.jump]
                    go_ret3
                    rw [HE.out]
                    exact ⟨by rw [← HCD.out]; exact ret_nv _ _ _, hsc9'.drewN _, hst9.drewN _⟩
                all_goals
                  have HYQ := Go.Lib.hid (show q = 34 ∨ q = 39 from HQ.out.1 rfl)
                  go_wp2
                  go_quiet (fail)
                  go_wp2_with fail
                  have hsc9 := (hsc8.drewN nq).set (i5 + 1) (.int .i64 (↑i5 + 1)) (by go_num)
                  have hst9 := (hst8.drewN nq).set (.int .i64 (↑i5 + 1))
                  generalize (w8.drewN nq).setCell ⟨sb, 1, none⟩ (.int .i64 (↑i5 + 1)) = W9 at *
                  clear h0 h1 hf1 hby hsc8 hst8
                  obtain ⟨l9, l10⟩ := run_le (· != q) L (i5 + 1) (by omega)
                  refine (past19 sb g L (i5 + 1) q W9 hsc9 (by omega)).mono ?_
                  rintro e w10 ⟨rfl, hsc10, hst10'⟩
                  have hst10 := hst9.trans hst10'
                  clear hst10' hsc9 hst9
                  by_cases hf : run (· != q) L (i5 + 1) < L.length
                  · have hbf : decide (run (· != q) L (i5 + 1) < L.length) = true := decide_eq_true hf
                    have HE := Go.Lib.hid (show attrF L i = (some (L.getD i1 0 :: (L.drop (i1 + 1)).takeWhile nIs, (L.drop (i5 + 1)).takeWhile (· != q)), run (· != q) L (i5 + 1) + 1) by simp only [attrF]; rw [← HI1.out, if_neg HD1.out, if_neg (by rw [HCD.out]; simpa using HC62.out), ← HI3.out, if_neg HD3.out, ← HI4.out, if_neg HD4.out, if_neg (by rw [HGD.out]; simpa using HC61.out), ← HI5.out, if_neg HD5.out, HGQ.out, if_pos HYQ.out, if_pos hf])
                    rw [show pastI L (i5 + 1) q = run (· != q) L (i5 + 1) + 1 by rw [pastI, if_pos hf]] at hsc10
                    have HTW := Go.Lib.hid (tw_take (· != q) L (i5 + 1))
                    rw [hbf]
                    obtain ⟨i8, hi8⟩ : ∃ i8, i8 = run (· != q) L (i5 + 1) := ⟨_, rfl⟩
                    rw [← hi8] at hsc10 hf l9 l10
                    have HI8 := Go.Lib.hid hi8
                    clear hi8 hbf
                    have h0 := hsc10.c0
                    have h1 := hsc10.c1
                    have hcv : ∀ m, (convert 26 9 (.slice (some ⟨g, i5 + 1, none⟩) (i8 - (i5 + 1)) (L.length - (i5 + 1)))).run Tryd.prog (w10.drewN m) = .ok (.string (mkS ((L.drop (i5 + 1)).take (i8 - (i5 + 1))))) (w10.drewN m) := fun m => (hsc10.drewN m).conv _ _ _ (by omega)
                    have y0 : (0 : Int) ≤ (i5 : Int) + 1 := by omega
                    have y1 : (i5 : Int) + 1 ≤ i8 := by omega
                    have y2 : (i8 : Int) ≤ L.length := by omega
                    have y3 : ¬ L.length = i5 + 1 := by omega
                    have y4 : ((i5 : Int) + 1).toNat = i5 + 1 := by omega
                    have y5 : (0 : Int) ≤ i8 := by omega
                    go_wp2
                    go_quiet (fail)
                    go_wp2
                    simp only [Exit.jump]
                    go_ret3
                    rw [HE.out]
                    refine ⟨?_, ?_, hst10.drewN _⟩
                    · rw [← HCD.out, HTW.out, ← HI8.out]
                      exact ret_nv _ _ _
                    · rw [← HI8.out]
                      exact hsc10.drewN _
                  · have hbf : decide (run (· != q) L (i5 + 1) < L.length) = false := decide_eq_false hf
                    have HE := Go.Lib.hid (show attrF L i = (none, L.length) by simp only [attrF]; rw [← HI1.out, if_neg HD1.out, if_neg (by rw [HCD.out]; simpa using HC62.out), ← HI3.out, if_neg HD3.out, ← HI4.out, if_neg HD4.out, if_neg (by rw [HGD.out]; simpa using HC61.out), ← HI5.out, if_neg HD5.out, HGQ.out, if_pos HYQ.out, if_neg hf])
                    rw [show pastI L (i5 + 1) q = L.length by rw [pastI, if_neg hf]] at hsc10
                    rw [hbf]
                    clear hf hbf l9 l10
                    go_wp2
                    go_step3
                    exact ⟨rfl, at_none HE.out hsc10 hst10⟩
end Go.Proofs.YtcmhfcnjfhcpdaaDoor
