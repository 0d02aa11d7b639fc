/- Texts of one seat, merged: lemmas and contracts that the law leans on. -/
import Derived.Test.YthfdiinfeljeeaaGreatDoorCM8
import Derived.Deep.RegionLaw
import Derived.Deep.RegionHeld3
/- The reference writes what is in a node. -/
namespace Go.Proofs.YthfdiinfeljeeaaGreatDoor
open Go.RowKit
theorem mkS_app (a b : List UInt8) : mkS a ++ mkS b = mkS (a ++ b) := by
  apply ByteArray.ext
  simp [mkS]
set_option maxHeartbeats 4000000 in
set_option maxRecDepth 100000 in
theorem below51 (B p g cap : Nat) (m : List On) (id : Nat) (w : World) (hO : Or w B p g cap m) (hid : id < m.length) (hkind : m[id].kind = 1) (hspace : m[id].space = 0) (hname : m[id].name.toList ∈ okNames) (hinn : m[id].inn = -1) (o : Nat → List UInt8)
    (hks : ∀ c ∈ m[id].ks, c < m.length) (hkl : m[id].ks.length ≤ 1000000) (hlen : (m[id].ks.flatMap o).length ≤ 1000000000000000)
    (ho : ∀ c ∈ m[id].ks, ∀ W, Below w.heap.size w W → Calls Tryz.prog 68 #[.pointer (some ⟨p, 0, none⟩), .int .i64 c, .int .i64 id, .bool false] W fun e w' => e = .returned (.string (mkS (o c))) ∧ Below W.heap.size W w') :
    Calls Tryz.prog 51 #[.pointer (some ⟨p, 0, none⟩), .int .i64 id, .bool false] w fun e w' => e = .returned (.string (mkS (m[id].ks.flatMap o))) ∧ Below w.heap.size w w' := by
  have hbt : ∀ {w0 w1 : World}, ∀ w2, Below w0.heap.size w0 w1 → Below w1.heap.size w1 w2 → Below w0.heap.size w0 w2 := fun _ h h2 => h.trans ⟨h2.os, h2.tape, h2.output, h2.size, fun j hj => h2.block j (Nat.lt_of_lt_of_le hj h.size)⟩
  have hc := hO.cell
  have k0 := fun j (hj : j < 10) => hO.at id j hid hj
  have hrd := (hO.at_ _ (List.getElem_mem hid)).rdK
  have hl0 : (0 : Int) ≤ (id : Int) := by omega
  have hl1 : (id : Int) < (m.length : Int) := by omega
  generalize m[id] = n at *
  obtain ⟨kind, space, name, al, aa, ac, data, sys, inn, host, up, xs, ka, kc⟩ := n
  dsimp only at *
  subst hkind hspace hinn
  have c0 := k0 0 (by omega)
  have c1 := k0 1 (by omega)
  have c2 := k0 2 (by omega)
  have c3 := k0 3 (by omega)
  have c4 := k0 4 (by omega)
  have c5 := k0 5 (by omega)
  have c6 := k0 6 (by omega)
  have c7 := k0 7 (by omega)
  have c8 := k0 8 (by omega)
  have c9 := k0 9 (by omega)
  simp only [On.cells, On.arr, List.getElem?_cons_zero, List.getElem?_cons_succ] at c0 c1 c2 c3 c4 c5 c6 c7 c8 c9
  rw [Nat.add_zero] at c0
  have hbx := at_new w (.cells #[.int .i64 1, .int .i64 0, .string name, .slice aa al.length ac, .string data, .string sys, .int .i64 (-1), .int .i64 host, .int .i64 up, .slice ka xs.length kc] 59) _ rfl
  have hb1 := bal (Below.refl w.heap.size w) (.cells #[.int .i64 1, .int .i64 0, .string name, .slice aa al.length ac, .string data, .string sys, .int .i64 (-1), .int .i64 host, .int .i64 up, .slice ka xs.length kc] 59)
  have V := rvoid67 hname (w.alloc (.cells #[.int .i64 1, .int .i64 0, .string name, .slice aa al.length ac, .string data, .string sys, .int .i64 (-1), .int .i64 host, .int .i64 up, .slice ka xs.length kc] 59))
  have hpre : ∀ k, ((xs.take k).flatMap o).length ≤ 1000000000000000 := fun k => by
    have : ((xs.take k).flatMap o).length + ((xs.drop k).flatMap o).length = (xs.flatMap o).length := by rw [← List.length_append, ← List.flatMap_append, List.take_append_drop]
    omega
  clear k0 hO
  go_enter Tryz.func51, Tryz.ntmps51
  go_wp2_with (go_at_call 67; refine V.mono ?_; rintro e w1 ⟨rfl, hw1⟩; have cb := blk_cells (bblk hw1 hbx))
  have hb2 := hbt _ hb1 hw1
  clear V hbx hw1 cb
  go_loopw [8, 9] (fun v8 v9 wr => ∃ i : Nat, v9 = .int .i64 i ∧ i ≤ xs.length ∧ v8 = .string (mkS ((xs.take i).flatMap o)) ∧ Below w.heap.size w wr) (fun _ v9 _ => xs.length - (intOf v9).toNat)
  case atStart => exact ⟨0, rfl, Nat.zero_le _, rfl, hb2⟩
  case round =>
    obtain ⟨i, rfl, hi, rfl, hb⟩ := hrel
    have d9 := bcl hb c9
    have dc := bcl hb hc
    by_cases hlt : i < xs.length
    · obtain ⟨b, rfl, hx⟩ := hrd i hlt
      have dx := bcl hb (hx i hlt)
      have O := ho _ (List.getElem_mem hlt) _ hb
      have hp := hpre i
      have hp1 := hpre (i + 1)
      have htk : (xs.take (i + 1)).flatMap o = (xs.take i).flatMap o ++ o xs[i] := by rw [List.take_succ_eq_append_getElem hlt, List.flatMap_append, List.flatMap_cons, List.flatMap_nil, List.append_nil]
      rw [htk, List.length_append] at hp1
      have hsz : (mkS ((xs.take i).flatMap o)).size + (mkS (o xs[i])).size ≤ 9223372036854775807 := by rw [mkS_size, mkS_size]; omega
      have HT := Go.Lib.hid htk
      clear htk hrd hx ho
      generalize xs[i] = c at *
      go_wp2_with (go_at_call 68; refine O.mono ?_; rintro e w2 ⟨rfl, hw2⟩)
      go_roundw
      case rel => exact ⟨i + 1, by go_num, by omega, by rw [HT.out, ← mkS_app], hbt _ hb hw2⟩
      case measure => simp [intOf]; omega
    · obtain rfl : i = xs.length := by omega
      have he : xs.take xs.length = xs := List.take_of_length_le (Nat.le_refl _)
      rw [he]
      go_wp2
      go_ret
      exact ⟨rfl, hb⟩
end Go.Proofs.YthfdiinfeljeeaaGreatDoor
/- The reference: a bare element, a head. -/
namespace Go.Proofs.YthfdiinfeljeeaaGreatDoor
open Go.RowKit
set_option maxHeartbeats 4000000 in
set_option maxRecDepth 100000 in
theorem rbare30 (B p g cap : Nat) (m : List On) (id : Nat) (name : ByteArray) (w : World) (hO : Or w B p g cap m) (hid : id < m.length) :
    Calls Tryz.prog 30 #[.pointer (some ⟨p, 0, none⟩), .int .i64 id, .string name] w fun e w' => e = .returned (.bool (bareV (vO m) id name.toList)) ∧ Below w.heap.size w w' := by
  have hc := hO.cell
  have k0 := fun j (hj : j < 10) => hO.at id j hid hj
  unfold bareV vO
  rw [gO_get hid]
  generalize m[id] = n at *
  obtain ⟨kind, space, nm, al, aa, ac, data, sys, inn, host, up, ks, ka, kc⟩ := n
  dsimp only at *
  have c0 := k0 0 (by omega)
  have c1 := k0 1 (by omega)
  have c2 := k0 2 (by omega)
  have c3 := k0 3 (by omega)
  have c4 := k0 4 (by omega)
  have c5 := k0 5 (by omega)
  have c6 := k0 6 (by omega)
  have c7 := k0 7 (by omega)
  have c8 := k0 8 (by omega)
  have c9 := k0 9 (by omega)
  simp only [On.cells, On.arr, List.getElem?_cons_zero, List.getElem?_cons_succ] at c0 c1 c2 c3 c4 c5 c6 c7 c8 c9
  rw [Nat.add_zero] at c0
  clear k0 hO
  have hb1 := bal (Below.refl w.heap.size w) (.cells #[.int .i64 kind, .int .i64 space, .string nm, .slice aa al.length ac, .string data, .string sys, .int .i64 inn, .int .i64 host, .int .i64 up, .slice ka ks.length kc] 59)
  have hl0 : (0 : Int) ≤ (id : Int) := by omega
  have hl1 : (id : Int) < (m.length : Int) := by omega
  have hal : ((al.length : Int) == 0) = (al.length == 0) := by rw [Bool.eq_iff_iff, beq_iff_eq, beq_iff_eq]; omega
  rw [← hal]
  clear hal
  generalize h0 : (kind == 1) = b0
  generalize h1 : (space == 0) = b1
  generalize h2 : (nm.toList == name.toList) = b2
  rcases b0 with _ | _ <;> rcases b1 with _ | _ <;> rcases b2 with _ | _
  all_goals
    go_enter Tryz.func30, Tryz.ntmps30
    go_wp2
    go_ret
    exact ⟨rfl, hb1⟩
end Go.Proofs.YthfdiinfeljeeaaGreatDoor
/- The reference: a head. -/
namespace Go.Proofs.YthfdiinfeljeeaaGreatDoor
open Go.RowKit
theorem rbare (B p g cap : Nat) (m : List On) (id : Nat) (name : ByteArray) (n : List UInt8) (hn : name.toList = n) (w : World) (hO : Or w B p g cap m) (hid : id < m.length) :
    Calls Tryz.prog 30 #[.pointer (some ⟨p, 0, none⟩), .int .i64 id, .string name] w fun e w' => e = .returned (.bool (bareV (vO m) id n)) ∧ Below w.heap.size w w' := by
  subst hn
  exact rbare30 B p g cap m id name w hO hid
theorem cell_lt {w : World} {b i : Nat} {v : Value} (h : w.cell? ⟨b, i, none⟩ = some v) : b < w.heap.size := by
  rcases Nat.lt_or_ge b w.heap.size with h1 | h1
  · exact h1
  · have : w.heap[b]? = none := Array.getElem?_eq_none h1
    simp [World.cell?, this] at h
theorem Or.kcell {w : World} {B p g cap : Nat} {m : List On} (h : Or w B p g cap m) (id : Nat) (hid : id < m.length) : w.cell? ⟨g, id * 10 + 9, none⟩ = some (.slice m[id].ka m[id].ks.length m[id].kc) := by
  rw [h.at id 9 hid (by omega)]; rfl
theorem Or.kfirst {w : World} {B p g cap : Nat} {m : List On} (h : Or w B p g cap m) (id : Nat) (hid : id < m.length) (j : Nat) (hj : j < m[id].ks.length) : ∃ b, m[id].ka = some ⟨b, 0, none⟩ ∧ w.cell? ⟨b, j, none⟩ = some (.int .i64 (m[id].ks[j] : Nat)) := by
  obtain ⟨b, h1, h2⟩ := (h.at_ _ (List.getElem_mem hid)).rdK j hj
  exact ⟨b, h1, h2 j hj⟩
set_option maxHeartbeats 8000000 in
set_option maxRecDepth 100000 in
theorem rhead31 (B p g cap : Nat) (m : List On) (hF : Fit m) (id : Nat) (w : World) (hO : Or w B p g cap m) (hid : id < m.length) :
    Calls Tryz.prog 31 #[.pointer (some ⟨p, 0, none⟩), .int .i64 id] w fun e w' => e = .returned (.bool (headV (vO m) (ksO m) id)) ∧ Below w.heap.size w w' := by
  have hbt : ∀ {w0 w1 : World}, ∀ w2, Below w0.heap.size w0 w1 → Below w1.heap.size w1 w2 → Below w0.heap.size w0 w2 := fun _ h h2 => h.trans ⟨h2.os, h2.tape, h2.output, h2.size, fun j hj => h2.block j (Nat.lt_of_lt_of_le hj h.size)⟩
  have B0 := rbare B p g cap m id ⟨#[104, 101, 97, 100]⟩ wHead (by rw [tl]) w hO hid
  have hl0 : (0 : Int) ≤ (id : Int) := by omega
  have hl1 : (id : Int) < (m.length : Int) := by omega
  have hc := hO.cell
  have hk := hO.kcell id hid
  unfold headV
  rw [show ksO m id = m[id].ks by rw [ksO, gO_get hid]]
  cases hb : bareV (vO m) id wHead
  · rw [hb] at B0
    rw [Bool.false_and]
    go_enter Tryz.func31, Tryz.ntmps31
    go_wp2_with (go_at_call 30; refine B0.mono ?_; rintro e w1 ⟨rfl, hw1⟩)
    go_ret
    exact ⟨rfl, hw1⟩
  · rw [hb] at B0
    rw [Bool.true_and]
    rcases hks : m[id].ks with _ | ⟨t, _ | ⟨t2, rest⟩⟩
    · rw [hks] at hk
      go_enter Tryz.func31, Tryz.ntmps31
      go_wp2_with (go_at_call 30; refine B0.mono ?_; rintro e w1 ⟨rfl, hw1⟩; have hc1 := bcl hw1 hc; have hk1 := bcl hw1 hk; rw [List.length_nil] at hk1)
      go_ret
      exact ⟨rfl, hw1⟩
    · have ht := hF.ks id hid t (by rw [hks]; simp)
      obtain ⟨b, hka, hkc⟩ := hO.kfirst id hid 0 (by rw [hks]; simp)
      rw [show m[id].ks[0]'(by rw [hks]; simp) = t by simp [hks]] at hkc
      rw [hka, hks] at hk
      have B1 := fun W (hW : Below w.heap.size w W) => rbare B p g cap m t ⟨#[116, 105, 116, 108, 101]⟩ wTitle (by rw [tl]) W (hO.below hW) ht
      have hkt := hO.kcell t ht
      have ht0 : (0 : Int) ≤ (t : Int) := by omega
      have ht1 : (t : Int) < (m.length : Int) := by omega
      have hlen : ([t] : List Nat).length = 1 := rfl
      simp only
      rw [show ksO m t = m[t].ks by rw [ksO, gO_get ht]]
      rw [List.length_singleton] at hk
      have A30 := hc
      cases hb1 : bareV (vO m) t wTitle
      · simp only [hb1] at B1
        rw [Bool.false_and]
        go_enter Tryz.func31, Tryz.ntmps31
        go_wp2_with (go_at_call 30; first
          | ((with_reducible refine B0.mono ?_); rintro e w1 ⟨rfl, hw1⟩; have hc1 := bcl hw1 hc; have hk1 := bcl hw1 hk; have hkc1 := bcl hw1 hkc)
          | ((with_reducible refine (B1 _ hw1).mono ?_); rintro e w2 ⟨rfl, hw2⟩))
        go_ret
        exact ⟨rfl, hbt _ hw1 hw2⟩
      · simp only [hb1] at B1
        rw [Bool.true_and]
        rcases hkx : m[t].ks with _ | ⟨x, _ | ⟨x2, rest⟩⟩
        · rw [hkx] at hkt
          rw [List.length_nil] at hkt
          go_enter Tryz.func31, Tryz.ntmps31
          go_wp2_with (go_at_call 30; first
            | ((with_reducible refine B0.mono ?_); rintro e w1 ⟨rfl, hw1⟩; have hc1 := bcl hw1 hc; have hk1 := bcl hw1 hk; have hkc1 := bcl hw1 hkc)
            | ((with_reducible refine (B1 _ hw1).mono ?_); rintro e w2 ⟨rfl, hw2⟩; have hb2 := hbt _ hw1 hw2; have hc2 := bcl hb2 hc; have hkt2 := bcl hb2 hkt))
          go_ret
          exact ⟨rfl, hb2⟩
        · have hx := hF.ks t ht x (by rw [hkx]; simp)
          obtain ⟨b2, hka2, hkc2⟩ := hO.kfirst t ht 0 (by rw [hkx]; simp)
          rw [show m[t].ks[0]'(by rw [hkx]; simp) = x by simp [hkx]] at hkc2
          rw [hka2, hkx] at hkt
          rw [List.length_singleton] at hkt
          have k0 := fun j (hj : j < 10) => hO.at x j hx hj
          have hdx := hF.data x hx
          simp only
          rw [show textV (vO m) x = (m[x].kind == 2 && !m[x].data.toList.isEmpty && plainB m[x].data) by rw [textV, vO, gO_get hx]]
          have hx0 : (0 : Int) ≤ (x : Int) := by omega
          have hx1 : (x : Int) < (m.length : Int) := by omega
          clear hks hkx hka hka2 hF
          generalize m[x] = n at *
          obtain ⟨kind, space, nm, al, aa, ac, data, sys, inn, host, up, ks, ka, kc⟩ := n
          dsimp only at *
          have c0 := k0 0 (by omega)
          have c1 := k0 1 (by omega)
          have c2 := k0 2 (by omega)
          have c3 := k0 3 (by omega)
          have c4 := k0 4 (by omega)
          have c5 := k0 5 (by omega)
          have c6 := k0 6 (by omega)
          have c7 := k0 7 (by omega)
          have c8 := k0 8 (by omega)
          have c9 := k0 9 (by omega)
          simp only [On.cells, On.arr, List.getElem?_cons_zero, List.getElem?_cons_succ] at c0 c1 c2 c3 c4 c5 c6 c7 c8 c9
          rw [Nat.add_zero] at c0
          clear k0 hO
          have P := fun W => rplain59 data W hdx
          go_enter Tryz.func31, Tryz.ntmps31
          go_wp2_with (go_at_call 30; first
            | ((with_reducible refine B0.mono ?_); rintro e w1 ⟨rfl, hw1⟩; have hc1 := bcl hw1 hc; have hk1 := bcl hw1 hk; have hkc1 := bcl hw1 hkc)
            | ((with_reducible refine (B1 _ hw1).mono ?_); rintro e w2 ⟨rfl, hw2⟩; have hb2 := hbt _ hw1 hw2; have hc2 := bcl hb2 hc; have hkt2 := bcl hb2 hkt; have hkc2' := bcl hb2 hkc2; have d0 := bcl hb2 c0; have d1 := bcl hb2 c1; have d2 := bcl hb2 c2; have d3 := bcl hb2 c3; have d4 := bcl hb2 c4; have d5 := bcl hb2 c5; have d6 := bcl hb2 c6; have d7 := bcl hb2 c7; have d8 := bcl hb2 c8; have d9 := bcl hb2 c9; have lg2 := cell_lt d0; have lp2 := cell_lt hc2; have lk2 := cell_lt hkc2'))
          have hbx := bal hb2 (.cells #[.int .i64 kind, .int .i64 space, .string nm, .slice aa al.length ac, .string data, .string sys, .int .i64 inn, .int .i64 host, .int .i64 up, .slice ka ks.length kc] 59)
          go_region_law
            (fail)
          all_goals
            clear d0 d1 d2 d3 d4 d5 d6 d7 d8 d9 hkc2' hkt2 hc2 hkc1 hk1 hc1 B0 B1 c0 c1 c2 c3 c4 c5 c6 c7 c8 c9 hkt hkc2 hkc hk hc
            cases q2 : (kind == 2)
            · go_wp2
              go_ret
              exact ⟨ret_bool (by rw [q2]; rfl), below_drewN hbx _⟩
            · cases qe : data.toList.isEmpty
              · go_wp2_with (go_at_call 59; refine (P _).mono ?_; rintro e w3 ⟨rfl, hw3⟩)
                go_ret
                exact ⟨ret_bool (by rw [q2, qe]; rfl), hbt _ (below_drewN hbx _) hw3⟩
              · go_wp2
                go_ret
                exact ⟨ret_bool (by rw [q2, qe]; rfl), below_drewN hbx _⟩
        · rw [hkx] at hkt
          have hgt : decide (((x :: x2 :: rest).length : Int) > 1) = true := decide_eq_true (by simp only [List.length_cons]; omega)
          go_enter Tryz.func31, Tryz.ntmps31
          go_wp2_with (go_at_call 30; first
            | ((with_reducible refine B0.mono ?_); rintro e w1 ⟨rfl, hw1⟩; have hc1 := bcl hw1 hc; have hk1 := bcl hw1 hk; have hkc1 := bcl hw1 hkc)
            | ((with_reducible refine (B1 _ hw1).mono ?_); rintro e w2 ⟨rfl, hw2⟩; have hb2 := hbt _ hw1 hw2; have hc2 := bcl hb2 hc; have hkt2 := bcl hb2 hkt))
          go_ret
          exact ⟨rfl, hb2⟩
    · rw [hks] at hk
      go_enter Tryz.func31, Tryz.ntmps31
      have hgt : decide (((t :: t2 :: rest).length : Int) > 1) = true := decide_eq_true (by simp only [List.length_cons]; omega)
      go_wp2_with (go_at_call 30; refine B0.mono ?_; rintro e w1 ⟨rfl, hw1⟩; have hc1 := bcl hw1 hc; have hk1 := bcl hw1 hk)
      go_ret
      exact ⟨rfl, hw1⟩
end Go.Proofs.YthfdiinfeljeeaaGreatDoor
/- The reference writes a node. -/
namespace Go.Proofs.YthfdiinfeljeeaaGreatDoor
open Go.RowKit
theorem mk_data (s : ByteArray) : mkS s.data.toList = s := by
  apply ByteArray.ext
  simp [mkS]
theorem below_drew (w : World) : Below w.heap.size w w.drew := ⟨rfl, rfl, rfl, Nat.le_refl _, fun _ _ => rfl⟩
set_option maxHeartbeats 4000000 in
set_option maxRecDepth 100000 in
theorem text68 (B p g cap : Nat) (m : List On) (id par : Nat) (w : World) (hO : Or w B p g cap m) (hid : id < m.length) (hpar : par < m.length) (hp1 : m[par].kind = 1) (hp2 : m[par].space = 0) (hp3 : m[par].name.toList ∈ okNames)
    (hkind : m[id].kind = 2) (hd : m[id].data.size ≤ 1048576) :
    Calls Tryz.prog 68 #[.pointer (some ⟨p, 0, none⟩), .int .i64 id, .int .i64 par, .bool false] w fun e w' => e = .returned (.string (mkS (escL false m[id].data.data.toList))) ∧ Below w.heap.size w w' := by
  have hbt : ∀ {w0 w1 : World}, ∀ w2, Below w0.heap.size w0 w1 → Below w1.heap.size w1 w2 → Below w0.heap.size w0 w2 := fun _ h h2 => h.trans ⟨h2.os, h2.tape, h2.output, h2.size, fun j hj => h2.block j (Nat.lt_of_lt_of_le hj h.size)⟩
  have hc := hO.cell
  have k0 := fun j (hj : j < 10) => hO.at id j hid hj
  have k1 := fun j (hj : j < 10) => hO.at par j hpar hj
  have hl0 : (0 : Int) ≤ (id : Int) := by omega
  have hl1 : (id : Int) < (m.length : Int) := by omega
  have hl2 : (0 : Int) ≤ (par : Int) := by omega
  have hl3 : (par : Int) < (m.length : Int) := by omega
  generalize m[id] = n at *
  generalize m[par] = n2 at *
  obtain ⟨kind, space, name, al, aa, ac, data, sys, inn, host, up, ks, ka, kc⟩ := n
  obtain ⟨kind2, space2, name2, al2, aa2, ac2, data2, sys2, inn2, host2, up2, ks2, ka2, kc2⟩ := n2
  dsimp only at *
  subst hkind hp1 hp2
  have c0 := k0 0 (by omega)
  have c1 := k0 1 (by omega)
  have c2 := k0 2 (by omega)
  have c3 := k0 3 (by omega)
  have c4 := k0 4 (by omega)
  have c5 := k0 5 (by omega)
  have c6 := k0 6 (by omega)
  have c7 := k0 7 (by omega)
  have c8 := k0 8 (by omega)
  have c9 := k0 9 (by omega)
  simp only [On.cells, On.arr, List.getElem?_cons_zero, List.getElem?_cons_succ] at c0 c1 c2 c3 c4 c5 c6 c7 c8 c9
  rw [Nat.add_zero] at c0
  have d0 := k1 0 (by omega)
  have d1 := k1 1 (by omega)
  have d2 := k1 2 (by omega)
  have d3 := k1 3 (by omega)
  have d4 := k1 4 (by omega)
  have d5 := k1 5 (by omega)
  have d6 := k1 6 (by omega)
  have d7 := k1 7 (by omega)
  have d8 := k1 8 (by omega)
  have d9 := k1 9 (by omega)
  simp only [On.cells, On.arr, List.getElem?_cons_zero, List.getElem?_cons_succ] at d0 d1 d2 d3 d4 d5 d6 d7 d8 d9
  rw [Nat.add_zero] at d0
  have hb1 := bal (bal (Below.refl w.heap.size w) (.cells #[.int .i64 2, .int .i64 space, .string name, .slice aa al.length ac, .string data, .string sys, .int .i64 inn, .int .i64 host, .int .i64 up, .slice ka ks.length kc] 59)) (.cells #[.int .i64 1, .int .i64 0, .string name2, .slice aa2 al2.length ac2, .string data2, .string sys2, .int .i64 inn2, .int .i64 host2, .int .i64 up2, .slice ka2 ks2.length kc2] 59)
  have V := fun W => rplain88 hp3 W
  have E := fun W => rescape89 data false W hd
  clear k0 k1 hO
  have lg := cell_lt c0
  have lp := cell_lt hc
  have hbx := bblk (bal (Below.refl _ _) (.cells #[.int .i64 1, .int .i64 0, .string name2, .slice aa2 al2.length ac2, .string data2, .string sys2, .int .i64 inn2, .int .i64 host2, .int .i64 up2, .slice ka2 ks2.length kc2] 59)) (at_new w (.cells #[.int .i64 2, .int .i64 space, .string name, .slice aa al.length ac, .string data, .string sys, .int .i64 inn, .int .i64 host, .int .i64 up, .slice ka ks.length kc] 59) _ rfl)
  go_enter Tryz.func68, Tryz.ntmps68
  go_wp2_with (first | (go_at_call 88; refine (V _).mono ?_; rintro e w1 ⟨rfl, hw1⟩; have cb := blk_cells (bblk hw1 hbx)) | (go_at_call 89; refine (E _).mono ?_; rintro e w2 ⟨rfl, hw2⟩))
  go_ret
  exact ⟨rfl, hbt _ (hbt _ hb1 hw1) hw2⟩
set_option maxHeartbeats 4000000 in
set_option maxRecDepth 100000 in
theorem com68 (B p g cap : Nat) (m : List On) (id par : Nat) (w : World) (hO : Or w B p g cap m) (hid : id < m.length)
    (hkind : m[id].kind = 3) (hd : m[id].data.size ≤ 1048576) :
    Calls Tryz.prog 68 #[.pointer (some ⟨p, 0, none⟩), .int .i64 id, .int .i64 par, .bool false] w fun e w' => e = .returned (.string (mkS ([60, 33, 45, 45] ++ m[id].data.data.toList ++ [45, 45, 62]))) ∧ Below w.heap.size w w' := by
  have hbt : ∀ {w0 w1 : World}, ∀ w2, Below w0.heap.size w0 w1 → Below w1.heap.size w1 w2 → Below w0.heap.size w0 w2 := fun _ h h2 => h.trans ⟨h2.os, h2.tape, h2.output, h2.size, fun j hj => h2.block j (Nat.lt_of_lt_of_le hj h.size)⟩
  have hc := hO.cell
  have k0 := fun j (hj : j < 10) => hO.at id j hid hj
  have hl0 : (0 : Int) ≤ (id : Int) := by omega
  have hl1 : (id : Int) < (m.length : Int) := by omega
  generalize m[id] = n at *
  obtain ⟨kind, space, name, al, aa, ac, data, sys, inn, host, up, ks, ka, kc⟩ := n
  dsimp only at *
  subst hkind
  have c0 := k0 0 (by omega)
  have c1 := k0 1 (by omega)
  have c2 := k0 2 (by omega)
  have c3 := k0 3 (by omega)
  have c4 := k0 4 (by omega)
  have c5 := k0 5 (by omega)
  have c6 := k0 6 (by omega)
  have c7 := k0 7 (by omega)
  have c8 := k0 8 (by omega)
  have c9 := k0 9 (by omega)
  simp only [On.cells, On.arr, List.getElem?_cons_zero, List.getElem?_cons_succ] at c0 c1 c2 c3 c4 c5 c6 c7 c8 c9
  rw [Nat.add_zero] at c0
  have hb1 := bal (Below.refl w.heap.size w) (.cells #[.int .i64 3, .int .i64 space, .string name, .slice aa al.length ac, .string data, .string sys, .int .i64 inn, .int .i64 host, .int .i64 up, .slice ka ks.length kc] 59)
  clear k0 hO
  have he : (⟨#[60, 33, 45, 45]⟩ : ByteArray) ++ data ++ ⟨#[45, 45, 62]⟩ = mkS ([60, 33, 45, 45] ++ data.data.toList ++ [45, 45, 62]) := by rw [← mkS_app, ← mkS_app, mk_data]; rfl
  have hs1 : 4 + data.size ≤ 9223372036854775807 := by omega
  have hs2 : 4 + data.size + 3 ≤ 9223372036854775807 := by omega
  go_enter Tryz.func68, Tryz.ntmps68
  go_wp2
  go_ret
  exact ⟨ret_str he, hb1⟩
theorem attrsW_take (al : List A4) (i : Nat) (h : i < al.length) : attrsW (al.take (i + 1)) = attrsW (al.take i) ++ attrW al[i] := by
  rw [List.take_succ_eq_append_getElem h, attrsW, attrsW, List.flatMap_append, List.flatMap_cons, List.flatMap_nil, List.append_nil]
set_option maxHeartbeats 8000000 in
set_option maxRecDepth 100000 in
theorem el68 (B p g cap : Nat) (m : List On) (id par : Nat) (w : World) (hO : Or w B p g cap m) (hid : id < m.length)
    (hkind : m[id].kind = 1) (hspace : m[id].space = 0) (hname : m[id].name.toList ∈ okNames) (hns : m[id].name.size ≤ 1048576) (hsp : ∀ x ∈ m[id].al, x.sp = 0) (hal : m[id].al.length ≤ 1024) (htx : ∀ s ∈ txtA m[id].al, s.size ≤ 1048576)
    (O : List UInt8) (hlen : O.length ≤ 1000000000000000)
    (hbel : ∀ W, Below w.heap.size w W → Calls Tryz.prog 51 #[.pointer (some ⟨p, 0, none⟩), .int .i64 id, .bool false] W fun e w' => e = .returned (.string (mkS O)) ∧ Below W.heap.size W w') :
    Calls Tryz.prog 68 #[.pointer (some ⟨p, 0, none⟩), .int .i64 id, .int .i64 par, .bool false] w fun e w' => e = .returned (.string (mkS ([60] ++ m[id].name.data.toList ++ attrsW m[id].al ++ [62] ++ O ++ [60, 47] ++ m[id].name.data.toList ++ [62]))) ∧ Below w.heap.size w w' := by
  have hbt : ∀ {w0 w1 : World}, ∀ w2, Below w0.heap.size w0 w1 → Below w1.heap.size w1 w2 → Below w0.heap.size w0 w2 := fun _ h h2 => h.trans ⟨h2.os, h2.tape, h2.output, h2.size, fun j hj => h2.block j (Nat.lt_of_lt_of_le hj h.size)⟩
  have hc := hO.cell
  have k0 := fun j (hj : j < 10) => hO.at id j hid hj
  have hrd := (hO.at_ _ (List.getElem_mem hid)).rdA
  have hl0 : (0 : Int) ≤ (id : Int) := by omega
  have hl1 : (id : Int) < (m.length : Int) := by omega
  generalize m[id] = n at *
  obtain ⟨kind, space, name, al, aa, ac, data, sys, inn, host, up, ks, ka, kc⟩ := n
  dsimp only at *
  subst hkind hspace
  have c0 := k0 0 (by omega)
  have c1 := k0 1 (by omega)
  have c2 := k0 2 (by omega)
  have c3 := k0 3 (by omega)
  have c4 := k0 4 (by omega)
  have c5 := k0 5 (by omega)
  have c6 := k0 6 (by omega)
  have c7 := k0 7 (by omega)
  have c8 := k0 8 (by omega)
  have c9 := k0 9 (by omega)
  simp only [On.cells, On.arr, List.getElem?_cons_zero, List.getElem?_cons_succ] at c0 c1 c2 c3 c4 c5 c6 c7 c8 c9
  rw [Nat.add_zero] at c0
  have hb1 := bal (Below.refl w.heap.size w) (.cells #[.int .i64 1, .int .i64 0, .string name, .slice aa al.length ac, .string data, .string sys, .int .i64 inn, .int .i64 host, .int .i64 up, .slice ka ks.length kc] 59)
  have hbx := at_new w (.cells #[.int .i64 1, .int .i64 0, .string name, .slice aa al.length ac, .string data, .string sys, .int .i64 inn, .int .i64 host, .int .i64 up, .slice ka ks.length kc] 59) _ rfl
  have hcx := blk_cells hbx
  have hal0 := attrsW_len al htx
  have V := fun W => rvoid67 hname W
  have hpre : ∀ k, (attrsW (al.take k)).length ≤ 100000000000 := fun k => by
    have h1 := attrsW_len (al.take k) fun s hs => htx s (by
      obtain ⟨x, hx, h⟩ := List.mem_flatMap.1 hs
      exact List.mem_flatMap.2 ⟨x, List.mem_of_mem_take hx, h⟩)
    have h2 : (al.take k).length ≤ 1024 := by rw [List.length_take]; omega
    have := Nat.mul_le_mul_right 7340036 h2
    omega
  have hnl : name.data.toList.length = name.size := dlen _
  clear k0 hO
  have hsn : 1 + name.size ≤ 9223372036854775807 := by omega
  go_enter Tryz.func68, Tryz.ntmps68
  go_wp2
  go_loopw [11, 12] (fun v11 v12 wr => ∃ i : Nat, v12 = .int .i64 i ∧ i ≤ al.length ∧ v11 = .string (mkS ([60] ++ name.data.toList ++ attrsW (al.take i))) ∧ Below (w.alloc (.cells #[.int .i64 1, .int .i64 0, .string name, .slice aa al.length ac, .string data, .string sys, .int .i64 inn, .int .i64 host, .int .i64 up, .slice ka ks.length kc] 59)).heap.size (w.alloc (.cells #[.int .i64 1, .int .i64 0, .string name, .slice aa al.length ac, .string data, .string sys, .int .i64 inn, .int .i64 host, .int .i64 up, .slice ka ks.length kc] 59)) wr) (fun _ v12 _ => al.length - (intOf v12).toNat)
  case atStart => exact ⟨0, rfl, Nat.zero_le _, by rw [List.take_zero, show attrsW [] = [] from rfl, List.append_nil, ← mkS_app, mk_data]; rfl, Below.refl _ _⟩
  case round =>
    obtain ⟨i, rfl, hi, rfl, hb⟩ := hrel
    have hbb := hbt _ hb1 hb
    by_cases hlt : i < al.length
    · obtain ⟨b, off, rfl, hx⟩ := hrd (by intro h; rw [h] at hlt; simp at hlt)
      obtain ⟨a0, a1, a2, a3⟩ := hx i hlt
      have d3 : wr.cell? ⟨w.heap.size, 3, none⟩ = some (.slice (some ⟨b, off, none⟩) al.length ac) := bcl hb (hcx 3)
      have hp := hpre i
      have htk := attrsW_take al i hlt
      have hsi := hsp _ (List.getElem_mem hlt)
      have hva := htx al[i].va (List.mem_flatMap.2 ⟨al[i], List.getElem_mem hlt, by simp⟩)
      have hnm := htx al[i].nm (List.mem_flatMap.2 ⟨al[i], List.getElem_mem hlt, by simp⟩)
      rw [attrW] at htk
      rw [hsi] at a0
      clear hrd hx hsp hal0 hpre V hbel hname
      generalize al[i].sp = sp at *
      generalize al[i].pre = pre at *
      generalize al[i].nm = nm at *
      generalize al[i].va = va at *
      have hz : (mkS (escL true va.data.toList)).size ≤ 7340032 := by
        have := escL_len true _ va.data.toList (Nat.le_refl _)
        rw [dlen] at this
        rw [mkS_size]
        omega
      have E := fun W => rescape89 va true W hva
      have hs0 : (mkS ([60] ++ name.data.toList ++ attrsW (al.take i))).size ≤ 1000000000000 := by rw [mkS_size]; simp only [List.length_append, List.length_cons, List.length_nil]; omega
      have hfin : mkS ([60] ++ name.data.toList ++ attrsW (al.take i)) ++ ⟨#[32]⟩ ++ nm ++ ⟨#[61, 34]⟩ ++ mkS (escL true va.data.toList) ++ ⟨#[34]⟩ = mkS ([60] ++ name.data.toList ++ attrsW (al.take (i + 1))) := by
        apply ByteArray.ext
        rw [htk]
        simp [mkS]
      have HF := Go.Lib.hid hfin
      clear hfin htk
      generalize mkS ([60] ++ name.data.toList ++ attrsW (al.take i)) = s0 at *
      generalize mkS (escL true va.data.toList) = z at *
      have hbd : Below (w.alloc (.cells #[.int .i64 1, .int .i64 0, .string name, .slice (some ⟨b, off, none⟩) al.length ac, .string data, .string sys, .int .i64 inn, .int .i64 host, .int .i64 up, .slice ka ks.length kc] 59)).heap.size (w.alloc (.cells #[.int .i64 1, .int .i64 0, .string name, .slice (some ⟨b, off, none⟩) al.length ac, .string data, .string sys, .int .i64 inn, .int .i64 host, .int .i64 up, .slice ka ks.length kc] 59)) wr.drew := hbt _ hb (by exact below_drew _)
      have hs1 : ¬ 9223372036854775807 < s0.size + 1 := by omega
      have hs2 : ¬ 9223372036854775807 < s0.size + 1 + nm.size := by omega
      have hs3 : ¬ 9223372036854775807 < s0.size + 1 + nm.size + 2 := by omega
      have hs4 : ¬ 9223372036854775807 < s0.size + 1 + nm.size + 2 + z.size := by omega
      have hs5 : ¬ 9223372036854775807 < s0.size + 1 + nm.size + 2 + z.size + 1 := by omega
      have hi0 : (0 : Int) ≤ (i : Int) := by omega
      have hi1 : (i : Int) < (al.length : Int) := by omega
      have e3 := d3
      have hb2 := bcl hbb a0
      have hS : ∀ W W', (fun W => Below (w.alloc (.cells #[.int .i64 1, .int .i64 0, .string name, .slice (some ⟨b, off, none⟩) al.length ac, .string data, .string sys, .int .i64 inn, .int .i64 host, .int .i64 up, .slice ka ks.length kc] 59)).heap.size (w.alloc (.cells #[.int .i64 1, .int .i64 0, .string name, .slice (some ⟨b, off, none⟩) al.length ac, .string data, .string sys, .int .i64 inn, .int .i64 host, .int .i64 up, .slice ka ks.length kc] 59)) W ∧ W.cell? ⟨w.heap.size, 3, none⟩ = some (.slice (some ⟨b, off, none⟩) al.length ac) ∧ W.cell? ⟨b, off + i * 4, none⟩ = some (.int .i64 0) ∧ W.cell? ⟨b, off + i * 4 + 1, none⟩ = some (.string pre) ∧ W.cell? ⟨b, off + i * 4 + 2, none⟩ = some (.string nm) ∧ W.cell? ⟨b, off + i * 4 + 3, none⟩ = some (.string va)) W → Below W.heap.size W W' → (fun W => Below (w.alloc (.cells #[.int .i64 1, .int .i64 0, .string name, .slice (some ⟨b, off, none⟩) al.length ac, .string data, .string sys, .int .i64 inn, .int .i64 host, .int .i64 up, .slice ka ks.length kc] 59)).heap.size (w.alloc (.cells #[.int .i64 1, .int .i64 0, .string name, .slice (some ⟨b, off, none⟩) al.length ac, .string data, .string sys, .int .i64 inn, .int .i64 host, .int .i64 up, .slice ka ks.length kc] 59)) W ∧ W.cell? ⟨w.heap.size, 3, none⟩ = some (.slice (some ⟨b, off, none⟩) al.length ac) ∧ W.cell? ⟨b, off + i * 4, none⟩ = some (.int .i64 0) ∧ W.cell? ⟨b, off + i * 4 + 1, none⟩ = some (.string pre) ∧ W.cell? ⟨b, off + i * 4 + 2, none⟩ = some (.string nm) ∧ W.cell? ⟨b, off + i * 4 + 3, none⟩ = some (.string va)) W' := fun W W' h h' => ⟨hbt _ h.1 h', bcl h' h.2.1, bcl h' h.2.2.1, bcl h' h.2.2.2.1, bcl h' h.2.2.2.2.1, bcl h' h.2.2.2.2.2⟩
      have hS0 : (fun W => Below (w.alloc (.cells #[.int .i64 1, .int .i64 0, .string name, .slice (some ⟨b, off, none⟩) al.length ac, .string data, .string sys, .int .i64 inn, .int .i64 host, .int .i64 up, .slice ka ks.length kc] 59)).heap.size (w.alloc (.cells #[.int .i64 1, .int .i64 0, .string name, .slice (some ⟨b, off, none⟩) al.length ac, .string data, .string sys, .int .i64 inn, .int .i64 host, .int .i64 up, .slice ka ks.length kc] 59)) W ∧ W.cell? ⟨w.heap.size, 3, none⟩ = some (.slice (some ⟨b, off, none⟩) al.length ac) ∧ W.cell? ⟨b, off + i * 4, none⟩ = some (.int .i64 0) ∧ W.cell? ⟨b, off + i * 4 + 1, none⟩ = some (.string pre) ∧ W.cell? ⟨b, off + i * 4 + 2, none⟩ = some (.string nm) ∧ W.cell? ⟨b, off + i * 4 + 3, none⟩ = some (.string va)) wr := ⟨hb, d3, bcl hbb a0, bcl hbb a1, bcl hbb a2, bcl hbb a3⟩
      have hS1 := hS wr wr.drew hS0 (below_drew _)
      clear hb2 a0 a1 a2 a3 hs0
      have HS := Go.Lib.hid hS
      clear hS
      go_wp2
      refine wp_region_held_drew (S := (fun W => Below (w.alloc (.cells #[.int .i64 1, .int .i64 0, .string name, .slice (some ⟨b, off, none⟩) al.length ac, .string data, .string sys, .int .i64 inn, .int .i64 host, .int .i64 up, .slice ka ks.length kc] 59)).heap.size (w.alloc (.cells #[.int .i64 1, .int .i64 0, .string name, .slice (some ⟨b, off, none⟩) al.length ac, .string data, .string sys, .int .i64 inn, .int .i64 host, .int .i64 up, .slice ka ks.length kc] 59)) W ∧ W.cell? ⟨w.heap.size, 3, none⟩ = some (.slice (some ⟨b, off, none⟩) al.length ac) ∧ W.cell? ⟨b, off + i * 4, none⟩ = some (.int .i64 0) ∧ W.cell? ⟨b, off + i * 4 + 1, none⟩ = some (.string pre) ∧ W.cell? ⟨b, off + i * 4 + 2, none⟩ = some (.string nm) ∧ W.cell? ⟨b, off + i * 4 + 3, none⟩ = some (.string va))) (by kernel_rfl) (hS1) (fun hHeld => ?_)
      refine wpAnyH_take (i := 0) (oi := ⟨some 72, _, _, _, _, _⟩) (v := ?_) rfl (by kernel_rfl) (by kernel_rfl) (by kernel_rfl) (fun _ _ _ h => h) (Or.inl ⟨by kernel_rfl, ?_⟩) (by assumption) ?_
      rotate_left
      · intro w hSw; (try dsimp only at hSw); (try go_simp); all_goals (with_reducible rfl)
      try simp only [Act.put]
      refine wpAnyH_take (i := 1) (oi := ⟨some 73, _, _, _, _, _⟩) (v := ?_) rfl (by kernel_rfl) (by kernel_rfl) (by kernel_rfl) (fun _ _ _ h => h) (Or.inl ⟨by kernel_rfl, ?_⟩) (by assumption) ?_
      rotate_left
      · intro w hSw; (try dsimp only at hSw); (try go_simp); all_goals (with_reducible rfl)
      try simp only [Act.put]
      refine wpAnyH_take (i := 2) (oi := ⟨some 74, _, _, _, _, _⟩) (v := ?_) rfl (by kernel_rfl) (by kernel_rfl) (by kernel_rfl) (fun _ _ _ h => h) (Or.inl ⟨by kernel_rfl, ?_⟩) (by assumption) ?_
      rotate_left
      · intro w hSw; (try dsimp only at hSw); (try go_simp); all_goals (with_reducible rfl)
      try simp only [Act.put]
      refine wpAnyH_take (i := 3) (oi := ⟨some 75, _, _, _, _, _⟩) (v := ?_) rfl (by kernel_rfl) (by kernel_rfl) (by kernel_rfl) (fun _ _ _ h => h) (Or.inl ⟨by kernel_rfl, ?_⟩) (by assumption) ?_
      rotate_left
      · intro w hSw; (try dsimp only at hSw); (try go_simp); all_goals (with_reducible rfl)
      try simp only [Act.put]
      refine wpAnyH_take (i := 4) (oi := ⟨some 76, _, _, _, _, _⟩) (v := ?_) rfl (by kernel_rfl) (by kernel_rfl) (by kernel_rfl) (fun _ _ _ h => h) (Or.inl ⟨by kernel_rfl, ?_⟩) (by assumption) ?_
      rotate_left
      · intro w hSw; (try dsimp only at hSw); (try go_simp); all_goals (with_reducible rfl)
      try simp only [Act.put]
      refine wpAnyH_take (i := 5) (oi := ⟨some 77, _, _, _, _, _⟩) (v := ?_) rfl (by kernel_rfl) (by kernel_rfl) (by kernel_rfl) (fun _ _ _ h => h) (Or.inl ⟨by kernel_rfl, ?_⟩) (by assumption) ?_
      rotate_left
      · intro w hSw; (try dsimp only at hSw); (try go_simp); all_goals (with_reducible rfl)
      try simp only [Act.put]
      refine wpAnyH_take (i := 6) (oi := ⟨some 78, _, _, _, _, _⟩) (v := ?_) rfl (by kernel_rfl) (by kernel_rfl) (by kernel_rfl) (fun _ _ _ h => h) (Or.inl ⟨by kernel_rfl, ?_⟩) (by assumption) ?_
      rotate_left
      · intro w hSw; (try dsimp only at hSw); (try go_simp); all_goals (with_reducible rfl)
      try simp only [Act.put]
      refine wpAnyH_take (i := 10) (oi := ⟨some 82, _, _, _, _, _⟩) (v := ?_) rfl (by kernel_rfl) (by kernel_rfl) (by kernel_rfl) (fun _ _ _ h => h) (Or.inl ⟨by kernel_rfl, ?_⟩) (by assumption) ?_
      rotate_left
      · intro w hSw; (try dsimp only at hSw); (try go_simp); all_goals (with_reducible rfl)
      try simp only [Act.put]
      refine wpAnyH_take (i := 11) (oi := ⟨some 83, _, _, _, _, _⟩) (v := ?_) rfl (by kernel_rfl) (by kernel_rfl) (by kernel_rfl) (fun _ _ _ h => h) (Or.inl ⟨by kernel_rfl, ?_⟩) (by assumption) ?_
      rotate_left
      · intro w hSw; (try dsimp only at hSw); (try go_simp); all_goals (with_reducible rfl)
      try simp only [Act.put]
      refine wpAnyH_take (i := 12) (oi := ⟨some 84, _, _, _, _, _⟩) (v := ?_) rfl (by kernel_rfl) (by kernel_rfl) (by kernel_rfl) (fun _ _ _ h => h) (Or.inl ⟨by kernel_rfl, ?_⟩) (by assumption) ?_
      rotate_left
      · intro w hSw; (try dsimp only at hSw); (try go_simp); all_goals (with_reducible rfl)
      try simp only [Act.put]
      refine wpAnyH_take (i := 13) (oi := ⟨some 85, _, _, _, _, _⟩) (v := ?_) rfl (by kernel_rfl) (by kernel_rfl) (by kernel_rfl) (fun _ _ _ h => h) (Or.inl ⟨by kernel_rfl, ?_⟩) (by assumption) ?_
      rotate_left
      · intro w hSw; (try dsimp only at hSw); (try go_simp); all_goals (with_reducible rfl)
      try simp only [Act.put]
      refine wpAnyH_take (i := 14) (oi := ⟨some 86, _, _, _, _, _⟩) (v := ?_) rfl (by kernel_rfl) (by kernel_rfl) (by kernel_rfl) (fun _ _ _ h => h) (Or.inl ⟨by kernel_rfl, ?_⟩) (by assumption) ?_
      rotate_left
      · intro w hSw; (try dsimp only at hSw); (try go_simp); all_goals (with_reducible rfl)
      try simp only [Act.put]
      refine wpAnyH_take (i := 15) (oi := ⟨some 87, _, _, _, _, _⟩) (v := ?_) rfl (by kernel_rfl) (by kernel_rfl) (by kernel_rfl) (fun _ _ _ h => h) (Or.inl ⟨by kernel_rfl, ?_⟩) (by assumption) ?_
      rotate_left
      · intro w hSw; (try dsimp only at hSw); (try go_simp); all_goals (with_reducible rfl)
      try simp only [Act.put]
      refine wpAnyH_ready (rs := [7]) (by kernel_rfl) (by simp) ?_
      refine AllReadyH.cons rfl (fun K hK => ?_) AllReadyH.nil
      go_simp
      go_wp2_with (go_at_call 90; refine (rshown90 _ _ _ _).mono ?_; rintro e w1 ⟨rfl, hw1⟩)
      refine hK.out _ _ (HS.out _ _ hHeld hw1) (fun hHeld => ?_)
      clear hK K
      refine wpAnyH_take (i := 8) (oi := ⟨some 80, _, _, _, _, _⟩) (v := ?_) rfl (by kernel_rfl) (by kernel_rfl) (by kernel_rfl) (fun _ _ _ h => h) (Or.inl ⟨by kernel_rfl, ?_⟩) (by assumption) ?_
      rotate_left
      · intro w hSw; (try dsimp only at hSw); (try go_simp); all_goals (with_reducible rfl)
      try simp only [Act.put]
      refine wpAnyH_take (i := 9) (oi := ⟨some 81, _, _, _, _, _⟩) (v := ?_) rfl (by kernel_rfl) (by kernel_rfl) (by kernel_rfl) (fun _ _ _ h => h) (Or.inl ⟨by kernel_rfl, ?_⟩) (by assumption) ?_
      rotate_left
      · intro w hSw; (try dsimp only at hSw); (try go_simp); all_goals (with_reducible rfl)
      try simp only [Act.put]
      refine wpAnyH_ready (rs := [16]) (by kernel_rfl) (by simp) ?_
      refine AllReadyH.cons rfl (fun K hK => ?_) AllReadyH.nil
      go_simp
      go_wp2_with (go_at_call 89; refine (E _).mono ?_; rintro e w2 ⟨rfl, hw2⟩)
      refine hK.out _ _ (HS.out _ _ hHeld hw2) (fun hHeld => ?_)
      clear hK K
      refine wpAnyH_take (i := 17) (oi := ⟨some 89, _, _, _, _, _⟩) (v := ?_) rfl (by kernel_rfl) (by kernel_rfl) (by kernel_rfl) (fun _ _ _ h => h) (Or.inl ⟨by kernel_rfl, ?_⟩) (by assumption) ?_
      rotate_left
      · intro w hSw; (try dsimp only at hSw); (try go_simp); all_goals (with_reducible rfl)
      try simp only [Act.put]
      refine wpAnyH_take (i := 18) (oi := ⟨some 90, _, _, _, _, _⟩) (v := ?_) rfl (by kernel_rfl) (by kernel_rfl) (by kernel_rfl) (fun _ _ _ h => h) (Or.inl ⟨by kernel_rfl, ?_⟩) (by assumption) ?_
      rotate_left
      · intro w hSw; (try dsimp only at hSw); (try go_simp); all_goals (with_reducible rfl)
      try simp only [Act.put]
      refine wpAnyH_take (i := 19) (oi := ⟨some 11, _, _, _, _, _⟩) (v := ?_) rfl (by kernel_rfl) (by kernel_rfl) (by kernel_rfl) (fun _ _ _ h => h) (Or.inl ⟨by kernel_rfl, ?_⟩) (by assumption) ?_
      rotate_left
      · intro w hSw; (try dsimp only at hSw); (try go_simp); all_goals (with_reducible rfl)
      try simp only [Act.put]
      refine wpAnyH_done (by kernel_rfl) ?_ _
      simp only [List.setIfInBounds_toArray, List.set_cons_succ, List.set_cons_zero]
      go_wp2
      go_roundw
      case rel => exact ⟨i + 1, by go_num, by omega, by rw [HF.out], hHeld.1⟩
      case measure => simp [intOf]; omega
    · obtain rfl : i = al.length := by omega
      have he : al.take al.length = al := List.take_of_length_le (Nat.le_refl _)
      rw [he]
      have d1 : wr.cell? ⟨w.heap.size, 1, none⟩ = some (.int .i64 0) := bcl hb (hcx 1)
      have d2 : wr.cell? ⟨w.heap.size, 2, none⟩ = some (.string name) := bcl hb (hcx 2)
      have d3 : wr.cell? ⟨w.heap.size, 3, none⟩ = some (.slice aa al.length ac) := bcl hb (hcx 3)
      have hs0 : (mkS ([60] ++ name.data.toList ++ attrsW al)).size ≤ 1000000000000 := by
        have := hpre al.length
        rw [he] at this
        rw [mkS_size]; simp only [List.length_append, List.length_cons, List.length_nil]; omega
      have hz : (mkS O).size ≤ 1000000000000000 := by rw [mkS_size]; exact hlen
      have hfin : mkS ([60] ++ name.data.toList ++ attrsW al) ++ ⟨#[62]⟩ ++ mkS O ++ ⟨#[60, 47]⟩ ++ name ++ ⟨#[62]⟩ = mkS ([60] ++ name.data.toList ++ attrsW al ++ [62] ++ O ++ [60, 47] ++ name.data.toList ++ [62]) := by
        apply ByteArray.ext
        simp [mkS]
      have HF := Go.Lib.hid hfin
      clear hfin hrd hsp hal0 hpre htx
      generalize mkS ([60] ++ name.data.toList ++ attrsW al) = s0 at *
      have hs1 : ¬ 9223372036854775807 < s0.size + 1 := by omega
      have hs2 : ¬ 9223372036854775807 < s0.size + 1 + (mkS O).size := by omega
      have hs3 : ¬ 9223372036854775807 < s0.size + 1 + (mkS O).size + 2 := by omega
      have hs4 : ¬ 9223372036854775807 < s0.size + 1 + (mkS O).size + 2 + name.size := by omega
      have hs5 : ¬ 9223372036854775807 < s0.size + 1 + (mkS O).size + 2 + name.size + 1 := by omega
      have KB := fun W (hW : Below (w.alloc (.cells #[.int .i64 1, .int .i64 0, .string name, .slice aa al.length ac, .string data, .string sys, .int .i64 inn, .int .i64 host, .int .i64 up, .slice ka ks.length kc] 59)).heap.size (w.alloc (.cells #[.int .i64 1, .int .i64 0, .string name, .slice aa al.length ac, .string data, .string sys, .int .i64 inn, .int .i64 host, .int .i64 up, .slice ka ks.length kc] 59)) W) => hbel W (hbt _ hb1 hW)
      have HS := Go.Lib.hid (show ∀ W W', (fun W => Below (w.alloc (.cells #[.int .i64 1, .int .i64 0, .string name, .slice aa al.length ac, .string data, .string sys, .int .i64 inn, .int .i64 host, .int .i64 up, .slice ka ks.length kc] 59)).heap.size (w.alloc (.cells #[.int .i64 1, .int .i64 0, .string name, .slice aa al.length ac, .string data, .string sys, .int .i64 inn, .int .i64 host, .int .i64 up, .slice ka ks.length kc] 59)) W ∧ W.cell? ⟨w.heap.size, 2, none⟩ = some (.string name)) W → Below W.heap.size W W' → (fun W => Below (w.alloc (.cells #[.int .i64 1, .int .i64 0, .string name, .slice aa al.length ac, .string data, .string sys, .int .i64 inn, .int .i64 host, .int .i64 up, .slice ka ks.length kc] 59)).heap.size (w.alloc (.cells #[.int .i64 1, .int .i64 0, .string name, .slice aa al.length ac, .string data, .string sys, .int .i64 inn, .int .i64 host, .int .i64 up, .slice ka ks.length kc] 59)) W ∧ W.cell? ⟨w.heap.size, 2, none⟩ = some (.string name)) W' from fun W W' h h' => ⟨hbt _ h.1 h', bcl h' h.2⟩)
      clear hbel
      generalize mkS O = z at *
      go_wp2_with (go_at_call 67; refine (V _).mono ?_; rintro e w1 ⟨rfl, hw1⟩)
      have hS1 := HS.out _ _ (HS.out _ _ ⟨hb, d2⟩ hw1) (below_drew _)
      clear V
      refine wp_region_held_drew (S := (fun W => Below (w.alloc (.cells #[.int .i64 1, .int .i64 0, .string name, .slice aa al.length ac, .string data, .string sys, .int .i64 inn, .int .i64 host, .int .i64 up, .slice ka ks.length kc] 59)).heap.size (w.alloc (.cells #[.int .i64 1, .int .i64 0, .string name, .slice aa al.length ac, .string data, .string sys, .int .i64 inn, .int .i64 host, .int .i64 up, .slice ka ks.length kc] 59)) W ∧ W.cell? ⟨w.heap.size, 2, none⟩ = some (.string name))) (by kernel_rfl) (hS1) (fun hHeld => ?_)
      refine wpAnyH_take (i := 0) (oi := ⟨some 101, _, _, _, _, _⟩) (v := ?_) rfl (by kernel_rfl) (by kernel_rfl) (by kernel_rfl) (fun _ _ _ h => h) (Or.inl ⟨by kernel_rfl, ?_⟩) (by assumption) ?_
      rotate_left
      · intro w hSw; (try dsimp only at hSw); (try go_simp); all_goals (with_reducible rfl)
      try simp only [Act.put]
      refine wpAnyH_take (i := 1) (oi := ⟨some 102, _, _, _, _, _⟩) (v := ?_) rfl (by kernel_rfl) (by kernel_rfl) (by kernel_rfl) (fun _ _ _ h => h) (Or.inl ⟨by kernel_rfl, ?_⟩) (by assumption) ?_
      rotate_left
      · intro w hSw; (try dsimp only at hSw); (try go_simp); all_goals (with_reducible rfl)
      try simp only [Act.put]
      refine wpAnyH_take (i := 2) (oi := ⟨some 103, _, _, _, _, _⟩) (v := ?_) rfl (by kernel_rfl) (by kernel_rfl) (by kernel_rfl) (fun _ _ _ h => h) (Or.inl ⟨by kernel_rfl, ?_⟩) (by assumption) ?_
      rotate_left
      · intro w hSw; (try dsimp only at hSw); (try go_simp); all_goals (with_reducible rfl)
      try simp only [Act.put]
      refine wpAnyH_take (i := 3) (oi := ⟨some 104, _, _, _, _, _⟩) (v := ?_) rfl (by kernel_rfl) (by kernel_rfl) (by kernel_rfl) (fun _ _ _ h => h) (Or.inl ⟨by kernel_rfl, ?_⟩) (by assumption) ?_
      rotate_left
      · intro w hSw; (try dsimp only at hSw); (try go_simp); all_goals (with_reducible rfl)
      try simp only [Act.put]
      refine wpAnyH_take (i := 4) (oi := ⟨some 105, _, _, _, _, _⟩) (v := ?_) rfl (by kernel_rfl) (by kernel_rfl) (by kernel_rfl) (fun _ _ _ h => h) (Or.inl ⟨by kernel_rfl, ?_⟩) (by assumption) ?_
      rotate_left
      · intro w hSw; (try dsimp only at hSw); (try go_simp); all_goals (with_reducible rfl)
      try simp only [Act.put]
      refine wpAnyH_take (i := 8) (oi := ⟨some 109, _, _, _, _, _⟩) (v := ?_) rfl (by kernel_rfl) (by kernel_rfl) (by kernel_rfl) (fun _ _ _ h => h) (Or.inl ⟨by kernel_rfl, ?_⟩) (by assumption) ?_
      rotate_left
      · intro w hSw; (try dsimp only at hSw); (try go_simp); all_goals (with_reducible rfl)
      try simp only [Act.put]
      refine wpAnyH_take (i := 9) (oi := ⟨some 110, _, _, _, _, _⟩) (v := ?_) rfl (by kernel_rfl) (by kernel_rfl) (by kernel_rfl) (fun _ _ _ h => h) (Or.inl ⟨by kernel_rfl, ?_⟩) (by assumption) ?_
      rotate_left
      · intro w hSw; (try dsimp only at hSw); (try go_simp); all_goals (with_reducible rfl)
      try simp only [Act.put]
      refine wpAnyH_ready (rs := [5]) (by kernel_rfl) (by simp) ?_
      refine AllReadyH.cons rfl (fun K hK => ?_) AllReadyH.nil
      go_simp
      go_wp2_with (go_at_call 51; refine (KB _ hHeld.1).mono ?_; rintro e w2 ⟨rfl, hw2⟩)
      refine hK.out _ _ (HS.out _ _ hHeld hw2) (fun hHeld => ?_)
      clear hK K
      refine wpAnyH_take (i := 6) (oi := ⟨some 107, _, _, _, _, _⟩) (v := ?_) rfl (by kernel_rfl) (by kernel_rfl) (by kernel_rfl) (fun _ _ _ h => h) (Or.inl ⟨by kernel_rfl, ?_⟩) (by assumption) ?_
      rotate_left
      · intro w hSw; (try dsimp only at hSw); (try go_simp); all_goals (with_reducible rfl)
      try simp only [Act.put]
      refine wpAnyH_take (i := 7) (oi := ⟨some 108, _, _, _, _, _⟩) (v := ?_) rfl (by kernel_rfl) (by kernel_rfl) (by kernel_rfl) (fun _ _ _ h => h) (Or.inl ⟨by kernel_rfl, ?_⟩) (by assumption) ?_
      rotate_left
      · intro w hSw; (try dsimp only at hSw); (try go_simp); all_goals (with_reducible rfl)
      try simp only [Act.put]
      refine wpAnyH_take (i := 10) (oi := ⟨some 111, _, _, _, _, _⟩) (v := ?_) rfl (by kernel_rfl) (by kernel_rfl) (by kernel_rfl) (fun _ _ _ h => h) (Or.inl ⟨by kernel_rfl, ?_⟩) (by assumption) ?_
      rotate_left
      · intro w hSw; (try dsimp only at hSw); (try go_simp); all_goals (with_reducible rfl)
      try simp only [Act.put]
      refine wpAnyH_take (i := 11) (oi := ⟨some 112, _, _, _, _, _⟩) (v := ?_) rfl (by kernel_rfl) (by kernel_rfl) (by kernel_rfl) (fun _ _ _ h => h) (Or.inl ⟨by kernel_rfl, ?_⟩) (by assumption) ?_
      rotate_left
      · intro w hSw; (try dsimp only at hSw); (try go_simp); all_goals (with_reducible rfl)
      try simp only [Act.put]
      refine wpAnyH_take (i := 12) (oi := ⟨some 8, _, _, _, _, _⟩) (v := ?_) rfl (by kernel_rfl) (by kernel_rfl) (by kernel_rfl) (fun _ _ _ h => h) (Or.inl ⟨by kernel_rfl, ?_⟩) (by assumption) ?_
      rotate_left
      · intro w hSw; (try dsimp only at hSw); (try go_simp); all_goals (with_reducible rfl)
      try simp only [Act.put]
      refine wpAnyH_done (by kernel_rfl) ?_ _
      simp only [List.setIfInBounds_toArray, List.set_cons_succ, List.set_cons_zero]
      go_wp2
      go_ret
      exact ⟨ret_str HF.out, hbt _ hb1 hHeld.1⟩
end Go.Proofs.YthfdiinfeljeeaaGreatDoor
/- The program writes a comment, an element. -/
namespace Go.Proofs.YthfdiinfeljeeaaGreatDoor
open Go.RowKit
set_option maxHeartbeats 8000000 in
set_option maxRecDepth 100000 in
theorem com66 (B bw BA p g cap : Nat) (l : List Nd) (id : Nat) (L : List UInt8) (w : World) (hA : ArO w BA p g cap l) (hid : id < l.length) (hal : l[id].al.length ≤ 1024) (hd : l[id].data.size ≤ 1048576) (hkind : l[id].kind = 3)
    (hW : WB B bw 97 [.pointer (some ⟨p, 0, none⟩), .bool false] (Lib.byteCells (L)) w) (hL : L.length ≤ 100000000000000) :
    Calls Tryz.prog 66 #[.pointer (some ⟨bw, 0, none⟩), .int .i64 (id : Int), .bool false] w fun e w' => e = .returned (.tuple #[]) ∧ WB B bw 97 [.pointer (some ⟨p, 0, none⟩), .bool false] (Lib.byteCells (L ++ ([60, 33, 45, 45] ++ l[id].data.data.toList ++ [45, 45, 62]))) w' ∧ Fr B [97, 5] w w' := by
  have hN := node21 BA p g cap l id w hA hid hal
  obtain ⟨c2, c3⟩ := hW.two
  generalize l[id] = n at *
  obtain ⟨kind, space, name, al, aa, ac, data, sys, up, fst, lst, prv, nxt, inn, host⟩ := n
  unfold NodePost Nd.look at hN
  dsimp only at *
  subst hkind
  have hle := hW.le
  clear hA hal
  go_enter Tryz.func66, Tryz.ntmps66
  go_wp2_with (go_at_call 21; with_reducible refine hN.mono ?_; rintro e w1 ⟨ab, rfl, hb, hle1, hw1⟩)
  have hb1 := bal hw1 (.cells #[.int .i64 3, .int .i64 space, .string name, .slice (some ⟨ab, 0, none⟩) al.length al.length, .string data, .string sys, .int .i64 up, .int .i64 fst, .int .i64 lst, .int .i64 prv, .int .i64 nxt, .int .i64 inn] 52)
  have hW1 := ((hW.below hw1).below (bal (Below.refl _ _) (.cells #[.int .i64 3, .int .i64 space, .string name, .slice (some ⟨ab, 0, none⟩) al.length al.length, .string data, .string sys, .int .i64 up, .int .i64 fst, .int .i64 lst, .int .i64 prv, .int .i64 nxt, .int .i64 inn] 52))).drew
  have hF : Fr B [97, 5] w (w1.alloc (.cells #[.int .i64 3, .int .i64 space, .string name, .slice (some ⟨ab, 0, none⟩) al.length al.length, .string data, .string sys, .int .i64 up, .int .i64 fst, .int .i64 lst, .int .i64 prv, .int .i64 nxt, .int .i64 inn] 52)).drew := Fr.of_below hle (btr hb1 (below_drew _))
  have hbx := at_new w1 (.cells #[.int .i64 3, .int .i64 space, .string name, .slice (some ⟨ab, 0, none⟩) al.length al.length, .string data, .string sys, .int .i64 up, .int .i64 fst, .int .i64 lst, .int .i64 prv, .int .i64 nxt, .int .i64 inn] 52) _ rfl
  have hce : ((w1.alloc (.cells #[.int .i64 3, .int .i64 space, .string name, .slice (some ⟨ab, 0, none⟩) al.length al.length, .string data, .string sys, .int .i64 up, .int .i64 fst, .int .i64 lst, .int .i64 prv, .int .i64 nxt, .int .i64 inn] 52)).drew).cell? ⟨w1.heap.size, 4, none⟩ = some (.string data) := blk_cells hbx 4
  have hs1 : ¬ 9223372036854775807 < 4 + data.size := by omega
  have hs2 : ¬ 9223372036854775807 < 4 + data.size + 3 := by omega
  have P := wr86 B bw p L (⟨#[60, 33, 45, 45]⟩ ++ data ++ ⟨#[45, 45, 62]⟩) _ hW1 hL (by simp only [ByteArray.size_append]; show 4 + data.size + 3 ≤ _; omega)
  rw [show (⟨#[60, 33, 45, 45]⟩ ++ data ++ ⟨#[45, 45, 62]⟩ : ByteArray).data.toList = [60, 33, 45, 45] ++ data.data.toList ++ [45, 45, 62] by simp] at P
  clear hbx hN hW c2 c3 hW1
  go_region_law (go_simp; go_at_call 86; with_reducible refine P.mono ?_; rintro e w3 ⟨rfl, hw3, hf3⟩)
  all_goals (go_wp2; go_end0; exact ⟨rfl, hw3, hF.trans hf3⟩)
/-- A postcondition that lets no panic through. -/
def calmQ (Q : Exit → Act → World → Prop) : Exit → Act → World → Prop
  | .panic _, _, _ => False
  | e, a, w => Q e a w
theorem calmQ_mono {Q : Exit → Act → World → Prop} : ∀ e a w, calmQ Q e a w → Q e a w := fun e a w h => by
  cases e <;> first | exact h | exact h.elim
theorem wr86D (B b p : Nat) (L : List UInt8) (s : ByteArray) (u : FrameMode) (w : World) (h : WB B b 97 [.pointer (some ⟨p, 0, none⟩), .bool false] (Lib.byteCells L) w) (hL : L.length ≤ 100000000000000) (hs : s.size ≤ 10000000000000) :
    CallsD Tryz.prog 86 #[.pointer (some ⟨b, 0, none⟩), .string s] u w fun e u' w' => u' = u ∧ (e = .returned (.tuple #[.int .i64 s.size, .nilIface]) ∧ WB B b 97 [.pointer (some ⟨p, 0, none⟩), .bool false] (Lib.byteCells (L ++ s.data.toList)) w' ∧ Fr B [97, 5] w w') := by
  have := write86D B b 97 4 head97 [.pointer (some ⟨p, 0, none⟩), .bool false] (Lib.byteCells L) rfl s u w h (by rw [Lib.byteCells_length]; omega) h.le
  rw [cells_app] at this
  exact this
theorem attr_at {w : World} {al : List A4} {b : Nat} (h : w.heap[b]? = some (.cells (cellsA al).toArray 80 (0, 0))) (i : Nat) (hi : i < al.length) :
    w.cell? ⟨b, i * 4, none⟩ = some (.int .i64 al[i].sp) ∧ w.cell? ⟨b, i * 4 + 1, none⟩ = some (.string al[i].pre) ∧ w.cell? ⟨b, i * 4 + 2, none⟩ = some (.string al[i].nm) ∧ w.cell? ⟨b, i * 4 + 3, none⟩ = some (.string al[i].va) := by
  have hc := blk_cells h
  have hg : ∀ j, j < 4 → w.cell? ⟨b, i * 4 + j, none⟩ = al[i].c[j]? := fun j hj => by rw [hc, ← cellsA_at al i j hi hj, List.getElem?_toArray]
  exact ⟨hg 0 (by omega), hg 1 (by omega), hg 2 (by omega), hg 3 (by omega)⟩
set_option maxHeartbeats 2000000 in
set_option maxRecDepth 100000 in
theorem el66 (B bw BA p g cap : Nat) (l : List Nd) (id : Nat) (L O : List UInt8) (w : World) (hA : ArO w BA p g cap l) (hid : id < l.length) (hal : l[id].al.length ≤ 1024) (hkind : l[id].kind = 1) (hspace : l[id].space = 0) (hname : l[id].name.toList ∈ okNames) (hns : l[id].name.size ≤ 1048576)
    (hsp : ∀ x ∈ l[id].al, x.sp = 0) (htx : ∀ s ∈ txtA l[id].al, s.size ≤ 1048576) 
    (hW : WB B bw 97 [.pointer (some ⟨p, 0, none⟩), .bool false] (Lib.byteCells (L)) w) (hLO : L.length + ([60] ++ l[id].name.data.toList ++ attrsW l[id].al ++ [62] ++ O ++ [60, 47] ++ l[id].name.data.toList ++ [62]).length ≤ 10000000000000)
    (hrec : ∀ (L' : List UInt8) (W : World), Fr B [97, 5] w W → L'.length + O.length ≤ 10000000000000 → WB B bw 97 [.pointer (some ⟨p, 0, none⟩), .bool false] (Lib.byteCells (L')) W → Calls Tryz.prog 49 #[.pointer (some ⟨bw, 0, none⟩), .int .i64 (id : Int)] W fun e w' => e = .returned (.tuple #[]) ∧ WB B bw 97 [.pointer (some ⟨p, 0, none⟩), .bool false] (Lib.byteCells (L' ++ O)) w' ∧ Fr B [97, 5] W w') :
    Calls Tryz.prog 66 #[.pointer (some ⟨bw, 0, none⟩), .int .i64 (id : Int), .bool false] w fun e w' => e = .returned (.tuple #[]) ∧ WB B bw 97 [.pointer (some ⟨p, 0, none⟩), .bool false] (Lib.byteCells (L ++ ([60] ++ l[id].name.data.toList ++ attrsW l[id].al ++ [62] ++ O ++ [60, 47] ++ l[id].name.data.toList ++ [62]))) w' ∧ Fr B [97, 5] w w' := by
  have hN := node21 BA p g cap l id w hA hid hal
  have hv := fun W b => html62v l[id] b ⟨hkind, hspace, hname⟩ W
  obtain ⟨c2, c3⟩ := hW.two
  generalize l[id] = n at *
  obtain ⟨kind, space, name, al, aa, ac, data, sys, up, fst, lst, prv, nxt, inn, host⟩ := n
  unfold NodePost Nd.look at hN
  unfold Nd.look at hv
  dsimp only at *
  subst hkind hspace
  have hL : L.length ≤ 10000000000000 := by omega
  have hO : O.length ≤ 10000000000000 := by simp only [List.length_append, List.length_cons, List.length_nil] at hLO; omega
  have hle := hW.le
  have hal0 := attrsW_len al htx
  have hpre : ∀ k, (attrsW (al.take k)).length ≤ 100000000000 := fun k => by
    have h1 := attrsW_len (al.take k) fun s hs => htx s (by
      obtain ⟨x, hx, h⟩ := List.mem_flatMap.1 hs
      exact List.mem_flatMap.2 ⟨x, List.mem_of_mem_take hx, h⟩)
    have h2 : (al.take k).length ≤ 1024 := by rw [List.length_take]; omega
    have := Nat.mul_le_mul_right 7340036 h2
    omega
  have hnl : name.data.toList.length = name.size := dlen _
  clear hA
  go_enter_defers Tryz.func66, Tryz.ntmps66
  refine Code.wp_mono calmQ_mono ?_
  go_wp2_with (go_at_call 21; with_reducible refine hN.mono ?_; rintro e w1 ⟨ab, rfl, hb, hle1, hw1⟩)
  have hb1 := bal hw1 (.cells #[.int .i64 1, .int .i64 0, .string name, .slice (some ⟨ab, 0, none⟩) al.length al.length, .string data, .string sys, .int .i64 up, .int .i64 fst, .int .i64 lst, .int .i64 prv, .int .i64 nxt, .int .i64 inn] 52)
  have hW1 := ((hW.below hw1).below (bal (Below.refl _ _) (.cells #[.int .i64 1, .int .i64 0, .string name, .slice (some ⟨ab, 0, none⟩) al.length al.length, .string data, .string sys, .int .i64 up, .int .i64 fst, .int .i64 lst, .int .i64 prv, .int .i64 nxt, .int .i64 inn] 52))).drew
  have hF : Fr B [97, 5] w (w1.alloc (.cells #[.int .i64 1, .int .i64 0, .string name, .slice (some ⟨ab, 0, none⟩) al.length al.length, .string data, .string sys, .int .i64 up, .int .i64 fst, .int .i64 lst, .int .i64 prv, .int .i64 nxt, .int .i64 inn] 52)).drew := Fr.of_below hle (btr hb1 (below_drew _))
  have hbx : (w1.alloc (.cells #[.int .i64 1, .int .i64 0, .string name, .slice (some ⟨ab, 0, none⟩) al.length al.length, .string data, .string sys, .int .i64 up, .int .i64 fst, .int .i64 lst, .int .i64 prv, .int .i64 nxt, .int .i64 inn] 52)).drew.heap[w1.heap.size]? = some (.cells #[.int .i64 1, .int .i64 0, .string name, .slice (some ⟨ab, 0, none⟩) al.length al.length, .string data, .string sys, .int .i64 up, .int .i64 fst, .int .i64 lst, .int .i64 prv, .int .i64 nxt, .int .i64 inn] 52 (0, 0)) := at_new w1 (.cells #[.int .i64 1, .int .i64 0, .string name, .slice (some ⟨ab, 0, none⟩) al.length al.length, .string data, .string sys, .int .i64 up, .int .i64 fst, .int .i64 lst, .int .i64 prv, .int .i64 nxt, .int .i64 inn] 52) _ rfl
  have hab : (w1.alloc (.cells #[.int .i64 1, .int .i64 0, .string name, .slice (some ⟨ab, 0, none⟩) al.length al.length, .string data, .string sys, .int .i64 up, .int .i64 fst, .int .i64 lst, .int .i64 prv, .int .i64 nxt, .int .i64 inn] 52)).drew.heap[ab]? = some (.cells (cellsA al).toArray 80 (0, 0)) := at_old hb _
  have hce : ((w1.alloc (.cells #[.int .i64 1, .int .i64 0, .string name, .slice (some ⟨ab, 0, none⟩) al.length al.length, .string data, .string sys, .int .i64 up, .int .i64 fst, .int .i64 lst, .int .i64 prv, .int .i64 nxt, .int .i64 inn] 52)).drew).cell? ⟨w1.heap.size, 2, none⟩ = some (.string name) := blk_cells hbx 2
  have hs1 : ¬ 9223372036854775807 < 1 + name.size := by omega
  have P := wr86 B bw p L (⟨#[60]⟩ ++ name) _ hW1 (by omega) (by simp only [ByteArray.size_append]; show 1 + name.size ≤ _; omega)
  rw [show (⟨#[60]⟩ ++ name : ByteArray).data.toList = [60] ++ name.data.toList by simp] at P
  have hnb : w1.heap.size = w1.heap.size := rfl
  clear hN hW c2 c3 hW1
  go_region_law (go_simp; go_at_call 86; with_reducible refine P.mono ?_; rintro e Wp ⟨rfl, hw3, hf3⟩)
  have hF3 := hF.trans hf3
  have hbx3 := hf3.blk hbx (by decide)
  have hab3 := hf3.blk hab (by decide)
  have cx := blk_cells hbx3
  clear P hce hF hf3 hbx hab hb1
  go_wp2
  go_loopw [67] (fun v67 wr => ∃ i : Nat, v67 = .int .i64 i ∧ i ≤ al.length ∧ WB B bw 97 [.pointer (some ⟨p, 0, none⟩), .bool false] (Lib.byteCells (L ++ ([60] ++ name.data.toList ++ attrsW (al.take i)))) wr ∧ Fr B [97, 5] Wp wr) (fun v67 _ => al.length - (intOf v67).toNat)
  case atStart => exact ⟨0, rfl, Nat.zero_le _, by rw [List.take_zero, show attrsW [] = [] from rfl, List.append_nil]; exact hw3, Fr.refl _ _ _⟩
  case round =>
    obtain ⟨i, rfl, hi, hWr, hFr⟩ := hrel
    clear hw3 cx
    by_cases hlt : i < al.length
    · have habr := hFr.blk hab3 (by decide)
      obtain ⟨a0, a1, a2, a3⟩ := attr_at habr i hlt
      have hp := hpre i
      have htk := attrsW_take al i hlt
      have hsi := hsp _ (List.getElem_mem hlt)
      have hva := htx al[i].va (List.mem_flatMap.2 ⟨al[i], List.getElem_mem hlt, by simp⟩)
      have hnm := htx al[i].nm (List.mem_flatMap.2 ⟨al[i], List.getElem_mem hlt, by simp⟩)
      rw [attrW] at htk
      rw [hsi] at a0
      clear hsp hal0 hpre hrec hname hv habr
      generalize al[i].sp = sp at *
      generalize al[i].pre = pre at *
      generalize al[i].nm = nm at *
      generalize al[i].va = va at *
      have hz : (mkS (escL true va.data.toList)).size ≤ 7340032 := by
        have := escL_len true _ va.data.toList (Nat.le_refl _)
        rw [dlen] at this
        rw [mkS_size]
        omega
      have E := fun W => escape85 va true W hva
      have hfin : L ++ ([60] ++ name.data.toList ++ attrsW (al.take i)) ++ (⟨#[32]⟩ ++ nm ++ ⟨#[61, 34]⟩ ++ mkS (escL true va.data.toList) ++ ⟨#[34]⟩ : ByteArray).data.toList = L ++ ([60] ++ name.data.toList ++ attrsW (al.take (i + 1))) := by
        rw [htk]
        simp [mkS]
      have HF := Go.Lib.hid hfin
      clear hfin htk
      have hl1 : (L ++ ([60] ++ name.data.toList ++ attrsW (al.take i))).length ≤ 100000000000000 := by simp only [List.length_append, List.length_cons, List.length_nil]; omega
      generalize mkS (escL true va.data.toList) = z at *
      have hs1 : ¬ 9223372036854775807 < 1 + nm.size := by omega
      have hs2 : ¬ 9223372036854775807 < 1 + nm.size + 2 := by omega
      have hs3 : ¬ 9223372036854775807 < 1 + nm.size + 2 + z.size := by omega
      have hs4 : ¬ 9223372036854775807 < 1 + nm.size + 2 + z.size + 1 := by omega
      have hsz : (⟨#[32]⟩ ++ nm ++ ⟨#[61, 34]⟩ ++ z ++ ⟨#[34]⟩ : ByteArray).size ≤ 10000000000000 := by simp only [ByteArray.size_append]; show 1 + nm.size + 2 + z.size + 1 ≤ _; omega
      have hi0 : (0 : Int) ≤ (i : Int) := by omega
      have hi1 : (i : Int) < (al.length : Int) := by omega
      have hS : ∀ W W', (fun W => W.heap[wr.heap.size]? = some (.cells #[.int .i64 0, .string pre, .string nm, .string va] 80 (0, 0)) ∧ Fr B [97, 5] Wp W ∧ W.cell? ⟨wr.heap.size, 0, none⟩ = some (.int .i64 0) ∧ W.cell? ⟨wr.heap.size, 1, none⟩ = some (.string pre) ∧ W.cell? ⟨wr.heap.size, 2, none⟩ = some (.string nm) ∧ W.cell? ⟨wr.heap.size, 3, none⟩ = some (.string va)) W → Fr B [97, 5] W W' → (fun W => W.heap[wr.heap.size]? = some (.cells #[.int .i64 0, .string pre, .string nm, .string va] 80 (0, 0)) ∧ Fr B [97, 5] Wp W ∧ W.cell? ⟨wr.heap.size, 0, none⟩ = some (.int .i64 0) ∧ W.cell? ⟨wr.heap.size, 1, none⟩ = some (.string pre) ∧ W.cell? ⟨wr.heap.size, 2, none⟩ = some (.string nm) ∧ W.cell? ⟨wr.heap.size, 3, none⟩ = some (.string va)) W' := fun W W' h h' => by
        have hx := h'.blk h.1 (by decide)
        have hxc := blk_cells hx
        exact ⟨hx, h.2.1.trans h', hxc 0, hxc 1, hxc 2, hxc 3⟩
      have hFB : ∀ W W', B ≤ W.heap.size → Below W.heap.size W W' → Fr B [97, 5] W W' := fun W W' h h' => Fr.of_below h h'
      have hxb := at_new wr (.cells #[.int .i64 0, .string pre, .string nm, .string va] 80) _ rfl
      have hxc := blk_cells hxb
      have hxw := bal (Below.refl wr.heap.size wr) (.cells #[.int .i64 0, .string pre, .string nm, .string va] 80)
      have hS0 : (fun W => W.heap[wr.heap.size]? = some (.cells #[.int .i64 0, .string pre, .string nm, .string va] 80 (0, 0)) ∧ Fr B [97, 5] Wp W ∧ W.cell? ⟨wr.heap.size, 0, none⟩ = some (.int .i64 0) ∧ W.cell? ⟨wr.heap.size, 1, none⟩ = some (.string pre) ∧ W.cell? ⟨wr.heap.size, 2, none⟩ = some (.string nm) ∧ W.cell? ⟨wr.heap.size, 3, none⟩ = some (.string va)) (wr.alloc (.cells #[.int .i64 0, .string pre, .string nm, .string va] 80)) := ⟨hxb, hFr.trans (Fr.of_below hWr.le hxw), hxc 0, hxc 1, hxc 2, hxc 3⟩
      have hS1 := hS _ (wr.alloc (.cells #[.int .i64 0, .string pre, .string nm, .string va] 80)).drew hS0 (hFB _ _ (hWr.below hxw).le (below_drew _))
      have hWB1 := (hWr.below hxw).drew
      have HS := Go.Lib.hid hS
      clear hS hxb hxc hxw hS0
      go_wp2
      refine wp_region_held_drew (S := (fun W => W.heap[wr.heap.size]? = some (.cells #[.int .i64 0, .string pre, .string nm, .string va] 80 (0, 0)) ∧ Fr B [97, 5] Wp W ∧ W.cell? ⟨wr.heap.size, 0, none⟩ = some (.int .i64 0) ∧ W.cell? ⟨wr.heap.size, 1, none⟩ = some (.string pre) ∧ W.cell? ⟨wr.heap.size, 2, none⟩ = some (.string nm) ∧ W.cell? ⟨wr.heap.size, 3, none⟩ = some (.string va))) (by kernel_rfl) (hS1) (fun hHeld => ?_)
      refine wpAnyH_take (i := 0) (oi := ⟨some 71, _, _, _, _, _⟩) (v := ?_) rfl (by kernel_rfl) (by kernel_rfl) (by kernel_rfl) (fun _ _ _ h => h) (Or.inl ⟨by kernel_rfl, ?_⟩) (by assumption) ?_
      rotate_left
      · intro w hSw; (try dsimp only at hSw); (try go_simp); all_goals (with_reducible rfl)
      try simp only [Act.put]
      refine wpAnyH_take (i := 1) (oi := ⟨some 72, _, _, _, _, _⟩) (v := ?_) rfl (by kernel_rfl) (by kernel_rfl) (by kernel_rfl) (fun _ _ _ h => h) (Or.inl ⟨by kernel_rfl, ?_⟩) (by assumption) ?_
      rotate_left
      · intro w hSw; (try dsimp only at hSw); (try go_simp); all_goals (with_reducible rfl)
      try simp only [Act.put]
      refine wpAnyH_take (i := 2) (oi := ⟨some 73, _, _, _, _, _⟩) (v := ?_) rfl (by kernel_rfl) (by kernel_rfl) (by kernel_rfl) (fun _ _ _ h => h) (Or.inl ⟨by kernel_rfl, ?_⟩) (by assumption) ?_
      rotate_left
      · intro w hSw; (try dsimp only at hSw); (try go_simp); all_goals (with_reducible rfl)
      try simp only [Act.put]
      refine wpAnyH_take (i := 3) (oi := ⟨some 74, _, _, _, _, _⟩) (v := ?_) rfl (by kernel_rfl) (by kernel_rfl) (by kernel_rfl) (fun _ _ _ h => h) (Or.inl ⟨by kernel_rfl, ?_⟩) (by assumption) ?_
      rotate_left
      · intro w hSw; (try dsimp only at hSw); (try go_simp); all_goals (with_reducible rfl)
      try simp only [Act.put]
      refine wpAnyH_take (i := 7) (oi := ⟨some 78, _, _, _, _, _⟩) (v := ?_) rfl (by kernel_rfl) (by kernel_rfl) (by kernel_rfl) (fun _ _ _ h => h) (Or.inl ⟨by kernel_rfl, ?_⟩) (by assumption) ?_
      rotate_left
      · intro w hSw; (try dsimp only at hSw); (try go_simp); all_goals (with_reducible rfl)
      try simp only [Act.put]
      refine wpAnyH_take (i := 8) (oi := ⟨some 79, _, _, _, _, _⟩) (v := ?_) rfl (by kernel_rfl) (by kernel_rfl) (by kernel_rfl) (fun _ _ _ h => h) (Or.inl ⟨by kernel_rfl, ?_⟩) (by assumption) ?_
      rotate_left
      · intro w hSw; (try dsimp only at hSw); (try go_simp); all_goals (with_reducible rfl)
      try simp only [Act.put]
      refine wpAnyH_ready (rs := [4]) (by kernel_rfl) (by simp) ?_
      refine AllReadyH.cons rfl (fun K hK => ?_) AllReadyH.nil
      go_simp
      go_wp2_with (go_at_call 87; refine (shown87 _ _ _ _).mono ?_; rintro e w2 ⟨rfl, hw2⟩; have hWB2 := hWB1.below hw2)
      refine hK.out _ _ (HS.out _ _ hHeld (hFB _ _ hWB1.le hw2)) (fun hHeld => ?_)
      clear hK K
      refine wpAnyH_take (i := 5) (oi := ⟨some 76, _, _, _, _, _⟩) (v := ?_) rfl (by kernel_rfl) (by kernel_rfl) (by kernel_rfl) (fun _ _ _ h => h) (Or.inl ⟨by kernel_rfl, ?_⟩) (by assumption) ?_
      rotate_left
      · intro w hSw; (try dsimp only at hSw); (try go_simp); all_goals (with_reducible rfl)
      try simp only [Act.put]
      refine wpAnyH_take (i := 6) (oi := ⟨some 77, _, _, _, _, _⟩) (v := ?_) rfl (by kernel_rfl) (by kernel_rfl) (by kernel_rfl) (fun _ _ _ h => h) (Or.inl ⟨by kernel_rfl, ?_⟩) (by assumption) ?_
      rotate_left
      · intro w hSw; (try dsimp only at hSw); (try go_simp); all_goals (with_reducible rfl)
      try simp only [Act.put]
      refine wpAnyH_ready (rs := [9]) (by kernel_rfl) (by simp) ?_
      refine AllReadyH.cons rfl (fun K hK => ?_) AllReadyH.nil
      go_simp
      go_wp2_with (go_at_call 85; refine (E _).mono ?_; rintro e w3 ⟨rfl, hw3⟩; have hWB3 := hWB2.below hw3)
      refine hK.out _ _ (HS.out _ _ hHeld (hFB _ _ hWB2.le hw3)) (fun hHeld => ?_)
      clear hK K
      refine wpAnyH_take (i := 10) (oi := ⟨some 81, _, _, _, _, _⟩) (v := ?_) rfl (by kernel_rfl) (by kernel_rfl) (by kernel_rfl) (fun _ _ _ h => h) (Or.inl ⟨by kernel_rfl, ?_⟩) (by assumption) ?_
      rotate_left
      · intro w hSw; (try dsimp only at hSw); (try go_simp); all_goals (with_reducible rfl)
      try simp only [Act.put]
      refine wpAnyH_take (i := 11) (oi := ⟨some 82, _, _, _, _, _⟩) (v := ?_) rfl (by kernel_rfl) (by kernel_rfl) (by kernel_rfl) (fun _ _ _ h => h) (Or.inl ⟨by kernel_rfl, ?_⟩) (by assumption) ?_
      rotate_left
      · intro w hSw; (try dsimp only at hSw); (try go_simp); all_goals (with_reducible rfl)
      try simp only [Act.put]
      refine wpAnyH_ready (rs := [12]) (by kernel_rfl) (by simp) ?_
      refine AllReadyH.cons rfl (fun K hK => ?_) AllReadyH.nil
      go_simp
      go_wp2_with (go_at_call 86; refine (wr86 B bw p _ _ _ hWB3 hl1 hsz).mono ?_; rintro e w4 ⟨rfl, hw4, hf4⟩)
      refine hK.out _ _ (HS.out _ _ hHeld hf4) (fun hHeld => ?_)
      clear hK K
      refine wpAnyH_done (by kernel_rfl) ?_ _
      try simp only [List.setIfInBounds_toArray, List.set_cons_succ, List.set_cons_zero]
      go_wp2
      go_roundw
      case rel => exact ⟨i + 1, by go_num, by omega, by rw [← HF.out]; exact hw4, hHeld.2.1⟩
      case measure => simp [intOf]; omega
    · obtain rfl : i = al.length := by omega
      have he : al.take al.length = al := List.take_of_length_le (Nat.le_refl _)
      rw [he] at hWr
      have hp := hpre al.length
      rw [he] at hp
      have hl1 : (L ++ ([60] ++ name.data.toList ++ attrsW al)).length ≤ 15000000000000 := by simp only [List.length_append, List.length_cons, List.length_nil]; omega
      have P1 := wr86 B bw p _ ⟨#[62]⟩ wr hWr (by omega) (by show 1 ≤ _; decide)
      have hfr5 : ∀ W, Fr B [97, 5] wr W → W.heap[w1.heap.size]? = some (.cells #[.int .i64 1, .int .i64 0, .string name, .slice (some ⟨ab, 0, none⟩) al.length al.length, .string data, .string sys, .int .i64 up, .int .i64 fst, .int .i64 lst, .int .i64 prv, .int .i64 nxt, .int .i64 inn] 52 (0, 0)) := fun W h => (hFr.trans h).blk hbx3 (by decide)
      clear hpre hsp htx hal0 hWr
      go_wp2_with (first | (go_at_call 86; with_reducible refine P1.mono ?_; rintro e w5 ⟨rfl, hw5, hf5⟩; have cx := blk_cells (hfr5 _ hf5)) | (go_at_call 62; with_reducible refine (hv _ _).mono ?_; rintro e w6 ⟨rfl, hw6⟩))
      have hbx6 := hfr5 _ (hf5.trans (Fr.of_below hw5.le hw6))
      have hbx7 : w6.drew.heap[w1.heap.size]? = some (.cells #[.int .i64 1, .int .i64 0, .string name, .slice (some ⟨ab, 0, none⟩) al.length al.length, .string data, .string sys, .int .i64 up, .int .i64 fst, .int .i64 lst, .int .i64 prv, .int .i64 nxt, .int .i64 inn] 52 (0, 0)) := hbx6
      have c96 : w6.drew.cell? ⟨w1.heap.size, 2, none⟩ = some (.string name) := blk_cells hbx7 2
      have hs1 : ¬ 9223372036854775807 < 2 + name.size := by omega
      have hs2 : ¬ 9223372036854775807 < 2 + name.size + 1 := by omega
      clear hfr5 P1 cx
      have hF7 := hF3.trans (hFr.trans (hf5.trans ((Fr.of_below hw5.le hw6).trans (Fr.of_below (hw5.below hw6).le (below_drew _)))))
      have R := hrec _ w6.drew hF7 (by simp only [List.length_append, List.length_cons, List.length_nil] at hLO ⊢; show L.length + (0 + 1 + name.data.toList.length + (attrsW al).length) + 1 + O.length ≤ _; omega) (hw5.below hw6).drew
      have hnm2 : (⟨#[60, 47]⟩ ++ name ++ ⟨#[62]⟩ : ByteArray).size ≤ 10000000000000 := by simp only [ByteArray.size_append]; show 2 + name.size + 1 ≤ _; omega
      have hfin : L ++ ([60] ++ name.data.toList ++ attrsW al) ++ (⟨#[62]⟩ : ByteArray).data.toList ++ O ++ (⟨#[60, 47]⟩ ++ name ++ ⟨#[62]⟩ : ByteArray).data.toList = L ++ ([60] ++ name.data.toList ++ attrsW al ++ [62] ++ O ++ [60, 47] ++ name.data.toList ++ [62]) := by simp
      have hlf : (L ++ ([60] ++ name.data.toList ++ attrsW al) ++ (⟨#[62]⟩ : ByteArray).data.toList ++ O).length ≤ 100000000000000 := by simp only [List.length_append, List.length_cons, List.length_nil] at *; omega
      clear hrec
      go_region_law (fail)
      all_goals
        go_wp2_with (go_at_call 49; with_reducible refine R.mono ?_; rintro e w8 ⟨rfl, hw8, hf8⟩)
        simp only [calmQ]
        have D := wr86D B bw p (L ++ ([60] ++ name.data.toList ++ attrsW al) ++ (⟨#[62]⟩ : ByteArray).data.toList ++ O) (⟨#[60, 47]⟩ ++ name ++ ⟨#[62]⟩) .returning w8 hw8 hlf hnm2
        rw [hfin] at D
        refine leaves_cons (f := 86) (args := #[.pointer (some ⟨bw, 0, none⟩), .string (⟨#[60, 47]⟩ ++ name ++ ⟨#[62]⟩)]) (by simp) (by simp [go_sem]) ?_
        refine D.mono ?_
        rintro e u' w9 ⟨rfl, rfl, hw9, hf9⟩
        exact ⟨_, results_none rfl _ _ _, rfl, hw9, hF7.trans (hf8.trans hf9)⟩
end Go.Proofs.YthfdiinfeljeeaaGreatDoor
/- The program writes what is in a node. -/
namespace Go.Proofs.YthfdiinfeljeeaaGreatDoor
open Go.RowKit
set_option maxHeartbeats 2000000 in
set_option maxRecDepth 100000 in
theorem inner49 (B bw BA p g cap : Nat) (l : List Nd) (id : Nat) (xs : List Nat) (L : List UInt8) (o : Nat → List UInt8) (w : World) (hA : ArO w BA p g cap l) (hid : id < l.length) (hal : l[id].al.length ≤ 1024) (hok : okN l[id]) (hinn : l[id].inn = -1)
    (hch : Chain l (l[id]).fst xs) (hxl : xs.length ≤ 1000000) 
    (hW : WB B bw 97 [.pointer (some ⟨p, 0, none⟩), .bool false] (Lib.byteCells L) w) (hL : L.length + (xs.flatMap o).length ≤ 10000000000000)
    (hrec : ∀ c ∈ xs, ∀ (L' : List UInt8) (W : World), Fr B [97, 5] w W → L'.length + (o c).length ≤ 10000000000000 → WB B bw 97 [.pointer (some ⟨p, 0, none⟩), .bool false] (Lib.byteCells L') W → Calls Tryz.prog 66 #[.pointer (some ⟨bw, 0, none⟩), .int .i64 (c : Int), .bool false] W fun e w' => e = .returned (.tuple #[]) ∧ WB B bw 97 [.pointer (some ⟨p, 0, none⟩), .bool false] (Lib.byteCells (L' ++ o c)) w' ∧ Fr B [97, 5] W w') :
    Calls Tryz.prog 49 #[.pointer (some ⟨bw, 0, none⟩), .int .i64 (id : Int)] w fun e w' => e = .returned (.tuple #[]) ∧ WB B bw 97 [.pointer (some ⟨p, 0, none⟩), .bool false] (Lib.byteCells (L ++ xs.flatMap o)) w' ∧ Fr B [97, 5] w w' := by
  have hle := hW.le
  have hbx := at_new w (.cells #[.pointer (some ⟨bw, 0, none⟩)] 91) _ rfl
  have hb0 := bal (Below.refl w.heap.size w) (.cells #[.pointer (some ⟨bw, 0, none⟩)] 91)
  have hA0 := hA.below hb0
  have hW0 := hW.below hb0
  have hN := node21 BA p g cap l id _ hA0 hid hal
  have hv := fun W b => html62v l[id] b hok W
  have hr := fun (W : World) b (v0 v1 v2 : Value) h1 h2 => html62r l[id] b hok w.heap.size bw v0 v1 v2 W h1 h2
  have hK := fun (W : World) (h : ArO W BA p g cap l) => kids25 BA p g cap l id xs W h hid hch hxl
  obtain ⟨c2, c3⟩ := hW0.two
  have hbxF : ∀ (w1 w2 : World) (o : Obj), Below (w.alloc (.cells #[.pointer (some ⟨bw, 0, none⟩)] 91)).heap.size (w.alloc (.cells #[.pointer (some ⟨bw, 0, none⟩)] 91)) w1 → Below (w1.alloc o).heap.size (w1.alloc o) w2 → w2.heap[w.heap.size]? = some (.cells #[.pointer (some ⟨bw, 0, none⟩)] 91 (0, 0)) := fun w1 w2 o h1 h2 => bblk h2 (at_old (bblk h1 hbx) _)
  have hAF : ∀ (w1 w2 : World) (o : Obj), Below (w.alloc (.cells #[.pointer (some ⟨bw, 0, none⟩)] 91)).heap.size (w.alloc (.cells #[.pointer (some ⟨bw, 0, none⟩)] 91)) w1 → Below (w1.alloc o).heap.size (w1.alloc o) w2 → ArO w2 BA p g cap l := fun w1 w2 o h1 h2 => ((hA0.below h1).below (bal (Below.refl _ _) o)).below h2
  have hWF : ∀ (w1 w2 : World) (o : Obj), Below (w.alloc (.cells #[.pointer (some ⟨bw, 0, none⟩)] 91)).heap.size (w.alloc (.cells #[.pointer (some ⟨bw, 0, none⟩)] 91)) w1 → Below (w1.alloc o).heap.size (w1.alloc o) w2 → WB B bw 97 [.pointer (some ⟨p, 0, none⟩), .bool false] (Lib.byteCells L) w2 := fun w1 w2 o h1 h2 => ((hW0.below h1).below (bal (Below.refl _ _) o)).below h2
  obtain ⟨_, pv, pu, _, hbk, _⟩ := hW0
  have hbk : (w.alloc (.cells #[.pointer (some ⟨bw, 0, none⟩)] 91)).heap[bw]? = some (.cells #[pv, pu, .pointer (some ⟨p, 0, none⟩), .bool false] 97 (0, 0)) := hbk
  have hwbF : ∀ (w1 w2 : World) (o : Obj), Below (w.alloc (.cells #[.pointer (some ⟨bw, 0, none⟩)] 91)).heap.size (w.alloc (.cells #[.pointer (some ⟨bw, 0, none⟩)] 91)) w1 → Below (w1.alloc o).heap.size (w1.alloc o) w2 → w2.heap[bw]? = some (.cells #[pv, pu, .pointer (some ⟨p, 0, none⟩), .bool false] 97 (0, 0)) := fun w1 w2 o h1 h2 => bblk h2 (at_old (bblk h1 hbk) _)
  generalize l[id] = n at *
  obtain ⟨kind, space, name, al, aa, ac, data, sys, up, fst, lst, prv, nxt, inn, host⟩ := n
  obtain ⟨h1, h2, h3⟩ := hok
  unfold NodePost Nd.look at hN
  unfold Nd.look at hv hr
  dsimp only at *
  subst h1 h2 hinn
  have cb := blk_cells hbx
  have hF0 : Fr B [97, 5] w (w.alloc (.cells #[.pointer (some ⟨bw, 0, none⟩)] 91)) := Fr.of_below hle hb0
  clear hA hW h3 hb0 hch
  go_enter Tryz.func49, Tryz.ntmps49
  go_wp2_with (first
    | (go_at_call 21; with_reducible refine hN.mono ?_; rintro e w1 ⟨ab, rfl, hb, hle1, hw1⟩)
    | (go_at_call 62; with_reducible refine (hv _ _).mono ?_; rintro e w2 ⟨rfl, hw2⟩; have nb := blk_cells (bblk hw2 (at_new _ _ _ rfl)))
    | (go_at_call 62; with_reducible refine (hr _ _ _ _ _ (hbxF _ _ _ hw1 hw2) (hwbF _ _ _ hw1 hw2)).mono ?_; rintro e w3 ⟨rfl, hw3⟩; have hbx3 := bblk hw3 (hbxF _ _ _ hw1 hw2); have cb3 := blk_cells hbx3; have hW3 := (hWF _ _ _ hw1 hw2).below hw3; have hc3 := hW3.two.1)
    | (go_at_call 25; with_reducible refine (hK _ ((hAF _ _ _ hw1 hw2).below hw3)).mono ?_; rintro e w4 ⟨v4, rfl, hown, hw4⟩; obtain ⟨oa, cap4, rfl⟩ := own_slice hown))
  have hbx4 := bblk hw4 hbx3
  have hW4 := hW3.below hw4
  have hF4 : Fr B [97, 5] w w4 := hF0.trans (Fr.of_below (Nat.le_trans hle (by simp)) (btr (bal hw1 _) (btr hw2 (btr hw3 hw4))))
  have hlenk : ∀ k, L.length + ((xs.take k).flatMap o).length ≤ 10000000000000 := fun k => by
    have : ((xs.take k).flatMap o).length + ((xs.drop k).flatMap o).length = (xs.flatMap o).length := by rw [← List.length_append, ← List.flatMap_append, List.take_append_drop]
    omega
  clear hv hr hK hN nb cb cb3 hc3 hW3 hbxF hAF hWF hwbF hbx hbx3 hA0 c2 c3 hbk
  go_loopw [8, 44] (fun _ v44 wr => ∃ i : Nat, v44 = .int .i64 i ∧ i ≤ xs.length ∧ WB B bw 97 [.pointer (some ⟨p, 0, none⟩), .bool false] (Lib.byteCells (L ++ (xs.take i).flatMap o)) wr ∧ Fr B [97, 5] w4 wr) (fun _ v44 _ => xs.length - (intOf v44).toNat)
  case atStart => exact ⟨0, rfl, Nat.zero_le _, by simpa using hW4, Fr.refl _ _ _⟩
  case round =>
    obtain ⟨i, rfl, hi, hWr, hFr⟩ := hrel
    clear hW4
    by_cases hlt : i < xs.length
    · have hown2 := own_fr hown hFr (by decide)
      obtain ⟨g2, rfl, hg2⟩ := own_form hown2 (by omega)
      have hcx := hown2.cellAt i (by omega)
      rw [show (ints xs)[i]? = some (.int .i64 (xs[i] : Int)) by simp [ints, hlt]] at hcx
      have cb := blk_cells (hFr.blk hbx4 (by decide))
      have hk := hlenk (i + 1)
      rw [List.take_succ_eq_append_getElem hlt, List.flatMap_append, List.flatMap_cons, List.flatMap_nil, List.append_nil, List.length_append] at hk
      have R := hrec _ (List.getElem_mem hlt) (L ++ (xs.take i).flatMap o) wr (hF4.trans hFr) (by rw [List.length_append]; omega) hWr
      have htk : L ++ (xs.take i).flatMap o ++ o xs[i] = L ++ (xs.take (i + 1)).flatMap o := by rw [List.take_succ_eq_append_getElem hlt, List.flatMap_append, List.flatMap_cons, List.flatMap_nil, List.append_nil, List.append_assoc]
      rw [htk] at R
      have hi0 : (0 : Int) ≤ (i : Int) := by omega
      have hi1 : (i : Int) < (xs.length : Int) := by omega
      clear htk hrec hlenk hown hown2
      generalize xs[i] = c at *
      go_wp2_with (go_at_call 66; with_reducible refine R.mono ?_; rintro e w5 ⟨rfl, hw5, hf5⟩)
      go_roundw
      case rel => exact ⟨i + 1, by go_num, by omega, hw5, hFr.trans hf5⟩
      case measure => simp [intOf]; omega
    · obtain rfl : i = xs.length := by omega
      have he : xs.take xs.length = xs := List.take_of_length_le (Nat.le_refl _)
      rw [he] at hWr
      clear hrec hlenk
      go_wp2
      go_end0
      exact ⟨rfl, hWr, hF4.trans hFr⟩
end Go.Proofs.YthfdiinfeljeeaaGreatDoor
/- The program writes all that is in a node. -/
namespace Go.Proofs.YthfdiinfeljeeaaGreatDoor
open Go.RowKit
theorem not_tmpl : ∀ L ∈ okNames, L ≠ tmplW := by decide
theorem inn_ok {n : Nd} (h : Small n) (hn : n.name.toList ∈ okNames) : n.inn = -1 := h.tin.resolve_right fun e => not_tmpl _ hn (by rw [← e]; exact tl _)
section
variable (B bw BA p g cap : Nat) (l : List Nd) (ks : Nat → List Nat) (hG : Good l ks) (hX : Ex l) (hl : l.length ≤ 607)
include hG hX hl
theorem inner_of (f id : Nat) (hid : id < l.length) (hok : okN l[id]) (hwr : ∀ c ∈ ks id, Wr (vN l) ks f c)
    (ih : ∀ (id : Nat) (L : List UInt8) (w : World), ArO w BA p g cap l → id < l.length → WB B bw 97 [.pointer (some ⟨p, 0, none⟩), .bool false] (Lib.byteCells L) w → Wr (vN l) ks f id → L.length + (outV (vN l) ks f id).length ≤ 10000000000000 →
      Calls Tryz.prog 66 #[.pointer (some ⟨bw, 0, none⟩), .int .i64 (id : Int), .bool false] w fun e w' => e = .returned (.tuple #[]) ∧ WB B bw 97 [.pointer (some ⟨p, 0, none⟩), .bool false] (Lib.byteCells (L ++ outV (vN l) ks f id)) w' ∧ Fr B [97, 5] w w')
    (L : List UInt8) (w : World) (hA : ArO w BA p g cap l) (hL : L.length + ((ks id).flatMap (outV (vN l) ks f)).length ≤ 10000000000000) (hW : WB B bw 97 [.pointer (some ⟨p, 0, none⟩), .bool false] (Lib.byteCells L) w) :
    Calls Tryz.prog 49 #[.pointer (some ⟨bw, 0, none⟩), .int .i64 (id : Int)] w fun e w' => e = .returned (.tuple #[]) ∧ WB B bw 97 [.pointer (some ⟨p, 0, none⟩), .bool false] (Lib.byteCells (L ++ (ks id).flatMap (outV (vN l) ks f))) w' ∧ Fr B [97, 5] w w' := by
  have hs := hX.sm _ (List.getElem_mem hid)
  have hch := hG.chain id hid
  rw [show gN l id = l[id] from getD_of hid] at hch
  refine inner49 B bw BA p g cap l id (ks id) L (outV (vN l) ks f) w hA hid hs.al hok (inn_ok hs hok.2.2) hch ?_ hW hL fun c hc L' W hF hL' hW' => ?_
  · have := nodup_bound l.length (ks id) (hG.nod id hid) (fun c hc => (hG.mem id hid c hc).1)
    omega
  · exact ih c L' W (hA.fr hF (by decide) (by decide) (by decide)) (hG.mem id hid c hc).1 hW' (hwr c hc) hL'
theorem outer_all : ∀ (f id : Nat) (L : List UInt8) (w : World), ArO w BA p g cap l → id < l.length → WB B bw 97 [.pointer (some ⟨p, 0, none⟩), .bool false] (Lib.byteCells L) w → Wr (vN l) ks f id → L.length + (outV (vN l) ks f id).length ≤ 10000000000000 →
      Calls Tryz.prog 66 #[.pointer (some ⟨bw, 0, none⟩), .int .i64 (id : Int), .bool false] w fun e w' => e = .returned (.tuple #[]) ∧ WB B bw 97 [.pointer (some ⟨p, 0, none⟩), .bool false] (Lib.byteCells (L ++ outV (vN l) ks f id)) w' ∧ Fr B [97, 5] w w' := by
  intro f
  induction f with
  | zero => intro id L w _ _ _ h; exact h.elim
  | succ f ih =>
    intro id L w hA hid hW hw hL
    have hs := hX.sm _ (List.getElem_mem hid)
    have hv : vN l id = ⟨l[id].kind, l[id].space, l[id].name, l[id].data, l[id].al⟩ := by rw [vN, show gN l id = l[id] from getD_of hid]
    rw [Wr] at hw
    rw [outV] at hL ⊢
    rw [hv] at hw hL ⊢
    dsimp only at hw hL ⊢
    rcases hw with h | ⟨h1, h⟩ | ⟨h1, h2, h3, h4, h5⟩
    · rw [if_pos h] at hL ⊢
      exact text66 B bw BA p g cap l id L w hA hid hs.al hs.data (by simpa using h) hW (by omega)
    · rw [if_neg (by rw [h1]; decide), if_pos h] at hL ⊢
      exact com66 B bw BA p g cap l id L w hA hid hs.al hs.data (by simpa using h) hW (by omega)
    · rw [if_neg (by rw [h1]; decide), if_neg (by rw [h1]; decide)] at hL ⊢
      exact el66 B bw BA p g cap l id L _ w hA hid hs.al h1 h2 h3 hs.name h4 hs.txt hW hL fun L' W hF hL' hW' =>
        inner_of B bw BA p g cap l ks hG hX hl f id hid ⟨h1, h2, h3⟩ h5 ih L' W (hA.fr hF (by decide) (by decide) (by decide)) hL' hW'
end
end Go.Proofs.YthfdiinfeljeeaaGreatDoor
/- The program's text of what is in a node. -/
namespace Go.Proofs.YthfdiinfeljeeaaGreatDoor
open Go.RowKit
set_option maxHeartbeats 2000000 in
set_option maxRecDepth 100000 in
theorem inner22 (BA p g cap : Nat) (l : List Nd) (id : Nat) (O : List UInt8) (w : World) (hA : ArO w BA p g cap l) (hid : id < l.length) (hal : l[id].al.length ≤ 1024)
    (h49 : ∀ (B bw : Nat) (W : World), ArO W BA p g cap l → WB B bw 97 [.pointer (some ⟨p, 0, none⟩), .bool false] (Lib.byteCells []) W → Calls Tryz.prog 49 #[.pointer (some ⟨bw, 0, none⟩), .int .i64 (id : Int)] W fun e w' => e = .returned (.tuple #[]) ∧ WB B bw 97 [.pointer (some ⟨p, 0, none⟩), .bool false] (Lib.byteCells O) w' ∧ Fr B [97, 5] W w') :
    Calls Tryz.prog 22 #[.pointer (some ⟨p, 0, none⟩), .int .i64 (id : Int), .bool false] w fun e w' => e = .returned (.tuple #[.string (mkS O), .int .i64 0]) ∧ Below w.heap.size w w' := by
  have hN := node21 BA p g cap l id w hA hid hal
  generalize l[id] = n at *
  obtain ⟨kind, space, name, al, aa, ac, data, sys, up, fst, lst, prv, nxt, inn, host⟩ := n
  unfold NodePost Nd.look at hN
  dsimp only at *
  go_enter Tryz.func22, Tryz.ntmps22
  go_wp2_with (go_at_call 21; with_reducible refine hN.mono ?_; rintro e w1 ⟨ab, rfl, hb, hle1, hw1⟩)
  have hA1 := (hA.below hw1).below (bal (Below.refl _ _) (.cells #[.int .i64 kind, .int .i64 space, .string name, .slice (some ⟨ab, 0, none⟩) al.length al.length, .string data, .string sys, .int .i64 up, .int .i64 fst, .int .i64 lst, .int .i64 prv, .int .i64 nxt, .int .i64 inn] 52))
  have hb1 := bal hw1 (.cells #[.int .i64 kind, .int .i64 space, .string name, .slice (some ⟨ab, 0, none⟩) al.length al.length, .string data, .string sys, .int .i64 up, .int .i64 fst, .int .i64 lst, .int .i64 prv, .int .i64 nxt, .int .i64 inn] 52)
  have hsz : (w1.alloc (.cells #[.int .i64 kind, .int .i64 space, .string name, .slice (some ⟨ab, 0, none⟩) al.length al.length, .string data, .string sys, .int .i64 up, .int .i64 fst, .int .i64 lst, .int .i64 prv, .int .i64 nxt, .int .i64 inn] 52)).heap.size = w1.heap.size + 1 := by simp
  generalize w1.alloc (.cells #[.int .i64 kind, .int .i64 space, .string name, .slice (some ⟨ab, 0, none⟩) al.length al.length, .string data, .string sys, .int .i64 up, .int .i64 fst, .int .i64 lst, .int .i64 prv, .int .i64 nxt, .int .i64 inn] 52) = w2 at *
  have hA2 := hA1.below (bal (Below.refl _ _) (.cells #[.pointer none, .slice none 0 0, .pointer (some ⟨p, 0, none⟩), .bool false] 97))
  have hb2 := bal hb1 (.cells #[.pointer none, .slice none 0 0, .pointer (some ⟨p, 0, none⟩), .bool false] 97)
  have hWB : WB (w1.heap.size + 1) (w1.heap.size + 1) 97 [.pointer (some ⟨p, 0, none⟩), .bool false] (Lib.byteCells []) (w2.alloc (.cells #[.pointer none, .slice none 0 0, .pointer (some ⟨p, 0, none⟩), .bool false] 97)) :=
    ⟨Nat.le_refl _, _, _, .inl rfl, at_new _ _ _ hsz.symm, own_nil _ _ _ _, by simp [Lib.byteCells]⟩
  have hle := hw1.size
  refine (h49 _ _ _ hA2 hWB).mono ?_
  rintro e w3 ⟨rfl, hW3, hF3⟩
  have S := string50 (w1.heap.size + 1) (w1.heap.size + 1) 97 _ O w3 hW3
  go_wp2_with (go_at_call 50; with_reducible refine S.mono ?_; rintro e w4 ⟨rfl, hw4⟩)
  go_ret2
  exact ⟨rfl, hb2.trans ((hF3.below.trans hw4).mono (by omega))⟩
end Go.Proofs.YthfdiinfeljeeaaGreatDoor
/- The reference writes all that is in a node. -/
namespace Go.Proofs.YthfdiinfeljeeaaGreatDoor
open Go.RowKit
/-- What the writers ask of an arena, beside Fit. -/
structure FitW (m : List On) : Prop where
  fit : Fit m
  small : ∀ i, SmallV (vO m i)
  inn : ∀ i (h : i < m.length), m[i].name.toList ∈ okNames → m[i].inn = -1
  len : ∀ f i, i < m.length → ((ksO m i).flatMap (outV (vO m) (ksO m) f)).length ≤ 1000000000000000
theorem rwrite (B p g cap : Nat) (m : List On) (hF : FitW m) : ∀ (f id par : Nat) (w : World), Or w B p g cap m → (hid : id < m.length) → (hpar : par < m.length) → m[par].kind = 1 → m[par].space = 0 → m[par].name.toList ∈ okNames → Wr (vO m) (ksO m) f id →
    Calls Tryz.prog 68 #[.pointer (some ⟨p, 0, none⟩), .int .i64 id, .int .i64 par, .bool false] w fun e w' => e = .returned (.string (mkS (outV (vO m) (ksO m) f id))) ∧ Below w.heap.size w w' := by
  intro f
  induction f with
  | zero => intro id par w _ _ _ _ _ _ h; exact h.elim
  | succ f ih =>
    intro id par w hO hid hpar p1 p2 p3 h
    have hv : vO m id = ⟨m[id].kind, m[id].space, m[id].name, m[id].data, m[id].al⟩ := by rw [vO, gO_get hid]
    have hk : ksO m id = m[id].ks := by rw [ksO, gO_get hid]
    have hs := hF.small id
    rw [Wr] at h
    rw [outV]
    rw [hv] at h hs ⊢
    dsimp only at h ⊢
    rcases h with h | ⟨h1, h⟩ | ⟨h1, h2, h3, h4, h5⟩
    · rw [if_pos h]
      exact text68 B p g cap m id par w hO hid hpar p1 p2 p3 (by simpa using h) hs.data
    · rw [if_neg (by rw [h1]; decide), if_pos h]
      exact com68 B p g cap m id par w hO hid (by simpa using h) hs.data
    · rw [if_neg (by rw [h1]; decide), if_neg (by rw [h1]; decide)]
      have hl := hF.len f id hid
      rw [hk] at hl h5 ⊢
      refine el68 B p g cap m id par w hO hid h1 h2 h3 hs.name h4 hs.al hs.txt _ hl fun W hW => ?_
      have hOW := hO.below hW
      exact below51 B p g cap m id W hOW hid h1 h2 h3 (hF.inn id hid h3) _ (hF.fit.ks id hid) (hF.fit.kl id hid) hl
        fun c hc V hV => ih c id V (hOW.below hV) (hF.fit.ks id hid c hc) hid h1 h2 h3 (h5 c hc)
theorem rinner51 (B p g cap : Nat) (m : List On) (hF : FitW m) (f id : Nat) (w : World) (hO : Or w B p g cap m) (hid : id < m.length) (h1 : m[id].kind = 1) (h2 : m[id].space = 0) (h3 : m[id].name.toList ∈ okNames) (h5 : ∀ c ∈ m[id].ks, Wr (vO m) (ksO m) f c) :
    Calls Tryz.prog 51 #[.pointer (some ⟨p, 0, none⟩), .int .i64 id, .bool false] w fun e w' => e = .returned (.string (mkS (m[id].ks.flatMap (outV (vO m) (ksO m) f)))) ∧ Below w.heap.size w w' := by
  have hl := hF.len f id hid
  rw [show ksO m id = m[id].ks by rw [ksO, gO_get hid]] at hl
  exact below51 B p g cap m id w hO hid h1 h2 h3 (hF.inn id hid h3) _ (hF.fit.ks id hid) (hF.fit.kl id hid) hl
    fun c hc V hV => rwrite B p g cap m hF f c id V (hO.below hV) (hF.fit.ks id hid c hc) hid h1 h2 h3 (h5 c hc)
end Go.Proofs.YthfdiinfeljeeaaGreatDoor
/- What is in the class can be written. -/
namespace Go.Proofs.YthfdiinfeljeeaaGreatDoor
theorem kidsV_each {v : Nat → Vw} {xs : List Nat} {o : Nat → Bool} (h : kidsV v xs o = true) : ∀ c ∈ xs, o c = true := by
  intro c hc
  obtain ⟨i, hi, rfl⟩ := List.mem_iff_getElem.1 hc
  rw [kidsV, List.all_eq_true] at h
  have := h i (List.mem_range.2 hi)
  rw [Bool.and_eq_true] at this
  rw [List.getD_eq_getElem?_getD, List.getElem?_eq_getElem hi] at this
  exact this.2
theorem attrsB_sp {al : List A4} (h : attrsB al = true) : ∀ x ∈ al, x.sp = 0 := by
  intro x hx
  obtain ⟨i, hi, rfl⟩ := List.mem_iff_getElem.1 hx
  rw [attrsB, List.all_eq_true] at h
  have := h i (List.mem_range.2 hi)
  rw [okAt_of hi, Bool.and_eq_true, okA] at this
  have h1 := this.1
  simp only [Bool.and_eq_true, beq_iff_eq] at h1
  exact h1.1.1.1
theorem oneV_wr (v : Nat → Vw) (ks : Nat → List Nat) : ∀ (f c : Nat) (block : Bool), oneV v ks f c block = true → Wr v ks f c := by
  intro f
  induction f with
  | zero => intro c block h; exact absurd h (by simp [oneV])
  | succ f ih =>
    intro c block h
    rw [oneV, bodyB, if_neg (by decide)] at h
    rw [Wr]
    by_cases q2 : ((v c).kind == 2) = true
    · exact .inl q2
    · rw [if_neg q2] at h
      right
      by_cases q3 : ((v c).kind == 3) = true
      · exact .inl ⟨by simpa using q2, q3⟩
      · rw [if_neg q3] at h
        right
        by_cases q1 : ((v c).kind == 1) = true
        · rw [if_pos q1] at h
          by_cases qa : ((v c).space == 0 && attrsB (v c).al) = true
          · rw [if_pos qa] at h
            rw [Bool.and_eq_true] at qa
            have e1 : (v c).kind = 1 := by simpa using q1
            have e2 : (v c).space = 0 := by simpa using qa.1
            have e3 := attrsB_sp qa.2
            have kf : kidsV v (ks c) (fun c => oneV v ks f c false) = true → ∀ d ∈ ks c, Wr v ks f d := fun hk d hd => ih d false (kidsV_each hk d hd)
            have kt : kidsV v (ks c) (fun c => oneV v ks f c true) = true → ∀ d ∈ ks c, Wr v ks f d := fun hk d hd => ih d true (kidsV_each hk d hd)
            by_cases n1 : ((v c).name.toList == wSpan) = true
            · rw [if_pos n1] at h
              have n1 := beq_iff_eq.1 n1
              exact ⟨e1, e2, by rw [n1]; decide, e3, kf h⟩
            · rw [if_neg n1] at h
              by_cases n2 : ((v c).name.toList == wP) = true
              · rw [if_pos n2, Bool.and_eq_true] at h
                have n2 := beq_iff_eq.1 n2
                exact ⟨e1, e2, by rw [n2]; decide, e3, kf h.2⟩
              · rw [if_neg n2] at h
                by_cases n3 : blockW (v c).name = true
                · rw [if_pos n3, Bool.and_eq_true] at h
                  refine ⟨e1, e2, ?_, e3, kt h.2⟩
                  simp only [blockW, Bool.or_eq_true, beq_iff_eq] at n3
                  rcases n3 with (((n3 | n3) | n3) | n3) | n3 <;> rw [n3] <;> decide
                · rw [if_neg n3] at h
                  exact absurd h (by decide)
          · rw [if_neg qa] at h
            exact absurd h (by decide)
        · rw [if_neg q1] at h
          exact absurd h (by decide)
theorem bareV_is {v : Nat → Vw} {id : Nat} {n : List UInt8} (h : bareV v id n = true) : (v id).kind = 1 ∧ (v id).space = 0 ∧ (v id).name.toList = n ∧ (v id).al = [] := by
  simp only [bareV, Bool.and_eq_true, beq_iff_eq, List.length_eq_zero_iff] at h
  exact ⟨h.1.1.1, h.1.1.2, h.1.2, h.2⟩
theorem headV_wr {v : Nat → Vw} {ks : Nat → List Nat} {id : Nat} (h : headV v ks id = true) (f : Nat) : Wr v ks (f + 3) id := by
  rw [headV, Bool.and_eq_true] at h
  obtain ⟨h1, h⟩ := h
  obtain ⟨e1, e2, e3, e4⟩ := bareV_is h1
  rw [Wr]
  refine .inr (.inr ⟨e1, e2, by rw [e3]; decide, by rw [e4]; simp, ?_⟩)
  intro t ht
  rcases hk : ks id with _ | ⟨a, _ | ⟨b, r⟩⟩
  · rw [hk] at ht; simp at ht
  · rw [hk] at h ht
    simp only [Bool.and_eq_true] at h
    obtain rfl := List.mem_singleton.1 ht
    obtain ⟨g1, g⟩ := h
    obtain ⟨e1, e2, e3, e4⟩ := bareV_is g1
    rw [Wr]
    refine .inr (.inr ⟨e1, e2, by rw [e3]; decide, by rw [e4]; simp, ?_⟩)
    intro x hx
    rcases hkt : ks t with _ | ⟨c, _ | ⟨d, r⟩⟩
    · rw [hkt] at hx; simp at hx
    · rw [hkt] at g hx
      obtain rfl := List.mem_singleton.1 hx
      simp only [textV, Bool.and_eq_true] at g
      rw [Wr]
      exact .inl g.1.1
    · rw [hkt] at g; simp at g
  · rw [hk] at h; simp at h
theorem bodyV_wr {v : Nat → Vw} {ks : Nat → List Nat} {id : Nat} (h : bodyV v ks id = true) : Wr v ks 199 id := by
  simp only [bodyV, Bool.and_eq_true, beq_iff_eq] at h
  obtain ⟨⟨⟨⟨e1, e2⟩, e3⟩, e4⟩, e5⟩ := h
  rw [Wr]
  refine .inr (.inr ⟨e1, e2, by rw [e3]; decide, attrsB_sp e4, ?_⟩)
  exact fun c hc => oneV_wr v ks 198 c true (kidsV_each e5 c hc)
/-- The html element of a document of the class. -/
theorem inV_is {v : Nat → Vw} {ks : Nat → List Nat} (h : inV v ks = true) : ∃ x a b, ks 0 = [x] ∧ bareV v x wHtml = true ∧ ks x = [a, b] ∧ headV v ks a = true ∧ bodyV v ks b = true := by
  rw [inV] at h
  rcases hk : ks 0 with _ | ⟨x, _ | ⟨y, r⟩⟩
  · rw [hk] at h; simp at h
  · rw [hk] at h
    simp only [Bool.and_eq_true] at h
    obtain ⟨h1, h⟩ := h
    rcases hx : ks x with _ | ⟨a, _ | ⟨b, _ | ⟨c, r⟩⟩⟩
    · rw [hx] at h; simp at h
    · rw [hx] at h; simp at h
    · rw [hx] at h
      simp only [Bool.and_eq_true] at h
      exact ⟨x, a, b, rfl, h1, hx, h.1, h.2⟩
    · rw [hx] at h; simp at h
  · rw [hk] at h; simp at h
theorem inV_wr {v : Nat → Vw} {ks : Nat → List Nat} (h : inV v ks = true) : ∃ x, ks 0 = [x] ∧ (v x).kind = 1 ∧ (v x).space = 0 ∧ (v x).name.toList ∈ okNames ∧ ∀ c ∈ ks x, Wr v ks 199 c := by
  obtain ⟨x, a, b, h0, h1, h2, h3, h4⟩ := inV_is h
  obtain ⟨e1, e2, e3, _⟩ := bareV_is h1
  refine ⟨x, h0, e1, e2, by rw [e3]; decide, ?_⟩
  rw [h2]
  intro c hc
  simp only [List.mem_cons, List.not_mem_nil, or_false] at hc
  rcases hc with rfl | rfl
  · exact headV_wr h3 196
  · exact bodyV_wr h4
/-- The text of a document. -/
def textV19 (v : Nat → Vw) (ks : Nat → List Nat) : List UInt8 := if inV v ks = true then (ks ((ks 0).getD 0 0)).flatMap (outV v ks 199) else []
end Go.Proofs.YthfdiinfeljeeaaGreatDoor
/- The program's In and Text answer as the document says. -/
namespace Go.Proofs.YthfdiinfeljeeaaGreatDoor
open Go.RowKit
section
variable (B p g cap : Nat) (l : List Nd) (ks : Nat → List Nat) (hG : Good l ks) (hX : Ex l) (hl : l.length ≤ 607) (h0l : 0 < l.length)
include hG hX hl h0l
theorem in7 (w : World) (hA : ArO w B p g cap l) (hE : Env w) : Calls Tryz.prog 7 #[.pointer (some ⟨p, 0, none⟩)] w fun e w' => e = .returned (.bool (inV (vN l) ks)) ∧ Below w.heap.size w w' := by
  have e0 : gN l 0 = l[0]'h0l := getD_of h0l
  rcases kids_cases hG 0 h0l with ⟨hk, e1, e2⟩ | ⟨t, hk, e1, e2, ht⟩ | ⟨hne, h2⟩
  · rw [e0] at e1 e2
    have hR : inV (vN l) ks = false := by rw [inV, hk]
    rw [hR]
    exact in7a B p g cap l ks l.length w false hA hG hX hl hE h0l (fun h => absurd e1 h.1) (fun _ => rfl) (fun h => absurd h (Nat.lt_irrefl _)) (fun h => absurd h (Nat.lt_irrefl _)) (fun h => absurd h (Nat.lt_irrefl _))
  · rw [e0] at e1 e2
    have hR : inV (vN l) ks = (bareN (gN l t) wHtml && match ks t with
      | [a, b] => headV (vN l) ks a && bodyV (vN l) ks b
      | _ => false) := by rw [inV, hk]; dsimp only; rw [← bareN_V]; rfl
    rw [hR]
    refine in7a B p g cap l ks t w _ hA hG hX hl hE h0l (fun _ => ⟨e1, ht⟩) (fun h => absurd ⟨by rw [e1]; omega, by rw [e1, e2]⟩ h) (fun _ h => by rw [h]; rfl) (fun _ h hn => ?_) (fun _ h a b hk => by rw [h, hk, Bool.true_and])
    rw [h]
    rcases hk2 : ks t with _ | ⟨x, _ | ⟨y, _ | ⟨z, r⟩⟩⟩
    · rfl
    · rfl
    · rw [hk2] at hn; exact absurd rfl hn
    · rfl
  · rw [e0] at hne
    have hR : inV (vN l) ks = false := by
      rw [inV]
      rcases hk2 : ks 0 with _ | ⟨x, _ | ⟨y, r⟩⟩
      · rfl
      · simp [hk2] at h2
      · rfl
    rw [hR]
    exact in7a B p g cap l ks l.length w false hA hG hX hl hE h0l (fun h => absurd h.2 hne) (fun _ => rfl) (fun h => absurd h (Nat.lt_irrefl _)) (fun h => absurd h (Nat.lt_irrefl _)) (fun h => absurd h (Nat.lt_irrefl _))
set_option maxHeartbeats 2000000 in
set_option maxRecDepth 100000 in
theorem text5 (w : World) (hA : ArO w B p g cap l) (hE : Env w) (hlen : ∀ f i, i < l.length → ((ks i).flatMap (outV (vN l) ks f)).length ≤ 10000000000000) :
    Calls Tryz.prog 5 #[.pointer (some ⟨p, 0, none⟩)] w fun e w' => e = .returned (.tuple #[.string (mkS (textV19 (vN l) ks)), .int .i64 (if inV (vN l) ks = true then 0 else 4)]) ∧ Below w.heap.size w w' := by
  have hI := in7 B p g cap l ks hG hX hl h0l w hA hE
  have hLn := len20 B p l w hA.shut
  have hln0 : ((l.length : Int) == 0) = false := by rw [beq_eq_false_iff_ne]; omega
  have hal : ∀ m ∈ l, m.al.length ≤ 1024 := fun m hm => (hX.sm m hm).al
  cases hi : inV (vN l) ks
  · rw [hi] at hI
    rw [textV19, hi, if_neg (by decide), if_neg (by decide)]
    go_enter Tryz.func5, Tryz.ntmps5
    go_wp2_with (first | (go_at_call 20; refine hLn.mono ?_; rintro e w1 ⟨rfl, rfl⟩) | (go_at_call 7; refine hI.mono ?_; rintro e w2 ⟨rfl, hw2⟩))
    go_ret2
    exact ⟨rfl, hw2⟩
  · rw [hi] at hI
    obtain ⟨x, hx0, q1, q2, q3, q5⟩ := inV_wr hi
    rw [textV19, hi, if_pos rfl, if_pos rfl, hx0, show ([x].getD 0 0) = x from rfl]
    have hx : x < l.length := (hG.mem 0 h0l x (by rw [hx0]; simp)).1
    have hvx : vN l x = ⟨l[x].kind, l[x].space, l[x].name, l[x].data, l[x].al⟩ := by rw [vN, show gN l x = l[x] from getD_of hx]
    rw [hvx] at q1 q2 q3
    have hfst : (l[0]'h0l).fst = (x : Int) := by
      have := hG.fst 0 h0l
      rw [show gN l 0 = l[0]'h0l from getD_of h0l, hx0] at this
      exact this
    have hN := fun W (h : ArO W B p g cap l) => node21 B p g cap l 0 W h h0l (hal _ (List.getElem_mem h0l))
    have h22 := fun W (h : ArO W B p g cap l) => inner22 B p g cap l x ((ks x).flatMap (outV (vN l) ks 199)) W h hx (hal _ (List.getElem_mem hx)) fun B' bw W' hA' hW' => by
      have := inner_of B' bw B p g cap l ks hG hX hl 199 x hx ⟨q1, q2, q3⟩ q5 (outer_all B' bw B p g cap l ks hG hX hl 199) [] W' hA' (by have := hlen 199 x hx; simpa using this) hW'
      rwa [List.nil_append] at this
    clear hlen
    generalize l[0]'h0l = n at *
    obtain ⟨kind, space, name, al, aa, ac, data, sys, up, fst, lst, prv, nxt, inn, host⟩ := n
    unfold NodePost Nd.look at hN
    dsimp only at *
    subst hfst
    generalize mkS ((ks x).flatMap (outV (vN l) ks 199)) = S at *
    go_enter Tryz.func5, Tryz.ntmps5
    go_wp2_with (first
      | (go_at_call 20; with_reducible refine hLn.mono ?_; rintro e w1 ⟨rfl, rfl⟩)
      | (go_at_call 7; with_reducible refine hI.mono ?_; rintro e w2 ⟨rfl, hw2⟩)
      | (go_at_call 21; refine (hN _ (hA.below hw2)).mono ?_; rintro e w3 ⟨ab, rfl, hab, hle3, hw3⟩)
      | (go_at_call 22; with_reducible refine (h22 _ (((hA.below hw2).below hw3).below (bal (Below.refl _ _) _))).mono ?_; rintro e w4 ⟨rfl, hw4⟩))
    go_ret2
    exact ⟨rfl, btr (bal (btr hw2 hw3) _) hw4⟩
end
end Go.Proofs.YthfdiinfeljeeaaGreatDoor
/- The pages of the law: both arenas. -/
namespace Go.Proofs.YthfdiinfeljeeaaGreatDoor
open Go.RowKit
set_option maxHeartbeats 4000000 in
set_option maxRecDepth 100000 in
theorem pages4 (oa : Option Addr) (c : Nat) (L : List A4) (oe : Option Addr) (ce : Nat) (es : List El) (w : World) (hLm : L.length ≤ 1048576) (hR : RdA w oa L) (hc0 : oa = none → L = [] ∧ c = 0) (hsz : ∀ s ∈ txtA L, s.size ≤ 1048576) (hE : RdE w oe es) (hEm : es.length ≤ 1048576) :
    Calls Tryz.prog 4 #[.slice oa L.length c, .slice oe es.length ce] w fun e w' => ∃ p q l m, e = .returned (.tuple #[.pointer (some ⟨p, 0, none⟩), .pointer (some ⟨q, 0, none⟩)]) ∧ Ar w' w.heap.size p l ∧ Ora w' w.heap.size q m ∧ Two l m ∧ l.length ≤ 607 ∧ Ex l ∧ Below w.heap.size w w' := by
  have N := new10 w.heap.size w (Nat.le_refl _)
  go_enter Tryz.func4, Tryz.ntmps4
  go_wp2_with fail
  refine N.mono ?_
  rintro e w1 ⟨p, rfl, hA1, hp1, hb1⟩
  have N2 := new11 w.heap.size w1 hb1.size
  go_wp2_with fail
  refine N2.mono ?_
  rintro e w2 ⟨q, rfl, hO2, hq2, hb2⟩
  have hA2 := hA1.below hb2
  have hbb : Below w.heap.size w w2 := hb1.trans ⟨hb2.os, hb2.tape, hb2.output, hb2.size, fun k hk => hb2.block k (Nat.lt_of_lt_of_le hk hb1.size)⟩
  clear N N2 hA1
  go_wp2_with fail
  have hn0 := at_new w2 (.cells #[.string ⟨#[104, 116, 109, 108]⟩, .string ⟨#[104, 101, 97, 100]⟩, .string ⟨#[98, 111, 100, 121]⟩] 9) _ rfl
  have hb0 := bal hbb (.cells #[.string ⟨#[104, 116, 109, 108]⟩, .string ⟨#[104, 101, 97, 100]⟩, .string ⟨#[98, 111, 100, 121]⟩] 9)
  have hA0 := hA2.below (bal (Below.refl _ _) (.cells #[.string ⟨#[104, 116, 109, 108]⟩, .string ⟨#[104, 101, 97, 100]⟩, .string ⟨#[98, 111, 100, 121]⟩] 9))
  obtain ⟨g0, cap0, hO0⟩ := hO2
  have hO0 : Ora _ _ _ _ := ⟨g0, cap0, hO0.below (bal (Below.refl _ _) (.cells #[.string ⟨#[104, 116, 109, 108]⟩, .string ⟨#[104, 101, 97, 100]⟩, .string ⟨#[98, 111, 100, 121]⟩] 9))⟩
  have hnb : w2.heap.size = w2.heap.size := rfl
  clear hA2 hb1 hb2 hbb
  go_loopw [9, 10, 11, 12, 13] (fun v9 v10 v11 v12 v13 wr => ∃ (k : Nat) (l : List Nd) (m : List On), v9 = .int .i64 k ∧ k ≤ 3 ∧ Ar wr w.heap.size p l ∧ Ora wr w.heap.size q m ∧ Two l m ∧ l.length ≤ 1 + 2 * k ∧ Ex l ∧ Below w.heap.size w wr ∧ wr.heap[w2.heap.size]? = some (.cells #[.string ⟨#[104, 116, 109, 108]⟩, .string ⟨#[104, 101, 97, 100]⟩, .string ⟨#[98, 111, 100, 121]⟩] 9 (0, 0))) (fun v9 _ _ _ _ _ => 3 - (intOf v9).toNat)
  case atStart => exact ⟨0, _, _, rfl, by omega, hA0, hO0, Two.start, by simp, small_start, hb0, hn0⟩
  case round =>
    obtain ⟨k, l, m, rfl, hk, hA, hO, hT, hl, hs, hbw, hn⟩ := hrel
    have cn := blk_cells hn
    have cn0 := cn 0
    have cn1 := cn 1
    have cn2 := cn 2
    clear cn hA0 hO0 hb0 hn0
    rcases (show k = 3 ∨ k < 3 by omega) with rfl | hk3
    · go_wp2
      clear cn0 cn1 cn2 hn
      go_loopw [14, 15, 16, 17] (fun v14 v15 v16 v17 wr => ∃ (k : Nat) (l : List Nd) (m : List On), v14 = .int .i64 k ∧ k ≤ es.length ∧ k ≤ 300 ∧ Ar wr w.heap.size p l ∧ Ora wr w.heap.size q m ∧ Two l m ∧ l.length ≤ 7 + 2 * k ∧ Ex l ∧ Below w.heap.size w wr) (fun v14 _ _ _ _ => es.length - (intOf v14).toNat)
      case atStart => exact ⟨0, l, m, rfl, by omega, by omega, hA, hO, hT, by omega, hs, hbw⟩
      case round =>
        clear hA hO hT hl hs hbw l m hk
        obtain ⟨k, l, m, rfl, hk, hk3, hA, hO, hT, hl, hs, hbw⟩ := hrel
        by_cases hlt : k < es.length ∧ k < 300
        · obtain ⟨hlt, hlt3⟩ := hlt
          obtain ⟨b, off, rfl, hc⟩ := hE (by rintro rfl; simp at hlt)
          obtain ⟨c0, c1, c2, c3, hxR, hx0, hxt, hxs, hxl⟩ := hc k hlt
          clear hc
          generalize es[k] = x at *
          obtain ⟨what, up, text, al, aa, ac⟩ := x
          dsimp only at c0 c1 c2 c3 hxR hx0 hxt hxs hxl
          have c0 := bcl hbw c0
          have c1 := bcl hbw c1
          have c2 := bcl hbw c2
          have c3 := bcl hbw c3
          have hbx := at_new wr (.cells #[.int .i64 what, .int .i64 up, .string text, .slice aa al.length ac] 47) _ rfl
          have hbw2 := bal hbw (.cells #[.int .i64 what, .int .i64 up, .string text, .slice aa al.length ac] 47)
          have hA := hA.below (bal (Below.refl _ _) (.cells #[.int .i64 what, .int .i64 up, .string text, .slice aa al.length ac] 47))
          obtain ⟨g0, cap0, hO0⟩ := hO
          have hO : Ora _ _ _ _ := ⟨g0, cap0, hO0.below (bal (Below.refl _ _) (.cells #[.int .i64 what, .int .i64 up, .string text, .slice aa al.length ac] 47))⟩
          have hnb2 : wr.heap.size = wr.heap.size := rfl
          clear hO0 hbw
          rcases (show what = 0 ∨ what = 1 ∨ (what ≠ 0 ∧ what ≠ 1) by omega) with rfl | rfl | ⟨hw0, hw1⟩
          · by_cases hL2 : al.length ≤ 1024
            · skip
              have E1 := el12 w.heap.size p l text aa ac al _ hA hbw2.size (by omega) hL2 (hxR.below hbw2) hxt hxs
              go_wp2_with fail
              refine E1.mono ?_
              rintro e w3 ⟨b, rfl, hA3, hf3⟩
              have E2 := el13 w.heap.size q m text aa ac al w3 (hO.keep hf3) (Nat.le_trans hbw2.size hf3.size) (by rw [hT.len]; omega) hL2 (hxR.below (hbw2.trans hf3.below)) hx0 hxt hxs
              clear E1
              have cm := blk_cells (hf3.blk hbx (by decide))
              go_wp2_with fail
              refine E2.mono ?_
              rintro e w4 ⟨aa4, ac4, rfl, hO4, hf4⟩
              have hA4 := hA3.keep hf4
              have hT4 := hT.elem (tmplB text) text al b aa4 ac4
              have hn4 := hf4.blk (hf3.blk hbx (by decide)) (by decide)
              have c4 := blk_cells hn4
              have hb4 := hbw2.trans (hf3.below.trans hf4.below)
              have hl4 := elemL_len (tmplB text) (elN 0 text al b) l
              have hs4 := small_el text al b l hs hxt hxs hL2
              clear E2 hA hO hA3 hf3 hf4 hbx hbw2 hT hs
              generalize elemL (tmplB text) (elN 0 text al b) l = l4 at *
              generalize elemO (tmplB text) (elO 0 text al aa4 ac4) m = m4 at *
              obtain ⟨f, rk, hr, hf, C1⟩ := hT4.link14 hA4 hO4 hb4.size up l.length
              go_wp2_with fail
              refine C1.mono ?_
              rintro e w5 ⟨rfl, hA5, hO5, hf5⟩
              have C2 := hT4.link15 hO5 (Nat.le_trans hb4.size hf5.size) (by omega) up l.length f rk hr hf
              have c5 := blk_cells (hf5.blk hn4 (by decide))
              clear C1
              go_wp2_with fail
              refine C2.mono ?_
              rintro e w6 ⟨m6, rfl, hO6, hT6, hf6⟩
              have hA6 := hA5.keep hf6
              have hb6 := hb4.trans (hf5.below.trans hf6.below)
              have hl6 := linkR_len l4 f up l.length
              have hs6 := small_link l4 f up l.length hs4
              clear C2 hA4 hO4 hA5 hO5 hf5 hf6 hn4 hb4 hT4 hs4
              generalize (linkR l4 f up l.length).2 = l6 at *
              go_wp2
              go_roundw
              case rel => exact ⟨k + 1, l6, m6, by go_num, by omega, by omega, hA6, hO6, hT6, by omega, hs6, hb6⟩
              case measure => simp [intOf]; omega

            · skip
              obtain ⟨g1, cap1, hO1⟩ := hO
              have E1 := element12_long w.heap.size p l text aa al.length ac _ hA (by omega) (by omega)
              go_wp2_with fail
              refine E1.mono ?_
              rintro e w3 ⟨rfl, rfl⟩
              have E2 := element13_long w.heap.size q g1 cap1 m text aa al.length ac _ hO1 (by omega) (by omega)
              clear E1
              go_wp2_with fail
              refine E2.mono ?_
              rintro e w4 ⟨rfl, rfl⟩
              have hO4 : Ora _ _ _ _ := ⟨g1, cap1, hO1⟩
              clear E2 hO1
              go_wp2
              go_roundw
              case rel => exact ⟨k + 1, l, m, by go_num, by omega, by omega, hA, hO4, hT, by omega, hs, hbw2⟩
              case measure => simp [intOf]; omega

          · skip
            obtain ⟨g1, cap1, hO1⟩ := hO
            have E1 := text16 w.heap.size p l text _ hA hbw2.size (by omega) hxt
            go_wp2_with fail
            refine E1.mono ?_
            rintro e w3 ⟨rfl, hA3, hf3⟩
            have E2 := text17 w.heap.size q g1 cap1 m text w3 (hO1.fr hf3 (by decide) (by decide) (by decide) (by decide)) (Nat.le_trans hbw2.size hf3.size) (by rw [hT.len]; omega) hxt
            clear E1
            have cm := blk_cells (hf3.blk hbx (by decide))
            go_wp2_with fail
            refine E2.mono ?_
            rintro e w4 ⟨rfl, hO4, hf4⟩
            have hA4 := hA3.keep hf4
            have hT4 := hT.kind 2 text
            have hn4 := hf4.blk (hf3.blk hbx (by decide)) (by decide)
            have c4 := blk_cells hn4
            have hb4 := hbw2.trans (hf3.below.trans hf4.below)
            have hl4 : (l ++ [blankN (kindN 2 text)]).length = l.length + 1 := by simp
            have hs4 := small_kind 2 text l hs hxt
            clear E2 hA hO1 hA3 hf3 hf4 hbx hbw2 hT hs
            generalize l ++ [blankN (kindN 2 text)] = l4 at *
            generalize m ++ [rootO (kindO 2 text)] = m4 at *
            obtain ⟨f, rk, hr, hf, C1⟩ := hT4.link14 hA4 hO4 hb4.size up l.length
            go_wp2_with fail
            refine C1.mono ?_
            rintro e w5 ⟨rfl, hA5, hO5, hf5⟩
            have C2 := hT4.link15 hO5 (Nat.le_trans hb4.size hf5.size) (by omega) up l.length f rk hr hf
            have c5 := blk_cells (hf5.blk hn4 (by decide))
            clear C1
            go_wp2_with fail
            refine C2.mono ?_
            rintro e w6 ⟨m6, rfl, hO6, hT6, hf6⟩
            have hA6 := hA5.keep hf6
            have hb6 := hb4.trans (hf5.below.trans hf6.below)
            have hl6 := linkR_len l4 f up l.length
            have hs6 := small_link l4 f up l.length hs4
            clear C2 hA4 hO4 hA5 hO5 hf5 hf6 hn4 hb4 hT4 hs4
            generalize (linkR l4 f up l.length).2 = l6 at *
            go_wp2
            go_roundw
            case rel => exact ⟨k + 1, l6, m6, by go_num, by omega, by omega, hA6, hO6, hT6, by omega, hs6, hb6⟩
            case measure => simp [intOf]; omega

          · have hd0 : decide (what = 0) = false := decide_eq_false hw0
            have hd1 : decide (what = 1) = false := decide_eq_false hw1
            obtain ⟨g1, cap1, hO1⟩ := hO
            have E1 := comment18 w.heap.size p l text _ hA hbw2.size (by omega) hxt
            go_wp2_with fail
            refine E1.mono ?_
            rintro e w3 ⟨rfl, hA3, hf3⟩
            have E2 := comment19 w.heap.size q g1 cap1 m text w3 (hO1.fr hf3 (by decide) (by decide) (by decide) (by decide)) (Nat.le_trans hbw2.size hf3.size) (by rw [hT.len]; omega) hxt
            clear E1
            have cm := blk_cells (hf3.blk hbx (by decide))
            go_wp2_with fail
            refine E2.mono ?_
            rintro e w4 ⟨rfl, hO4, hf4⟩
            have hA4 := hA3.keep hf4
            have hT4 := hT.kind 3 text
            have hn4 := hf4.blk (hf3.blk hbx (by decide)) (by decide)
            have c4 := blk_cells hn4
            have hb4 := hbw2.trans (hf3.below.trans hf4.below)
            have hl4 : (l ++ [blankN (kindN 3 text)]).length = l.length + 1 := by simp
            have hs4 := small_kind 3 text l hs hxt
            clear E2 hA hO1 hA3 hf3 hf4 hbx hbw2 hT hs
            generalize l ++ [blankN (kindN 3 text)] = l4 at *
            generalize m ++ [rootO (kindO 3 text)] = m4 at *
            obtain ⟨f, rk, hr, hf, C1⟩ := hT4.link14 hA4 hO4 hb4.size up l.length
            go_wp2_with fail
            refine C1.mono ?_
            rintro e w5 ⟨rfl, hA5, hO5, hf5⟩
            have C2 := hT4.link15 hO5 (Nat.le_trans hb4.size hf5.size) (by omega) up l.length f rk hr hf
            have c5 := blk_cells (hf5.blk hn4 (by decide))
            clear C1
            go_wp2_with fail
            refine C2.mono ?_
            rintro e w6 ⟨m6, rfl, hO6, hT6, hf6⟩
            have hA6 := hA5.keep hf6
            have hb6 := hb4.trans (hf5.below.trans hf6.below)
            have hl6 := linkR_len l4 f up l.length
            have hs6 := small_link l4 f up l.length hs4
            clear C2 hA4 hO4 hA5 hO5 hf5 hf6 hn4 hb4 hT4 hs4
            generalize (linkR l4 f up l.length).2 = l6 at *
            go_wp2
            go_roundw
            case rel => exact ⟨k + 1, l6, m6, by go_num, by omega, by omega, hA6, hO6, hT6, by omega, hs6, hb6⟩
            case measure => simp [intOf]; omega

        · rcases (show k = es.length ∨ (k = 300 ∧ k < es.length) by omega) with h | ⟨rfl, hlt⟩
          · have h := Go.Lib.hid h
            have hi : decide ((k : Int) < (es.length : Int)) = false := decide_eq_false (by have := h.out; omega)
            clear h
            go_wp2
            go_ret2
            exact ⟨p, q, l, m, rfl, hA, hO, hT, by omega, hs, hbw⟩
          · go_wp2
            go_ret2
            exact ⟨p, q, l, m, rfl, hA, hO, hT, by omega, hs, hbw⟩
    · rcases (show k = 0 ∨ k = 1 ∨ k = 2 by omega) with rfl | rfl | rfl
      · skip
        have E1 := el12 w.heap.size p l ⟨#[104, 116, 109, 108]⟩ none 0 [] _ hA hbw.size (by omega) (by simp) (fun h => absurd rfl h) (by decide) (by simp [txtA])
        go_wp2_with fail
        refine E1.mono ?_
        rintro e w3 ⟨b, rfl, hA3, hf3⟩
        have E2 := el13 w.heap.size q m ⟨#[104, 116, 109, 108]⟩ none 0 [] w3 (hO.keep hf3) (Nat.le_trans hbw.size hf3.size) (by rw [hT.len]; omega) (by simp) (fun h => absurd rfl h) (fun _ => ⟨rfl, rfl⟩) (by decide) (by simp [txtA])
        clear E1 cn0 cn1 cn2
        have cm := blk_cells (hf3.blk hn (by decide)) 0
        go_wp2_with fail
        refine E2.mono ?_
        rintro e w4 ⟨aa4, ac4, rfl, hO4, hf4⟩
        have hA4 := hA3.keep hf4
        have hT4 := hT.elem (tmplB ⟨#[104, 116, 109, 108]⟩) ⟨#[104, 116, 109, 108]⟩ [] b aa4 ac4
        have hn4 := hf4.blk (hf3.blk hn (by decide)) (by decide)
        have hb4 := hbw.trans (hf3.below.trans hf4.below)
        have hl4 := elemL_len (tmplB ⟨#[104, 116, 109, 108]⟩) (elN 0 ⟨#[104, 116, 109, 108]⟩ [] b) l
        have hs4 := small_el ⟨#[104, 116, 109, 108]⟩ [] b l hs (by decide) (by simp [txtA]) (by simp)
        clear E2 hA hO hA3 hf3 hf4 hn hbw hT hs
        generalize elemL (tmplB ⟨#[104, 116, 109, 108]⟩) (elN 0 ⟨#[104, 116, 109, 108]⟩ [] b) l = l4 at *
        generalize elemO (tmplB ⟨#[104, 116, 109, 108]⟩) (elO 0 ⟨#[104, 116, 109, 108]⟩ [] aa4 ac4) m = m4 at *
        obtain ⟨f, rk, hr, hf, C1⟩ := hT4.link14 hA4 hO4 hb4.size 0 l.length
        go_wp2_with fail
        refine C1.mono ?_
        rintro e w5 ⟨rfl, hA5, hO5, hf5⟩
        have C2 := hT4.link15 hO5 (Nat.le_trans hb4.size hf5.size) (by omega) 0 l.length f rk hr hf
        clear C1
        go_wp2_with fail
        refine C2.mono ?_
        rintro e w6 ⟨m6, rfl, hO6, hT6, hf6⟩
        have hA6 := hA5.keep hf6
        have hn6 := hf6.blk (hf5.blk hn4 (by decide)) (by decide)
        have hb6 := hb4.trans (hf5.below.trans hf6.below)
        have hl6 := linkR_len l4 f 0 l.length
        have hs6 := small_link l4 f 0 l.length hs4
        clear C2 hA4 hO4 hA5 hO5 hf5 hf6 hn4 hb4 hT4 hs4
        generalize (linkR l4 f 0 l.length).2 = l6 at *
        go_wp2
        go_roundw
        case rel => exact ⟨1, l6, m6, by rfl, by omega, hA6, hO6, hT6, by omega, hs6, hb6, hn6⟩
        case measure => simp [intOf]

      · skip
        have E1 := el12 w.heap.size p l ⟨#[104, 101, 97, 100]⟩ none 0 [] _ hA hbw.size (by omega) (by simp) (fun h => absurd rfl h) (by decide) (by simp [txtA])
        go_wp2_with fail
        refine E1.mono ?_
        rintro e w3 ⟨b, rfl, hA3, hf3⟩
        have E2 := el13 w.heap.size q m ⟨#[104, 101, 97, 100]⟩ none 0 [] w3 (hO.keep hf3) (Nat.le_trans hbw.size hf3.size) (by rw [hT.len]; omega) (by simp) (fun h => absurd rfl h) (fun _ => ⟨rfl, rfl⟩) (by decide) (by simp [txtA])
        clear E1 cn0 cn1 cn2
        have cm := blk_cells (hf3.blk hn (by decide)) 1
        go_wp2_with fail
        refine E2.mono ?_
        rintro e w4 ⟨aa4, ac4, rfl, hO4, hf4⟩
        have hA4 := hA3.keep hf4
        have hT4 := hT.elem (tmplB ⟨#[104, 101, 97, 100]⟩) ⟨#[104, 101, 97, 100]⟩ [] b aa4 ac4
        have hn4 := hf4.blk (hf3.blk hn (by decide)) (by decide)
        have hb4 := hbw.trans (hf3.below.trans hf4.below)
        have hl4 := elemL_len (tmplB ⟨#[104, 101, 97, 100]⟩) (elN 0 ⟨#[104, 101, 97, 100]⟩ [] b) l
        have hs4 := small_el ⟨#[104, 101, 97, 100]⟩ [] b l hs (by decide) (by simp [txtA]) (by simp)
        clear E2 hA hO hA3 hf3 hf4 hn hbw hT hs
        generalize elemL (tmplB ⟨#[104, 101, 97, 100]⟩) (elN 0 ⟨#[104, 101, 97, 100]⟩ [] b) l = l4 at *
        generalize elemO (tmplB ⟨#[104, 101, 97, 100]⟩) (elO 0 ⟨#[104, 101, 97, 100]⟩ [] aa4 ac4) m = m4 at *
        obtain ⟨f, rk, hr, hf, C1⟩ := hT4.link14 hA4 hO4 hb4.size 1 l.length
        go_wp2_with fail
        refine C1.mono ?_
        rintro e w5 ⟨rfl, hA5, hO5, hf5⟩
        have C2 := hT4.link15 hO5 (Nat.le_trans hb4.size hf5.size) (by omega) 1 l.length f rk hr hf
        clear C1
        go_wp2_with fail
        refine C2.mono ?_
        rintro e w6 ⟨m6, rfl, hO6, hT6, hf6⟩
        have hA6 := hA5.keep hf6
        have hn6 := hf6.blk (hf5.blk hn4 (by decide)) (by decide)
        have hb6 := hb4.trans (hf5.below.trans hf6.below)
        have hl6 := linkR_len l4 f 1 l.length
        have hs6 := small_link l4 f 1 l.length hs4
        clear C2 hA4 hO4 hA5 hO5 hf5 hf6 hn4 hb4 hT4 hs4
        generalize (linkR l4 f 1 l.length).2 = l6 at *
        go_wp2
        go_roundw
        case rel => exact ⟨2, l6, m6, by rfl, by omega, hA6, hO6, hT6, by omega, hs6, hb6, hn6⟩
        case measure => simp [intOf]

      · by_cases hL : L.length ≤ 1024
        · skip
          have E1 := el12 w.heap.size p l ⟨#[98, 111, 100, 121]⟩ oa c L _ hA hbw.size (by omega) hL (hR.below hbw) (by decide) hsz
          go_wp2_with fail
          refine E1.mono ?_
          rintro e w3 ⟨b, rfl, hA3, hf3⟩
          have E2 := el13 w.heap.size q m ⟨#[98, 111, 100, 121]⟩ oa c L w3 (hO.keep hf3) (Nat.le_trans hbw.size hf3.size) (by rw [hT.len]; omega) hL (hR.below (hbw.trans hf3.below)) hc0 (by decide) hsz
          clear E1 cn0 cn1 cn2
          have cm := blk_cells (hf3.blk hn (by decide)) 2
          go_wp2_with fail
          refine E2.mono ?_
          rintro e w4 ⟨aa4, ac4, rfl, hO4, hf4⟩
          have hA4 := hA3.keep hf4
          have hT4 := hT.elem (tmplB ⟨#[98, 111, 100, 121]⟩) ⟨#[98, 111, 100, 121]⟩ L b aa4 ac4
          have hn4 := hf4.blk (hf3.blk hn (by decide)) (by decide)
          have hb4 := hbw.trans (hf3.below.trans hf4.below)
          have hl4 := elemL_len (tmplB ⟨#[98, 111, 100, 121]⟩) (elN 0 ⟨#[98, 111, 100, 121]⟩ L b) l
          have hs4 := small_el ⟨#[98, 111, 100, 121]⟩ L b l hs (by decide) hsz hL
          clear E2 hA hO hA3 hf3 hf4 hn hbw hT hs
          generalize elemL (tmplB ⟨#[98, 111, 100, 121]⟩) (elN 0 ⟨#[98, 111, 100, 121]⟩ L b) l = l4 at *
          generalize elemO (tmplB ⟨#[98, 111, 100, 121]⟩) (elO 0 ⟨#[98, 111, 100, 121]⟩ L aa4 ac4) m = m4 at *
          obtain ⟨f, rk, hr, hf, C1⟩ := hT4.link14 hA4 hO4 hb4.size 1 l.length
          go_wp2_with fail
          refine C1.mono ?_
          rintro e w5 ⟨rfl, hA5, hO5, hf5⟩
          have C2 := hT4.link15 hO5 (Nat.le_trans hb4.size hf5.size) (by omega) 1 l.length f rk hr hf
          clear C1
          go_wp2_with fail
          refine C2.mono ?_
          rintro e w6 ⟨m6, rfl, hO6, hT6, hf6⟩
          have hA6 := hA5.keep hf6
          have hn6 := hf6.blk (hf5.blk hn4 (by decide)) (by decide)
          have hb6 := hb4.trans (hf5.below.trans hf6.below)
          have hl6 := linkR_len l4 f 1 l.length
          have hs6 := small_link l4 f 1 l.length hs4
          clear C2 hA4 hO4 hA5 hO5 hf5 hf6 hn4 hb4 hT4 hs4
          generalize (linkR l4 f 1 l.length).2 = l6 at *
          go_wp2
          go_roundw
          case rel => exact ⟨3, l6, m6, by rfl, by omega, hA6, hO6, hT6, by omega, hs6, hb6, hn6⟩
          case measure => simp [intOf]

        · skip
          obtain ⟨g1, cap1, hO1⟩ := hO
          have E1 := element12_long w.heap.size p l ⟨#[98, 111, 100, 121]⟩ oa L.length c wr hA (by omega) (by omega)
          go_wp2_with fail
          refine E1.mono ?_
          rintro e w3 ⟨rfl, rfl⟩
          have E2 := element13_long w.heap.size q g1 cap1 m ⟨#[98, 111, 100, 121]⟩ oa L.length c wr hO1 (by omega) (by omega)
          clear E1
          go_wp2_with fail
          refine E2.mono ?_
          rintro e w4 ⟨rfl, rfl⟩
          have hA4 := hA
          have hO4 : Ora _ _ _ _ := ⟨g1, cap1, hO1⟩
          have hT4 := hT
          have hn4 := hn
          have hb4 := hbw
          have hl4 := hl
          have hs4 := hs
          clear E2 hA hO1 hn hbw hl hT hs cn0 cn1 cn2
          obtain ⟨l4, hl4e⟩ : ∃ l4, l4 = l := ⟨l, rfl⟩
          rw [← hl4e] at hA4 hT4 hl4 hs4
          clear hl4e l
          obtain ⟨f, rk, hr, hf, C1⟩ := hT4.link14 hA4 hO4 hb4.size 1 0
          go_wp2_with fail
          refine C1.mono ?_
          rintro e w5 ⟨rfl, hA5, hO5, hf5⟩
          have C2 := hT4.link15 hO5 (Nat.le_trans hb4.size hf5.size) (by omega) 1 0 f rk hr hf
          clear C1
          go_wp2_with fail
          refine C2.mono ?_
          rintro e w6 ⟨m6, rfl, hO6, hT6, hf6⟩
          have hA6 := hA5.keep hf6
          have hn6 := hf6.blk (hf5.blk hn4 (by decide)) (by decide)
          have hb6 := hb4.trans (hf5.below.trans hf6.below)
          have hl6 := linkR_len l4 f 1 0
          have hs6 := small_link l4 f 1 0 hs4
          clear C2 hA4 hO4 hA5 hO5 hf5 hf6 hn4 hb4 hT4 hs4
          generalize (linkR l4 f 1 0).2 = l6 at *
          go_wp2
          go_roundw
          case rel => exact ⟨3, l6, m6, by rfl, by omega, hA6, hO6, hT6, by omega, hs6, hb6, hn6⟩
          case measure => simp [intOf]

end Go.Proofs.YthfdiinfeljeeaaGreatDoor
/- The page that the law looks at to see whether the program computes at all. -/
namespace Go.Proofs.YthfdiinfeljeeaaGreatDoor
open Go.RowKit
theorem Two.link14e {B p q : Nat} {l : List Nd} {m : List On} {w : World} (h : Two l m) (ha : Ar w B p l) (ho : Ora w B q m) (hB : B ≤ w.heap.size) (u i : Int) :
    ∃ f rk, 8 ≤ f ∧ Ranked l rk ∧ (∀ j, j < l.length → rk j + 1 < f) ∧ Calls Tryz.prog 14 #[.pointer (some ⟨p, 0, none⟩), .int .i64 u, .int .i64 i, .int .i64 (-1)] w fun e w' => e = .returned (.int .i64 (linkR l f u i).1) ∧ Ar w' B p (linkR l f u i).2 ∧ Ora w' B q m ∧ Fr B [74, 78] w w' := by
  obtain ⟨ks, hk⟩ := h.al
  obtain ⟨rk, hr⟩ := h.rk
  obtain ⟨f0, hf0⟩ := fuel l rk
  have hf : ∀ j, j < l.length → rk j + 1 < f0 + 8 := fun j hj => by have := hf0 j hj; omega
  obtain ⟨g, cap, hO⟩ := ha.open_
  obtain ⟨g2, cap2, hO2⟩ := ho
  refine ⟨f0 + 8, rk, by omega, hr, hf, (Proofs.YthfdiinfeljeeaaGreatDoor.link14 B p g cap l rk (f0 + 8) u i w hO hB hr hf fun j hj => ?_).mono ?_⟩
  · have e : gN l j = l[j] := getD_of hj
    rw [← e]
    rcases hk.good.lst_or j hj with ⟨_, h1⟩ | ⟨hk2, h1⟩
    · exact .inl h1
    · have := (hk.good.mem j hj _ (List.getElem_mem hk2)).1
      exact .inr ⟨by omega, by omega⟩
  · rintro e w1 ⟨rfl, h1, h2⟩
    exact ⟨rfl, h1.shut, ⟨g2, cap2, hO2.fr h2 (by decide) (by decide) (by decide) (by decide)⟩, h2⟩
def nmS : Nat → ByteArray
  | 0 => ⟨#[104, 116, 109, 108]⟩
  | 1 => ⟨#[104, 101, 97, 100]⟩
  | 2 => ⟨#[98, 111, 100, 121]⟩
  | _ => ⟨#[112]⟩
def upS : Nat → Int
  | 0 => 0
  | 1 => 1
  | 2 => 1
  | _ => 3
/-- The arena behind so many of its elements. -/
def St : Nat → List Nd → Prop
  | 0, l => l = [blankN (kindN 0 ⟨#[]⟩)]
  | k + 1, l => ∃ l' b g, St k l' ∧ l = (linkR (elemL (tmplB (nmS k)) (elN 0 (nmS k) [] b) l') (g + 8) (upS k) (l'.length : Int)).2
theorem St.step {k : Nat} {l : List Nd} (h : St k l) (b : Nat) {f : Nat} (hf : 8 ≤ f) : St (k + 1) (linkR (elemL (tmplB (nmS k)) (elN 0 (nmS k) [] b) l) f (upS k) (l.length : Int)).2 :=
  ⟨l, b, f - 8, h, by rw [Nat.sub_add_cancel hf]⟩
/-- A node with its links. -/
def nodeD (k : Int) (nm : ByteArray) (aa : Option Addr) (up fst lst prv nxt : Int) : Nd := ⟨k, 0, nm, [], aa, 0, ⟨#[]⟩, ⟨#[]⟩, up, fst, lst, prv, nxt, -1, -1⟩
def D4 (b0 b1 b2 b3 : Nat) : List Nd :=
  [nodeD 0 ⟨#[]⟩ none (-1) 1 1 (-1) (-1), nodeD 1 (nmS 0) (some ⟨b0, 0, none⟩) 0 2 3 (-1) (-1), nodeD 1 (nmS 1) (some ⟨b1, 0, none⟩) 1 (-1) (-1) (-1) 3, nodeD 1 (nmS 2) (some ⟨b2, 0, none⟩) 1 4 4 2 (-1), nodeD 1 (nmS 3) (some ⟨b3, 0, none⟩) 3 (-1) (-1) (-1) (-1)]
set_option maxRecDepth 100000 in
theorem st_four {l : List Nd} (h : St 4 l) : ∃ b0 b1 b2 b3, l = D4 b0 b1 b2 b3 := by
  obtain ⟨l3, b3, g3, ⟨l2, b2, g2, ⟨l1, b1, g1, ⟨l0, b0, g0, h0, h1⟩, h2⟩, h3⟩, h4⟩ := h
  have h0 : l0 = [blankN (kindN 0 ⟨#[]⟩)] := h0
  subst h0
  have h1 : l1 = [nodeD 0 ⟨#[]⟩ none (-1) 1 1 (-1) (-1), nodeD 1 (nmS 0) (some ⟨b0, 0, none⟩) 0 (-1) (-1) (-1) (-1)] := h1
  subst h1
  have h2 : l2 = [nodeD 0 ⟨#[]⟩ none (-1) 1 1 (-1) (-1), nodeD 1 (nmS 0) (some ⟨b0, 0, none⟩) 0 2 2 (-1) (-1), nodeD 1 (nmS 1) (some ⟨b1, 0, none⟩) 1 (-1) (-1) (-1) (-1)] := h2
  subst h2
  have h3 : l3 = [nodeD 0 ⟨#[]⟩ none (-1) 1 1 (-1) (-1), nodeD 1 (nmS 0) (some ⟨b0, 0, none⟩) 0 2 3 (-1) (-1), nodeD 1 (nmS 1) (some ⟨b1, 0, none⟩) 1 (-1) (-1) (-1) 3, nodeD 1 (nmS 2) (some ⟨b2, 0, none⟩) 1 (-1) (-1) 2 (-1)] := h3
  subst h3
  exact ⟨b0, b1, b2, b3, h4⟩
def kD : Nat → List Nat
  | 0 => [1]
  | 1 => [2, 3]
  | 3 => [4]
  | _ => []
theorem kD_of {b0 b1 b2 b3 : Nat} {ks : Nat → List Nat} (hG : Good (D4 b0 b1 b2 b3) ks) (ho : ∀ i, 5 ≤ i → ks i = []) : ks = kD := by
  have hl : (D4 b0 b1 b2 b3).length = 5 := rfl
  have key : ∀ i xs, i < 5 → Chain (D4 b0 b1 b2 b3) (gN (D4 b0 b1 b2 b3) i).fst xs → ks i = xs := fun i xs hi h => chain_unique _ _ _ _ (hG.chain i (by rw [hl]; exact hi)) h
  funext i
  rcases (show i = 0 ∨ i = 1 ∨ i = 2 ∨ i = 3 ∨ i = 4 ∨ 5 ≤ i by omega) with rfl | rfl | rfl | rfl | rfl | h
  · exact key 0 [1] (by decide) ⟨rfl, by rw [hl]; decide, rfl⟩
  · exact key 1 [2, 3] (by decide) ⟨rfl, by rw [hl]; decide, rfl, by rw [hl]; decide, rfl⟩
  · exact key 2 [] (by decide) rfl
  · exact key 3 [4] (by decide) ⟨rfl, by rw [hl]; decide, rfl⟩
  · exact key 4 [] (by decide) rfl
  · rw [ho i h]
    obtain ⟨j, rfl⟩ : ∃ j, i = j + 4 := ⟨i - 4, by omega⟩
    rfl
set_option maxRecDepth 100000 in
theorem D4_in (b0 b1 b2 b3 : Nat) : inV (vN (D4 b0 b1 b2 b3)) kD = true := by kernel_rfl
set_option maxRecDepth 100000 in
theorem D4_text (b0 b1 b2 b3 : Nat) : mkS (textV19 (vN (D4 b0 b1 b2 b3)) kD) = ⟨#[60, 104, 101, 97, 100, 62, 60, 47, 104, 101, 97, 100, 62, 60, 98, 111, 100, 121, 62, 60, 112, 62, 60, 47, 112, 62, 60, 47, 98, 111, 100, 121, 62]⟩ := by
  rw [textV19, D4_in, if_pos rfl]
  kernel_rfl
end Go.Proofs.YthfdiinfeljeeaaGreatDoor
