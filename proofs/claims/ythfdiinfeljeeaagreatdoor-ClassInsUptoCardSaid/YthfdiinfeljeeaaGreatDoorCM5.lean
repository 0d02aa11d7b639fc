/- Texts of one seat, merged: lemmas and contracts that the law leans on. -/
import Derived.Test.YthfdiinfeljeeaaGreatDoorCM4
import Derived.Deep.LoopGhost
/- What the program says of one node that it visits. -/
namespace Go.Proofs.YthfdiinfeljeeaaGreatDoor
open Go.RowKit
/-- Is there such a node, and is it a text? -/
def ptB (l : List Nd) (i : Int) : Bool := decide (0 ≤ i ∧ i < l.length) && (gN l i.toNat).kind == 2
theorem node21_any (B p g cap : Nat) (l : List Nd) (i : Int) (w : World) (h : ArO w B p g cap l) (hal : ∀ n ∈ l, n.al.length ≤ 1024) : Calls Tryz.prog 21 #[.pointer (some ⟨p, 0, none⟩), .int .i64 i] w fun e w' =>
    ∃ (k sp : Int) (nm : ByteArray) (aa : Option Addr) (an ac : Nat) (d s : ByteArray) (i1 i2 i3 i4 i5 i6 er : Int), e = .returned (.tuple #[.agg #[.int .i64 k, .int .i64 sp, .string nm, .slice aa an ac, .string d, .string s, .int .i64 i1, .int .i64 i2, .int .i64 i3, .int .i64 i4, .int .i64 i5, .int .i64 i6], .int .i64 er]) ∧
      ((er == 0) && (k == 2)) = ptB l i ∧ Below w.heap.size w w' := by
  unfold ptB
  by_cases hi : 0 ≤ i ∧ i < l.length
  · obtain ⟨n, rfl⟩ : ∃ n : Nat, i = n := ⟨i.toNat, by omega⟩
    have hn : n < l.length := by omega
    refine (node21 B p g cap l n w h hn (hal _ (List.getElem_mem hn))).mono ?_
    rintro e w1 ⟨b, rfl, _, _, hb⟩
    refine ⟨_, _, _, _, _, _, _, _, _, _, _, _, _, _, 0, rfl, ?_, hb⟩
    rw [decide_eq_true hi, Int.toNat_natCast, show gN l n = l[n] from getD_of hn]
    rfl
  · refine (node21_none B p g cap l i w h hi).mono ?_
    rintro e w1 ⟨rfl, hb⟩
    refine ⟨0, 0, ⟨#[]⟩, none, 0, 0, ⟨#[]⟩, ⟨#[]⟩, 0, 0, 0, 0, 0, 0, 6, rfl, ?_, hb⟩
    rw [decide_eq_false hi]
    rfl
def rightB (n : Nd) (f : Nat) : Bool := if f = 75 then n.space == 0 && attrsB n.al else if f = 76 then !n.data.toList.isEmpty && plainB n.data else commB n.data
/-- What the program answers for a node that it visits. -/
def resB (l : List Nd) (n : Nd) (depth : Int) (inl : Bool) : Int := match kindV n with
  | none => -1
  | some (i, h, f) => if 200 < depth then -1 else if (inl && !i) = true then -1 else if rightB n f = false then -1 else if (n.kind == 2 && ptB l n.prv) = true then -1 else if (h == 0 && n.fst != -1) = true then -1 else h
theorem rightAll (n : Nd) (b : Nat) (w : World) (h : w.heap[b]? = some (.cells (cellsA n.al).toArray 80 (0, 0))) (hs : Small n) (hE : Env w) (f : Nat) (hf : f = 75 ∨ f = 76 ∨ f = 77) :
    Calls Tryz.prog f #[.agg (n.look b)] w (RetB (rightB n f) w) := by
  rcases hf with rfl | rfl | rfl
  · exact right75 n b w h hs.al hs.txt hE
  · exact right76 n b w hs.data hE
  · exact right77 n b w hs.data hE
theorem kind_cases {n : Nd} {i : Bool} {h f : Nat} (hk : kindV n = some (i, h, f)) : ((i = true ∧ h = 0 ∧ f = 76) ∧ (n.kind == 2) = true) ∨ ((n.kind == 2) = false ∧ ( (i = true ∧ h = 0 ∧ f = 77) ∨ (i = true ∧ h = 1 ∧ f = 75) ∨ (i = false ∧ h = 1 ∧ f = 75) ∨ (i = false ∧ h = 2 ∧ f = 75))) := by
  unfold kindV at hk
  repeat' split at hk
  all_goals first
    | (cases hk; done)
    | (simp only [Option.some.injEq, Prod.mk.injEq] at hk; obtain ⟨rfl, rfl, rfl⟩ := hk; simp_all)
set_option linter.unusedSimpArgs false in
set_option maxHeartbeats 8000000 in
set_option maxRecDepth 100000 in
theorem body57 (B p g cap : Nat) (l : List Nd) (n : Nd) (b : Nat) (ca : Nat) (id depth : Int) (inl : Bool) (w : World) (hA : ArO w B p g cap l) (hal : ∀ n ∈ l, n.al.length ≤ 1024) (hat : w.heap[b]? = some (.cells (cellsA n.al).toArray 80 (0, 0))) (hs : Small n) (hE : Env w)
    (hca : w.heap[ca]? = some (.cells #[.pointer (some ⟨p, 0, none⟩)] 24 (0, 0))) :
    Calls Tryz.prog 57 #[.agg #[.int .i64 id, .int .i64 depth, .bool inl], .agg (n.look b), .pointer (some ⟨ca, 0, none⟩)] w fun e w' => e = .returned (.int .i64 (resB l n depth inl)) ∧ Below w.heap.size w w' := by
  have hbt : ∀ {w0 w1 : World}, ∀ w2, Below w0.heap.size w0 w1 → Below w1.heap.size w1 w2 → Below w0.heap.size w0 w2 := fun _ h h2 => h.trans ⟨h2.os, h2.tape, h2.output, h2.size, fun j hj => h2.block j (Nat.lt_of_lt_of_le hj h.size)⟩
  have hb0 := bal (Below.refl w.heap.size w) (.cells #[.int .i64 id, .int .i64 depth, .bool inl] 109)
  have hv := at_new w (.cells #[.int .i64 id, .int .i64 depth, .bool inl] 109) _ rfl
  have hb1 := bal hb0 (.cells (n.look b) 52)
  have hn := at_new (w.alloc (.cells #[.int .i64 id, .int .i64 depth, .bool inl] 109)) (.cells (n.look b) 52) (w.heap.size + 1) (by simp)
  have hv1 := bblk (bal (Below.refl _ (w.alloc (.cells #[.int .i64 id, .int .i64 depth, .bool inl] 109))) (.cells (n.look b) 52)) hv
  have K58 := kinds58 n b ((w.alloc (.cells #[.int .i64 id, .int .i64 depth, .bool inl] 109)).alloc (.cells (n.look b) 52))
  have K21 := fun (W : World) (hW : Below w.heap.size w W) => node21_any B p g cap l n.prv W (hA.below hW) hal
  have KR := fun (W : World) (hW : Below w.heap.size w W) f hf => rightAll n b W (bblk hW hat) hs (hE.below hW) f hf
  have hca' : ∀ (W : World), Below w.heap.size w W → W.cell? ⟨ca, 0, none⟩ = some (.pointer (some ⟨p, 0, none⟩)) := fun W hW => blk_cells (bblk hW hca) 0
  have hR : ∀ x, resB l n depth inl = x → Ending.returned (.int .i64 x) = .returned (.int .i64 (resB l n depth inl)) := fun x h => by rw [h]
  clear hA hal hs hE hat hca hv hb0
  unfold Nd.look at *
  cases hk : kindV n with
  | none =>
    rw [hk] at K58
    dsimp only [kindR] at K58
    have hR0 : resB l n depth inl = -1 := by rw [resB, hk]
    rw [hR0]
    clear KR hR hR0
    go_enter Tryz.func57, Tryz.ntmps57
    go_wp2_with (first | (go_at_call 58; refine K58.mono ?_; rintro e w2 ⟨rfl, hw2⟩; have hb2 := hbt _ hb1 hw2; have hn2 := bblk hw2 hn; have hv2 := bblk hw2 hv1; have hk2 := at_new w2 (.cells #[.bool false, .int .i64 0, Value.nilFunc] 111) _ rfl; have hb2a := bal hb2 (.cells #[.bool false, .int .i64 0, Value.nilFunc] 111); have ha2 := bal (Below.refl w2.heap.size w2) (.cells #[.bool false, .int .i64 0, Value.nilFunc] 111); have hn2a := bblk ha2 hn2; have hv2a := bblk ha2 hv2; have cn2 := blk_cells hn2a; have cc2 := hca' _ hb2a) | (go_at_call 21; refine (K21 _ hb2a).mono ?_; rintro e w3 ⟨k, sp, nm, aa, an, ac, d, s, i1, i2, i3, i4, i5, i6, er, rfl, hpt, hw3⟩; have hb3 := hbt _ hb2a hw3; have hn3 := bblk hw3 hn2a; have hv3 := bblk hw3 hv2a; have hk3 := bblk hw3 hk2; have hp3 := at_new w3 (.cells #[.int .i64 k, .int .i64 sp, .string nm, .slice aa an ac, .string d, .string s, .int .i64 i1, .int .i64 i2, .int .i64 i3, .int .i64 i4, .int .i64 i5, .int .i64 i6] 52) _ rfl; have ha3 := bal (Below.refl w3.heap.size w3) (.cells #[.int .i64 k, .int .i64 sp, .string nm, .slice aa an ac, .string d, .string s, .int .i64 i1, .int .i64 i2, .int .i64 i3, .int .i64 i4, .int .i64 i5, .int .i64 i6] 52); have hb3a := bal hb3 (.cells #[.int .i64 k, .int .i64 sp, .string nm, .slice aa an ac, .string d, .string s, .int .i64 i1, .int .i64 i2, .int .i64 i3, .int .i64 i4, .int .i64 i5, .int .i64 i6] 52); have cn3 := blk_cells (bblk ha3 hn3); have cv3 := blk_cells (bblk ha3 hv3); have ck3 := blk_cells (bblk ha3 hk3); have cp3 := blk_cells hp3))
    go_ret
    exact ⟨rfl, hb3a⟩
  | some z =>
    obtain ⟨i, h, f⟩ := z
    have hcs := kind_cases hk
    rcases hcs with ⟨⟨rfl, rfl, rfl⟩, qk⟩ | ⟨qk, hcs⟩
    · rw [hk] at K58
      dsimp only [kindR] at K58
      by_cases hdep : 200 < depth
      · have hd1 : decide (depth > 200) = true := decide_eq_true hdep
        clear KR
        go_enter Tryz.func57, Tryz.ntmps57
        go_wp2_with (first | (go_at_call 58; refine K58.mono ?_; rintro e w2 ⟨rfl, hw2⟩; have hb2 := hbt _ hb1 hw2; have hn2 := bblk hw2 hn; have hv2 := bblk hw2 hv1; have hk2 := at_new w2 (.cells #[.bool true, .int .i64 0, .func (.func 76) #[] #[]] 111) _ rfl; have hb2a := bal hb2 (.cells #[.bool true, .int .i64 0, .func (.func 76) #[] #[]] 111); have ha2 := bal (Below.refl w2.heap.size w2) (.cells #[.bool true, .int .i64 0, .func (.func 76) #[] #[]] 111); have hn2a := bblk ha2 hn2; have hv2a := bblk ha2 hv2; have cn2 := blk_cells hn2a; have cc2 := hca' _ hb2a))
        refine (K21 _ hb2a).mono ?_
        rintro e w3 ⟨k, sp, nm, aa, an, ac, d, s, i1, i2, i3, i4, i5, i6, er, rfl, hpt, hw3⟩
        have hb3 := hbt _ hb2a hw3
        have hn3 := bblk hw3 hn2a
        have hv3 := bblk hw3 hv2a
        have hk3 := bblk hw3 hk2
        have hp3 := at_new w3 (.cells #[.int .i64 k, .int .i64 sp, .string nm, .slice aa an ac, .string d, .string s, .int .i64 i1, .int .i64 i2, .int .i64 i3, .int .i64 i4, .int .i64 i5, .int .i64 i6] 52) _ rfl
        have ha3 := bal (Below.refl w3.heap.size w3) (.cells #[.int .i64 k, .int .i64 sp, .string nm, .slice aa an ac, .string d, .string s, .int .i64 i1, .int .i64 i2, .int .i64 i3, .int .i64 i4, .int .i64 i5, .int .i64 i6] 52)
        have hb3a := bal hb3 (.cells #[.int .i64 k, .int .i64 sp, .string nm, .slice aa an ac, .string d, .string s, .int .i64 i1, .int .i64 i2, .int .i64 i3, .int .i64 i4, .int .i64 i5, .int .i64 i6] 52)
        have cn3 := blk_cells (bblk ha3 hn3)
        have cv3 := blk_cells (bblk ha3 hv3)
        have ck3 := blk_cells (bblk ha3 hk3)
        have cp3 := blk_cells hp3
        clear hpt
        go_wp2
        go_ret
        exact ⟨hR (-1) (by simp only [resB, hk, if_pos hdep, Bool.false_eq_true, if_false, if_true, Bool.and_true, Bool.true_and, Bool.and_false, Bool.false_and, Bool.not_true, Bool.not_false, beq_self_eq_true, reduceCtorEq]; try rfl), hb3a⟩
      have hnd : ¬ 200 < depth := hdep
      have hd1 : decide (depth > 200) = false := decide_eq_false hnd
      have HDp := Go.Lib.hid hnd
      clear hdep hnd
      cases inl
      · skip
        cases hrt : rightB n 76
        · have KR := KR
          go_enter Tryz.func57, Tryz.ntmps57
          go_wp2_with (first | (go_at_call 58; refine K58.mono ?_; rintro e w2 ⟨rfl, hw2⟩; have hb2 := hbt _ hb1 hw2; have hn2 := bblk hw2 hn; have hv2 := bblk hw2 hv1; have hk2 := at_new w2 (.cells #[.bool true, .int .i64 0, .func (.func 76) #[] #[]] 111) _ rfl; have hb2a := bal hb2 (.cells #[.bool true, .int .i64 0, .func (.func 76) #[] #[]] 111); have ha2 := bal (Below.refl w2.heap.size w2) (.cells #[.bool true, .int .i64 0, .func (.func 76) #[] #[]] 111); have hn2a := bblk ha2 hn2; have hv2a := bblk ha2 hv2; have cn2 := blk_cells hn2a; have cc2 := hca' _ hb2a))
          refine (K21 _ hb2a).mono ?_
          rintro e w3 ⟨k, sp, nm, aa, an, ac, d, s, i1, i2, i3, i4, i5, i6, er, rfl, hpt, hw3⟩
          have hb3 := hbt _ hb2a hw3
          have hn3 := bblk hw3 hn2a
          have hv3 := bblk hw3 hv2a
          have hk3 := bblk hw3 hk2
          have hp3 := at_new w3 (.cells #[.int .i64 k, .int .i64 sp, .string nm, .slice aa an ac, .string d, .string s, .int .i64 i1, .int .i64 i2, .int .i64 i3, .int .i64 i4, .int .i64 i5, .int .i64 i6] 52) _ rfl
          have ha3 := bal (Below.refl w3.heap.size w3) (.cells #[.int .i64 k, .int .i64 sp, .string nm, .slice aa an ac, .string d, .string s, .int .i64 i1, .int .i64 i2, .int .i64 i3, .int .i64 i4, .int .i64 i5, .int .i64 i6] 52)
          have hb3a := bal hb3 (.cells #[.int .i64 k, .int .i64 sp, .string nm, .slice aa an ac, .string d, .string s, .int .i64 i1, .int .i64 i2, .int .i64 i3, .int .i64 i4, .int .i64 i5, .int .i64 i6] 52)
          have cn3 := blk_cells (bblk ha3 hn3)
          have cv3 := blk_cells (bblk ha3 hv3)
          have ck3 := blk_cells (bblk ha3 hk3)
          have cp3 := blk_cells hp3
          clear hpt
          go_wp2_with (first | (go_at_call 76; refine (KR _ hb3a 76 (by decide)).mono ?_; rintro e w4 ⟨rfl, hw4⟩; have hb4 := hbt _ hb3a hw4; have cn4 := blk_cells (bblk hw4 (bblk ha3 hn3)); have ck4 := blk_cells (bblk hw4 (bblk ha3 hk3)); have cp4 := blk_cells (bblk hw4 hp3)))
          go_ret
          exact ⟨hR (-1) (by simp only [resB, hk, if_neg (show ¬ 200 < depth by have := HDp.out; omega), hrt, Bool.false_eq_true, if_false, if_true, Bool.and_true, Bool.true_and, Bool.and_false, Bool.false_and, Bool.not_true, Bool.not_false, beq_self_eq_true, reduceCtorEq]; try rfl), hbt _ hb3a hw4⟩
        · skip
          cases q7 : (n.fst != -1)
          · skip
            go_enter Tryz.func57, Tryz.ntmps57
            go_wp2_with (first | (go_at_call 58; refine K58.mono ?_; rintro e w2 ⟨rfl, hw2⟩; have hb2 := hbt _ hb1 hw2; have hn2 := bblk hw2 hn; have hv2 := bblk hw2 hv1; have hk2 := at_new w2 (.cells #[.bool true, .int .i64 0, .func (.func 76) #[] #[]] 111) _ rfl; have hb2a := bal hb2 (.cells #[.bool true, .int .i64 0, .func (.func 76) #[] #[]] 111); have ha2 := bal (Below.refl w2.heap.size w2) (.cells #[.bool true, .int .i64 0, .func (.func 76) #[] #[]] 111); have hn2a := bblk ha2 hn2; have hv2a := bblk ha2 hv2; have cn2 := blk_cells hn2a; have cc2 := hca' _ hb2a))
            refine (K21 _ hb2a).mono ?_
            rintro e w3 ⟨k, sp, nm, aa, an, ac, d, s, i1, i2, i3, i4, i5, i6, er, rfl, hpt, hw3⟩
            have hb3 := hbt _ hb2a hw3
            have hn3 := bblk hw3 hn2a
            have hv3 := bblk hw3 hv2a
            have hk3 := bblk hw3 hk2
            have hp3 := at_new w3 (.cells #[.int .i64 k, .int .i64 sp, .string nm, .slice aa an ac, .string d, .string s, .int .i64 i1, .int .i64 i2, .int .i64 i3, .int .i64 i4, .int .i64 i5, .int .i64 i6] 52) _ rfl
            have ha3 := bal (Below.refl w3.heap.size w3) (.cells #[.int .i64 k, .int .i64 sp, .string nm, .slice aa an ac, .string d, .string s, .int .i64 i1, .int .i64 i2, .int .i64 i3, .int .i64 i4, .int .i64 i5, .int .i64 i6] 52)
            have hb3a := bal hb3 (.cells #[.int .i64 k, .int .i64 sp, .string nm, .slice aa an ac, .string d, .string s, .int .i64 i1, .int .i64 i2, .int .i64 i3, .int .i64 i4, .int .i64 i5, .int .i64 i6] 52)
            have cn3 := blk_cells (bblk ha3 hn3)
            have cv3 := blk_cells (bblk ha3 hv3)
            have ck3 := blk_cells (bblk ha3 hk3)
            have cp3 := blk_cells hp3
            cases q5 : (er == 0)
            · rw [q5, Bool.false_and] at hpt
              have HPT := Go.Lib.hid hpt
              clear hpt
              go_wp2_with (first | (go_at_call 76; refine (KR _ hb3a 76 (by decide)).mono ?_; rintro e w4 ⟨rfl, hw4⟩; have hb4 := hbt _ hb3a hw4; have cn4 := blk_cells (bblk hw4 (bblk ha3 hn3)); have ck4 := blk_cells (bblk hw4 (bblk ha3 hk3)); have cp4 := blk_cells (bblk hw4 hp3)))
              go_ret
              exact ⟨hR 0 (by simp only [resB, hk, if_neg (show ¬ 200 < depth by have := HDp.out; omega), hrt, qk, ← HPT.out, q7, Bool.false_eq_true, if_false, if_true, Bool.and_true, Bool.true_and, Bool.and_false, Bool.false_and, Bool.not_true, Bool.not_false, beq_self_eq_true, reduceCtorEq]; try rfl), hbt _ hb3a hw4⟩
            · cases q6 : (k == 2)
              · rw [q5, q6, Bool.and_false] at hpt
                have HPT := Go.Lib.hid hpt
                clear hpt
                go_wp2_with (first | (go_at_call 76; refine (KR _ hb3a 76 (by decide)).mono ?_; rintro e w4 ⟨rfl, hw4⟩; have hb4 := hbt _ hb3a hw4; have cn4 := blk_cells (bblk hw4 (bblk ha3 hn3)); have ck4 := blk_cells (bblk hw4 (bblk ha3 hk3)); have cp4 := blk_cells (bblk hw4 hp3)))
                go_ret
                exact ⟨hR 0 (by simp only [resB, hk, if_neg (show ¬ 200 < depth by have := HDp.out; omega), hrt, qk, ← HPT.out, q7, Bool.false_eq_true, if_false, if_true, Bool.and_true, Bool.true_and, Bool.and_false, Bool.false_and, Bool.not_true, Bool.not_false, beq_self_eq_true, reduceCtorEq]; try rfl), hbt _ hb3a hw4⟩
              · rw [q5, q6, Bool.and_true] at hpt
                have HPT := Go.Lib.hid hpt
                clear hpt
                go_wp2_with (first | (go_at_call 76; refine (KR _ hb3a 76 (by decide)).mono ?_; rintro e w4 ⟨rfl, hw4⟩; have hb4 := hbt _ hb3a hw4; have cn4 := blk_cells (bblk hw4 (bblk ha3 hn3)); have ck4 := blk_cells (bblk hw4 (bblk ha3 hk3)); have cp4 := blk_cells (bblk hw4 hp3)))
                go_ret
                exact ⟨hR (-1) (by simp only [resB, hk, if_neg (show ¬ 200 < depth by have := HDp.out; omega), hrt, qk, ← HPT.out, q7, Bool.false_eq_true, if_false, if_true, Bool.and_true, Bool.true_and, Bool.and_false, Bool.false_and, Bool.not_true, Bool.not_false, beq_self_eq_true, reduceCtorEq]; try rfl), hbt _ hb3a hw4⟩
          · skip
            go_enter Tryz.func57, Tryz.ntmps57
            go_wp2_with (first | (go_at_call 58; refine K58.mono ?_; rintro e w2 ⟨rfl, hw2⟩; have hb2 := hbt _ hb1 hw2; have hn2 := bblk hw2 hn; have hv2 := bblk hw2 hv1; have hk2 := at_new w2 (.cells #[.bool true, .int .i64 0, .func (.func 76) #[] #[]] 111) _ rfl; have hb2a := bal hb2 (.cells #[.bool true, .int .i64 0, .func (.func 76) #[] #[]] 111); have ha2 := bal (Below.refl w2.heap.size w2) (.cells #[.bool true, .int .i64 0, .func (.func 76) #[] #[]] 111); have hn2a := bblk ha2 hn2; have hv2a := bblk ha2 hv2; have cn2 := blk_cells hn2a; have cc2 := hca' _ hb2a))
            refine (K21 _ hb2a).mono ?_
            rintro e w3 ⟨k, sp, nm, aa, an, ac, d, s, i1, i2, i3, i4, i5, i6, er, rfl, hpt, hw3⟩
            have hb3 := hbt _ hb2a hw3
            have hn3 := bblk hw3 hn2a
            have hv3 := bblk hw3 hv2a
            have hk3 := bblk hw3 hk2
            have hp3 := at_new w3 (.cells #[.int .i64 k, .int .i64 sp, .string nm, .slice aa an ac, .string d, .string s, .int .i64 i1, .int .i64 i2, .int .i64 i3, .int .i64 i4, .int .i64 i5, .int .i64 i6] 52) _ rfl
            have ha3 := bal (Below.refl w3.heap.size w3) (.cells #[.int .i64 k, .int .i64 sp, .string nm, .slice aa an ac, .string d, .string s, .int .i64 i1, .int .i64 i2, .int .i64 i3, .int .i64 i4, .int .i64 i5, .int .i64 i6] 52)
            have hb3a := bal hb3 (.cells #[.int .i64 k, .int .i64 sp, .string nm, .slice aa an ac, .string d, .string s, .int .i64 i1, .int .i64 i2, .int .i64 i3, .int .i64 i4, .int .i64 i5, .int .i64 i6] 52)
            have cn3 := blk_cells (bblk ha3 hn3)
            have cv3 := blk_cells (bblk ha3 hv3)
            have ck3 := blk_cells (bblk ha3 hk3)
            have cp3 := blk_cells hp3
            cases q5 : (er == 0)
            · rw [q5, Bool.false_and] at hpt
              have HPT := Go.Lib.hid hpt
              clear hpt
              go_wp2_with (first | (go_at_call 76; refine (KR _ hb3a 76 (by decide)).mono ?_; rintro e w4 ⟨rfl, hw4⟩; have hb4 := hbt _ hb3a hw4; have cn4 := blk_cells (bblk hw4 (bblk ha3 hn3)); have ck4 := blk_cells (bblk hw4 (bblk ha3 hk3)); have cp4 := blk_cells (bblk hw4 hp3)))
              go_ret
              exact ⟨hR (-1) (by simp only [resB, hk, if_neg (show ¬ 200 < depth by have := HDp.out; omega), hrt, qk, ← HPT.out, q7, Bool.false_eq_true, if_false, if_true, Bool.and_true, Bool.true_and, Bool.and_false, Bool.false_and, Bool.not_true, Bool.not_false, beq_self_eq_true, reduceCtorEq]; try rfl), hbt _ hb3a hw4⟩
            · cases q6 : (k == 2)
              · rw [q5, q6, Bool.and_false] at hpt
                have HPT := Go.Lib.hid hpt
                clear hpt
                go_wp2_with (first | (go_at_call 76; refine (KR _ hb3a 76 (by decide)).mono ?_; rintro e w4 ⟨rfl, hw4⟩; have hb4 := hbt _ hb3a hw4; have cn4 := blk_cells (bblk hw4 (bblk ha3 hn3)); have ck4 := blk_cells (bblk hw4 (bblk ha3 hk3)); have cp4 := blk_cells (bblk hw4 hp3)))
                go_ret
                exact ⟨hR (-1) (by simp only [resB, hk, if_neg (show ¬ 200 < depth by have := HDp.out; omega), hrt, qk, ← HPT.out, q7, Bool.false_eq_true, if_false, if_true, Bool.and_true, Bool.true_and, Bool.and_false, Bool.false_and, Bool.not_true, Bool.not_false, beq_self_eq_true, reduceCtorEq]; try rfl), hbt _ hb3a hw4⟩
              · rw [q5, q6, Bool.and_true] at hpt
                have HPT := Go.Lib.hid hpt
                clear hpt
                go_wp2_with (first | (go_at_call 76; refine (KR _ hb3a 76 (by decide)).mono ?_; rintro e w4 ⟨rfl, hw4⟩; have hb4 := hbt _ hb3a hw4; have cn4 := blk_cells (bblk hw4 (bblk ha3 hn3)); have ck4 := blk_cells (bblk hw4 (bblk ha3 hk3)); have cp4 := blk_cells (bblk hw4 hp3)))
                go_ret
                exact ⟨hR (-1) (by simp only [resB, hk, if_neg (show ¬ 200 < depth by have := HDp.out; omega), hrt, qk, ← HPT.out, q7, Bool.false_eq_true, if_false, if_true, Bool.and_true, Bool.true_and, Bool.and_false, Bool.false_and, Bool.not_true, Bool.not_false, beq_self_eq_true, reduceCtorEq]; try rfl), hbt _ hb3a hw4⟩
      · skip
        cases hrt : rightB n 76
        · have KR := KR
          go_enter Tryz.func57, Tryz.ntmps57
          go_wp2_with (first | (go_at_call 58; refine K58.mono ?_; rintro e w2 ⟨rfl, hw2⟩; have hb2 := hbt _ hb1 hw2; have hn2 := bblk hw2 hn; have hv2 := bblk hw2 hv1; have hk2 := at_new w2 (.cells #[.bool true, .int .i64 0, .func (.func 76) #[] #[]] 111) _ rfl; have hb2a := bal hb2 (.cells #[.bool true, .int .i64 0, .func (.func 76) #[] #[]] 111); have ha2 := bal (Below.refl w2.heap.size w2) (.cells #[.bool true, .int .i64 0, .func (.func 76) #[] #[]] 111); have hn2a := bblk ha2 hn2; have hv2a := bblk ha2 hv2; have cn2 := blk_cells hn2a; have cc2 := hca' _ hb2a))
          refine (K21 _ hb2a).mono ?_
          rintro e w3 ⟨k, sp, nm, aa, an, ac, d, s, i1, i2, i3, i4, i5, i6, er, rfl, hpt, hw3⟩
          have hb3 := hbt _ hb2a hw3
          have hn3 := bblk hw3 hn2a
          have hv3 := bblk hw3 hv2a
          have hk3 := bblk hw3 hk2
          have hp3 := at_new w3 (.cells #[.int .i64 k, .int .i64 sp, .string nm, .slice aa an ac, .string d, .string s, .int .i64 i1, .int .i64 i2, .int .i64 i3, .int .i64 i4, .int .i64 i5, .int .i64 i6] 52) _ rfl
          have ha3 := bal (Below.refl w3.heap.size w3) (.cells #[.int .i64 k, .int .i64 sp, .string nm, .slice aa an ac, .string d, .string s, .int .i64 i1, .int .i64 i2, .int .i64 i3, .int .i64 i4, .int .i64 i5, .int .i64 i6] 52)
          have hb3a := bal hb3 (.cells #[.int .i64 k, .int .i64 sp, .string nm, .slice aa an ac, .string d, .string s, .int .i64 i1, .int .i64 i2, .int .i64 i3, .int .i64 i4, .int .i64 i5, .int .i64 i6] 52)
          have cn3 := blk_cells (bblk ha3 hn3)
          have cv3 := blk_cells (bblk ha3 hv3)
          have ck3 := blk_cells (bblk ha3 hk3)
          have cp3 := blk_cells hp3
          clear hpt
          go_wp2_with (first | (go_at_call 76; refine (KR _ hb3a 76 (by decide)).mono ?_; rintro e w4 ⟨rfl, hw4⟩; have hb4 := hbt _ hb3a hw4; have cn4 := blk_cells (bblk hw4 (bblk ha3 hn3)); have ck4 := blk_cells (bblk hw4 (bblk ha3 hk3)); have cp4 := blk_cells (bblk hw4 hp3)))
          go_ret
          exact ⟨hR (-1) (by simp only [resB, hk, if_neg (show ¬ 200 < depth by have := HDp.out; omega), hrt, Bool.false_eq_true, if_false, if_true, Bool.and_true, Bool.true_and, Bool.and_false, Bool.false_and, Bool.not_true, Bool.not_false, beq_self_eq_true, reduceCtorEq]; try rfl), hbt _ hb3a hw4⟩
        · skip
          cases q7 : (n.fst != -1)
          · skip
            go_enter Tryz.func57, Tryz.ntmps57
            go_wp2_with (first | (go_at_call 58; refine K58.mono ?_; rintro e w2 ⟨rfl, hw2⟩; have hb2 := hbt _ hb1 hw2; have hn2 := bblk hw2 hn; have hv2 := bblk hw2 hv1; have hk2 := at_new w2 (.cells #[.bool true, .int .i64 0, .func (.func 76) #[] #[]] 111) _ rfl; have hb2a := bal hb2 (.cells #[.bool true, .int .i64 0, .func (.func 76) #[] #[]] 111); have ha2 := bal (Below.refl w2.heap.size w2) (.cells #[.bool true, .int .i64 0, .func (.func 76) #[] #[]] 111); have hn2a := bblk ha2 hn2; have hv2a := bblk ha2 hv2; have cn2 := blk_cells hn2a; have cc2 := hca' _ hb2a))
            refine (K21 _ hb2a).mono ?_
            rintro e w3 ⟨k, sp, nm, aa, an, ac, d, s, i1, i2, i3, i4, i5, i6, er, rfl, hpt, hw3⟩
            have hb3 := hbt _ hb2a hw3
            have hn3 := bblk hw3 hn2a
            have hv3 := bblk hw3 hv2a
            have hk3 := bblk hw3 hk2
            have hp3 := at_new w3 (.cells #[.int .i64 k, .int .i64 sp, .string nm, .slice aa an ac, .string d, .string s, .int .i64 i1, .int .i64 i2, .int .i64 i3, .int .i64 i4, .int .i64 i5, .int .i64 i6] 52) _ rfl
            have ha3 := bal (Below.refl w3.heap.size w3) (.cells #[.int .i64 k, .int .i64 sp, .string nm, .slice aa an ac, .string d, .string s, .int .i64 i1, .int .i64 i2, .int .i64 i3, .int .i64 i4, .int .i64 i5, .int .i64 i6] 52)
            have hb3a := bal hb3 (.cells #[.int .i64 k, .int .i64 sp, .string nm, .slice aa an ac, .string d, .string s, .int .i64 i1, .int .i64 i2, .int .i64 i3, .int .i64 i4, .int .i64 i5, .int .i64 i6] 52)
            have cn3 := blk_cells (bblk ha3 hn3)
            have cv3 := blk_cells (bblk ha3 hv3)
            have ck3 := blk_cells (bblk ha3 hk3)
            have cp3 := blk_cells hp3
            cases q5 : (er == 0)
            · rw [q5, Bool.false_and] at hpt
              have HPT := Go.Lib.hid hpt
              clear hpt
              go_wp2_with (first | (go_at_call 76; refine (KR _ hb3a 76 (by decide)).mono ?_; rintro e w4 ⟨rfl, hw4⟩; have hb4 := hbt _ hb3a hw4; have cn4 := blk_cells (bblk hw4 (bblk ha3 hn3)); have ck4 := blk_cells (bblk hw4 (bblk ha3 hk3)); have cp4 := blk_cells (bblk hw4 hp3)))
              go_ret
              exact ⟨hR 0 (by simp only [resB, hk, if_neg (show ¬ 200 < depth by have := HDp.out; omega), hrt, qk, ← HPT.out, q7, Bool.false_eq_true, if_false, if_true, Bool.and_true, Bool.true_and, Bool.and_false, Bool.false_and, Bool.not_true, Bool.not_false, beq_self_eq_true, reduceCtorEq]; try rfl), hbt _ hb3a hw4⟩
            · cases q6 : (k == 2)
              · rw [q5, q6, Bool.and_false] at hpt
                have HPT := Go.Lib.hid hpt
                clear hpt
                go_wp2_with (first | (go_at_call 76; refine (KR _ hb3a 76 (by decide)).mono ?_; rintro e w4 ⟨rfl, hw4⟩; have hb4 := hbt _ hb3a hw4; have cn4 := blk_cells (bblk hw4 (bblk ha3 hn3)); have ck4 := blk_cells (bblk hw4 (bblk ha3 hk3)); have cp4 := blk_cells (bblk hw4 hp3)))
                go_ret
                exact ⟨hR 0 (by simp only [resB, hk, if_neg (show ¬ 200 < depth by have := HDp.out; omega), hrt, qk, ← HPT.out, q7, Bool.false_eq_true, if_false, if_true, Bool.and_true, Bool.true_and, Bool.and_false, Bool.false_and, Bool.not_true, Bool.not_false, beq_self_eq_true, reduceCtorEq]; try rfl), hbt _ hb3a hw4⟩
              · rw [q5, q6, Bool.and_true] at hpt
                have HPT := Go.Lib.hid hpt
                clear hpt
                go_wp2_with (first | (go_at_call 76; refine (KR _ hb3a 76 (by decide)).mono ?_; rintro e w4 ⟨rfl, hw4⟩; have hb4 := hbt _ hb3a hw4; have cn4 := blk_cells (bblk hw4 (bblk ha3 hn3)); have ck4 := blk_cells (bblk hw4 (bblk ha3 hk3)); have cp4 := blk_cells (bblk hw4 hp3)))
                go_ret
                exact ⟨hR (-1) (by simp only [resB, hk, if_neg (show ¬ 200 < depth by have := HDp.out; omega), hrt, qk, ← HPT.out, q7, Bool.false_eq_true, if_false, if_true, Bool.and_true, Bool.true_and, Bool.and_false, Bool.false_and, Bool.not_true, Bool.not_false, beq_self_eq_true, reduceCtorEq]; try rfl), hbt _ hb3a hw4⟩
          · skip
            go_enter Tryz.func57, Tryz.ntmps57
            go_wp2_with (first | (go_at_call 58; refine K58.mono ?_; rintro e w2 ⟨rfl, hw2⟩; have hb2 := hbt _ hb1 hw2; have hn2 := bblk hw2 hn; have hv2 := bblk hw2 hv1; have hk2 := at_new w2 (.cells #[.bool true, .int .i64 0, .func (.func 76) #[] #[]] 111) _ rfl; have hb2a := bal hb2 (.cells #[.bool true, .int .i64 0, .func (.func 76) #[] #[]] 111); have ha2 := bal (Below.refl w2.heap.size w2) (.cells #[.bool true, .int .i64 0, .func (.func 76) #[] #[]] 111); have hn2a := bblk ha2 hn2; have hv2a := bblk ha2 hv2; have cn2 := blk_cells hn2a; have cc2 := hca' _ hb2a))
            refine (K21 _ hb2a).mono ?_
            rintro e w3 ⟨k, sp, nm, aa, an, ac, d, s, i1, i2, i3, i4, i5, i6, er, rfl, hpt, hw3⟩
            have hb3 := hbt _ hb2a hw3
            have hn3 := bblk hw3 hn2a
            have hv3 := bblk hw3 hv2a
            have hk3 := bblk hw3 hk2
            have hp3 := at_new w3 (.cells #[.int .i64 k, .int .i64 sp, .string nm, .slice aa an ac, .string d, .string s, .int .i64 i1, .int .i64 i2, .int .i64 i3, .int .i64 i4, .int .i64 i5, .int .i64 i6] 52) _ rfl
            have ha3 := bal (Below.refl w3.heap.size w3) (.cells #[.int .i64 k, .int .i64 sp, .string nm, .slice aa an ac, .string d, .string s, .int .i64 i1, .int .i64 i2, .int .i64 i3, .int .i64 i4, .int .i64 i5, .int .i64 i6] 52)
            have hb3a := bal hb3 (.cells #[.int .i64 k, .int .i64 sp, .string nm, .slice aa an ac, .string d, .string s, .int .i64 i1, .int .i64 i2, .int .i64 i3, .int .i64 i4, .int .i64 i5, .int .i64 i6] 52)
            have cn3 := blk_cells (bblk ha3 hn3)
            have cv3 := blk_cells (bblk ha3 hv3)
            have ck3 := blk_cells (bblk ha3 hk3)
            have cp3 := blk_cells hp3
            cases q5 : (er == 0)
            · rw [q5, Bool.false_and] at hpt
              have HPT := Go.Lib.hid hpt
              clear hpt
              go_wp2_with (first | (go_at_call 76; refine (KR _ hb3a 76 (by decide)).mono ?_; rintro e w4 ⟨rfl, hw4⟩; have hb4 := hbt _ hb3a hw4; have cn4 := blk_cells (bblk hw4 (bblk ha3 hn3)); have ck4 := blk_cells (bblk hw4 (bblk ha3 hk3)); have cp4 := blk_cells (bblk hw4 hp3)))
              go_ret
              exact ⟨hR (-1) (by simp only [resB, hk, if_neg (show ¬ 200 < depth by have := HDp.out; omega), hrt, qk, ← HPT.out, q7, Bool.false_eq_true, if_false, if_true, Bool.and_true, Bool.true_and, Bool.and_false, Bool.false_and, Bool.not_true, Bool.not_false, beq_self_eq_true, reduceCtorEq]; try rfl), hbt _ hb3a hw4⟩
            · cases q6 : (k == 2)
              · rw [q5, q6, Bool.and_false] at hpt
                have HPT := Go.Lib.hid hpt
                clear hpt
                go_wp2_with (first | (go_at_call 76; refine (KR _ hb3a 76 (by decide)).mono ?_; rintro e w4 ⟨rfl, hw4⟩; have hb4 := hbt _ hb3a hw4; have cn4 := blk_cells (bblk hw4 (bblk ha3 hn3)); have ck4 := blk_cells (bblk hw4 (bblk ha3 hk3)); have cp4 := blk_cells (bblk hw4 hp3)))
                go_ret
                exact ⟨hR (-1) (by simp only [resB, hk, if_neg (show ¬ 200 < depth by have := HDp.out; omega), hrt, qk, ← HPT.out, q7, Bool.false_eq_true, if_false, if_true, Bool.and_true, Bool.true_and, Bool.and_false, Bool.false_and, Bool.not_true, Bool.not_false, beq_self_eq_true, reduceCtorEq]; try rfl), hbt _ hb3a hw4⟩
              · rw [q5, q6, Bool.and_true] at hpt
                have HPT := Go.Lib.hid hpt
                clear hpt
                go_wp2_with (first | (go_at_call 76; refine (KR _ hb3a 76 (by decide)).mono ?_; rintro e w4 ⟨rfl, hw4⟩; have hb4 := hbt _ hb3a hw4; have cn4 := blk_cells (bblk hw4 (bblk ha3 hn3)); have ck4 := blk_cells (bblk hw4 (bblk ha3 hk3)); have cp4 := blk_cells (bblk hw4 hp3)))
                go_ret
                exact ⟨hR (-1) (by simp only [resB, hk, if_neg (show ¬ 200 < depth by have := HDp.out; omega), hrt, qk, ← HPT.out, q7, Bool.false_eq_true, if_false, if_true, Bool.and_true, Bool.true_and, Bool.and_false, Bool.false_and, Bool.not_true, Bool.not_false, beq_self_eq_true, reduceCtorEq]; try rfl), hbt _ hb3a hw4⟩
    · rcases hcs with ⟨rfl, rfl, rfl⟩ | ⟨rfl, rfl, rfl⟩ | ⟨rfl, rfl, rfl⟩ | ⟨rfl, rfl, rfl⟩
      · rw [hk] at K58
        dsimp only [kindR] at K58
        by_cases hdep : 200 < depth
        · have hd1 : decide (depth > 200) = true := decide_eq_true hdep
          clear KR
          go_enter Tryz.func57, Tryz.ntmps57
          go_wp2_with (first | (go_at_call 58; refine K58.mono ?_; rintro e w2 ⟨rfl, hw2⟩; have hb2 := hbt _ hb1 hw2; have hn2 := bblk hw2 hn; have hv2 := bblk hw2 hv1; have hk2 := at_new w2 (.cells #[.bool true, .int .i64 0, .func (.func 77) #[] #[]] 111) _ rfl; have hb2a := bal hb2 (.cells #[.bool true, .int .i64 0, .func (.func 77) #[] #[]] 111); have ha2 := bal (Below.refl w2.heap.size w2) (.cells #[.bool true, .int .i64 0, .func (.func 77) #[] #[]] 111); have hn2a := bblk ha2 hn2; have hv2a := bblk ha2 hv2; have cn2 := blk_cells hn2a; have cc2 := hca' _ hb2a))
          refine (K21 _ hb2a).mono ?_
          rintro e w3 ⟨k, sp, nm, aa, an, ac, d, s, i1, i2, i3, i4, i5, i6, er, rfl, hpt, hw3⟩
          have hb3 := hbt _ hb2a hw3
          have hn3 := bblk hw3 hn2a
          have hv3 := bblk hw3 hv2a
          have hk3 := bblk hw3 hk2
          have hp3 := at_new w3 (.cells #[.int .i64 k, .int .i64 sp, .string nm, .slice aa an ac, .string d, .string s, .int .i64 i1, .int .i64 i2, .int .i64 i3, .int .i64 i4, .int .i64 i5, .int .i64 i6] 52) _ rfl
          have ha3 := bal (Below.refl w3.heap.size w3) (.cells #[.int .i64 k, .int .i64 sp, .string nm, .slice aa an ac, .string d, .string s, .int .i64 i1, .int .i64 i2, .int .i64 i3, .int .i64 i4, .int .i64 i5, .int .i64 i6] 52)
          have hb3a := bal hb3 (.cells #[.int .i64 k, .int .i64 sp, .string nm, .slice aa an ac, .string d, .string s, .int .i64 i1, .int .i64 i2, .int .i64 i3, .int .i64 i4, .int .i64 i5, .int .i64 i6] 52)
          have cn3 := blk_cells (bblk ha3 hn3)
          have cv3 := blk_cells (bblk ha3 hv3)
          have ck3 := blk_cells (bblk ha3 hk3)
          have cp3 := blk_cells hp3
          clear hpt
          go_wp2
          go_ret
          exact ⟨hR (-1) (by simp only [resB, hk, if_pos hdep, Bool.false_eq_true, if_false, if_true, Bool.and_true, Bool.true_and, Bool.and_false, Bool.false_and, Bool.not_true, Bool.not_false, beq_self_eq_true, reduceCtorEq]; try rfl), hb3a⟩
        have hnd : ¬ 200 < depth := hdep
        have hd1 : decide (depth > 200) = false := decide_eq_false hnd
        have HDp := Go.Lib.hid hnd
        clear hdep hnd
        cases inl
        · skip
          cases hrt : rightB n 77
          · have KR := KR
            go_enter Tryz.func57, Tryz.ntmps57
            go_wp2_with (first | (go_at_call 58; refine K58.mono ?_; rintro e w2 ⟨rfl, hw2⟩; have hb2 := hbt _ hb1 hw2; have hn2 := bblk hw2 hn; have hv2 := bblk hw2 hv1; have hk2 := at_new w2 (.cells #[.bool true, .int .i64 0, .func (.func 77) #[] #[]] 111) _ rfl; have hb2a := bal hb2 (.cells #[.bool true, .int .i64 0, .func (.func 77) #[] #[]] 111); have ha2 := bal (Below.refl w2.heap.size w2) (.cells #[.bool true, .int .i64 0, .func (.func 77) #[] #[]] 111); have hn2a := bblk ha2 hn2; have hv2a := bblk ha2 hv2; have cn2 := blk_cells hn2a; have cc2 := hca' _ hb2a))
            refine (K21 _ hb2a).mono ?_
            rintro e w3 ⟨k, sp, nm, aa, an, ac, d, s, i1, i2, i3, i4, i5, i6, er, rfl, hpt, hw3⟩
            have hb3 := hbt _ hb2a hw3
            have hn3 := bblk hw3 hn2a
            have hv3 := bblk hw3 hv2a
            have hk3 := bblk hw3 hk2
            have hp3 := at_new w3 (.cells #[.int .i64 k, .int .i64 sp, .string nm, .slice aa an ac, .string d, .string s, .int .i64 i1, .int .i64 i2, .int .i64 i3, .int .i64 i4, .int .i64 i5, .int .i64 i6] 52) _ rfl
            have ha3 := bal (Below.refl w3.heap.size w3) (.cells #[.int .i64 k, .int .i64 sp, .string nm, .slice aa an ac, .string d, .string s, .int .i64 i1, .int .i64 i2, .int .i64 i3, .int .i64 i4, .int .i64 i5, .int .i64 i6] 52)
            have hb3a := bal hb3 (.cells #[.int .i64 k, .int .i64 sp, .string nm, .slice aa an ac, .string d, .string s, .int .i64 i1, .int .i64 i2, .int .i64 i3, .int .i64 i4, .int .i64 i5, .int .i64 i6] 52)
            have cn3 := blk_cells (bblk ha3 hn3)
            have cv3 := blk_cells (bblk ha3 hv3)
            have ck3 := blk_cells (bblk ha3 hk3)
            have cp3 := blk_cells hp3
            clear hpt
            go_wp2_with (first | (go_at_call 77; refine (KR _ hb3a 77 (by decide)).mono ?_; rintro e w4 ⟨rfl, hw4⟩; have hb4 := hbt _ hb3a hw4; have cn4 := blk_cells (bblk hw4 (bblk ha3 hn3)); have ck4 := blk_cells (bblk hw4 (bblk ha3 hk3)); have cp4 := blk_cells (bblk hw4 hp3)))
            go_ret
            exact ⟨hR (-1) (by simp only [resB, hk, if_neg (show ¬ 200 < depth by have := HDp.out; omega), hrt, Bool.false_eq_true, if_false, if_true, Bool.and_true, Bool.true_and, Bool.and_false, Bool.false_and, Bool.not_true, Bool.not_false, beq_self_eq_true, reduceCtorEq]; try rfl), hbt _ hb3a hw4⟩
          · skip
            cases q7 : (n.fst != -1)
            · skip
              go_enter Tryz.func57, Tryz.ntmps57
              go_wp2_with (first | (go_at_call 58; refine K58.mono ?_; rintro e w2 ⟨rfl, hw2⟩; have hb2 := hbt _ hb1 hw2; have hn2 := bblk hw2 hn; have hv2 := bblk hw2 hv1; have hk2 := at_new w2 (.cells #[.bool true, .int .i64 0, .func (.func 77) #[] #[]] 111) _ rfl; have hb2a := bal hb2 (.cells #[.bool true, .int .i64 0, .func (.func 77) #[] #[]] 111); have ha2 := bal (Below.refl w2.heap.size w2) (.cells #[.bool true, .int .i64 0, .func (.func 77) #[] #[]] 111); have hn2a := bblk ha2 hn2; have hv2a := bblk ha2 hv2; have cn2 := blk_cells hn2a; have cc2 := hca' _ hb2a))
              refine (K21 _ hb2a).mono ?_
              rintro e w3 ⟨k, sp, nm, aa, an, ac, d, s, i1, i2, i3, i4, i5, i6, er, rfl, hpt, hw3⟩
              have hb3 := hbt _ hb2a hw3
              have hn3 := bblk hw3 hn2a
              have hv3 := bblk hw3 hv2a
              have hk3 := bblk hw3 hk2
              have hp3 := at_new w3 (.cells #[.int .i64 k, .int .i64 sp, .string nm, .slice aa an ac, .string d, .string s, .int .i64 i1, .int .i64 i2, .int .i64 i3, .int .i64 i4, .int .i64 i5, .int .i64 i6] 52) _ rfl
              have ha3 := bal (Below.refl w3.heap.size w3) (.cells #[.int .i64 k, .int .i64 sp, .string nm, .slice aa an ac, .string d, .string s, .int .i64 i1, .int .i64 i2, .int .i64 i3, .int .i64 i4, .int .i64 i5, .int .i64 i6] 52)
              have hb3a := bal hb3 (.cells #[.int .i64 k, .int .i64 sp, .string nm, .slice aa an ac, .string d, .string s, .int .i64 i1, .int .i64 i2, .int .i64 i3, .int .i64 i4, .int .i64 i5, .int .i64 i6] 52)
              have cn3 := blk_cells (bblk ha3 hn3)
              have cv3 := blk_cells (bblk ha3 hv3)
              have ck3 := blk_cells (bblk ha3 hk3)
              have cp3 := blk_cells hp3
              clear hpt
              go_wp2_with (first | (go_at_call 77; refine (KR _ hb3a 77 (by decide)).mono ?_; rintro e w4 ⟨rfl, hw4⟩; have hb4 := hbt _ hb3a hw4; have cn4 := blk_cells (bblk hw4 (bblk ha3 hn3)); have ck4 := blk_cells (bblk hw4 (bblk ha3 hk3)); have cp4 := blk_cells (bblk hw4 hp3)))
              go_ret
              exact ⟨hR 0 (by simp only [resB, hk, if_neg (show ¬ 200 < depth by have := HDp.out; omega), hrt, qk, q7, Bool.false_eq_true, if_false, if_true, Bool.and_true, Bool.true_and, Bool.and_false, Bool.false_and, Bool.not_true, Bool.not_false, beq_self_eq_true, reduceCtorEq]; try rfl), hbt _ hb3a hw4⟩
            · skip
              go_enter Tryz.func57, Tryz.ntmps57
              go_wp2_with (first | (go_at_call 58; refine K58.mono ?_; rintro e w2 ⟨rfl, hw2⟩; have hb2 := hbt _ hb1 hw2; have hn2 := bblk hw2 hn; have hv2 := bblk hw2 hv1; have hk2 := at_new w2 (.cells #[.bool true, .int .i64 0, .func (.func 77) #[] #[]] 111) _ rfl; have hb2a := bal hb2 (.cells #[.bool true, .int .i64 0, .func (.func 77) #[] #[]] 111); have ha2 := bal (Below.refl w2.heap.size w2) (.cells #[.bool true, .int .i64 0, .func (.func 77) #[] #[]] 111); have hn2a := bblk ha2 hn2; have hv2a := bblk ha2 hv2; have cn2 := blk_cells hn2a; have cc2 := hca' _ hb2a))
              refine (K21 _ hb2a).mono ?_
              rintro e w3 ⟨k, sp, nm, aa, an, ac, d, s, i1, i2, i3, i4, i5, i6, er, rfl, hpt, hw3⟩
              have hb3 := hbt _ hb2a hw3
              have hn3 := bblk hw3 hn2a
              have hv3 := bblk hw3 hv2a
              have hk3 := bblk hw3 hk2
              have hp3 := at_new w3 (.cells #[.int .i64 k, .int .i64 sp, .string nm, .slice aa an ac, .string d, .string s, .int .i64 i1, .int .i64 i2, .int .i64 i3, .int .i64 i4, .int .i64 i5, .int .i64 i6] 52) _ rfl
              have ha3 := bal (Below.refl w3.heap.size w3) (.cells #[.int .i64 k, .int .i64 sp, .string nm, .slice aa an ac, .string d, .string s, .int .i64 i1, .int .i64 i2, .int .i64 i3, .int .i64 i4, .int .i64 i5, .int .i64 i6] 52)
              have hb3a := bal hb3 (.cells #[.int .i64 k, .int .i64 sp, .string nm, .slice aa an ac, .string d, .string s, .int .i64 i1, .int .i64 i2, .int .i64 i3, .int .i64 i4, .int .i64 i5, .int .i64 i6] 52)
              have cn3 := blk_cells (bblk ha3 hn3)
              have cv3 := blk_cells (bblk ha3 hv3)
              have ck3 := blk_cells (bblk ha3 hk3)
              have cp3 := blk_cells hp3
              clear hpt
              go_wp2_with (first | (go_at_call 77; refine (KR _ hb3a 77 (by decide)).mono ?_; rintro e w4 ⟨rfl, hw4⟩; have hb4 := hbt _ hb3a hw4; have cn4 := blk_cells (bblk hw4 (bblk ha3 hn3)); have ck4 := blk_cells (bblk hw4 (bblk ha3 hk3)); have cp4 := blk_cells (bblk hw4 hp3)))
              go_ret
              exact ⟨hR (-1) (by simp only [resB, hk, if_neg (show ¬ 200 < depth by have := HDp.out; omega), hrt, qk, q7, Bool.false_eq_true, if_false, if_true, Bool.and_true, Bool.true_and, Bool.and_false, Bool.false_and, Bool.not_true, Bool.not_false, beq_self_eq_true, reduceCtorEq]; try rfl), hbt _ hb3a hw4⟩
        · skip
          cases hrt : rightB n 77
          · have KR := KR
            go_enter Tryz.func57, Tryz.ntmps57
            go_wp2_with (first | (go_at_call 58; refine K58.mono ?_; rintro e w2 ⟨rfl, hw2⟩; have hb2 := hbt _ hb1 hw2; have hn2 := bblk hw2 hn; have hv2 := bblk hw2 hv1; have hk2 := at_new w2 (.cells #[.bool true, .int .i64 0, .func (.func 77) #[] #[]] 111) _ rfl; have hb2a := bal hb2 (.cells #[.bool true, .int .i64 0, .func (.func 77) #[] #[]] 111); have ha2 := bal (Below.refl w2.heap.size w2) (.cells #[.bool true, .int .i64 0, .func (.func 77) #[] #[]] 111); have hn2a := bblk ha2 hn2; have hv2a := bblk ha2 hv2; have cn2 := blk_cells hn2a; have cc2 := hca' _ hb2a))
            refine (K21 _ hb2a).mono ?_
            rintro e w3 ⟨k, sp, nm, aa, an, ac, d, s, i1, i2, i3, i4, i5, i6, er, rfl, hpt, hw3⟩
            have hb3 := hbt _ hb2a hw3
            have hn3 := bblk hw3 hn2a
            have hv3 := bblk hw3 hv2a
            have hk3 := bblk hw3 hk2
            have hp3 := at_new w3 (.cells #[.int .i64 k, .int .i64 sp, .string nm, .slice aa an ac, .string d, .string s, .int .i64 i1, .int .i64 i2, .int .i64 i3, .int .i64 i4, .int .i64 i5, .int .i64 i6] 52) _ rfl
            have ha3 := bal (Below.refl w3.heap.size w3) (.cells #[.int .i64 k, .int .i64 sp, .string nm, .slice aa an ac, .string d, .string s, .int .i64 i1, .int .i64 i2, .int .i64 i3, .int .i64 i4, .int .i64 i5, .int .i64 i6] 52)
            have hb3a := bal hb3 (.cells #[.int .i64 k, .int .i64 sp, .string nm, .slice aa an ac, .string d, .string s, .int .i64 i1, .int .i64 i2, .int .i64 i3, .int .i64 i4, .int .i64 i5, .int .i64 i6] 52)
            have cn3 := blk_cells (bblk ha3 hn3)
            have cv3 := blk_cells (bblk ha3 hv3)
            have ck3 := blk_cells (bblk ha3 hk3)
            have cp3 := blk_cells hp3
            clear hpt
            go_wp2_with (first | (go_at_call 77; refine (KR _ hb3a 77 (by decide)).mono ?_; rintro e w4 ⟨rfl, hw4⟩; have hb4 := hbt _ hb3a hw4; have cn4 := blk_cells (bblk hw4 (bblk ha3 hn3)); have ck4 := blk_cells (bblk hw4 (bblk ha3 hk3)); have cp4 := blk_cells (bblk hw4 hp3)))
            go_ret
            exact ⟨hR (-1) (by simp only [resB, hk, if_neg (show ¬ 200 < depth by have := HDp.out; omega), hrt, Bool.false_eq_true, if_false, if_true, Bool.and_true, Bool.true_and, Bool.and_false, Bool.false_and, Bool.not_true, Bool.not_false, beq_self_eq_true, reduceCtorEq]; try rfl), hbt _ hb3a hw4⟩
          · skip
            cases q7 : (n.fst != -1)
            · skip
              go_enter Tryz.func57, Tryz.ntmps57
              go_wp2_with (first | (go_at_call 58; refine K58.mono ?_; rintro e w2 ⟨rfl, hw2⟩; have hb2 := hbt _ hb1 hw2; have hn2 := bblk hw2 hn; have hv2 := bblk hw2 hv1; have hk2 := at_new w2 (.cells #[.bool true, .int .i64 0, .func (.func 77) #[] #[]] 111) _ rfl; have hb2a := bal hb2 (.cells #[.bool true, .int .i64 0, .func (.func 77) #[] #[]] 111); have ha2 := bal (Below.refl w2.heap.size w2) (.cells #[.bool true, .int .i64 0, .func (.func 77) #[] #[]] 111); have hn2a := bblk ha2 hn2; have hv2a := bblk ha2 hv2; have cn2 := blk_cells hn2a; have cc2 := hca' _ hb2a))
              refine (K21 _ hb2a).mono ?_
              rintro e w3 ⟨k, sp, nm, aa, an, ac, d, s, i1, i2, i3, i4, i5, i6, er, rfl, hpt, hw3⟩
              have hb3 := hbt _ hb2a hw3
              have hn3 := bblk hw3 hn2a
              have hv3 := bblk hw3 hv2a
              have hk3 := bblk hw3 hk2
              have hp3 := at_new w3 (.cells #[.int .i64 k, .int .i64 sp, .string nm, .slice aa an ac, .string d, .string s, .int .i64 i1, .int .i64 i2, .int .i64 i3, .int .i64 i4, .int .i64 i5, .int .i64 i6] 52) _ rfl
              have ha3 := bal (Below.refl w3.heap.size w3) (.cells #[.int .i64 k, .int .i64 sp, .string nm, .slice aa an ac, .string d, .string s, .int .i64 i1, .int .i64 i2, .int .i64 i3, .int .i64 i4, .int .i64 i5, .int .i64 i6] 52)
              have hb3a := bal hb3 (.cells #[.int .i64 k, .int .i64 sp, .string nm, .slice aa an ac, .string d, .string s, .int .i64 i1, .int .i64 i2, .int .i64 i3, .int .i64 i4, .int .i64 i5, .int .i64 i6] 52)
              have cn3 := blk_cells (bblk ha3 hn3)
              have cv3 := blk_cells (bblk ha3 hv3)
              have ck3 := blk_cells (bblk ha3 hk3)
              have cp3 := blk_cells hp3
              clear hpt
              go_wp2_with (first | (go_at_call 77; refine (KR _ hb3a 77 (by decide)).mono ?_; rintro e w4 ⟨rfl, hw4⟩; have hb4 := hbt _ hb3a hw4; have cn4 := blk_cells (bblk hw4 (bblk ha3 hn3)); have ck4 := blk_cells (bblk hw4 (bblk ha3 hk3)); have cp4 := blk_cells (bblk hw4 hp3)))
              go_ret
              exact ⟨hR 0 (by simp only [resB, hk, if_neg (show ¬ 200 < depth by have := HDp.out; omega), hrt, qk, q7, Bool.false_eq_true, if_false, if_true, Bool.and_true, Bool.true_and, Bool.and_false, Bool.false_and, Bool.not_true, Bool.not_false, beq_self_eq_true, reduceCtorEq]; try rfl), hbt _ hb3a hw4⟩
            · skip
              go_enter Tryz.func57, Tryz.ntmps57
              go_wp2_with (first | (go_at_call 58; refine K58.mono ?_; rintro e w2 ⟨rfl, hw2⟩; have hb2 := hbt _ hb1 hw2; have hn2 := bblk hw2 hn; have hv2 := bblk hw2 hv1; have hk2 := at_new w2 (.cells #[.bool true, .int .i64 0, .func (.func 77) #[] #[]] 111) _ rfl; have hb2a := bal hb2 (.cells #[.bool true, .int .i64 0, .func (.func 77) #[] #[]] 111); have ha2 := bal (Below.refl w2.heap.size w2) (.cells #[.bool true, .int .i64 0, .func (.func 77) #[] #[]] 111); have hn2a := bblk ha2 hn2; have hv2a := bblk ha2 hv2; have cn2 := blk_cells hn2a; have cc2 := hca' _ hb2a))
              refine (K21 _ hb2a).mono ?_
              rintro e w3 ⟨k, sp, nm, aa, an, ac, d, s, i1, i2, i3, i4, i5, i6, er, rfl, hpt, hw3⟩
              have hb3 := hbt _ hb2a hw3
              have hn3 := bblk hw3 hn2a
              have hv3 := bblk hw3 hv2a
              have hk3 := bblk hw3 hk2
              have hp3 := at_new w3 (.cells #[.int .i64 k, .int .i64 sp, .string nm, .slice aa an ac, .string d, .string s, .int .i64 i1, .int .i64 i2, .int .i64 i3, .int .i64 i4, .int .i64 i5, .int .i64 i6] 52) _ rfl
              have ha3 := bal (Below.refl w3.heap.size w3) (.cells #[.int .i64 k, .int .i64 sp, .string nm, .slice aa an ac, .string d, .string s, .int .i64 i1, .int .i64 i2, .int .i64 i3, .int .i64 i4, .int .i64 i5, .int .i64 i6] 52)
              have hb3a := bal hb3 (.cells #[.int .i64 k, .int .i64 sp, .string nm, .slice aa an ac, .string d, .string s, .int .i64 i1, .int .i64 i2, .int .i64 i3, .int .i64 i4, .int .i64 i5, .int .i64 i6] 52)
              have cn3 := blk_cells (bblk ha3 hn3)
              have cv3 := blk_cells (bblk ha3 hv3)
              have ck3 := blk_cells (bblk ha3 hk3)
              have cp3 := blk_cells hp3
              clear hpt
              go_wp2_with (first | (go_at_call 77; refine (KR _ hb3a 77 (by decide)).mono ?_; rintro e w4 ⟨rfl, hw4⟩; have hb4 := hbt _ hb3a hw4; have cn4 := blk_cells (bblk hw4 (bblk ha3 hn3)); have ck4 := blk_cells (bblk hw4 (bblk ha3 hk3)); have cp4 := blk_cells (bblk hw4 hp3)))
              go_ret
              exact ⟨hR (-1) (by simp only [resB, hk, if_neg (show ¬ 200 < depth by have := HDp.out; omega), hrt, qk, q7, Bool.false_eq_true, if_false, if_true, Bool.and_true, Bool.true_and, Bool.and_false, Bool.false_and, Bool.not_true, Bool.not_false, beq_self_eq_true, reduceCtorEq]; try rfl), hbt _ hb3a hw4⟩
      · rw [hk] at K58
        dsimp only [kindR] at K58
        by_cases hdep : 200 < depth
        · have hd1 : decide (depth > 200) = true := decide_eq_true hdep
          clear KR
          go_enter Tryz.func57, Tryz.ntmps57
          go_wp2_with (first | (go_at_call 58; refine K58.mono ?_; rintro e w2 ⟨rfl, hw2⟩; have hb2 := hbt _ hb1 hw2; have hn2 := bblk hw2 hn; have hv2 := bblk hw2 hv1; have hk2 := at_new w2 (.cells #[.bool true, .int .i64 1, .func (.func 75) #[] #[]] 111) _ rfl; have hb2a := bal hb2 (.cells #[.bool true, .int .i64 1, .func (.func 75) #[] #[]] 111); have ha2 := bal (Below.refl w2.heap.size w2) (.cells #[.bool true, .int .i64 1, .func (.func 75) #[] #[]] 111); have hn2a := bblk ha2 hn2; have hv2a := bblk ha2 hv2; have cn2 := blk_cells hn2a; have cc2 := hca' _ hb2a))
          refine (K21 _ hb2a).mono ?_
          rintro e w3 ⟨k, sp, nm, aa, an, ac, d, s, i1, i2, i3, i4, i5, i6, er, rfl, hpt, hw3⟩
          have hb3 := hbt _ hb2a hw3
          have hn3 := bblk hw3 hn2a
          have hv3 := bblk hw3 hv2a
          have hk3 := bblk hw3 hk2
          have hp3 := at_new w3 (.cells #[.int .i64 k, .int .i64 sp, .string nm, .slice aa an ac, .string d, .string s, .int .i64 i1, .int .i64 i2, .int .i64 i3, .int .i64 i4, .int .i64 i5, .int .i64 i6] 52) _ rfl
          have ha3 := bal (Below.refl w3.heap.size w3) (.cells #[.int .i64 k, .int .i64 sp, .string nm, .slice aa an ac, .string d, .string s, .int .i64 i1, .int .i64 i2, .int .i64 i3, .int .i64 i4, .int .i64 i5, .int .i64 i6] 52)
          have hb3a := bal hb3 (.cells #[.int .i64 k, .int .i64 sp, .string nm, .slice aa an ac, .string d, .string s, .int .i64 i1, .int .i64 i2, .int .i64 i3, .int .i64 i4, .int .i64 i5, .int .i64 i6] 52)
          have cn3 := blk_cells (bblk ha3 hn3)
          have cv3 := blk_cells (bblk ha3 hv3)
          have ck3 := blk_cells (bblk ha3 hk3)
          have cp3 := blk_cells hp3
          clear hpt
          go_wp2
          go_ret
          exact ⟨hR (-1) (by simp only [resB, hk, if_pos hdep, Bool.false_eq_true, if_false, if_true, Bool.and_true, Bool.true_and, Bool.and_false, Bool.false_and, Bool.not_true, Bool.not_false, beq_self_eq_true, reduceCtorEq]; try rfl), hb3a⟩
        have hnd : ¬ 200 < depth := hdep
        have hd1 : decide (depth > 200) = false := decide_eq_false hnd
        have HDp := Go.Lib.hid hnd
        clear hdep hnd
        cases inl
        · skip
          cases hrt : rightB n 75
          · have KR := KR
            go_enter Tryz.func57, Tryz.ntmps57
            go_wp2_with (first | (go_at_call 58; refine K58.mono ?_; rintro e w2 ⟨rfl, hw2⟩; have hb2 := hbt _ hb1 hw2; have hn2 := bblk hw2 hn; have hv2 := bblk hw2 hv1; have hk2 := at_new w2 (.cells #[.bool true, .int .i64 1, .func (.func 75) #[] #[]] 111) _ rfl; have hb2a := bal hb2 (.cells #[.bool true, .int .i64 1, .func (.func 75) #[] #[]] 111); have ha2 := bal (Below.refl w2.heap.size w2) (.cells #[.bool true, .int .i64 1, .func (.func 75) #[] #[]] 111); have hn2a := bblk ha2 hn2; have hv2a := bblk ha2 hv2; have cn2 := blk_cells hn2a; have cc2 := hca' _ hb2a))
            refine (K21 _ hb2a).mono ?_
            rintro e w3 ⟨k, sp, nm, aa, an, ac, d, s, i1, i2, i3, i4, i5, i6, er, rfl, hpt, hw3⟩
            have hb3 := hbt _ hb2a hw3
            have hn3 := bblk hw3 hn2a
            have hv3 := bblk hw3 hv2a
            have hk3 := bblk hw3 hk2
            have hp3 := at_new w3 (.cells #[.int .i64 k, .int .i64 sp, .string nm, .slice aa an ac, .string d, .string s, .int .i64 i1, .int .i64 i2, .int .i64 i3, .int .i64 i4, .int .i64 i5, .int .i64 i6] 52) _ rfl
            have ha3 := bal (Below.refl w3.heap.size w3) (.cells #[.int .i64 k, .int .i64 sp, .string nm, .slice aa an ac, .string d, .string s, .int .i64 i1, .int .i64 i2, .int .i64 i3, .int .i64 i4, .int .i64 i5, .int .i64 i6] 52)
            have hb3a := bal hb3 (.cells #[.int .i64 k, .int .i64 sp, .string nm, .slice aa an ac, .string d, .string s, .int .i64 i1, .int .i64 i2, .int .i64 i3, .int .i64 i4, .int .i64 i5, .int .i64 i6] 52)
            have cn3 := blk_cells (bblk ha3 hn3)
            have cv3 := blk_cells (bblk ha3 hv3)
            have ck3 := blk_cells (bblk ha3 hk3)
            have cp3 := blk_cells hp3
            clear hpt
            go_wp2_with (first | (go_at_call 75; refine (KR _ hb3a 75 (by decide)).mono ?_; rintro e w4 ⟨rfl, hw4⟩; have hb4 := hbt _ hb3a hw4; have cn4 := blk_cells (bblk hw4 (bblk ha3 hn3)); have ck4 := blk_cells (bblk hw4 (bblk ha3 hk3)); have cp4 := blk_cells (bblk hw4 hp3)))
            go_ret
            exact ⟨hR (-1) (by simp only [resB, hk, if_neg (show ¬ 200 < depth by have := HDp.out; omega), hrt, Bool.false_eq_true, if_false, if_true, Bool.and_true, Bool.true_and, Bool.and_false, Bool.false_and, Bool.not_true, Bool.not_false, beq_self_eq_true, reduceCtorEq]; try rfl), hbt _ hb3a hw4⟩
          · skip
            go_enter Tryz.func57, Tryz.ntmps57
            go_wp2_with (first | (go_at_call 58; refine K58.mono ?_; rintro e w2 ⟨rfl, hw2⟩; have hb2 := hbt _ hb1 hw2; have hn2 := bblk hw2 hn; have hv2 := bblk hw2 hv1; have hk2 := at_new w2 (.cells #[.bool true, .int .i64 1, .func (.func 75) #[] #[]] 111) _ rfl; have hb2a := bal hb2 (.cells #[.bool true, .int .i64 1, .func (.func 75) #[] #[]] 111); have ha2 := bal (Below.refl w2.heap.size w2) (.cells #[.bool true, .int .i64 1, .func (.func 75) #[] #[]] 111); have hn2a := bblk ha2 hn2; have hv2a := bblk ha2 hv2; have cn2 := blk_cells hn2a; have cc2 := hca' _ hb2a))
            refine (K21 _ hb2a).mono ?_
            rintro e w3 ⟨k, sp, nm, aa, an, ac, d, s, i1, i2, i3, i4, i5, i6, er, rfl, hpt, hw3⟩
            have hb3 := hbt _ hb2a hw3
            have hn3 := bblk hw3 hn2a
            have hv3 := bblk hw3 hv2a
            have hk3 := bblk hw3 hk2
            have hp3 := at_new w3 (.cells #[.int .i64 k, .int .i64 sp, .string nm, .slice aa an ac, .string d, .string s, .int .i64 i1, .int .i64 i2, .int .i64 i3, .int .i64 i4, .int .i64 i5, .int .i64 i6] 52) _ rfl
            have ha3 := bal (Below.refl w3.heap.size w3) (.cells #[.int .i64 k, .int .i64 sp, .string nm, .slice aa an ac, .string d, .string s, .int .i64 i1, .int .i64 i2, .int .i64 i3, .int .i64 i4, .int .i64 i5, .int .i64 i6] 52)
            have hb3a := bal hb3 (.cells #[.int .i64 k, .int .i64 sp, .string nm, .slice aa an ac, .string d, .string s, .int .i64 i1, .int .i64 i2, .int .i64 i3, .int .i64 i4, .int .i64 i5, .int .i64 i6] 52)
            have cn3 := blk_cells (bblk ha3 hn3)
            have cv3 := blk_cells (bblk ha3 hv3)
            have ck3 := blk_cells (bblk ha3 hk3)
            have cp3 := blk_cells hp3
            clear hpt
            go_wp2_with (first | (go_at_call 75; refine (KR _ hb3a 75 (by decide)).mono ?_; rintro e w4 ⟨rfl, hw4⟩; have hb4 := hbt _ hb3a hw4; have cn4 := blk_cells (bblk hw4 (bblk ha3 hn3)); have ck4 := blk_cells (bblk hw4 (bblk ha3 hk3)); have cp4 := blk_cells (bblk hw4 hp3)))
            go_ret
            exact ⟨hR 1 (by simp only [resB, hk, if_neg (show ¬ 200 < depth by have := HDp.out; omega), hrt, qk, show (1 == 0) = false from rfl, Bool.false_eq_true, if_false, if_true, Bool.and_true, Bool.true_and, Bool.and_false, Bool.false_and, Bool.not_true, Bool.not_false, beq_self_eq_true, reduceCtorEq]; try rfl), hbt _ hb3a hw4⟩
        · skip
          cases hrt : rightB n 75
          · have KR := KR
            go_enter Tryz.func57, Tryz.ntmps57
            go_wp2_with (first | (go_at_call 58; refine K58.mono ?_; rintro e w2 ⟨rfl, hw2⟩; have hb2 := hbt _ hb1 hw2; have hn2 := bblk hw2 hn; have hv2 := bblk hw2 hv1; have hk2 := at_new w2 (.cells #[.bool true, .int .i64 1, .func (.func 75) #[] #[]] 111) _ rfl; have hb2a := bal hb2 (.cells #[.bool true, .int .i64 1, .func (.func 75) #[] #[]] 111); have ha2 := bal (Below.refl w2.heap.size w2) (.cells #[.bool true, .int .i64 1, .func (.func 75) #[] #[]] 111); have hn2a := bblk ha2 hn2; have hv2a := bblk ha2 hv2; have cn2 := blk_cells hn2a; have cc2 := hca' _ hb2a))
            refine (K21 _ hb2a).mono ?_
            rintro e w3 ⟨k, sp, nm, aa, an, ac, d, s, i1, i2, i3, i4, i5, i6, er, rfl, hpt, hw3⟩
            have hb3 := hbt _ hb2a hw3
            have hn3 := bblk hw3 hn2a
            have hv3 := bblk hw3 hv2a
            have hk3 := bblk hw3 hk2
            have hp3 := at_new w3 (.cells #[.int .i64 k, .int .i64 sp, .string nm, .slice aa an ac, .string d, .string s, .int .i64 i1, .int .i64 i2, .int .i64 i3, .int .i64 i4, .int .i64 i5, .int .i64 i6] 52) _ rfl
            have ha3 := bal (Below.refl w3.heap.size w3) (.cells #[.int .i64 k, .int .i64 sp, .string nm, .slice aa an ac, .string d, .string s, .int .i64 i1, .int .i64 i2, .int .i64 i3, .int .i64 i4, .int .i64 i5, .int .i64 i6] 52)
            have hb3a := bal hb3 (.cells #[.int .i64 k, .int .i64 sp, .string nm, .slice aa an ac, .string d, .string s, .int .i64 i1, .int .i64 i2, .int .i64 i3, .int .i64 i4, .int .i64 i5, .int .i64 i6] 52)
            have cn3 := blk_cells (bblk ha3 hn3)
            have cv3 := blk_cells (bblk ha3 hv3)
            have ck3 := blk_cells (bblk ha3 hk3)
            have cp3 := blk_cells hp3
            clear hpt
            go_wp2_with (first | (go_at_call 75; refine (KR _ hb3a 75 (by decide)).mono ?_; rintro e w4 ⟨rfl, hw4⟩; have hb4 := hbt _ hb3a hw4; have cn4 := blk_cells (bblk hw4 (bblk ha3 hn3)); have ck4 := blk_cells (bblk hw4 (bblk ha3 hk3)); have cp4 := blk_cells (bblk hw4 hp3)))
            go_ret
            exact ⟨hR (-1) (by simp only [resB, hk, if_neg (show ¬ 200 < depth by have := HDp.out; omega), hrt, Bool.false_eq_true, if_false, if_true, Bool.and_true, Bool.true_and, Bool.and_false, Bool.false_and, Bool.not_true, Bool.not_false, beq_self_eq_true, reduceCtorEq]; try rfl), hbt _ hb3a hw4⟩
          · skip
            go_enter Tryz.func57, Tryz.ntmps57
            go_wp2_with (first | (go_at_call 58; refine K58.mono ?_; rintro e w2 ⟨rfl, hw2⟩; have hb2 := hbt _ hb1 hw2; have hn2 := bblk hw2 hn; have hv2 := bblk hw2 hv1; have hk2 := at_new w2 (.cells #[.bool true, .int .i64 1, .func (.func 75) #[] #[]] 111) _ rfl; have hb2a := bal hb2 (.cells #[.bool true, .int .i64 1, .func (.func 75) #[] #[]] 111); have ha2 := bal (Below.refl w2.heap.size w2) (.cells #[.bool true, .int .i64 1, .func (.func 75) #[] #[]] 111); have hn2a := bblk ha2 hn2; have hv2a := bblk ha2 hv2; have cn2 := blk_cells hn2a; have cc2 := hca' _ hb2a))
            refine (K21 _ hb2a).mono ?_
            rintro e w3 ⟨k, sp, nm, aa, an, ac, d, s, i1, i2, i3, i4, i5, i6, er, rfl, hpt, hw3⟩
            have hb3 := hbt _ hb2a hw3
            have hn3 := bblk hw3 hn2a
            have hv3 := bblk hw3 hv2a
            have hk3 := bblk hw3 hk2
            have hp3 := at_new w3 (.cells #[.int .i64 k, .int .i64 sp, .string nm, .slice aa an ac, .string d, .string s, .int .i64 i1, .int .i64 i2, .int .i64 i3, .int .i64 i4, .int .i64 i5, .int .i64 i6] 52) _ rfl
            have ha3 := bal (Below.refl w3.heap.size w3) (.cells #[.int .i64 k, .int .i64 sp, .string nm, .slice aa an ac, .string d, .string s, .int .i64 i1, .int .i64 i2, .int .i64 i3, .int .i64 i4, .int .i64 i5, .int .i64 i6] 52)
            have hb3a := bal hb3 (.cells #[.int .i64 k, .int .i64 sp, .string nm, .slice aa an ac, .string d, .string s, .int .i64 i1, .int .i64 i2, .int .i64 i3, .int .i64 i4, .int .i64 i5, .int .i64 i6] 52)
            have cn3 := blk_cells (bblk ha3 hn3)
            have cv3 := blk_cells (bblk ha3 hv3)
            have ck3 := blk_cells (bblk ha3 hk3)
            have cp3 := blk_cells hp3
            clear hpt
            go_wp2_with (first | (go_at_call 75; refine (KR _ hb3a 75 (by decide)).mono ?_; rintro e w4 ⟨rfl, hw4⟩; have hb4 := hbt _ hb3a hw4; have cn4 := blk_cells (bblk hw4 (bblk ha3 hn3)); have ck4 := blk_cells (bblk hw4 (bblk ha3 hk3)); have cp4 := blk_cells (bblk hw4 hp3)))
            go_ret
            exact ⟨hR 1 (by simp only [resB, hk, if_neg (show ¬ 200 < depth by have := HDp.out; omega), hrt, qk, show (1 == 0) = false from rfl, Bool.false_eq_true, if_false, if_true, Bool.and_true, Bool.true_and, Bool.and_false, Bool.false_and, Bool.not_true, Bool.not_false, beq_self_eq_true, reduceCtorEq]; try rfl), hbt _ hb3a hw4⟩
      · rw [hk] at K58
        dsimp only [kindR] at K58
        by_cases hdep : 200 < depth
        · have hd1 : decide (depth > 200) = true := decide_eq_true hdep
          clear KR
          go_enter Tryz.func57, Tryz.ntmps57
          go_wp2_with (first | (go_at_call 58; refine K58.mono ?_; rintro e w2 ⟨rfl, hw2⟩; have hb2 := hbt _ hb1 hw2; have hn2 := bblk hw2 hn; have hv2 := bblk hw2 hv1; have hk2 := at_new w2 (.cells #[.bool false, .int .i64 1, .func (.func 75) #[] #[]] 111) _ rfl; have hb2a := bal hb2 (.cells #[.bool false, .int .i64 1, .func (.func 75) #[] #[]] 111); have ha2 := bal (Below.refl w2.heap.size w2) (.cells #[.bool false, .int .i64 1, .func (.func 75) #[] #[]] 111); have hn2a := bblk ha2 hn2; have hv2a := bblk ha2 hv2; have cn2 := blk_cells hn2a; have cc2 := hca' _ hb2a))
          refine (K21 _ hb2a).mono ?_
          rintro e w3 ⟨k, sp, nm, aa, an, ac, d, s, i1, i2, i3, i4, i5, i6, er, rfl, hpt, hw3⟩
          have hb3 := hbt _ hb2a hw3
          have hn3 := bblk hw3 hn2a
          have hv3 := bblk hw3 hv2a
          have hk3 := bblk hw3 hk2
          have hp3 := at_new w3 (.cells #[.int .i64 k, .int .i64 sp, .string nm, .slice aa an ac, .string d, .string s, .int .i64 i1, .int .i64 i2, .int .i64 i3, .int .i64 i4, .int .i64 i5, .int .i64 i6] 52) _ rfl
          have ha3 := bal (Below.refl w3.heap.size w3) (.cells #[.int .i64 k, .int .i64 sp, .string nm, .slice aa an ac, .string d, .string s, .int .i64 i1, .int .i64 i2, .int .i64 i3, .int .i64 i4, .int .i64 i5, .int .i64 i6] 52)
          have hb3a := bal hb3 (.cells #[.int .i64 k, .int .i64 sp, .string nm, .slice aa an ac, .string d, .string s, .int .i64 i1, .int .i64 i2, .int .i64 i3, .int .i64 i4, .int .i64 i5, .int .i64 i6] 52)
          have cn3 := blk_cells (bblk ha3 hn3)
          have cv3 := blk_cells (bblk ha3 hv3)
          have ck3 := blk_cells (bblk ha3 hk3)
          have cp3 := blk_cells hp3
          clear hpt
          go_wp2
          go_ret
          exact ⟨hR (-1) (by simp only [resB, hk, if_pos hdep, Bool.false_eq_true, if_false, if_true, Bool.and_true, Bool.true_and, Bool.and_false, Bool.false_and, Bool.not_true, Bool.not_false, beq_self_eq_true, reduceCtorEq]; try rfl), hb3a⟩
        have hnd : ¬ 200 < depth := hdep
        have hd1 : decide (depth > 200) = false := decide_eq_false hnd
        have HDp := Go.Lib.hid hnd
        clear hdep hnd
        cases inl
        · skip
          cases hrt : rightB n 75
          · have KR := KR
            go_enter Tryz.func57, Tryz.ntmps57
            go_wp2_with (first | (go_at_call 58; refine K58.mono ?_; rintro e w2 ⟨rfl, hw2⟩; have hb2 := hbt _ hb1 hw2; have hn2 := bblk hw2 hn; have hv2 := bblk hw2 hv1; have hk2 := at_new w2 (.cells #[.bool false, .int .i64 1, .func (.func 75) #[] #[]] 111) _ rfl; have hb2a := bal hb2 (.cells #[.bool false, .int .i64 1, .func (.func 75) #[] #[]] 111); have ha2 := bal (Below.refl w2.heap.size w2) (.cells #[.bool false, .int .i64 1, .func (.func 75) #[] #[]] 111); have hn2a := bblk ha2 hn2; have hv2a := bblk ha2 hv2; have cn2 := blk_cells hn2a; have cc2 := hca' _ hb2a))
            refine (K21 _ hb2a).mono ?_
            rintro e w3 ⟨k, sp, nm, aa, an, ac, d, s, i1, i2, i3, i4, i5, i6, er, rfl, hpt, hw3⟩
            have hb3 := hbt _ hb2a hw3
            have hn3 := bblk hw3 hn2a
            have hv3 := bblk hw3 hv2a
            have hk3 := bblk hw3 hk2
            have hp3 := at_new w3 (.cells #[.int .i64 k, .int .i64 sp, .string nm, .slice aa an ac, .string d, .string s, .int .i64 i1, .int .i64 i2, .int .i64 i3, .int .i64 i4, .int .i64 i5, .int .i64 i6] 52) _ rfl
            have ha3 := bal (Below.refl w3.heap.size w3) (.cells #[.int .i64 k, .int .i64 sp, .string nm, .slice aa an ac, .string d, .string s, .int .i64 i1, .int .i64 i2, .int .i64 i3, .int .i64 i4, .int .i64 i5, .int .i64 i6] 52)
            have hb3a := bal hb3 (.cells #[.int .i64 k, .int .i64 sp, .string nm, .slice aa an ac, .string d, .string s, .int .i64 i1, .int .i64 i2, .int .i64 i3, .int .i64 i4, .int .i64 i5, .int .i64 i6] 52)
            have cn3 := blk_cells (bblk ha3 hn3)
            have cv3 := blk_cells (bblk ha3 hv3)
            have ck3 := blk_cells (bblk ha3 hk3)
            have cp3 := blk_cells hp3
            clear hpt
            go_wp2_with (first | (go_at_call 75; refine (KR _ hb3a 75 (by decide)).mono ?_; rintro e w4 ⟨rfl, hw4⟩; have hb4 := hbt _ hb3a hw4; have cn4 := blk_cells (bblk hw4 (bblk ha3 hn3)); have ck4 := blk_cells (bblk hw4 (bblk ha3 hk3)); have cp4 := blk_cells (bblk hw4 hp3)))
            go_ret
            exact ⟨hR (-1) (by simp only [resB, hk, if_neg (show ¬ 200 < depth by have := HDp.out; omega), hrt, Bool.false_eq_true, if_false, if_true, Bool.and_true, Bool.true_and, Bool.and_false, Bool.false_and, Bool.not_true, Bool.not_false, beq_self_eq_true, reduceCtorEq]; try rfl), hbt _ hb3a hw4⟩
          · skip
            go_enter Tryz.func57, Tryz.ntmps57
            go_wp2_with (first | (go_at_call 58; refine K58.mono ?_; rintro e w2 ⟨rfl, hw2⟩; have hb2 := hbt _ hb1 hw2; have hn2 := bblk hw2 hn; have hv2 := bblk hw2 hv1; have hk2 := at_new w2 (.cells #[.bool false, .int .i64 1, .func (.func 75) #[] #[]] 111) _ rfl; have hb2a := bal hb2 (.cells #[.bool false, .int .i64 1, .func (.func 75) #[] #[]] 111); have ha2 := bal (Below.refl w2.heap.size w2) (.cells #[.bool false, .int .i64 1, .func (.func 75) #[] #[]] 111); have hn2a := bblk ha2 hn2; have hv2a := bblk ha2 hv2; have cn2 := blk_cells hn2a; have cc2 := hca' _ hb2a))
            refine (K21 _ hb2a).mono ?_
            rintro e w3 ⟨k, sp, nm, aa, an, ac, d, s, i1, i2, i3, i4, i5, i6, er, rfl, hpt, hw3⟩
            have hb3 := hbt _ hb2a hw3
            have hn3 := bblk hw3 hn2a
            have hv3 := bblk hw3 hv2a
            have hk3 := bblk hw3 hk2
            have hp3 := at_new w3 (.cells #[.int .i64 k, .int .i64 sp, .string nm, .slice aa an ac, .string d, .string s, .int .i64 i1, .int .i64 i2, .int .i64 i3, .int .i64 i4, .int .i64 i5, .int .i64 i6] 52) _ rfl
            have ha3 := bal (Below.refl w3.heap.size w3) (.cells #[.int .i64 k, .int .i64 sp, .string nm, .slice aa an ac, .string d, .string s, .int .i64 i1, .int .i64 i2, .int .i64 i3, .int .i64 i4, .int .i64 i5, .int .i64 i6] 52)
            have hb3a := bal hb3 (.cells #[.int .i64 k, .int .i64 sp, .string nm, .slice aa an ac, .string d, .string s, .int .i64 i1, .int .i64 i2, .int .i64 i3, .int .i64 i4, .int .i64 i5, .int .i64 i6] 52)
            have cn3 := blk_cells (bblk ha3 hn3)
            have cv3 := blk_cells (bblk ha3 hv3)
            have ck3 := blk_cells (bblk ha3 hk3)
            have cp3 := blk_cells hp3
            clear hpt
            go_wp2_with (first | (go_at_call 75; refine (KR _ hb3a 75 (by decide)).mono ?_; rintro e w4 ⟨rfl, hw4⟩; have hb4 := hbt _ hb3a hw4; have cn4 := blk_cells (bblk hw4 (bblk ha3 hn3)); have ck4 := blk_cells (bblk hw4 (bblk ha3 hk3)); have cp4 := blk_cells (bblk hw4 hp3)))
            go_ret
            exact ⟨hR 1 (by simp only [resB, hk, if_neg (show ¬ 200 < depth by have := HDp.out; omega), hrt, qk, show (1 == 0) = false from rfl, Bool.false_eq_true, if_false, if_true, Bool.and_true, Bool.true_and, Bool.and_false, Bool.false_and, Bool.not_true, Bool.not_false, beq_self_eq_true, reduceCtorEq]; try rfl), hbt _ hb3a hw4⟩
        · clear KR
          go_enter Tryz.func57, Tryz.ntmps57
          go_wp2_with (first | (go_at_call 58; refine K58.mono ?_; rintro e w2 ⟨rfl, hw2⟩; have hb2 := hbt _ hb1 hw2; have hn2 := bblk hw2 hn; have hv2 := bblk hw2 hv1; have hk2 := at_new w2 (.cells #[.bool false, .int .i64 1, .func (.func 75) #[] #[]] 111) _ rfl; have hb2a := bal hb2 (.cells #[.bool false, .int .i64 1, .func (.func 75) #[] #[]] 111); have ha2 := bal (Below.refl w2.heap.size w2) (.cells #[.bool false, .int .i64 1, .func (.func 75) #[] #[]] 111); have hn2a := bblk ha2 hn2; have hv2a := bblk ha2 hv2; have cn2 := blk_cells hn2a; have cc2 := hca' _ hb2a))
          refine (K21 _ hb2a).mono ?_
          rintro e w3 ⟨k, sp, nm, aa, an, ac, d, s, i1, i2, i3, i4, i5, i6, er, rfl, hpt, hw3⟩
          have hb3 := hbt _ hb2a hw3
          have hn3 := bblk hw3 hn2a
          have hv3 := bblk hw3 hv2a
          have hk3 := bblk hw3 hk2
          have hp3 := at_new w3 (.cells #[.int .i64 k, .int .i64 sp, .string nm, .slice aa an ac, .string d, .string s, .int .i64 i1, .int .i64 i2, .int .i64 i3, .int .i64 i4, .int .i64 i5, .int .i64 i6] 52) _ rfl
          have ha3 := bal (Below.refl w3.heap.size w3) (.cells #[.int .i64 k, .int .i64 sp, .string nm, .slice aa an ac, .string d, .string s, .int .i64 i1, .int .i64 i2, .int .i64 i3, .int .i64 i4, .int .i64 i5, .int .i64 i6] 52)
          have hb3a := bal hb3 (.cells #[.int .i64 k, .int .i64 sp, .string nm, .slice aa an ac, .string d, .string s, .int .i64 i1, .int .i64 i2, .int .i64 i3, .int .i64 i4, .int .i64 i5, .int .i64 i6] 52)
          have cn3 := blk_cells (bblk ha3 hn3)
          have cv3 := blk_cells (bblk ha3 hv3)
          have ck3 := blk_cells (bblk ha3 hk3)
          have cp3 := blk_cells hp3
          clear hpt
          go_wp2
          go_ret
          exact ⟨hR (-1) (by simp only [resB, hk, if_neg (show ¬ 200 < depth by have := HDp.out; omega), Bool.false_eq_true, if_false, if_true, Bool.and_true, Bool.true_and, Bool.and_false, Bool.false_and, Bool.not_true, Bool.not_false, beq_self_eq_true, reduceCtorEq]; try rfl), hb3a⟩
      · rw [hk] at K58
        dsimp only [kindR] at K58
        by_cases hdep : 200 < depth
        · have hd1 : decide (depth > 200) = true := decide_eq_true hdep
          clear KR
          go_enter Tryz.func57, Tryz.ntmps57
          go_wp2_with (first | (go_at_call 58; refine K58.mono ?_; rintro e w2 ⟨rfl, hw2⟩; have hb2 := hbt _ hb1 hw2; have hn2 := bblk hw2 hn; have hv2 := bblk hw2 hv1; have hk2 := at_new w2 (.cells #[.bool false, .int .i64 2, .func (.func 75) #[] #[]] 111) _ rfl; have hb2a := bal hb2 (.cells #[.bool false, .int .i64 2, .func (.func 75) #[] #[]] 111); have ha2 := bal (Below.refl w2.heap.size w2) (.cells #[.bool false, .int .i64 2, .func (.func 75) #[] #[]] 111); have hn2a := bblk ha2 hn2; have hv2a := bblk ha2 hv2; have cn2 := blk_cells hn2a; have cc2 := hca' _ hb2a))
          refine (K21 _ hb2a).mono ?_
          rintro e w3 ⟨k, sp, nm, aa, an, ac, d, s, i1, i2, i3, i4, i5, i6, er, rfl, hpt, hw3⟩
          have hb3 := hbt _ hb2a hw3
          have hn3 := bblk hw3 hn2a
          have hv3 := bblk hw3 hv2a
          have hk3 := bblk hw3 hk2
          have hp3 := at_new w3 (.cells #[.int .i64 k, .int .i64 sp, .string nm, .slice aa an ac, .string d, .string s, .int .i64 i1, .int .i64 i2, .int .i64 i3, .int .i64 i4, .int .i64 i5, .int .i64 i6] 52) _ rfl
          have ha3 := bal (Below.refl w3.heap.size w3) (.cells #[.int .i64 k, .int .i64 sp, .string nm, .slice aa an ac, .string d, .string s, .int .i64 i1, .int .i64 i2, .int .i64 i3, .int .i64 i4, .int .i64 i5, .int .i64 i6] 52)
          have hb3a := bal hb3 (.cells #[.int .i64 k, .int .i64 sp, .string nm, .slice aa an ac, .string d, .string s, .int .i64 i1, .int .i64 i2, .int .i64 i3, .int .i64 i4, .int .i64 i5, .int .i64 i6] 52)
          have cn3 := blk_cells (bblk ha3 hn3)
          have cv3 := blk_cells (bblk ha3 hv3)
          have ck3 := blk_cells (bblk ha3 hk3)
          have cp3 := blk_cells hp3
          clear hpt
          go_wp2
          go_ret
          exact ⟨hR (-1) (by simp only [resB, hk, if_pos hdep, Bool.false_eq_true, if_false, if_true, Bool.and_true, Bool.true_and, Bool.and_false, Bool.false_and, Bool.not_true, Bool.not_false, beq_self_eq_true, reduceCtorEq]; try rfl), hb3a⟩
        have hnd : ¬ 200 < depth := hdep
        have hd1 : decide (depth > 200) = false := decide_eq_false hnd
        have HDp := Go.Lib.hid hnd
        clear hdep hnd
        cases inl
        · skip
          cases hrt : rightB n 75
          · have KR := KR
            go_enter Tryz.func57, Tryz.ntmps57
            go_wp2_with (first | (go_at_call 58; refine K58.mono ?_; rintro e w2 ⟨rfl, hw2⟩; have hb2 := hbt _ hb1 hw2; have hn2 := bblk hw2 hn; have hv2 := bblk hw2 hv1; have hk2 := at_new w2 (.cells #[.bool false, .int .i64 2, .func (.func 75) #[] #[]] 111) _ rfl; have hb2a := bal hb2 (.cells #[.bool false, .int .i64 2, .func (.func 75) #[] #[]] 111); have ha2 := bal (Below.refl w2.heap.size w2) (.cells #[.bool false, .int .i64 2, .func (.func 75) #[] #[]] 111); have hn2a := bblk ha2 hn2; have hv2a := bblk ha2 hv2; have cn2 := blk_cells hn2a; have cc2 := hca' _ hb2a))
            refine (K21 _ hb2a).mono ?_
            rintro e w3 ⟨k, sp, nm, aa, an, ac, d, s, i1, i2, i3, i4, i5, i6, er, rfl, hpt, hw3⟩
            have hb3 := hbt _ hb2a hw3
            have hn3 := bblk hw3 hn2a
            have hv3 := bblk hw3 hv2a
            have hk3 := bblk hw3 hk2
            have hp3 := at_new w3 (.cells #[.int .i64 k, .int .i64 sp, .string nm, .slice aa an ac, .string d, .string s, .int .i64 i1, .int .i64 i2, .int .i64 i3, .int .i64 i4, .int .i64 i5, .int .i64 i6] 52) _ rfl
            have ha3 := bal (Below.refl w3.heap.size w3) (.cells #[.int .i64 k, .int .i64 sp, .string nm, .slice aa an ac, .string d, .string s, .int .i64 i1, .int .i64 i2, .int .i64 i3, .int .i64 i4, .int .i64 i5, .int .i64 i6] 52)
            have hb3a := bal hb3 (.cells #[.int .i64 k, .int .i64 sp, .string nm, .slice aa an ac, .string d, .string s, .int .i64 i1, .int .i64 i2, .int .i64 i3, .int .i64 i4, .int .i64 i5, .int .i64 i6] 52)
            have cn3 := blk_cells (bblk ha3 hn3)
            have cv3 := blk_cells (bblk ha3 hv3)
            have ck3 := blk_cells (bblk ha3 hk3)
            have cp3 := blk_cells hp3
            clear hpt
            go_wp2_with (first | (go_at_call 75; refine (KR _ hb3a 75 (by decide)).mono ?_; rintro e w4 ⟨rfl, hw4⟩; have hb4 := hbt _ hb3a hw4; have cn4 := blk_cells (bblk hw4 (bblk ha3 hn3)); have ck4 := blk_cells (bblk hw4 (bblk ha3 hk3)); have cp4 := blk_cells (bblk hw4 hp3)))
            go_ret
            exact ⟨hR (-1) (by simp only [resB, hk, if_neg (show ¬ 200 < depth by have := HDp.out; omega), hrt, Bool.false_eq_true, if_false, if_true, Bool.and_true, Bool.true_and, Bool.and_false, Bool.false_and, Bool.not_true, Bool.not_false, beq_self_eq_true, reduceCtorEq]; try rfl), hbt _ hb3a hw4⟩
          · skip
            go_enter Tryz.func57, Tryz.ntmps57
            go_wp2_with (first | (go_at_call 58; refine K58.mono ?_; rintro e w2 ⟨rfl, hw2⟩; have hb2 := hbt _ hb1 hw2; have hn2 := bblk hw2 hn; have hv2 := bblk hw2 hv1; have hk2 := at_new w2 (.cells #[.bool false, .int .i64 2, .func (.func 75) #[] #[]] 111) _ rfl; have hb2a := bal hb2 (.cells #[.bool false, .int .i64 2, .func (.func 75) #[] #[]] 111); have ha2 := bal (Below.refl w2.heap.size w2) (.cells #[.bool false, .int .i64 2, .func (.func 75) #[] #[]] 111); have hn2a := bblk ha2 hn2; have hv2a := bblk ha2 hv2; have cn2 := blk_cells hn2a; have cc2 := hca' _ hb2a))
            refine (K21 _ hb2a).mono ?_
            rintro e w3 ⟨k, sp, nm, aa, an, ac, d, s, i1, i2, i3, i4, i5, i6, er, rfl, hpt, hw3⟩
            have hb3 := hbt _ hb2a hw3
            have hn3 := bblk hw3 hn2a
            have hv3 := bblk hw3 hv2a
            have hk3 := bblk hw3 hk2
            have hp3 := at_new w3 (.cells #[.int .i64 k, .int .i64 sp, .string nm, .slice aa an ac, .string d, .string s, .int .i64 i1, .int .i64 i2, .int .i64 i3, .int .i64 i4, .int .i64 i5, .int .i64 i6] 52) _ rfl
            have ha3 := bal (Below.refl w3.heap.size w3) (.cells #[.int .i64 k, .int .i64 sp, .string nm, .slice aa an ac, .string d, .string s, .int .i64 i1, .int .i64 i2, .int .i64 i3, .int .i64 i4, .int .i64 i5, .int .i64 i6] 52)
            have hb3a := bal hb3 (.cells #[.int .i64 k, .int .i64 sp, .string nm, .slice aa an ac, .string d, .string s, .int .i64 i1, .int .i64 i2, .int .i64 i3, .int .i64 i4, .int .i64 i5, .int .i64 i6] 52)
            have cn3 := blk_cells (bblk ha3 hn3)
            have cv3 := blk_cells (bblk ha3 hv3)
            have ck3 := blk_cells (bblk ha3 hk3)
            have cp3 := blk_cells hp3
            clear hpt
            go_wp2_with (first | (go_at_call 75; refine (KR _ hb3a 75 (by decide)).mono ?_; rintro e w4 ⟨rfl, hw4⟩; have hb4 := hbt _ hb3a hw4; have cn4 := blk_cells (bblk hw4 (bblk ha3 hn3)); have ck4 := blk_cells (bblk hw4 (bblk ha3 hk3)); have cp4 := blk_cells (bblk hw4 hp3)))
            go_ret
            exact ⟨hR 2 (by simp only [resB, hk, if_neg (show ¬ 200 < depth by have := HDp.out; omega), hrt, qk, show (2 == 0) = false from rfl, Bool.false_eq_true, if_false, if_true, Bool.and_true, Bool.true_and, Bool.and_false, Bool.false_and, Bool.not_true, Bool.not_false, beq_self_eq_true, reduceCtorEq]; try rfl), hbt _ hb3a hw4⟩
        · clear KR
          go_enter Tryz.func57, Tryz.ntmps57
          go_wp2_with (first | (go_at_call 58; refine K58.mono ?_; rintro e w2 ⟨rfl, hw2⟩; have hb2 := hbt _ hb1 hw2; have hn2 := bblk hw2 hn; have hv2 := bblk hw2 hv1; have hk2 := at_new w2 (.cells #[.bool false, .int .i64 2, .func (.func 75) #[] #[]] 111) _ rfl; have hb2a := bal hb2 (.cells #[.bool false, .int .i64 2, .func (.func 75) #[] #[]] 111); have ha2 := bal (Below.refl w2.heap.size w2) (.cells #[.bool false, .int .i64 2, .func (.func 75) #[] #[]] 111); have hn2a := bblk ha2 hn2; have hv2a := bblk ha2 hv2; have cn2 := blk_cells hn2a; have cc2 := hca' _ hb2a))
          refine (K21 _ hb2a).mono ?_
          rintro e w3 ⟨k, sp, nm, aa, an, ac, d, s, i1, i2, i3, i4, i5, i6, er, rfl, hpt, hw3⟩
          have hb3 := hbt _ hb2a hw3
          have hn3 := bblk hw3 hn2a
          have hv3 := bblk hw3 hv2a
          have hk3 := bblk hw3 hk2
          have hp3 := at_new w3 (.cells #[.int .i64 k, .int .i64 sp, .string nm, .slice aa an ac, .string d, .string s, .int .i64 i1, .int .i64 i2, .int .i64 i3, .int .i64 i4, .int .i64 i5, .int .i64 i6] 52) _ rfl
          have ha3 := bal (Below.refl w3.heap.size w3) (.cells #[.int .i64 k, .int .i64 sp, .string nm, .slice aa an ac, .string d, .string s, .int .i64 i1, .int .i64 i2, .int .i64 i3, .int .i64 i4, .int .i64 i5, .int .i64 i6] 52)
          have hb3a := bal hb3 (.cells #[.int .i64 k, .int .i64 sp, .string nm, .slice aa an ac, .string d, .string s, .int .i64 i1, .int .i64 i2, .int .i64 i3, .int .i64 i4, .int .i64 i5, .int .i64 i6] 52)
          have cn3 := blk_cells (bblk ha3 hn3)
          have cv3 := blk_cells (bblk ha3 hv3)
          have ck3 := blk_cells (bblk ha3 hk3)
          have cp3 := blk_cells hp3
          clear hpt
          go_wp2
          go_ret
          exact ⟨hR (-1) (by simp only [resB, hk, if_neg (show ¬ 200 < depth by have := HDp.out; omega), Bool.false_eq_true, if_false, if_true, Bool.and_true, Bool.true_and, Bool.and_false, Bool.false_and, Bool.not_true, Bool.not_false, beq_self_eq_true, reduceCtorEq]; try rfl), hb3a⟩
end Go.Proofs.YthfdiinfeljeeaaGreatDoor
/- Which documents are in the class: plainly. -/
namespace Go.Proofs.YthfdiinfeljeeaaGreatDoor
structure Vw where
  kind : Int
  space : Int
  name : ByteArray
  data : ByteArray
  al : List A4
abbrev wHtml : List UInt8 := [104, 116, 109, 108]
abbrev wHead : List UInt8 := [104, 101, 97, 100]
abbrev wTitle : List UInt8 := [116, 105, 116, 108, 101]
abbrev wBody : List UInt8 := [98, 111, 100, 121]
def vN (l : List Nd) (i : Nat) : Vw := ⟨(gN l i).kind, (gN l i).space, (gN l i).name, (gN l i).data, (gN l i).al⟩
def vO (m : List On) (i : Nat) : Vw := ⟨(gO m i).kind, (gO m i).space, (gO m i).name, (gO m i).data, (gO m i).al⟩
def ksO (m : List On) (i : Nat) : List Nat := (gO m i).ks
theorem Alike.view {l : List Nd} {m : List On} {ks : Nat → List Nat} (h : Alike l m ks) : vO m = vN l ∧ ksO m = ks := by
  constructor
  · funext i
    unfold vO vN
    by_cases hi : i < l.length
    · have s := h.sim i hi
      rw [s.kind, s.space, s.name, s.data, s.al]
    · have e1 : gN l i = nd0 := by rw [gN, List.getD_eq_getElem?_getD, List.getElem?_eq_none (by omega)]; rfl
      have e2 : gO m i = on0 := by rw [gO, List.getD_eq_getElem?_getD, List.getElem?_eq_none (by rw [h.len]; omega)]; rfl
      rw [e1, e2]
      rfl
  · funext i
    unfold ksO
    by_cases hi : i < l.length
    · exact h.kids i hi
    · have e2 : gO m i = on0 := by rw [gO, List.getD_eq_getElem?_getD, List.getElem?_eq_none (by rw [h.len]; omega)]; rfl
      rw [e2, h.out i (by omega)]
      rfl
section
variable (v : Nat → Vw) (ks : Nat → List Nat)
/-- Does no text stand right behind a text, at this place? -/
def adjV (xs : List Nat) (i : Nat) : Bool := match xs[i]? with
  | none => true
  | some c => !((v c).kind == 2 && decide (0 < i) && (v (xs.getD (i - 1) 0)).kind == 2)
def kidsV (xs : List Nat) (o : Nat → Bool) : Bool := (List.range xs.length).all fun i => adjV v xs i && o (xs.getD i 0)
/-- A node f levels above the deepest. -/
def oneV : Nat → Nat → Bool → Bool
  | 0, _, _ => false
  | f + 1, id, block => bodyB (v id).kind (v id).space (v id).name (v id).data (v id).al block 0 (kidsV v (ks id) fun c => oneV f c false) (kidsV v (ks id) fun c => oneV f c true)
def bareV (id : Nat) (n : List UInt8) : Bool := (v id).kind == 1 && (v id).space == 0 && (v id).name.toList == n && (v id).al.length == 0
def textV (id : Nat) : Bool := (v id).kind == 2 && !(v id).data.toList.isEmpty && plainB (v id).data
def headV (id : Nat) : Bool := bareV v id wHead && match ks id with
  | [] => true
  | [t] => bareV v t wTitle && match ks t with
    | [] => true
    | [x] => textV v x
    | _ => false
  | _ => false
def bodyV (id : Nat) : Bool := (v id).kind == 1 && (v id).space == 0 && (v id).name.toList == wBody && attrsB (v id).al && kidsV v (ks id) fun c => oneV v ks 198 c true
def inV : Bool := match ks 0 with
  | [h] => bareV v h wHtml && match ks h with
    | [a, b] => headV v ks a && bodyV v ks b
    | _ => false
  | _ => false
end
end Go.Proofs.YthfdiinfeljeeaaGreatDoor
/- What the program's walk decides, plainly. -/
namespace Go.Proofs.YthfdiinfeljeeaaGreatDoor
def adjL (l : List Nd) (id : Nat) : Bool := !((gN l id).kind == 2 && ptB l (gN l id).prv)
theorem kidsV_all {l : List Nd} {ks : Nat → List Nat} (h : Good l ks) (id : Nat) (hid : id < l.length) (o : Nat → Bool) : kidsV (vN l) (ks id) o = (ks id).all fun c => adjL l c && o c := by
  have key : ∀ i, (hi : i < (ks id).length) → adjV (vN l) (ks id) i = adjL l (ks id)[i] := by
    intro i hi
    have hp := h.prv id hid i hi
    unfold adjV adjL
    rw [List.getElem?_eq_getElem hi]
    simp only [vN]
    rw [hp, pv]
    by_cases h0 : i = 0
    · subst h0
      rw [if_pos rfl, ptB, decide_eq_false (by omega)]
      simp
    · have hi1 : i - 1 < (ks id).length := by omega
      have hm := (h.mem id hid _ (List.getElem_mem hi1)).1
      rw [if_neg h0, nx_get _ _ hi1, ptB, decide_eq_true (show 0 < i by omega), decide_eq_true (show 0 ≤ (((ks id)[i - 1] : Nat) : Int) ∧ (((ks id)[i - 1] : Nat) : Int) < l.length from ⟨by omega, by omega⟩), List.getD_eq_getElem?_getD, List.getElem?_eq_getElem hi1]
      simp
  unfold kidsV
  rw [Bool.eq_iff_iff, List.all_eq_true, List.all_eq_true]
  constructor
  · intro hh c hc
    obtain ⟨i, hi, rfl⟩ := List.mem_iff_getElem.1 hc
    have := hh i (List.mem_range.2 hi)
    rw [key i hi, List.getD_eq_getElem?_getD, List.getElem?_eq_getElem hi] at this
    exact this
  · intro hh i hi
    have hi := List.mem_range.1 hi
    rw [key i hi, List.getD_eq_getElem?_getD, List.getElem?_eq_getElem hi]
    exact hh _ (List.getElem_mem hi)
/-- Is what is visited right, with all that is in it? -/
def visOK (l : List Nd) (ks : Nat → List Nat) (v : V3) : Bool := adjL l v.id && oneV (vN l) ks (201 - v.depth).toNat v.id (!v.inl)
theorem no_kids {l : List Nd} {ks : Nat → List Nat} (h : Good l ks) (hx : Ex l) (id : Nat) (hid : id < l.length) (hp : parB (gN l id).kind = false) : (gN l id).fst = -1 ∧ ks id = [] := by
  have h1 : (gN l id).fst = -1 := by
    rcases Decidable.em ((gN l id).fst = -1) with e | e
    · exact e
    · rw [hx.par id hid e] at hp; cases hp
  refine ⟨h1, ?_⟩
  have h2 := h.fst id hid
  rw [h1] at h2
  cases hk : ks id with
  | nil => rfl
  | cons a t =>
    rw [hk, nx] at h2
    simp at h2
abbrev mkVs (depth : Int) (inl : Bool) (xs : List Nat) : List V3 := xs.map fun c => ⟨c, depth, inl⟩
theorem kids_vis {l : List Nd} {ks : Nat → List Nat} (h : Good l ks) (id : Nat) (hid : id < l.length) (depth : Int) (inl : Bool) (f : Nat) (hf : (201 - (depth + 1)).toNat = f) :
    (mkVs (depth + 1) inl (ks id)).all (visOK l ks) = kidsV (vN l) (ks id) fun c => oneV (vN l) ks f c (!inl) := by
  rw [kidsV_all h id hid, List.all_map]
  congr 1
  funext c
  simp only [Function.comp, visOK, hf]
set_option linter.unusedSimpArgs false in
theorem vis_step {l : List Nd} {ks : Nat → List Nat} (h : Good l ks) (hx : Ex l) (v : V3) (hid : v.id < l.length) :
    (resB l (gN l v.id) v.depth v.inl < 0 → visOK l ks v = false) ∧ (0 ≤ resB l (gN l v.id) v.depth v.inl → v.depth ≤ 200 ∧ visOK l ks v = (mkVs (v.depth + 1) (resB l (gN l v.id) v.depth v.inl == 1) (ks v.id)).all (visOK l ks)) := by
  obtain ⟨id, depth, inl⟩ := v
  dsimp only at *
  by_cases hd : 200 < depth
  · have h0 : (201 - depth).toNat = 0 := by omega
    have hr : resB l (gN l id) depth inl = -1 := by
      unfold resB
      split
      · rfl
      · rw [if_pos hd]
    rw [hr]
    refine ⟨fun _ => ?_, fun h => by omega⟩
    rw [visOK, h0]
    simp [oneV]
  · obtain ⟨f, hf⟩ : ∃ f, (201 - depth).toNat = f + 1 := ⟨(201 - depth).toNat - 1, by omega⟩
    have hf2 : (201 - (depth + 1)).toNat = f := by omega
    have hK := fun b => kids_vis h id hid depth b f hf2
    have hv : visOK l ks ⟨id, depth, inl⟩ = (adjL l id && bodyB (gN l id).kind (gN l id).space (gN l id).name (gN l id).data (gN l id).al (!inl) 0 (kidsV (vN l) (ks id) fun c => oneV (vN l) ks f c false) (kidsV (vN l) (ks id) fun c => oneV (vN l) ks f c true)) := by
      rw [visOK, hf, oneV]; rfl
    rw [hv]
    have hk0 := hK true
    have hk1 := hK false
    simp only [Bool.not_true, Bool.not_false] at hk0 hk1
    rw [← hk0, ← hk1]
    clear hv hK hk0 hk1
    have hnk : ((gN l id).kind == 2) = true ∨ ((gN l id).kind == 3) = true → ((gN l id).fst != -1) = false ∧ ks id = [] := fun h3 => by
      have := no_kids h hx id hid (by rcases h3 with h3 | h3 <;> rw [beq_iff_eq] at h3 <;> rw [h3] <;> rfl)
      exact ⟨by rw [this.1]; rfl, this.2⟩
    unfold resB
    rw [bodyB, if_neg (show ¬ (200 : Int) < 0 by decide)]
    unfold adjL
    have ha : ks id = [] → ∀ b, (mkVs (depth + 1) b (ks id)).all (visOK l ks) = true := fun e b => by rw [e]; rfl
    generalize hkt : (mkVs (depth + 1) true (ks id)).all (visOK l ks) = kt at *
    generalize hkf : (mkVs (depth + 1) false (ks id)).all (visOK l ks) = kf at *
    generalize gN l id = n at *
    cases q2 : (n.kind == 2)
    · cases q3 : (n.kind == 3)
      · cases q1 : (n.kind == 1)
        · rw [show kindV n = none by simp only [kindV, q1, q2, q3, Bool.false_eq_true, if_false]]
          simp [q1, q2, q3]
        · skip
          cases n0 : (n.name.toList == wSpan)
          · skip
            cases n1 : (n.name.toList == wP)
            · skip
              cases n2 : (n.name.toList == wDiv)
              · skip
                cases n3 : (n.name.toList == wSection)
                · skip
                  cases n4 : (n.name.toList == wArticle)
                  · skip
                    cases n5 : (n.name.toList == wMain)
                    · skip
                      cases n6 : (n.name.toList == wAside)
                      · skip
                        rw [show kindV n = none by simp only [kindV, blockW, q1, q2, q3, n0, n1, n2, n3, n4, n5, n6, Bool.false_eq_true, if_false, if_true, Bool.or_false]; try rfl]
                        simp [blockW, q1, q2, q3, n0, n1, n2, n3, n4, n5, n6, ]
                      · skip
                        rw [show kindV n = some (false, 2, 75) by simp only [kindV, blockW, q1, q2, q3, n0, n1, n2, n3, n4, n5, n6, Bool.false_eq_true, if_false, if_true, Bool.or_false, Bool.or_true, Bool.true_or]; try rfl]
                        cases hr : (n.space == 0 && attrsB n.al) <;> cases inl <;> simp [rightB, hr, blockW, q1, q2, q3, n0, n1, n2, n3, n4, n5, n6, hd, hkt, hkf] <;> omega
                    · skip
                      rw [show kindV n = some (false, 2, 75) by simp only [kindV, blockW, q1, q2, q3, n0, n1, n2, n3, n4, n5, Bool.false_eq_true, if_false, if_true, Bool.or_false, Bool.or_true, Bool.true_or]; try rfl]
                      cases hr : (n.space == 0 && attrsB n.al) <;> cases inl <;> simp [rightB, hr, blockW, q1, q2, q3, n0, n1, n2, n3, n4, n5, hd, hkt, hkf] <;> omega
                  · skip
                    rw [show kindV n = some (false, 2, 75) by simp only [kindV, blockW, q1, q2, q3, n0, n1, n2, n3, n4, Bool.false_eq_true, if_false, if_true, Bool.or_false, Bool.or_true, Bool.true_or]; try rfl]
                    cases hr : (n.space == 0 && attrsB n.al) <;> cases inl <;> simp [rightB, hr, blockW, q1, q2, q3, n0, n1, n2, n3, n4, hd, hkt, hkf] <;> omega
                · skip
                  rw [show kindV n = some (false, 2, 75) by simp only [kindV, blockW, q1, q2, q3, n0, n1, n2, n3, Bool.false_eq_true, if_false, if_true, Bool.or_false, Bool.or_true, Bool.true_or]; try rfl]
                  cases hr : (n.space == 0 && attrsB n.al) <;> cases inl <;> simp [rightB, hr, blockW, q1, q2, q3, n0, n1, n2, n3, hd, hkt, hkf] <;> omega
              · skip
                rw [show kindV n = some (false, 2, 75) by simp only [kindV, blockW, q1, q2, q3, n0, n1, n2, Bool.false_eq_true, if_false, if_true, Bool.or_false, Bool.or_true, Bool.true_or]; try rfl]
                cases hr : (n.space == 0 && attrsB n.al) <;> cases inl <;> simp [rightB, hr, blockW, q1, q2, q3, n0, n1, n2, hd, hkt, hkf] <;> omega
            · skip
              rw [show kindV n = some (false, 1, 75) by simp only [kindV, blockW, q1, q2, q3, n0, n1, Bool.false_eq_true, if_false, if_true, Bool.or_false, Bool.or_true, Bool.true_or]; try rfl]
              cases hr : (n.space == 0 && attrsB n.al) <;> cases inl <;> simp [rightB, hr, blockW, q1, q2, q3, n0, n1, hd, hkt, hkf] <;> omega
          · skip
            rw [show kindV n = some (true, 1, 75) by simp only [kindV, blockW, q1, q2, q3, n0, Bool.false_eq_true, if_false, if_true, Bool.or_false, Bool.or_true, Bool.true_or]; try rfl]
            cases hr : (n.space == 0 && attrsB n.al) <;> cases inl <;> simp [rightB, hr, blockW, q1, q2, q3, n0, hd, hkt, hkf] <;> omega
      · obtain ⟨hf1, hf2⟩ := hnk (.inr q3)
        have ha0 := ha hf2
        rw [show kindV n = some (true, 0, 77) by simp only [kindV, q2, q3, Bool.false_eq_true, if_false, if_true]]
        cases hr : commB n.data <;> simp [rightB, hr, q2, q3, hd, hf1, ha0] <;> omega
    · obtain ⟨hf1, hf2⟩ := hnk (.inl q2)
      have ha0 := ha hf2
      rw [show kindV n = some (true, 0, 76) by simp only [kindV, q2, if_true]]
      cases hr : (!n.data.toList.isEmpty && plainB n.data) <;> cases hp : ptB l n.prv <;> simp [rightB, hr, hp, q2, hd, hf1, ha0] <;> omega
end Go.Proofs.YthfdiinfeljeeaaGreatDoor
/- The program's walk over all that is in a node. -/
namespace Go.Proofs.YthfdiinfeljeeaaGreatDoor
open Go.RowKit
/-- How much a visit at a depth can cost. -/
def costV (d : Int) : Nat := 1000 ^ (202 - d).toNat
theorem costV_pos (d : Int) : 1 ≤ costV d := Nat.one_le_pow _ _ (by decide)
theorem costV_step (d : Int) (h : d ≤ 200) : costV d = 1000 * costV (d + 1) := by
  unfold costV
  rw [show (202 - d).toNat = (202 - (d + 1)).toNat + 1 by omega, Nat.pow_succ, Nat.mul_comm]
def muV (V : List V3) : Nat := (V.map fun v => costV v.depth).sum
theorem muV_app (a b : List V3) : muV (a ++ b) = muV a + muV b := by simp [muV]
theorem muV_kids (d : Int) (inl : Bool) (xs : List Nat) : muV (mkV d inl xs) = xs.length * costV d := by
  induction xs with
  | nil => simp [muV]
  | cons x xs ih =>
    rw [show mkV d inl (x :: xs) = [⟨x, d, inl⟩] ++ mkV d inl xs from rfl, muV_app, ih]
    simp [muV, Nat.add_mul, Nat.add_comm]
theorem mu_drop (V : List V3) (v : V3) (xs : List Nat) (inl : Bool) (hd : v.depth ≤ 200) (hx : xs.length ≤ 607) : muV (V ++ mkV (v.depth + 1) inl xs) < muV (V ++ [v]) := by
  rw [muV_app, muV_app, muV_kids, show muV [v] = costV v.depth by simp [muV], costV_step v.depth hd]
  have := costV_pos (v.depth + 1)
  have h2 : xs.length * costV (v.depth + 1) ≤ 607 * costV (v.depth + 1) := Nat.mul_le_mul_right _ hx
  generalize costV (v.depth + 1) = c at *
  omega
/-- Where a visit lies on the list, its depth bounds. -/
def PosOK (n : Nat) (V : List V3) : Prop := ∀ i (h : i < V.length), ((i : Int) + 1) ≤ 607 * (V[i].depth - 2) ∧ V[i].depth ≤ 201 ∧ V[i].id < n
theorem PosOK.len {n : Nat} {V : List V3} (h : PosOK n V) : V.length ≤ 130000 := by
  rcases Nat.eq_zero_or_pos V.length with h0 | h0
  · omega
  · have := h (V.length - 1) (by omega)
    omega
theorem PosOK.init {n : Nat} {V : List V3} {v : V3} (h : PosOK n (V ++ [v])) : PosOK n V ∧ ((V.length : Int) + 1) ≤ 607 * (v.depth - 2) ∧ v.depth ≤ 201 ∧ v.id < n := by
  constructor
  · intro i hi
    have := h i (by simp; omega)
    rw [List.getElem_append_left hi] at this
    exact this
  · have := h V.length (by simp)
    rw [List.getElem_append_right (Nat.le_refl _)] at this
    simpa using this
theorem PosOK.push {n : Nat} {V : List V3} {d : Int} {inl : Bool} {xs : List Nat} (h : PosOK n V) (hd : (V.length : Int) + 607 ≤ 607 * (d - 2)) (hd2 : d ≤ 201) (hx : xs.length ≤ 607) (hm : ∀ c ∈ xs, c < n) : PosOK n (V ++ mkV d inl xs) := by
  intro i hi
  rw [List.length_append, List.length_map] at hi
  by_cases h1 : i < V.length
  · rw [List.getElem_append_left h1]
    exact h i h1
  · rw [List.getElem_append_right (by omega), List.getElem_map]
    exact ⟨by show ((i : Int) + 1) ≤ 607 * (d - 2); omega, hd2, hm _ (List.getElem_mem _)⟩
theorem flatV_get (V : List V3) (i j : Nat) (hi : i < V.length) (hj : j < 3) : (flatV V)[i * 3 + j]? = V[i].c[j]? := by
  induction V generalizing i with
  | nil => simp at hi
  | cons x V ih =>
    have hx : x.c.toList.length = 3 := rfl
    cases i with
    | zero =>
      rw [show flatV (x :: V) = x.c.toList ++ flatV V from rfl, Nat.zero_mul, Nat.zero_add, List.getElem?_append_left (by omega)]
      simp
    | succ i =>
      rw [show flatV (x :: V) = x.c.toList ++ flatV V from rfl, List.getElem?_append_right (by simp; omega), show (i + 1) * 3 + j - x.c.toList.length = i * 3 + j by simp; omega]
      exact ih i (by simpa using hi)
/-- The list without its last. -/
theorem own_shrink {w : World} {B g cap : Nat} {V : List V3} {v : V3} (h : w.ownsRow B 109 3 (.slice (some ⟨g, 0, none⟩) (V ++ [v]).length cap) (V ++ [v]).length (flatV (V ++ [v]))) :
    w.ownsRow B 109 3 (.slice (some ⟨g, 0, none⟩) V.length cap) V.length (flatV V) := by
  refine ⟨by rw [flatV_len], ?_⟩
  rcases h.2 with ⟨hv, h0⟩ | ⟨g', cap', cur, hv, h1, h2, h3, h4, h5, h6⟩
  · simp at h0
  · injection hv with e1 e2 e3
    injection e1 with e1
    injection e1 with e1 _ _
    subst e1 e3
    refine .inr ⟨g, cap, cur, rfl, h1, h2, by rw [List.length_append, List.length_singleton] at h3; omega, h4, h5, ?_⟩
    have h7 : List.take (V.length * 3) (List.take ((V ++ [v]).length * 3) cur.toList) = List.take (V.length * 3) cur.toList := by
      rw [List.take_take, Nat.min_eq_left (by rw [List.length_append]; omega)]
    rw [← h7, h6, flatV_snoc, List.take_append_of_le_length (by rw [flatV_len]; exact Nat.le_refl _), List.take_of_length_le (by rw [flatV_len]; exact Nat.le_refl _)]
theorem own_cap {w : World} {base e size n c : Nat} {oa : Option Addr} {xs : List Value} (h : w.ownsRow base e size (.slice oa n c) n xs) : n ≤ c := by
  rcases h.2 with ⟨hv, h0⟩ | ⟨g, cap, cur, hv, _, _, hc, _⟩
  · omega
  · simp only [Value.slice.injEq] at hv
    omega
theorem Good.ks_len {l : List Nd} {ks : Nat → List Nat} (h : Good l ks) (hl : l.length ≤ 607) (id : Nat) (hid : id < l.length) : (ks id).length ≤ 607 :=
  Nat.le_trans (nodup_bound l.length (ks id) (h.nod id hid) fun c hc => (h.mem id hid c hc).1) hl
set_option maxHeartbeats 8000000 in
set_option maxRecDepth 100000 in
theorem walk73 (BA p g cap : Nat) (l : List Nd) (ks : Nat → List Nat) (ca ca2 ib db : Nat) (id : Nat) (w : World) (hA : ArO w BA p g cap l) (hG : Good l ks) (hX : Ex l) (hl : l.length ≤ 607) (hid : id < l.length) (hE : Env w)
    (hca : w.heap[ca]? = some (.cells #[.pointer (some ⟨p, 0, none⟩)] 24 (0, 0))) (hca2 : w.heap[ca2]? = some (.cells #[.pointer (some ⟨p, 0, none⟩)] 24 (0, 0)))
    (hib : w.heap[ib]? = some (.cells #[.int .i64 (id : Int)] 3 (0, 0))) (hdb : w.heap[db]? = some (.cells #[.int .i64 3] 3 (0, 0))) :
    Calls Tryz.prog 73 #[.func (.func 57) #[] #[.pointer (some ⟨ca2, 0, none⟩)], .pointer (some ⟨ca, 0, none⟩), .pointer (some ⟨ib, 0, none⟩), .pointer (some ⟨db, 0, none⟩)] w fun e w' => e = .returned (.bool ((mkV 3 false (ks id)).all (visOK l ks))) ∧ Below w.heap.size w w' := by
  have hal : ∀ n ∈ l, n.al.length ≤ 1024 := fun n hn => (hX.sm n hn).al
  have hT0 : Todo ((w.alloc (.cells #[] 109)).alloc (.cells #[.slice (some ⟨w.heap.size, 0, none⟩) 0 0] 122)) w.heap.size (w.heap.size + 1) [] := ⟨⟨w.heap.size, 0, at_new _ _ _ (by simp), (World.ownsRow_lit (base := w.heap.size) (e := 109) (size := 3) w #[] 0 (Nat.le_refl _) (by decide) rfl).alloc _⟩, by omega⟩
  have hF0 : Fr w.heap.size [109, 122] w ((w.alloc (.cells #[] 109)).alloc (.cells #[.slice (some ⟨w.heap.size, 0, none⟩) 0 0] 122)) := ((Fr.refl _ _ w).alloc (Nat.le_refl _) _).alloc (Nat.le_refl _) _
  have kl := hG.ks_len hl id hid
  have hch := hG.chain id hid
  rw [show gN l id = l[id] from getD_of hid] at hch
  have A0 := add74 BA p g cap l ca w.heap.size (w.heap.size + 1) [] id 3 false (ks id) _ (hA.keep2 hF0) hid hch (by omega) (by simp; omega) (hF0.blk hca (by decide)) hT0 (by simp; omega)
  have ci := blk_cells (hF0.blk hib (by decide)) 0
  have cd := blk_cells (hF0.blk hdb (by decide)) 0
  obtain ⟨R, hRe⟩ : ∃ R, R = (mkV 3 false (ks id)).all (visOK l ks) := ⟨_, rfl⟩
  rw [← hRe]
  have hRe := Go.Lib.hid hRe
  go_enter Tryz.func73, Tryz.ntmps73
  go_wp2_with (go_at_call 74; refine A0.mono ?_; rintro e w1 ⟨rfl, hT1, hf1⟩)
  rw [List.nil_append] at hT1
  have hFw := hF0.trans hf1
  have hp0 : PosOK l.length (mkV 3 false (ks id)) := PosOK.push (V := []) (fun i hi => by simp at hi) (by simp) (by omega) kl fun c hc => (hG.mem id hid c hc).1
  clear A0 ci cd hT0 hF0 hf1
  go_loopg [8, 9, 10, 11] (muV (mkV 3 false (ks id))) (fun gg _ _ _ _ wr => ∃ V, muV V ≤ gg ∧ PosOK l.length V ∧ Todo wr w.heap.size (w.heap.size + 1) V ∧ Fr w.heap.size [109, 122] w wr ∧ V.all (visOK l ks) = R)
  case atStart => exact ⟨_, Nat.le_refl _, hp0, hT1, hFw, hRe.out.symm⟩
  case round =>
    clear hp0 hT1 hFw hRe
    obtain ⟨V, hmu, hpos, hT, hf, hR⟩ := hrel
    obtain ⟨gt, ct, ht, hrow⟩ := hT.ex
    rcases List.eq_nil_or_concat V with rfl | ⟨V', v, rfl⟩
    · have ct0 := blk_cells ht 0
      have HR := Go.Lib.hid hR
      clear hR
      rw [List.length_nil] at ct0
      go_wp2
      go_ret
      exact ⟨ret_bool (by rw [← HR.out]; rfl), hf.below⟩
    · rw [List.concat_eq_append] at *
      obtain ⟨hp1, hp2, hp3, hp4⟩ := hpos.init
      have hn3 := hpos.len
      rw [List.length_append, List.length_singleton] at hn3
      have hcell : ∀ j, j < 3 → wr.cell? ⟨gt, V'.length * 3 + j, none⟩ = v.c[j]? := fun j hj => by
        rw [hrow.cellAt _ (by rw [List.length_append, List.length_singleton]; omega), flatV_get _ _ j (by simp) hj, List.getElem_append_right (Nat.le_refl _)]
        simp
      have hrow' := own_shrink hrow
      have hle := own_cap hrow'
      have hmd := mu_drop V' v (ks v.id) (resB l (gN l v.id) v.depth v.inl == 1)
      have hvs := vis_step hG hX v hp4
      rw [List.all_append, show [v].all (visOK l ks) = visOK l ks v by simp] at hR
      have hkl := hG.ks_len hl v.id hp4
      have hkm := hG.mem v.id hp4
      have hch' := hG.chain v.id hp4
      obtain ⟨vid, depth, inl⟩ := v
      dsimp only at *
      rw [show gN l vid = l[vid] from getD_of hp4] at hmd hvs hch'
      rw [List.length_append, List.length_singleton] at ht hrow
      have c0 := hcell 0 (by omega)
      have c1 := hcell 1 (by omega)
      have c2 := hcell 2 (by omega)
      simp only [Nat.add_zero, List.getElem?_toArray, List.getElem?_cons_zero, List.getElem?_cons_succ] at c0 c1 c2
      have ct0 := blk_cells ht 0
      have cf0 := blk_free ht 0
      have hnt : w.heap.size + 1 < wr.heap.size := blk_lt ht
      have hB : w.heap.size ≤ wr.heap.size := by omega
      have f2 : Fr w.heap.size [122] wr (wr.setCell ⟨w.heap.size + 1, 0, none⟩ (.slice (some ⟨gt, 0, none⟩) V'.length ct)) := (Fr.refl _ _ wr).set ht (by simp) (by omega) _
      have hss : (wr.setCell ⟨w.heap.size + 1, 0, none⟩ (.slice (some ⟨gt, 0, none⟩) V'.length ct)).heap.size = wr.heap.size := by simp
      have ht1 := set_blk (i := 0) ht (.slice (some ⟨gt, 0, none⟩) V'.length ct)
      have hown1 := own_fr hrow' f2 (by decide)
      have f1 : Fr w.heap.size [109, 122] (wr.setCell ⟨w.heap.size + 1, 0, none⟩ (.slice (some ⟨gt, 0, none⟩) V'.length ct)) ((wr.setCell ⟨w.heap.size + 1, 0, none⟩ (.slice (some ⟨gt, 0, none⟩) V'.length ct)).alloc (.cells #[.int .i64 (vid : Int), .int .i64 depth, .bool inl] 109)) := (Fr.refl _ _ _).alloc (by omega) _
      have hTa : Todo ((wr.setCell ⟨w.heap.size + 1, 0, none⟩ (.slice (some ⟨gt, 0, none⟩) V'.length ct)).alloc (.cells #[.int .i64 (vid : Int), .int .i64 depth, .bool inl] 109)) w.heap.size (w.heap.size + 1) V' := ⟨⟨gt, ct, at_old ht1 _, hown1.alloc _⟩, by omega⟩
      have hvb := at_new (wr.setCell ⟨w.heap.size + 1, 0, none⟩ (.slice (some ⟨gt, 0, none⟩) V'.length ct)) (.cells #[.int .i64 (vid : Int), .int .i64 depth, .bool inl] 109) wr.heap.size hss.symm
      have fa := hf.trans ((f2.mono (T' := [109, 122]) (by simp)).trans f1)
      have hsa : ((wr.setCell ⟨w.heap.size + 1, 0, none⟩ (.slice (some ⟨gt, 0, none⟩) V'.length ct)).alloc (.cells #[.int .i64 (vid : Int), .int .i64 depth, .bool inl] 109)).heap.size = wr.heap.size + 1 := by simp
      have N := node21 BA p g cap l vid _ (hA.keep2 fa) hp4 (hal _ (List.getElem_mem hp4))
      have cca := blk_cells (fa.blk hca (by decide)) 0
      have HH := Go.Lib.hid (And.intro hmu (And.intro hp1 (And.intro hR (And.intro hvs (And.intro hmd (And.intro hkm hch'))))))
      clear hmu hp1 hR hvs hmd hkm hch' hcell hrow hrow' hT hpos hf f1 f2 ht1 hown1
      have hnl : V'.length = V'.length := rfl
      generalize hWa : (wr.setCell ⟨w.heap.size + 1, 0, none⟩ (.slice (some ⟨gt, 0, none⟩) V'.length ct)).alloc (.cells #[.int .i64 (vid : Int), .int .i64 depth, .bool inl] 109) = Wa at hTa hvb fa hsa N cca
      subst hWa
      go_wp2_with fail
      refine N.mono ?_
      rintro e w3 ⟨b, rfl, hat3, hb3, hw3⟩
      have hB3 := Nat.le_trans fa.size hw3.size
      have hT3 := hTa.below hw3
      have hv3 := bblk hw3 hvb
      have f3 := fa.trans (Fr.of_below (T := [109, 122]) fa.size hw3)
      have hn4 := at_new w3 (.cells ((l[vid]).look b) 52) _ rfl
      have hw4 := bal (Below.refl w3.heap.size w3) (.cells ((l[vid]).look b) 52)
      have f4 := f3.trans (Fr.of_below (T := [109, 122]) f3.size hw4)
      have hv4 := bblk hw4 hv3
      have cv4 := blk_cells hv4
      have cn4 := blk_cells hn4
      have hT4 := hT3.below hw4
      have hE4 := hE.below ((f4.below).trans (Below.refl _ _))
      have K := body57 BA p g cap l l[vid] b ca2 (vid : Int) depth inl _ (hA.keep2 f4) hal (bblk hw4 hat3) (hX.sm _ (List.getElem_mem hp4)) hE4 (f4.blk hca2 (by decide))
      obtain ⟨r, hr⟩ : ∃ r, r = resB l l[vid] depth inl := ⟨_, rfl⟩
      rw [← hr] at K
      have HR := Go.Lib.hid hr
      clear hr N cca hT3 hv3 hat3
      unfold Nd.look at *
      go_wp2_with fail
      refine K.mono ?_
      rintro e w5 ⟨rfl, hw5⟩
      have f5 := f4.trans (Fr.of_below (T := [109, 122]) f4.size hw5)
      have hT5 := hT4.below hw5
      have cv5 := blk_cells (bblk hw5 hv4)
      clear K hT4 hv4 cv4 cn4 hn4 hE4
      by_cases hr0 : r < 0
      · have hrb : decide (r < 0) = true := decide_eq_true hr0
        go_wp2
        go_ret
        exact ⟨ret_bool (by rw [← HH.out.2.2.1, HH.out.2.2.2.1.1 (by rw [← HR.out]; exact hr0)]; simp), f5.below⟩
      · have hrb : decide (r < 0) = false := decide_eq_false hr0
        have hr1 : 0 ≤ resB l l[vid] depth inl := by rw [← HR.out]; omega
        obtain ⟨hd, hvis⟩ := HH.out.2.2.2.1.2 hr1
        have A1 := add74 BA p g cap l ca w.heap.size (w.heap.size + 1) V' vid (depth + 1) (r == 1) (ks vid) w5 (hA.keep2 f5) hp4 HH.out.2.2.2.2.2.2 (by omega) (by omega) (f5.blk hca (by decide)) hT5 f5.size
        have hmu2 := HH.out.2.2.2.2.1 hd hkl
        rw [← HR.out] at hmu2 hvis
        have HM := Go.Lib.hid (And.intro hmu2 hvis)
        clear hmu2 hvis hT5 hr1
        go_wp2_with (go_at_call 74; refine A1.mono ?_; rintro e w6 ⟨rfl, hT6, hf6⟩)
        go_roundg (muV (V' ++ mkV (depth + 1) (r == 1) (ks vid)))
        case measure => have := HM.out.1; have := HH.out.1; omega
        case rel => exact ⟨_, Nat.le_refl _, PosOK.push HH.out.2.1 (by omega) (by omega) hkl (fun c hc => (HH.out.2.2.2.2.2.1 c hc).1), hT6, f5.trans hf6, by rw [List.all_append, ← HH.out.2.2.1, HM.out.2]⟩
end Go.Proofs.YthfdiinfeljeeaaGreatDoor
/- Is all in a body right? -/
namespace Go.Proofs.YthfdiinfeljeeaaGreatDoor
open Go.RowKit
theorem walk56 (p : Nat) (id d : Int) (w : World) : Calls Tryz.prog 56 #[.pointer (some ⟨p, 0, none⟩), .int .i64 id, .int .i64 d] w fun e w' =>
    e = .returned (.func (.func 73) #[] #[.pointer (some ⟨w.heap.size, 0, none⟩), .pointer (some ⟨w.heap.size + 1, 0, none⟩), .pointer (some ⟨w.heap.size + 2, 0, none⟩)]) ∧ ((w.alloc (.cells #[.pointer (some ⟨p, 0, none⟩)] 24)).alloc (.cells #[.int .i64 id] 3)).alloc (.cells #[.int .i64 d] 3) = w' := by
  go_enter Tryz.func56, Tryz.ntmps56
  go_wp2
  go_ret
  exact ⟨rfl, rfl⟩
theorem mkV_all (l : List Nd) (ks : Nat → List Nat) (hG : Good l ks) (id : Nat) (hid : id < l.length) : (mkV 3 false (ks id)).all (visOK l ks) = kidsV (vN l) (ks id) fun c => oneV (vN l) ks 198 c true := by
  have := kids_vis hG id hid 2 false 198 (by decide)
  exact this
set_option maxHeartbeats 400000 in
set_option maxRecDepth 100000 in
theorem body29 (BA p g cap : Nat) (l : List Nd) (ks : Nat → List Nat) (id : Nat) (w : World) (hA : ArO w BA p g cap l) (hG : Good l ks) (hX : Ex l) (hl : l.length ≤ 607) (hid : id < l.length) (hE : Env w) :
    Calls Tryz.prog 29 #[.pointer (some ⟨p, 0, none⟩), .int .i64 (id : Int)] w fun e w' => e = .returned (.bool (kidsV (vN l) (ks id) fun c => oneV (vN l) ks 198 c true)) ∧ Below w.heap.size w w' := by
  rw [← mkV_all l ks hG id hid]
  have hb0 := bal (Below.refl w.heap.size w) (.cells #[.pointer (some ⟨p, 0, none⟩)] 24)
  have h0 := at_new w (.cells #[.pointer (some ⟨p, 0, none⟩)] 24) _ rfl
  obtain ⟨x, hx⟩ : ∃ x, x = (mkV 3 false (ks id)).all (visOK l ks) := ⟨_, rfl⟩
  rw [← hx]
  have HX := Go.Lib.hid hx
  clear hx
  have hnb : w.heap.size = w.heap.size := rfl
  go_enter Tryz.func29, Tryz.ntmps29
  go_wp2_with fail
  generalize w.alloc (.cells #[.pointer (some ⟨p, 0, none⟩)] 24) = W at *
  refine (walk56 p id 3 W).mono ?_
  rintro e w1 ⟨rfl, h3⟩
  have hb3 : Below W.heap.size W w1 := by rw [← h3]; exact bal (bal (bal (Below.refl _ _) _) _) _
  have hbb := hb0.trans ⟨hb3.os, hb3.tape, hb3.output, hb3.size, fun k hk => hb3.block k (Nat.lt_of_lt_of_le hk hb0.size)⟩
  have e1 : w1.heap[W.heap.size]? = some (.cells #[.pointer (some ⟨p, 0, none⟩)] 24 (0, 0)) := by rw [← h3]; exact at_old (at_old (at_new W _ _ rfl) _) _
  have e2 : w1.heap[W.heap.size + 1]? = some (.cells #[.int .i64 (id : Int)] 3 (0, 0)) := by rw [← h3]; exact at_old (at_new _ _ _ (by simp)) _
  have e3 : w1.heap[W.heap.size + 2]? = some (.cells #[.int .i64 3] 3 (0, 0)) := by rw [← h3]; exact at_new _ _ _ (by simp)
  have R := walk73 BA p g cap l ks W.heap.size w.heap.size (W.heap.size + 1) (W.heap.size + 2) id w1 (hA.below hbb) hG hX hl hid (hE.below hbb) e1 (bblk hb3 h0) e2 e3
  rw [← HX.out] at R
  clear h3 e1 e2 e3 hb3 h0 hA hG hX hE hb0
  go_wp2_with (go_at_call 73; refine R.mono ?_; rintro e w2 ⟨rfl, hw2⟩)
  go_ret
  exact ⟨rfl, hbb.trans ⟨hw2.os, hw2.tape, hw2.output, hw2.size, fun k hk => hw2.block k (Nat.lt_of_lt_of_le hk hbb.size)⟩⟩
end Go.Proofs.YthfdiinfeljeeaaGreatDoor
/- A head: plain facts, and the start of the walk. -/
namespace Go.Proofs.YthfdiinfeljeeaaGreatDoor
open Go.RowKit Go.Shelf
attribute [local go_sem] Oper.semAt_some
theorem kids_cases {l : List Nd} {ks : Nat → List Nat} (hG : Good l ks) (id : Nat) (hid : id < l.length) :
    (ks id = [] ∧ (gN l id).fst = -1 ∧ (gN l id).lst = -1) ∨ (∃ t : Nat, ks id = [t] ∧ (gN l id).fst = (t : Int) ∧ (gN l id).lst = (t : Int) ∧ t < l.length) ∨ ((gN l id).fst ≠ (gN l id).lst ∧ 2 ≤ (ks id).length) := by
  have h1 := hG.fst id hid
  have h2 := hG.lst id hid
  have hn := hG.nod id hid
  rcases hk : ks id with _ | ⟨t, _ | ⟨t2, r⟩⟩
  · rw [hk] at h1 h2
    exact .inl ⟨rfl, by rw [h1]; rfl, by rw [h2]; rfl⟩
  · rw [hk] at h1 h2
    exact .inr (.inl ⟨t, rfl, by rw [h1]; rfl, by rw [h2]; rfl, (hG.mem id hid t (by rw [hk]; simp)).1⟩)
  · right; right
    rw [hk] at h1 h2 hn
    refine ⟨?_, by simp⟩
    rw [h1, h2]
    intro he
    have e1 : nx (t :: t2 :: r) 0 = (t : Int) := rfl
    have hlt : r.length < (t2 :: r).length := by simp
    have e2 : pv (t :: t2 :: r) (t :: t2 :: r).length = (((t2 :: r)[r.length]'hlt : Nat) : Int) := by
      unfold pv
      rw [if_neg (by simp), show (t :: t2 :: r).length - 1 = r.length + 1 by simp, nx_get _ _ (by simp)]
      simp
    rw [e1, e2] at he
    have he : (t2 :: r)[r.length]'hlt = t := by omega
    exact (List.nodup_cons.1 hn).1 (he ▸ List.getElem_mem hlt)
theorem blk_own {β : Type} (B : Nat) (cs : Array Value) (t : TypeId) : Own (fun (_ : β) W => W.heap[B]? = some (.cells cs t (0, 0))) := fun _ A _ _ hs hg hr =>
  (hg.block B (blk_lt hs) (fun e => by obtain ⟨o, ho, hc⟩ := hr B e.symm; rw [hs] at ho; cases ho; simp [Obj.isCells] at hc)).trans hs
theorem below_keeps {B : Nat} {W W' : World} (h : Below W.heap.size W W') : KeepsFrom B W W' := KeepsFrom.of_grownBy (below_grown h) (fun j e => by cases e)
theorem look12 {W : World} {B b : Nat} {n : Nd} (h : W.heap[B]? = some (.cells (n.look b) 52 (0, 0))) :
    W.cell? ⟨B, 0, none⟩ = some (.int .i64 n.kind) ∧ W.cell? ⟨B, 1, none⟩ = some (.int .i64 n.space) ∧ W.cell? ⟨B, 2, none⟩ = some (.string n.name) ∧ W.cell? ⟨B, 3, none⟩ = some (.slice (some ⟨b, 0, none⟩) n.al.length n.al.length) ∧
    W.cell? ⟨B, 4, none⟩ = some (.string n.data) ∧ W.cell? ⟨B, 5, none⟩ = some (.string n.sys) ∧ W.cell? ⟨B, 6, none⟩ = some (.int .i64 n.up) ∧ W.cell? ⟨B, 7, none⟩ = some (.int .i64 n.fst) ∧
    W.cell? ⟨B, 8, none⟩ = some (.int .i64 n.lst) ∧ W.cell? ⟨B, 9, none⟩ = some (.int .i64 n.prv) ∧ W.cell? ⟨B, 10, none⟩ = some (.int .i64 n.nxt) ∧ W.cell? ⟨B, 11, none⟩ = some (.int .i64 n.inn) := by
  have c := blk_cells h
  exact ⟨c 0, c 1, c 2, c 3, c 4, c 5, c 6, c 7, c 8, c 9, c 10, c 11⟩
def bareN (n : Nd) (nm : List UInt8) : Bool := n.kind == 1 && n.space == 0 && (n.name.toList == nm) && ((n.al.length : Int) == 0)
theorem bareN_V (l : List Nd) (i : Nat) (nm : List UInt8) : bareN (gN l i) nm = bareV (vN l) i nm := by
  unfold bareN bareV vN
  congr 1
  rw [Bool.eq_iff_iff, beq_iff_eq, beq_iff_eq]
  dsimp only
  omega
end Go.Proofs.YthfdiinfeljeeaaGreatDoor
/- Is a head right? -/
namespace Go.Proofs.YthfdiinfeljeeaaGreatDoor
open Go.RowKit Go.Shelf
attribute [local go_sem] Oper.semAt_some
theorem results_cell_boolN {P : Program} {fn : Func} {p : Tmp} {ty : TypeId} (h : fn.results = #[.cell p ty]) (tmps : Array Value) (w : World) (a : Addr) (v : Value)
    (hp : tmps.getD p undef = .pointer (some a)) (hc : w.cell? a = some v) (hu : P.underlying ty = some .bool) : (results fn tmps).run P w = .ok v w := by
  have hp' : tmps[p]?.getD undef = .pointer (some a) := by simpa using hp
  have hi : (isAgg ty).run P w = .ok false w := by simp [isAgg, run_underlying hu]
  simp [results, h, hp', asAddr, loadVar, hi, hc]
theorem hs_head : (⟨#[104, 101, 97, 100]⟩ : ByteArray).toList = wHead := by decide +kernel
theorem hs_title : (⟨#[116, 105, 116, 108, 101]⟩ : ByteArray).toList = wTitle := by decide +kernel
theorem hs_html : (⟨#[104, 116, 109, 108]⟩ : ByteArray).toList = wHtml := by decide +kernel
theorem hs_body : (⟨#[98, 111, 100, 121]⟩ : ByteArray).toList = wBody := by decide +kernel
theorem bare26N (n : Nd) (b : Nat) (name : ByteArray) (L : List UInt8) (hL : name.toList = L) (w : World) : Calls Tryz.prog 26 #[.agg (n.look b), .string name] w fun e w' => e = .returned (.bool (bareN n L)) ∧ Below w.heap.size w w' := by
  have := bare26 n b name w
  rw [hL] at this
  exact this
def textN (n : Nd) : Bool := n.kind == 2 && !n.data.toList.isEmpty && plainB n.data
set_option maxRecDepth 100000 in
set_option maxHeartbeats 400000 in
theorem head27a (B p g cap : Nat) (l : List Nd) (n : Nd) (b t c : Nat) (w : World) (R : Bool) (hA : ArO w B p g cap l) (hE : Env w)
    (hal : ∀ m ∈ l, m.al.length ≤ 1024) (hds : ∀ m ∈ l, m.data.size ≤ 1048576)
    (hbn : bareN n wHead = true) (hfl : n.fst = n.lst)
    (ht : n.fst ≠ -1 → n.fst = (t : Int) ∧ t < l.length)
    (h0 : n.fst = -1 → R = true)
    (h1 : n.fst ≠ -1 → bareN (gN l t) wTitle = false → R = false)
    (h2 : n.fst ≠ -1 → bareN (gN l t) wTitle = true → (gN l t).fst ≠ (gN l t).lst → R = false)
    (h3 : n.fst ≠ -1 → bareN (gN l t) wTitle = true → (gN l t).fst = (gN l t).lst → (gN l t).fst = -1 → R = true)
    (h4 : n.fst ≠ -1 → bareN (gN l t) wTitle = true → (gN l t).fst = (gN l t).lst → (gN l t).fst ≠ -1 → (gN l t).fst = (c : Int) ∧ c < l.length ∧ R = textN (gN l c)) :
    Calls Tryz.prog 27 #[.pointer (some ⟨p, 0, none⟩), .agg (n.look b)] w fun e w' => e = .returned (.bool R) ∧ Below w.heap.size w w' := by
  have HH := Go.Lib.hid (And.intro ht (And.intro h0 (And.intro h1 (And.intro h2 (And.intro h3 h4)))))
  clear ht h0 h1 h2 h3 h4
  have BH := fun W => bare26N n b ⟨#[104, 101, 97, 100]⟩ wHead hs_head W
  have OH := fun W => only24 p b n W
  rw [hbn] at BH
  clear hbn
  have hO := fun (m : Nat) (hm : 1 ≤ m) (W0 : World) (b1 b2 : Nat) hA h1 h2 h3 => only_stops m hm B p g cap l n b b1 b2 t W0 hA h1 h2 h3 hal
  have hO2 := fun (m : Nat) (hm : 1 ≤ m) (W0 : World) (x b1 b2 : Nat) hA h1 h2 h3 => only_stops m hm B p g cap l (gN l t) x b1 b2 c W0 hA h1 h2 h3 hal
  have hCd : c < l.length → (gN l c).data.size ≤ 1048576 := fun h => by rw [show gN l c = l[c] from getD_of h]; exact hds _ (List.getElem_mem h)
  generalize gN l t = T at *
  generalize gN l c = C at *
  have hone : (n.fst ≠ -1 → oneN n = 1) ∧ (n.fst = -1 → oneN n = 0) := ⟨fun h => by unfold oneN; rw [if_pos ⟨h, hfl⟩], fun h => by unfold oneN; rw [if_neg (fun h' => h'.1 h)]⟩
  have hlk : ∀ {W : World} {B' : Nat}, W.heap[B']? = some (.cells (n.look b) 52 (0, 0)) → _ := fun h => look12 h
  obtain ⟨kind, space, name, al, aa, ac, data, sys, up, fst, lst, prv, nxt, inn, host⟩ := n
  dsimp only at *
  subst hfl
  unfold Nd.look at BH OH hlk hO hO2 ⊢
  dsimp only at *
  have hbx := at_old (at_old (at_new w (.cells #[.pointer (some ⟨p, 0, none⟩)] 24) _ rfl) (.cells #[.int .i64 kind, .int .i64 space, .string name, .slice (some ⟨b, 0, none⟩) al.length al.length, .string data, .string sys, .int .i64 up, .int .i64 fst, .int .i64 fst, .int .i64 prv, .int .i64 nxt, .int .i64 inn] 52)) (.cells #[.bool false] 4)
  have hnx := at_old (at_new (w.alloc (.cells #[.pointer (some ⟨p, 0, none⟩)] 24)) (.cells #[.int .i64 kind, .int .i64 space, .string name, .slice (some ⟨b, 0, none⟩) al.length al.length, .string data, .string sys, .int .i64 up, .int .i64 fst, .int .i64 fst, .int .i64 prv, .int .i64 nxt, .int .i64 inn] 52) (w.heap.size + 1) (by simp)) (.cells #[.bool false] 4)
  have hrx := at_new ((w.alloc (.cells #[.pointer (some ⟨p, 0, none⟩)] 24)).alloc (.cells #[.int .i64 kind, .int .i64 space, .string name, .slice (some ⟨b, 0, none⟩) al.length al.length, .string data, .string sys, .int .i64 up, .int .i64 fst, .int .i64 fst, .int .i64 prv, .int .i64 nxt, .int .i64 inn] 52)) (.cells #[.bool false] 4) (w.heap.size + 1 + 1) (by simp)
  have hb0 := bal (bal (bal (Below.refl w.heap.size w) (.cells #[.pointer (some ⟨p, 0, none⟩)] 24)) (.cells #[.int .i64 kind, .int .i64 space, .string name, .slice (some ⟨b, 0, none⟩) al.length al.length, .string data, .string sys, .int .i64 up, .int .i64 fst, .int .i64 fst, .int .i64 prv, .int .i64 nxt, .int .i64 inn] 52)) (.cells #[.bool false] 4)
  refine (callsIn_wide (n := 6)).1 ?_
  refine callsIn_of_wp_marks Tryz.func27 rfl trivial ?_ rfl
  simp only [Tryz.ntmps27, List.size_toArray, List.length_cons, List.length_nil, Nat.reduceAdd, Nat.reduceSub, Array.replicate_succ, Array.replicate_zero, List.push_toArray, List.append_toArray, List.nil_append, List.cons_append]
  gi_wp2_with (refine ⟨trivial, ?_⟩; gi_at_call 26; with_reducible refine (callsIn_wide.2 (BH _)).mono ?_; rintro e w1 ⟨rfl, hw1⟩; have hnx1 := bblk hw1 hnx; have cnx := blk_cells hnx1; have hbx1 := bblk hw1 hbx; have cbx := blk_cells hbx1)
  refine ⟨trivial, ?_⟩
  refine (callsIn_wide.2 (OH w1)).mono ?_
  rintro e W0 ⟨rfl, hW0⟩
  gi_wp2
  have hb1 := btr hb0 hw1
  have hle1 := hw1.size
  have q1 : W0.heap[w1.heap.size]? = some (.cells #[.pointer (some ⟨p, 0, none⟩)] 24 (0, 0)) := by rw [← hW0]; exact at_old (at_new _ _ _ rfl) _
  have q2 := at_new (w1.alloc (.cells #[.pointer (some ⟨p, 0, none⟩)] 24)) (.cells #[.int .i64 kind, .int .i64 space, .string name, .slice (some ⟨b, 0, none⟩) al.length al.length, .string data, .string sys, .int .i64 up, .int .i64 fst, .int .i64 fst, .int .i64 prv, .int .i64 nxt, .int .i64 inn] 52) (w1.heap.size + 1) (by simp)
  rw [hW0] at q2
  have hb2 : Below w1.heap.size w1 W0 := by rw [← hW0]; exact bal (bal (Below.refl _ _) _) _
  have hb3 := btr hb1 hb2
  have hsz : w.heap.size + 3 ≤ w1.heap.size := by simpa using hle1
  have hsz0 : w1.heap.size + 2 = W0.heap.size := by rw [← hW0]; simp
  have bR : Boxed W0 (w.heap.size + 1 + 1) 4 (.bool false) := bblk hb2 (bblk hw1 hrx)
  have bA := bblk hb2 hbx1
  have hA0 := hA.below hb3
  have hOO := hO 5 (by decide) W0 (w1.heap.size + 1) w1.heap.size hA0 q2 q1 (fun h => HH.out.1 h.1)
  clear hW0 BH OH hbx hnx hrx hb0 hw1 hnx1 cnx cbx hbx1 hle1 hb2 hO
  refine wpIn_rangeFunc_ownH rfl (by decide) (gf := 52) (lb := #[.pointer (some ⟨w1.heap.size + 1, 0, none⟩), .pointer (some ⟨w1.heap.size, 0, none⟩)]) rfl trivial (enters_of Tryz.func52 (by kernel_rfl) rfl)
    hOO (fun _ _ => trivial) (fun _ _ _ _ _ _ _ _ => trivial) (Below.refl _ _) (fun _ => rfl)
    (fun pre W => ((pre ≠ [] → R = true) ∧ Boxed W (w.heap.size + 1 + 1) 4 (.bool false)) ∧ W.heap[w.heap.size]? = some (.cells #[.pointer (some ⟨p, 0, none⟩)] 24 (0, 0)) ∧ Below w.heap.size w W)
    (fun c' _ W => (c' = .ret ∧ Boxed W (w.heap.size + 1 + 1) 4 (.bool R)) ∧ Below w.heap.size w W)
    (OwnFrom.and (OwnFrom.and (ownFrom_pure _ _) (Own.from (boxed_own _ _ _) _)) (OwnFrom.and (Own.from (blk_own _ _ _) _) (ownFrom_below (Nat.le_refl _) (by omega))))
    (fun c' => OwnFrom.and (OwnFrom.and (ownFrom_pure _ _) (Own.from (boxed_own _ _ _) _)) (ownFrom_below (Nat.le_refl _) (by omega)))
    ⟨⟨fun h => absurd rfl h, bR⟩, bA, hb3⟩
    (fun x a' W => ∃ Bx, w.heap.size + 1 + 1 < Bx ∧ W.heap[Bx]? = some (.cells #[.int .i64 T.kind, .int .i64 T.space, .string T.name, .slice (some ⟨x, 0, none⟩) T.al.length T.al.length, .string T.data, .string T.sys, .int .i64 T.up, .int .i64 T.fst, .int .i64 T.lst, .int .i64 T.prv, .int .i64 T.nxt, .int .i64 T.inn] 52 (0, 0)) ∧ a' = { tmps := #[.pointer (some ⟨p, 0, none⟩), .agg #[.int .i64 kind, .int .i64 space, .string name, .slice (some ⟨b, 0, none⟩) al.length al.length, .string data, .string sys, .int .i64 up, .int .i64 fst, .int .i64 fst, .int .i64 prv, .int .i64 nxt, .int .i64 inn], .pointer (some ⟨w.heap.size, 0, none⟩), .pointer (some ⟨w.heap.size + 1, 0, none⟩), .pointer (some ⟨w.heap.size + 1 + 1, 0, none⟩), .pointer (some ⟨Bx, 0, none⟩), undef, .agg #[.int .i64 kind, .int .i64 space, .string name, .slice (some ⟨b, 0, none⟩) al.length al.length, .string data, .string sys, .int .i64 up, .int .i64 fst, .int .i64 fst, .int .i64 prv, .int .i64 nxt, .int .i64 inn], .bool true, .bool false, .bool false, .pointer (some ⟨w.heap.size + 1, 7, none⟩), .int .i64 fst, .pointer (some ⟨w.heap.size + 1, 8, none⟩), .int .i64 fst, .bool false, .bool false, .pointer (some ⟨p, 0, none⟩), .agg #[.int .i64 kind, .int .i64 space, .string name, .slice (some ⟨b, 0, none⟩) al.length al.length, .string data, .string sys, .int .i64 up, .int .i64 fst, .int .i64 fst, .int .i64 prv, .int .i64 nxt, .int .i64 inn], .func (.func 52) #[] #[.pointer (some ⟨w1.heap.size + 1, 0, none⟩), .pointer (some ⟨w1.heap.size, 0, none⟩)], .agg #[.int .i64 T.kind, .int .i64 T.space, .string T.name, .slice (some ⟨x, 0, none⟩) T.al.length T.al.length, .string T.data, .string T.sys, .int .i64 T.up, .int .i64 T.fst, .int .i64 T.lst, .int .i64 T.prv, .int .i64 T.nxt, .int .i64 T.inn], undef, undef, undef, undef, undef, undef, undef, undef, undef, undef, undef, undef, undef, undef, undef, undef, undef, undef, undef, undef, undef, undef, undef, undef, undef, undef, undef], defers := [] })
    (fun x a' _ X Y row hs hg hr => by obtain ⟨Bx, e1, e2, e3⟩ := hs; exact ⟨Bx, e1, blk_own Bx _ 52 () X Y row e2 hg (fun r e => (hr r e).2), e3⟩)
    ?assign ?body ?done ?stop
  case assign =>
    rintro ly pre x W K ⟨⟨hp, bR1⟩, bA1, hB1⟩ hK
    gi_wp2
    exact hK _ _ (below_keeps (bal (Below.refl _ _) _)) trivial ⟨⟨hp, at_old bR1 _⟩, at_old bA1 _, hB1.trans ((bal (Below.refl _ _) _).mono hB1.size)⟩ ⟨W.heap.size, bR1.lt, at_new _ _ _ rfl, rfl⟩
  case body =>
    rintro ly pre x a' W hl ⟨r, hr⟩ ⟨⟨hp, bR1⟩, bA1, hB1⟩ ⟨Bx, hBx, bX, rfl⟩ hlt
    have hne : fst ≠ -1 := fun h => by have := hone.2 h; omega
    obtain ⟨-, -, k1, k2, k3, k4⟩ := HH.out
    have k1 := k1 hne
    have k2 := k2 hne
    have k3 := k3 hne
    have k4 := k4 hne
    have BT := fun W => bare26N T x ⟨#[116, 105, 116, 108, 101]⟩ wTitle hs_title W
    have OT := fun W => only24 p x T W
    have hO2 := hO2 3 (by decide)
    clear HH hp hone hOO hA0 bA bR q1 q2 hlt
    obtain ⟨kind2, space2, name2, al2, aa2, ac2, data2, sys2, up2, fst2, lst2, prv2, nxt2, inn2, host2⟩ := T
    unfold Nd.look at BT OT
    dsimp only at *
    have cX := blk_cells bX
    have cR := bR1.cell
    have fR := bR1.frozen
    have cA := blk_cells bA1
    have hbt := fun (w2 : World) (h : Below W.heap.size W w2) => hB1.trans (h.mono hB1.size)
    cases hbn : bareN ⟨kind2, space2, name2, al2, aa2, ac2, data2, sys2, up2, fst2, lst2, prv2, nxt2, inn2, host2⟩ wTitle
    · rw [hbn] at BT
      obtain rfl := k1 hbn
      clear k1 k2 k3 k4 hbn hO2 OT hne
      gi_wp2_with (refine ⟨trivial, ?_⟩; gi_at_call 26; refine (CallsIn.inRound ly (callsIn_wide.2 (BT _))).mono ?_; rintro e w2 ⟨rfl, hw2⟩; have bR2 : Boxed w2 (w.heap.size + 1 + 1) 4 (.bool false) := bblk hw2 bR1; have cR2 := bR2.cell; have fR2 := bR2.frozen)
      exact ⟨(below_keeps hw2).trans ((KeepsOthers.setCell _ _ _).from _), ⟨rfl, bR2.set _⟩, (hbt _ hw2).setCell (p := ⟨w.heap.size + 1 + 1, 0, none⟩) (by simp; omega) _⟩
    · rw [hbn] at BT
      by_cases e : fst2 = lst2
      · subst e
        have k3 := k3 hbn rfl
        have k4 := k4 hbn rfl
        have HK := Go.Lib.hid (And.intro k3 k4)
        clear k1 k2 k3 k4 hbn hne
        gi_wp2_with (refine ⟨trivial, ?_⟩; gi_at_call 26; refine (CallsIn.inRound ly (callsIn_wide.2 (BT _))).mono ?_; rintro e w2 ⟨rfl, hw2⟩; have bR2 : Boxed w2 (w.heap.size + 1 + 1) 4 (.bool false) := bblk hw2 bR1; have cR2 := bR2.cell; have bX2 := bblk hw2 bX; have cX2 := blk_cells bX2; have bA2 := bblk hw2 bA1; have cA2 := blk_cells bA2)
        refine ⟨trivial, ?_⟩
        refine (CallsIn.inRound ly (callsIn_wide.2 (OT w2))).mono ?_
        rintro e W4 ⟨rfl, hW4⟩
        gi_wp2
        have hle2 := hw2.size
        have q1 : W4.heap[w2.heap.size]? = some (.cells #[.pointer (some ⟨p, 0, none⟩)] 24 (0, 0)) := by rw [← hW4]; exact at_old (at_new _ _ _ rfl) _
        have q2 := at_new (w2.alloc (.cells #[.pointer (some ⟨p, 0, none⟩)] 24)) (.cells #[.int .i64 kind2, .int .i64 space2, .string name2, .slice (some ⟨x, 0, none⟩) al2.length al2.length, .string data2, .string sys2, .int .i64 up2, .int .i64 fst2, .int .i64 fst2, .int .i64 prv2, .int .i64 nxt2, .int .i64 inn2] 52) (w2.heap.size + 1) (by simp)
        rw [hW4] at q2
        have hb4 : Below w2.heap.size w2 W4 := by rw [← hW4]; exact bal (bal (Below.refl _ _) _) _
        have hW4s : w2.heap.size + 2 = W4.heap.size := by rw [← hW4]; simp
        have hwW := btr hw2 hb4
        have bR4 : Boxed W4 (w.heap.size + 1 + 1) 4 (.bool false) := bblk hb4 bR2
        have bA4 := bblk hb4 bA2
        have hr4 := bblk hwW hr
        have hA4 := hA.below (hbt _ hwW)
        have hE4 := hE.below (hbt _ hwW)
        have hws := hB1.size
        have hlt1 := bR1.lt
        have hOO2 := hO2 W4 x (w2.heap.size + 1) w2.heap.size hA4 q2 q1 (fun h => ⟨(HK.out.2 h.1).1, (HK.out.2 h.1).2.1⟩)
        have hone2 : (fst2 = -1 → oneN ⟨kind2, space2, name2, al2, aa2, ac2, data2, sys2, up2, fst2, fst2, prv2, nxt2, inn2, host2⟩ = 0) ∧ (fst2 ≠ -1 → oneN ⟨kind2, space2, name2, al2, aa2, ac2, data2, sys2, up2, fst2, fst2, prv2, nxt2, inn2, host2⟩ = 1) := ⟨fun h => by unfold oneN; rw [if_neg (fun h' => h'.1 h)], fun h => by unfold oneN; rw [if_pos ⟨h, rfl⟩]⟩
        clear hW4 BT OT cX cR fR cA cX2 cR2 cA2 bX bX2 bA1 bA2 hO2
        refine wpIn_rangeFunc_ownN (l₀ := ly) (r₀ := r) rfl hr4 (by decide) (gf := 52) (lb := #[.pointer (some ⟨w2.heap.size + 1, 0, none⟩), .pointer (some ⟨w2.heap.size, 0, none⟩)]) rfl trivial (enters_of Tryz.func52 (by kernel_rfl) rfl)
          (hOO2.inRound ly) (fun _ _ => trivial) (fun _ _ _ _ _ _ _ _ => trivial) (Below.refl _ _) (fun _ => rfl)
          (fun pre' W' => ((pre' = [] ∧ Boxed W' (w.heap.size + 1 + 1) 4 (.bool false)) ∧ W'.heap[w.heap.size]? = some (.cells #[.pointer (some ⟨p, 0, none⟩)] 24 (0, 0))) ∧ (Below w.heap.size W W' ∧ KeepsFrom W0.heap.size W W'))
          (fun c' _ W' => (c' = .ret ∧ Boxed W' (w.heap.size + 1 + 1) 4 (.bool R)) ∧ (Below w.heap.size W W' ∧ KeepsFrom W0.heap.size W W'))
          (OwnFrom.and (OwnFrom.and (OwnFrom.and (ownFrom_pure _ _) (Own.from (boxed_own _ _ _) _)) (Own.from (blk_own _ _ _) _)) (OwnFrom.and (ownFrom_below hws (by omega)) (ownFrom_keepsFrom (by omega))))
          (fun c' => OwnFrom.and (OwnFrom.and (ownFrom_pure _ _) (Own.from (boxed_own _ _ _) _)) (OwnFrom.and (ownFrom_below hws (by omega)) (ownFrom_keepsFrom (by omega))))
          ⟨⟨⟨rfl, bR4⟩, bA4⟩, hwW.mono hws, below_keeps hwW⟩
          (fun y a'' W' => ∃ By, w.heap.size + 1 + 1 < By ∧ W'.heap[By]? = some (.cells #[.int .i64 C.kind, .int .i64 C.space, .string C.name, .slice (some ⟨y, 0, none⟩) C.al.length C.al.length, .string C.data, .string C.sys, .int .i64 C.up, .int .i64 C.fst, .int .i64 C.lst, .int .i64 C.prv, .int .i64 C.nxt, .int .i64 C.inn] 52 (0, 0)) ∧ a'' = { tmps := #[.pointer (some ⟨p, 0, none⟩), .agg #[.int .i64 kind, .int .i64 space, .string name, .slice (some ⟨b, 0, none⟩) al.length al.length, .string data, .string sys, .int .i64 up, .int .i64 fst, .int .i64 fst, .int .i64 prv, .int .i64 nxt, .int .i64 inn], .pointer (some ⟨w.heap.size, 0, none⟩), .pointer (some ⟨w.heap.size + 1, 0, none⟩), .pointer (some ⟨w.heap.size + 1 + 1, 0, none⟩), .pointer (some ⟨Bx, 0, none⟩), .pointer (some ⟨By, 0, none⟩), .agg #[.int .i64 kind, .int .i64 space, .string name, .slice (some ⟨b, 0, none⟩) al.length al.length, .string data, .string sys, .int .i64 up, .int .i64 fst, .int .i64 fst, .int .i64 prv, .int .i64 nxt, .int .i64 inn], .bool true, .bool false, .bool false, .pointer (some ⟨w.heap.size + 1, 7, none⟩), .int .i64 fst, .pointer (some ⟨w.heap.size + 1, 8, none⟩), .int .i64 fst, .bool false, .bool false, .pointer (some ⟨p, 0, none⟩), .agg #[.int .i64 kind, .int .i64 space, .string name, .slice (some ⟨b, 0, none⟩) al.length al.length, .string data, .string sys, .int .i64 up, .int .i64 fst, .int .i64 fst, .int .i64 prv, .int .i64 nxt, .int .i64 inn], .func (.func 52) #[] #[.pointer (some ⟨w1.heap.size + 1, 0, none⟩), .pointer (some ⟨w1.heap.size, 0, none⟩)], .agg #[.int .i64 kind2, .int .i64 space2, .string name2, .slice (some ⟨x, 0, none⟩) al2.length al2.length, .string data2, .string sys2, .int .i64 up2, .int .i64 fst2, .int .i64 fst2, .int .i64 prv2, .int .i64 nxt2, .int .i64 inn2], .agg #[.int .i64 kind2, .int .i64 space2, .string name2, .slice (some ⟨x, 0, none⟩) al2.length al2.length, .string data2, .string sys2, .int .i64 up2, .int .i64 fst2, .int .i64 fst2, .int .i64 prv2, .int .i64 nxt2, .int .i64 inn2], .bool true, .bool false, .bool false, .pointer (some ⟨Bx, 7, none⟩), .int .i64 fst2, .pointer (some ⟨Bx, 8, none⟩), .int .i64 fst2, .bool false, .bool false, .pointer (some ⟨p, 0, none⟩), .agg #[.int .i64 kind2, .int .i64 space2, .string name2, .slice (some ⟨x, 0, none⟩) al2.length al2.length, .string data2, .string sys2, .int .i64 up2, .int .i64 fst2, .int .i64 fst2, .int .i64 prv2, .int .i64 nxt2, .int .i64 inn2], .func (.func 52) #[] #[.pointer (some ⟨w2.heap.size + 1, 0, none⟩), .pointer (some ⟨w2.heap.size, 0, none⟩)], .agg #[.int .i64 C.kind, .int .i64 C.space, .string C.name, .slice (some ⟨y, 0, none⟩) C.al.length C.al.length, .string C.data, .string C.sys, .int .i64 C.up, .int .i64 C.fst, .int .i64 C.lst, .int .i64 C.prv, .int .i64 C.nxt, .int .i64 C.inn], undef, undef, undef, undef, undef, undef, undef, undef, undef, undef, undef, undef, undef], defers := [] })
          (fun y a'' _ X Y row hs hg hr => by obtain ⟨By, e1, e2, e3⟩ := hs; exact ⟨By, e1, blk_own By _ 52 () X Y row e2 hg (fun r e => (hr r e).2), e3⟩)
          ?assign2 ?body2 ?done2 ?stop2
        case assign2 =>
          rintro l2 pre' y W' K ⟨⟨⟨hp, bR5⟩, bA5⟩, hB5, hK5⟩ hK
          gi_wp2
          have hlt5 := bR5.lt
          have hs5 := hB5.size
          exact hK _ _ (below_keeps (bal (Below.refl _ _) _)) trivial ⟨⟨⟨hp, at_old bR5 _⟩, at_old bA5 _⟩, hB5.trans ((bal (Below.refl _ _) _).mono (by omega)), hK5.trans (below_keeps (bal (Below.refl _ _) _))⟩ ⟨W'.heap.size, hlt5, at_new _ _ _ rfl, rfl⟩
        case body2 =>
          rintro l2 pre' y a'' W' _ _ ⟨⟨⟨rfl, bR5⟩, bA5⟩, hB5, hK5⟩ ⟨By, hBy, bY, rfl⟩ hlt
          have hne2 : fst2 ≠ -1 := fun h => by have := hone2.1 h; simp at hlt; omega
          obtain ⟨-, hcl, hR⟩ := HK.out.2 hne2
          have hs5 := hB5.size
          have hE5 := hE.below (hB1.trans hB5)
          have PP := plain54 C.data W' (hCd hcl) hE5.tabs
          clear HK hone2 hOO2 hE4 hA4 q1 q2 hlt hne2 hCd
          obtain ⟨kind3, space3, name3, al3, aa3, ac3, data3, sys3, up3, fst3, lst3, prv3, nxt3, inn3, host3⟩ := C
          unfold textN at hR
          dsimp only at *
          generalize plainB data3 = pb at *
          have cY := blk_cells bY
          have cR5 := bR5.cell
          have fR5 := bR5.frozen
          cases q1 : (kind3 == 2)
          · rw [q1] at hR
            subst hR
            clear PP
            gi_wp2
            refine ⟨trivial, ?_⟩
            gi_wp2
            exact ⟨(KeepsOthers.setCell _ _ _).from _, ⟨rfl, bR5.set _⟩, hB5.setCell (p := ⟨w.heap.size + 1 + 1, 0, none⟩) (by simp; omega) _, hK5.trans ((KeepsOthers.setCell _ _ _).from _)⟩
          · rw [q1] at hR
            cases qd : data3.toList.isEmpty
            · rw [qd] at hR
              have hR2 : R = pb := hR
              subst hR2
              clear hR
              gi_wp2_with (refine ⟨trivial, ?_⟩; gi_at_call 54; refine (CallsIn.inRound l2 (CallsIn.inRound ly (callsIn_wide.2 PP))).mono ?_; rintro e w6 ⟨rfl, hw6⟩; have bR6 : Boxed w6 (w.heap.size + 1 + 1) 4 (.bool false) := bblk hw6 bR5; have cR6 := bR6.cell; have fR6 := bR6.frozen)
              have hs6 := hw6.size
              exact ⟨(below_keeps hw6).trans ((KeepsOthers.setCell _ _ _).from _), ⟨rfl, bR6.set _⟩, (hB5.trans (hw6.mono (by omega))).setCell (p := ⟨w.heap.size + 1 + 1, 0, none⟩) (by simp; omega) _, hK5.trans ((below_keeps hw6).trans ((KeepsOthers.setCell _ _ _).from _))⟩
            · rw [qd] at hR
              subst hR
              clear PP
              gi_wp2
              refine ⟨trivial, ?_⟩
              gi_wp2
              exact ⟨(KeepsOthers.setCell _ _ _).from _, ⟨rfl, bR5.set _⟩, hB5.setCell (p := ⟨w.heap.size + 1 + 1, 0, none⟩) (by simp; omega) _, hK5.trans ((KeepsOthers.setCell _ _ _).from _)⟩
        case done2 =>
          rintro ys W' hys ⟨⟨⟨rfl, bR5⟩, bA5⟩, hB5, hK5⟩
          have hR : R = true := HK.out.1 (by
            rcases Decidable.em (fst2 = -1) with h | h
            · exact h
            · have := hone2.2 h; rw [← hys] at this; simp at this)
          gi_wp2
          exact ⟨hK5, trivial, ⟨fun _ => hR, bR5⟩, bA5, hB1.trans hB5⟩
        case stop2 =>
          rintro c' pre' W' hpre ⟨⟨rfl, bR5⟩, hB5, hK5⟩
          gi_wp2
          exact ⟨hK5, ⟨rfl, bR5⟩, hB1.trans hB5⟩
      · obtain rfl := k2 hbn e
        have hnb : (fst2 != lst2) = true := bne_iff_ne.2 e
        clear k1 k2 k3 k4 hbn hO2 OT hne e
        gi_wp2_with (refine ⟨trivial, ?_⟩; gi_at_call 26; refine (CallsIn.inRound ly (callsIn_wide.2 (BT _))).mono ?_; rintro e w2 ⟨rfl, hw2⟩; have bR2 : Boxed w2 (w.heap.size + 1 + 1) 4 (.bool false) := bblk hw2 bR1; have cR2 := bR2.cell; have fR2 := bR2.frozen; have cX2 := blk_cells (bblk hw2 bX))
        exact ⟨(below_keeps hw2).trans ((KeepsOthers.setCell _ _ _).from _), ⟨rfl, bR2.set _⟩, (hbt _ hw2).setCell (p := ⟨w.heap.size + 1 + 1, 0, none⟩) (by simp; omega) _⟩
  case done =>
    rintro D ys W hD hys ⟨⟨hp, bR1⟩, bA1, hB1⟩ hK
    have hR : R = true := by
      rcases Decidable.em (fst = -1) with h | h
      · exact HH.out.2.1 h
      · refine hp fun h' => ?_
        have := hone.1 h
        rw [← hys, h'] at this
        simp at this
    subst hR
    have cR := bR1.cell
    have fR := bR1.frozen
    have hws := hB1.size
    have hlt1 := bR1.lt
    clear HH hone hOO hO2
    gi_wp2
    have hK' := (KeepsOthers.setCell W ⟨w.heap.size + 1 + 1, 0, none⟩ (.bool true)).same D _ hK rfl
    refine ⟨by simp, .inl ⟨_, _, rfl, run_takeDeferred hK', ?_⟩⟩
    have hc5 := cell_kept (bR1.set (.bool true)).cell (grownBy_putObj' _ D (.deferred none)) (fun r e => by cases e; exact ⟨_, hK', rfl⟩)
    exact ⟨_, results_cell_boolN rfl _ _ _ _ rfl hc5 Tryz.underlying4, rfl, (hB1.setCell (p := ⟨w.heap.size + 1 + 1, 0, none⟩) (by simp; omega) _).trans (belowK_b (w := w) (Nat.le_refl _) _ D _ _ (by omega) hK' rfl rfl)⟩
  case stop =>
    rintro D c' pre W hD hpre ⟨⟨rfl, bR1⟩, hB1⟩ hK
    clear HH hone hOO hO2
    gi_wp2
    refine ⟨by simp, .inl ⟨_, _, rfl, run_takeDeferred hK, ?_⟩⟩
    have hc5 := cell_kept bR1.cell (grownBy_putObj' _ D (.deferred none)) (fun r e => by cases e; exact ⟨_, hK, rfl⟩)
    exact ⟨_, results_cell_boolN rfl _ _ _ _ rfl hc5 Tryz.underlying4, rfl, hB1.trans (belowK_b (w := w) (Nat.le_refl _) W D _ _ (by omega) hK rfl rfl)⟩
end Go.Proofs.YthfdiinfeljeeaaGreatDoor
