/- A meta with a charset behind anything without a tag: the walk. -/
import Derived.Test.YtcmhfcnjfhcpdaaDoorC5
import Derived.Test.YtcmhfcnjfhcpdaaDoorC3
import Derived.Lib.AppendStr
namespace Go.Proofs.YtcmhfcnjfhcpdaaDoor
open Go.RowKit
/-- x for <. -/
def shutX (c : UInt8) : UInt8 := if c = 60 then 120 else c
theorem shutX_ne (c : UInt8) : shutX c ≠ 60 := by
  unfold shutX
  by_cases h : c = 60
  · rw [if_pos h]; decide
  · rw [if_neg h]; exact h
section
variable {ops : Array Oper} {rest : List Oper} {o : Oper} {a : Act} {Q : Exit → Act → World → Prop}
/-- 'out = append(out, s...)', out nil or a row of the call's own, s a text. -/
theorem step_append_str {w0 W : World} (hgd : o.guard = none) (base : Nat) (s x : Operand) (ho : o.op = .call { callee := .builtin .append, args := #[s, x], argTypes := #[26, 9] })
    (v : Value) (n : Nat) (L : List UInt8) (t : ByteArray) (hs : a.eval s = v) (hx : a.eval x = .string t)
    (HO : W.ownsRow base 5 1 v n (u8s L)) (HB : Below base w0 W) (hbase : base ≤ W.heap.size) (hl : n + t.size ≤ 140737488355328)
    (h : ∀ v1 w1, w1.ownsRow base 5 1 v1 (n + t.size) (u8s (L ++ t.data.toList)) → Below base w0 w1 → W.grownBy w1 v.ownBlock → wpList Tryd.prog ops Q rest (a.put o.dst v1) w1) :
    wpList Tryd.prog ops Q (o :: rest) a W := by
  obtain ⟨i0, hi, hz0, hz1, hz2⟩ := info_parts Tryd.info5
  refine Lib.wpList_append_own_string W hgd s x 26 9 ho base 5 i0 Tryd.underlying26 Tryd.underlying9 hi hz0 hz1 hz2 v n (u8s L) hs HO t hx (by simp only [maxLen]; omega) hl hbase ?_
  intro v1 w1 hown hg _
  refine h v1 w1 ?_ (HB.grown hg hbase (own_base HO)) hg
  rw [show u8s (L ++ t.data.toList) = u8s L ++ Lib.strCells t by simp [u8s, Lib.strCells]]
  exact hown
end
theorem take_map_snoc (f : UInt8 → UInt8) (L : List UInt8) (k : Nat) (h : k < L.length) : u8s ((L.take k).map f) ++ (#[Value.int .u8 (f L[k]).toNat] : Array Value).toList = u8s ((L.take (k + 1)).map f) := by
  unfold u8s
  rw [List.take_succ_eq_append_getElem h, List.map_append, List.map_append]
  rfl
set_option maxHeartbeats 8000000 in
set_option maxRecDepth 100000 in
theorem meta5 (oa : Option Addr) (c : Nat) (L : List UInt8) (en qu : Int) (w : World) (hR : RdB w oa L) (_hm : L.length ≤ 140737488351232) (he0 : 0 ≤ en) (he1 : en < 256) (hq0 : 0 ≤ qu) (hq1 : qu < 256) (hT : Tabs w) :
    Calls Tryd.prog 5 #[.slice oa L.length c, .int .u8 en, .int .u8 qu] w fun e w' => e = .returned (.bool true) ∧ Below w.heap.size w w' := by
  go_enter Tryd.func5, Tryd.ntmps5
  go_wp2
  go_loopw [7, 8] (fun v7 v8 wr => ∃ k : Nat, k ≤ L.length ∧ k ≤ 500 ∧ v8 = .int .i64 k ∧ Below w.heap.size w wr ∧ wr.ownsRow w.heap.size 5 1 v7 k (u8s ((L.take k).map shutX))) (fun _ v8 _ => 500 - (intOf v8).toNat)
  case atStart => exact ⟨0, Nat.zero_le _, Nat.zero_le _, rfl, Below.refl _ _, own_nil _ _ _ _⟩
  case round =>
    obtain ⟨k, hk, hk5, rfl, hB, hown⟩ := hrel
    have hbs := hB.size
    by_cases hlt : k < L.length ∧ k < 500
    · obtain ⟨h1, h2⟩ := hlt
      obtain ⟨ad, rfl, hc⟩ := (hR.below hB) k h1
      have hst := take_map_snoc shutX L k h1
      have hq := beq_toNat L[k] 60
      rw [show ((60 : UInt8).toNat : Int) = 60 from rfl] at hq
      have HST := Go.Lib.hid hst
      have hl1 : (k + 1) * 1 ≤ 140737488355328 := by omega
      clear hst
      generalize L[k] = x at *
      cases hx : (x == 60) with
      | true =>
        rw [hx] at hq
        have HF := Go.Lib.hid (show shutX x = 120 by rw [shutX, if_pos (by simpa using hx)])
        clear hx
        go_wp2_with (at_builtin; refine step_append (w0 := w) rfl w.heap.size (.tmp 32) (.tmp 34) 26 5 (.int .u8 0) 1 1 rfl Tryd.underlying26 Tryd.info5 rfl (by decide) (by decide) _ k wr.heap.size (u8s ((L.take k).map shutX)) #[.int .u8 120] rfl rfl rfl rfl (by decide) hown hB hbs hl1 ?_; intro v2 w2 hown2 hB2)
        go_roundw
        case rel => exact ⟨k + 1, by omega, by omega, by go_num, hB2, by rw [← HST.out, HF.out]; exact hown2⟩
        case measure => simp [intOf]; omega
      | false =>
        rw [hx] at hq
        have HF := Go.Lib.hid (show shutX x = x by rw [shutX, if_neg (by simpa using hx)])
        clear hx
        go_wp2_with (at_builtin; refine step_append (w0 := w) rfl w.heap.size (.tmp 32) (.tmp 34) 26 5 (.int .u8 0) 1 1 rfl Tryd.underlying26 Tryd.info5 rfl (by decide) (by decide) _ k wr.heap.size (u8s ((L.take k).map shutX)) #[.int .u8 x.toNat] rfl rfl rfl rfl (by simp [Value.oneCell']) hown hB hbs hl1 ?_; intro v2 w2 hown2 hB2)
        go_roundw
        case rel => exact ⟨k + 1, by omega, by omega, by go_num, hB2, by rw [← HST.out, HF.out]; exact hown2⟩
        case measure => simp [intOf]; omega
    · have hX : ∀ c ∈ (L.take k).map shutX, c ≠ 60 := fun c hc => by
        obtain ⟨d, _, rfl⟩ := List.mem_map.1 hc
        exact shutX_ne d
      have hXl : ((L.take k).map shutX).length = k := by rw [List.length_map, List.length_take]; omega
      generalize (L.take k).map shutX = X at *
      have HX := Go.Lib.hid hX
      have HXl := Go.Lib.hid hXl
      clear hX hXl
      have hl0 : k + 14 ≤ 140737488355328 := by omega
      have hn : en % 7 = 0 ∨ en % 7 = 1 ∨ en % 7 = 2 ∨ en % 7 = 3 ∨ en % 7 = 4 ∨ en % 7 = 5 ∨ en % 7 = 6 := by omega
      have hq : qu % 3 = 0 ∨ qu % 3 = 1 ∨ qu % 3 = 2 := by omega
      rcases hn with hn | hn | hn | hn | hn | hn | hn
      all_goals rcases hq with hq | hq | hq
      · have HP := Go.Lib.hid ((pre_meta X 0 0 (by decide) (by decide) HX.out (by rw [HXl.out]; exact hk5)).trans (show some (metaF ((0 : Nat) : Int)) = some 0 by decide))
        have hlen : (X ++ tailS 0 0).length = k + 14 + 5 + 2 := by rw [List.length_append, HXl.out]; show k + (14 + 5 + 2) = _; omega
        have HLEN := Go.Lib.hid hlen
        clear hlen
        by_cases h1 : k < L.length
        all_goals
          first | (have h2 : decide ((k : Int) < 500) = false := decide_eq_false (by omega)) | (have h2 : decide ((k : Int) < (L.length : Int)) = false := decide_eq_false (by omega))
          clear hlt
          go_wp2_with (first
            | (at_builtin; refine step_append_str (w0 := w) rfl w.heap.size (.tmp 45) (.const (.string ⟨#[60, 109, 101, 116, 97, 32, 99, 104, 97, 114, 115, 101, 116, 61]⟩)) rfl _ k X _ rfl rfl (hown.alloc _ |>.alloc _) (bal (bal hB _) _) (by simp; omega) hl0 ?_; intro v3 w3 hown3 hB3 hg3; have hN := blk_cells ((hg3.block wr.heap.size (by simp; omega) (fun e => by have := own_lt hown _ e.symm; omega)).trans (at_old (at_new wr (.cells #[.string ⟨#[117, 116, 102, 45, 56]⟩, .string ⟨#[117, 116, 102, 45, 49, 54, 108, 101]⟩, .string ⟨#[117, 116, 102, 45, 49, 54, 98, 101]⟩, .string ⟨#[119, 105, 110, 100, 111, 119, 115, 45, 49, 50, 53, 50]⟩, .string ⟨#[105, 115, 111, 45, 56, 56, 53, 57, 45, 49, 53]⟩, .string ⟨#[105, 115, 111, 45, 56, 56, 53, 57, 45, 53]⟩, .string ⟨#[120, 45, 117, 115, 101, 114, 45, 100, 101, 102, 105, 110, 101, 100]⟩] 9) _ rfl) (.cells #[.string ⟨#[]⟩, .string ⟨#[34]⟩, .string ⟨#[39]⟩] 9))))
            | (at_builtin; refine step_append_str (w0 := w) rfl w.heap.size (.tmp 47) (.tmp 55) rfl _ (k + 14) (X ++ headW) ⟨#[117, 116, 102, 45, 56]⟩ rfl rfl hown3 hB3 hB3.size (by show k + 14 + 5 ≤ 140737488355328; omega) ?_; intro v4 w4 hown4 hB4 hg4)
            | (at_builtin; refine step_append_str (w0 := w) rfl w.heap.size (.tmp 57) (.const (.string ⟨#[32, 62]⟩)) rfl _ (k + 14 + 5) (X ++ headW ++ [117, 116, 102, 45, 56]) _ rfl rfl hown4 hB4 hB4.size (by show k + 14 + 5 + 2 ≤ 140737488355328; omega) ?_; intro v5 w5 hown5 hB5 hg5))
          obtain ⟨ad, cap, hv, hcap, hrd⟩ := own_some (L := X ++ tailS 0 0) (by rw [HLEN.out, show X ++ tailS 0 0 = X ++ headW ++ [117, 116, 102, 45, 56] ++ [32, 62] by rw [List.append_assoc, List.append_assoc]; rfl]; exact hown5) (by rw [HLEN.out]; omega)
          subst hv
          have P := prescan11 ad cap (X ++ tailS 0 0) w5 hcap hrd (by rw [HLEN.out]; omega) (hT.below hB5)
          rw [HP.out] at P
          refine P.mono ?_
          rintro e w6 ⟨rfl, hb6⟩
          dsimp only [preE]
          go_wp2
          go_ret
          exact ⟨rfl, btr hB5 hb6⟩
      · have HP := Go.Lib.hid ((pre_meta X 0 1 (by decide) (by decide) HX.out (by rw [HXl.out]; exact hk5)).trans (show some (metaF ((0 : Nat) : Int)) = some 0 by decide))
        have hlen : (X ++ tailS 0 1).length = k + 14 + 7 + 2 := by rw [List.length_append, HXl.out]; show k + (14 + 7 + 2) = _; omega
        have HLEN := Go.Lib.hid hlen
        clear hlen
        by_cases h1 : k < L.length
        all_goals
          first | (have h2 : decide ((k : Int) < 500) = false := decide_eq_false (by omega)) | (have h2 : decide ((k : Int) < (L.length : Int)) = false := decide_eq_false (by omega))
          clear hlt
          go_wp2_with (first
            | (at_builtin; refine step_append_str (w0 := w) rfl w.heap.size (.tmp 45) (.const (.string ⟨#[60, 109, 101, 116, 97, 32, 99, 104, 97, 114, 115, 101, 116, 61]⟩)) rfl _ k X _ rfl rfl (hown.alloc _ |>.alloc _) (bal (bal hB _) _) (by simp; omega) hl0 ?_; intro v3 w3 hown3 hB3 hg3; have hN := blk_cells ((hg3.block wr.heap.size (by simp; omega) (fun e => by have := own_lt hown _ e.symm; omega)).trans (at_old (at_new wr (.cells #[.string ⟨#[117, 116, 102, 45, 56]⟩, .string ⟨#[117, 116, 102, 45, 49, 54, 108, 101]⟩, .string ⟨#[117, 116, 102, 45, 49, 54, 98, 101]⟩, .string ⟨#[119, 105, 110, 100, 111, 119, 115, 45, 49, 50, 53, 50]⟩, .string ⟨#[105, 115, 111, 45, 56, 56, 53, 57, 45, 49, 53]⟩, .string ⟨#[105, 115, 111, 45, 56, 56, 53, 57, 45, 53]⟩, .string ⟨#[120, 45, 117, 115, 101, 114, 45, 100, 101, 102, 105, 110, 101, 100]⟩] 9) _ rfl) (.cells #[.string ⟨#[]⟩, .string ⟨#[34]⟩, .string ⟨#[39]⟩] 9))))
            | (at_builtin; refine step_append_str (w0 := w) rfl w.heap.size (.tmp 47) (.tmp 55) rfl _ (k + 14) (X ++ headW) ⟨#[34, 117, 116, 102, 45, 56, 34]⟩ rfl rfl hown3 hB3 hB3.size (by show k + 14 + 7 ≤ 140737488355328; omega) ?_; intro v4 w4 hown4 hB4 hg4)
            | (at_builtin; refine step_append_str (w0 := w) rfl w.heap.size (.tmp 57) (.const (.string ⟨#[32, 62]⟩)) rfl _ (k + 14 + 7) (X ++ headW ++ [34, 117, 116, 102, 45, 56, 34]) _ rfl rfl hown4 hB4 hB4.size (by show k + 14 + 7 + 2 ≤ 140737488355328; omega) ?_; intro v5 w5 hown5 hB5 hg5))
          obtain ⟨ad, cap, hv, hcap, hrd⟩ := own_some (L := X ++ tailS 0 1) (by rw [HLEN.out, show X ++ tailS 0 1 = X ++ headW ++ [34, 117, 116, 102, 45, 56, 34] ++ [32, 62] by rw [List.append_assoc, List.append_assoc]; rfl]; exact hown5) (by rw [HLEN.out]; omega)
          subst hv
          have P := prescan11 ad cap (X ++ tailS 0 1) w5 hcap hrd (by rw [HLEN.out]; omega) (hT.below hB5)
          rw [HP.out] at P
          refine P.mono ?_
          rintro e w6 ⟨rfl, hb6⟩
          dsimp only [preE]
          go_wp2
          go_ret
          exact ⟨rfl, btr hB5 hb6⟩
      · have HP := Go.Lib.hid ((pre_meta X 0 2 (by decide) (by decide) HX.out (by rw [HXl.out]; exact hk5)).trans (show some (metaF ((0 : Nat) : Int)) = some 0 by decide))
        have hlen : (X ++ tailS 0 2).length = k + 14 + 7 + 2 := by rw [List.length_append, HXl.out]; show k + (14 + 7 + 2) = _; omega
        have HLEN := Go.Lib.hid hlen
        clear hlen
        by_cases h1 : k < L.length
        all_goals
          first | (have h2 : decide ((k : Int) < 500) = false := decide_eq_false (by omega)) | (have h2 : decide ((k : Int) < (L.length : Int)) = false := decide_eq_false (by omega))
          clear hlt
          go_wp2_with (first
            | (at_builtin; refine step_append_str (w0 := w) rfl w.heap.size (.tmp 45) (.const (.string ⟨#[60, 109, 101, 116, 97, 32, 99, 104, 97, 114, 115, 101, 116, 61]⟩)) rfl _ k X _ rfl rfl (hown.alloc _ |>.alloc _) (bal (bal hB _) _) (by simp; omega) hl0 ?_; intro v3 w3 hown3 hB3 hg3; have hN := blk_cells ((hg3.block wr.heap.size (by simp; omega) (fun e => by have := own_lt hown _ e.symm; omega)).trans (at_old (at_new wr (.cells #[.string ⟨#[117, 116, 102, 45, 56]⟩, .string ⟨#[117, 116, 102, 45, 49, 54, 108, 101]⟩, .string ⟨#[117, 116, 102, 45, 49, 54, 98, 101]⟩, .string ⟨#[119, 105, 110, 100, 111, 119, 115, 45, 49, 50, 53, 50]⟩, .string ⟨#[105, 115, 111, 45, 56, 56, 53, 57, 45, 49, 53]⟩, .string ⟨#[105, 115, 111, 45, 56, 56, 53, 57, 45, 53]⟩, .string ⟨#[120, 45, 117, 115, 101, 114, 45, 100, 101, 102, 105, 110, 101, 100]⟩] 9) _ rfl) (.cells #[.string ⟨#[]⟩, .string ⟨#[34]⟩, .string ⟨#[39]⟩] 9))))
            | (at_builtin; refine step_append_str (w0 := w) rfl w.heap.size (.tmp 47) (.tmp 55) rfl _ (k + 14) (X ++ headW) ⟨#[39, 117, 116, 102, 45, 56, 39]⟩ rfl rfl hown3 hB3 hB3.size (by show k + 14 + 7 ≤ 140737488355328; omega) ?_; intro v4 w4 hown4 hB4 hg4)
            | (at_builtin; refine step_append_str (w0 := w) rfl w.heap.size (.tmp 57) (.const (.string ⟨#[32, 62]⟩)) rfl _ (k + 14 + 7) (X ++ headW ++ [39, 117, 116, 102, 45, 56, 39]) _ rfl rfl hown4 hB4 hB4.size (by show k + 14 + 7 + 2 ≤ 140737488355328; omega) ?_; intro v5 w5 hown5 hB5 hg5))
          obtain ⟨ad, cap, hv, hcap, hrd⟩ := own_some (L := X ++ tailS 0 2) (by rw [HLEN.out, show X ++ tailS 0 2 = X ++ headW ++ [39, 117, 116, 102, 45, 56, 39] ++ [32, 62] by rw [List.append_assoc, List.append_assoc]; rfl]; exact hown5) (by rw [HLEN.out]; omega)
          subst hv
          have P := prescan11 ad cap (X ++ tailS 0 2) w5 hcap hrd (by rw [HLEN.out]; omega) (hT.below hB5)
          rw [HP.out] at P
          refine P.mono ?_
          rintro e w6 ⟨rfl, hb6⟩
          dsimp only [preE]
          go_wp2
          go_ret
          exact ⟨rfl, btr hB5 hb6⟩
      · have HP := Go.Lib.hid ((pre_meta X 1 0 (by decide) (by decide) HX.out (by rw [HXl.out]; exact hk5)).trans (show some (metaF ((1 : Nat) : Int)) = some 0 by decide))
        have hlen : (X ++ tailS 1 0).length = k + 14 + 8 + 2 := by rw [List.length_append, HXl.out]; show k + (14 + 8 + 2) = _; omega
        have HLEN := Go.Lib.hid hlen
        clear hlen
        by_cases h1 : k < L.length
        all_goals
          first | (have h2 : decide ((k : Int) < 500) = false := decide_eq_false (by omega)) | (have h2 : decide ((k : Int) < (L.length : Int)) = false := decide_eq_false (by omega))
          clear hlt
          go_wp2_with (first
            | (at_builtin; refine step_append_str (w0 := w) rfl w.heap.size (.tmp 45) (.const (.string ⟨#[60, 109, 101, 116, 97, 32, 99, 104, 97, 114, 115, 101, 116, 61]⟩)) rfl _ k X _ rfl rfl (hown.alloc _ |>.alloc _) (bal (bal hB _) _) (by simp; omega) hl0 ?_; intro v3 w3 hown3 hB3 hg3; have hN := blk_cells ((hg3.block wr.heap.size (by simp; omega) (fun e => by have := own_lt hown _ e.symm; omega)).trans (at_old (at_new wr (.cells #[.string ⟨#[117, 116, 102, 45, 56]⟩, .string ⟨#[117, 116, 102, 45, 49, 54, 108, 101]⟩, .string ⟨#[117, 116, 102, 45, 49, 54, 98, 101]⟩, .string ⟨#[119, 105, 110, 100, 111, 119, 115, 45, 49, 50, 53, 50]⟩, .string ⟨#[105, 115, 111, 45, 56, 56, 53, 57, 45, 49, 53]⟩, .string ⟨#[105, 115, 111, 45, 56, 56, 53, 57, 45, 53]⟩, .string ⟨#[120, 45, 117, 115, 101, 114, 45, 100, 101, 102, 105, 110, 101, 100]⟩] 9) _ rfl) (.cells #[.string ⟨#[]⟩, .string ⟨#[34]⟩, .string ⟨#[39]⟩] 9))))
            | (at_builtin; refine step_append_str (w0 := w) rfl w.heap.size (.tmp 47) (.tmp 55) rfl _ (k + 14) (X ++ headW) ⟨#[117, 116, 102, 45, 49, 54, 108, 101]⟩ rfl rfl hown3 hB3 hB3.size (by show k + 14 + 8 ≤ 140737488355328; omega) ?_; intro v4 w4 hown4 hB4 hg4)
            | (at_builtin; refine step_append_str (w0 := w) rfl w.heap.size (.tmp 57) (.const (.string ⟨#[32, 62]⟩)) rfl _ (k + 14 + 8) (X ++ headW ++ [117, 116, 102, 45, 49, 54, 108, 101]) _ rfl rfl hown4 hB4 hB4.size (by show k + 14 + 8 + 2 ≤ 140737488355328; omega) ?_; intro v5 w5 hown5 hB5 hg5))
          obtain ⟨ad, cap, hv, hcap, hrd⟩ := own_some (L := X ++ tailS 1 0) (by rw [HLEN.out, show X ++ tailS 1 0 = X ++ headW ++ [117, 116, 102, 45, 49, 54, 108, 101] ++ [32, 62] by rw [List.append_assoc, List.append_assoc]; rfl]; exact hown5) (by rw [HLEN.out]; omega)
          subst hv
          have P := prescan11 ad cap (X ++ tailS 1 0) w5 hcap hrd (by rw [HLEN.out]; omega) (hT.below hB5)
          rw [HP.out] at P
          refine P.mono ?_
          rintro e w6 ⟨rfl, hb6⟩
          dsimp only [preE]
          go_wp2
          go_ret
          exact ⟨rfl, btr hB5 hb6⟩
      · have HP := Go.Lib.hid ((pre_meta X 1 1 (by decide) (by decide) HX.out (by rw [HXl.out]; exact hk5)).trans (show some (metaF ((1 : Nat) : Int)) = some 0 by decide))
        have hlen : (X ++ tailS 1 1).length = k + 14 + 10 + 2 := by rw [List.length_append, HXl.out]; show k + (14 + 10 + 2) = _; omega
        have HLEN := Go.Lib.hid hlen
        clear hlen
        by_cases h1 : k < L.length
        all_goals
          first | (have h2 : decide ((k : Int) < 500) = false := decide_eq_false (by omega)) | (have h2 : decide ((k : Int) < (L.length : Int)) = false := decide_eq_false (by omega))
          clear hlt
          go_wp2_with (first
            | (at_builtin; refine step_append_str (w0 := w) rfl w.heap.size (.tmp 45) (.const (.string ⟨#[60, 109, 101, 116, 97, 32, 99, 104, 97, 114, 115, 101, 116, 61]⟩)) rfl _ k X _ rfl rfl (hown.alloc _ |>.alloc _) (bal (bal hB _) _) (by simp; omega) hl0 ?_; intro v3 w3 hown3 hB3 hg3; have hN := blk_cells ((hg3.block wr.heap.size (by simp; omega) (fun e => by have := own_lt hown _ e.symm; omega)).trans (at_old (at_new wr (.cells #[.string ⟨#[117, 116, 102, 45, 56]⟩, .string ⟨#[117, 116, 102, 45, 49, 54, 108, 101]⟩, .string ⟨#[117, 116, 102, 45, 49, 54, 98, 101]⟩, .string ⟨#[119, 105, 110, 100, 111, 119, 115, 45, 49, 50, 53, 50]⟩, .string ⟨#[105, 115, 111, 45, 56, 56, 53, 57, 45, 49, 53]⟩, .string ⟨#[105, 115, 111, 45, 56, 56, 53, 57, 45, 53]⟩, .string ⟨#[120, 45, 117, 115, 101, 114, 45, 100, 101, 102, 105, 110, 101, 100]⟩] 9) _ rfl) (.cells #[.string ⟨#[]⟩, .string ⟨#[34]⟩, .string ⟨#[39]⟩] 9))))
            | (at_builtin; refine step_append_str (w0 := w) rfl w.heap.size (.tmp 47) (.tmp 55) rfl _ (k + 14) (X ++ headW) ⟨#[34, 117, 116, 102, 45, 49, 54, 108, 101, 34]⟩ rfl rfl hown3 hB3 hB3.size (by show k + 14 + 10 ≤ 140737488355328; omega) ?_; intro v4 w4 hown4 hB4 hg4)
            | (at_builtin; refine step_append_str (w0 := w) rfl w.heap.size (.tmp 57) (.const (.string ⟨#[32, 62]⟩)) rfl _ (k + 14 + 10) (X ++ headW ++ [34, 117, 116, 102, 45, 49, 54, 108, 101, 34]) _ rfl rfl hown4 hB4 hB4.size (by show k + 14 + 10 + 2 ≤ 140737488355328; omega) ?_; intro v5 w5 hown5 hB5 hg5))
          obtain ⟨ad, cap, hv, hcap, hrd⟩ := own_some (L := X ++ tailS 1 1) (by rw [HLEN.out, show X ++ tailS 1 1 = X ++ headW ++ [34, 117, 116, 102, 45, 49, 54, 108, 101, 34] ++ [32, 62] by rw [List.append_assoc, List.append_assoc]; rfl]; exact hown5) (by rw [HLEN.out]; omega)
          subst hv
          have P := prescan11 ad cap (X ++ tailS 1 1) w5 hcap hrd (by rw [HLEN.out]; omega) (hT.below hB5)
          rw [HP.out] at P
          refine P.mono ?_
          rintro e w6 ⟨rfl, hb6⟩
          dsimp only [preE]
          go_wp2
          go_ret
          exact ⟨rfl, btr hB5 hb6⟩
      · have HP := Go.Lib.hid ((pre_meta X 1 2 (by decide) (by decide) HX.out (by rw [HXl.out]; exact hk5)).trans (show some (metaF ((1 : Nat) : Int)) = some 0 by decide))
        have hlen : (X ++ tailS 1 2).length = k + 14 + 10 + 2 := by rw [List.length_append, HXl.out]; show k + (14 + 10 + 2) = _; omega
        have HLEN := Go.Lib.hid hlen
        clear hlen
        by_cases h1 : k < L.length
        all_goals
          first | (have h2 : decide ((k : Int) < 500) = false := decide_eq_false (by omega)) | (have h2 : decide ((k : Int) < (L.length : Int)) = false := decide_eq_false (by omega))
          clear hlt
          go_wp2_with (first
            | (at_builtin; refine step_append_str (w0 := w) rfl w.heap.size (.tmp 45) (.const (.string ⟨#[60, 109, 101, 116, 97, 32, 99, 104, 97, 114, 115, 101, 116, 61]⟩)) rfl _ k X _ rfl rfl (hown.alloc _ |>.alloc _) (bal (bal hB _) _) (by simp; omega) hl0 ?_; intro v3 w3 hown3 hB3 hg3; have hN := blk_cells ((hg3.block wr.heap.size (by simp; omega) (fun e => by have := own_lt hown _ e.symm; omega)).trans (at_old (at_new wr (.cells #[.string ⟨#[117, 116, 102, 45, 56]⟩, .string ⟨#[117, 116, 102, 45, 49, 54, 108, 101]⟩, .string ⟨#[117, 116, 102, 45, 49, 54, 98, 101]⟩, .string ⟨#[119, 105, 110, 100, 111, 119, 115, 45, 49, 50, 53, 50]⟩, .string ⟨#[105, 115, 111, 45, 56, 56, 53, 57, 45, 49, 53]⟩, .string ⟨#[105, 115, 111, 45, 56, 56, 53, 57, 45, 53]⟩, .string ⟨#[120, 45, 117, 115, 101, 114, 45, 100, 101, 102, 105, 110, 101, 100]⟩] 9) _ rfl) (.cells #[.string ⟨#[]⟩, .string ⟨#[34]⟩, .string ⟨#[39]⟩] 9))))
            | (at_builtin; refine step_append_str (w0 := w) rfl w.heap.size (.tmp 47) (.tmp 55) rfl _ (k + 14) (X ++ headW) ⟨#[39, 117, 116, 102, 45, 49, 54, 108, 101, 39]⟩ rfl rfl hown3 hB3 hB3.size (by show k + 14 + 10 ≤ 140737488355328; omega) ?_; intro v4 w4 hown4 hB4 hg4)
            | (at_builtin; refine step_append_str (w0 := w) rfl w.heap.size (.tmp 57) (.const (.string ⟨#[32, 62]⟩)) rfl _ (k + 14 + 10) (X ++ headW ++ [39, 117, 116, 102, 45, 49, 54, 108, 101, 39]) _ rfl rfl hown4 hB4 hB4.size (by show k + 14 + 10 + 2 ≤ 140737488355328; omega) ?_; intro v5 w5 hown5 hB5 hg5))
          obtain ⟨ad, cap, hv, hcap, hrd⟩ := own_some (L := X ++ tailS 1 2) (by rw [HLEN.out, show X ++ tailS 1 2 = X ++ headW ++ [39, 117, 116, 102, 45, 49, 54, 108, 101, 39] ++ [32, 62] by rw [List.append_assoc, List.append_assoc]; rfl]; exact hown5) (by rw [HLEN.out]; omega)
          subst hv
          have P := prescan11 ad cap (X ++ tailS 1 2) w5 hcap hrd (by rw [HLEN.out]; omega) (hT.below hB5)
          rw [HP.out] at P
          refine P.mono ?_
          rintro e w6 ⟨rfl, hb6⟩
          dsimp only [preE]
          go_wp2
          go_ret
          exact ⟨rfl, btr hB5 hb6⟩
      · have HP := Go.Lib.hid ((pre_meta X 2 0 (by decide) (by decide) HX.out (by rw [HXl.out]; exact hk5)).trans (show some (metaF ((2 : Nat) : Int)) = some 0 by decide))
        have hlen : (X ++ tailS 2 0).length = k + 14 + 8 + 2 := by rw [List.length_append, HXl.out]; show k + (14 + 8 + 2) = _; omega
        have HLEN := Go.Lib.hid hlen
        clear hlen
        by_cases h1 : k < L.length
        all_goals
          first | (have h2 : decide ((k : Int) < 500) = false := decide_eq_false (by omega)) | (have h2 : decide ((k : Int) < (L.length : Int)) = false := decide_eq_false (by omega))
          clear hlt
          go_wp2_with (first
            | (at_builtin; refine step_append_str (w0 := w) rfl w.heap.size (.tmp 45) (.const (.string ⟨#[60, 109, 101, 116, 97, 32, 99, 104, 97, 114, 115, 101, 116, 61]⟩)) rfl _ k X _ rfl rfl (hown.alloc _ |>.alloc _) (bal (bal hB _) _) (by simp; omega) hl0 ?_; intro v3 w3 hown3 hB3 hg3; have hN := blk_cells ((hg3.block wr.heap.size (by simp; omega) (fun e => by have := own_lt hown _ e.symm; omega)).trans (at_old (at_new wr (.cells #[.string ⟨#[117, 116, 102, 45, 56]⟩, .string ⟨#[117, 116, 102, 45, 49, 54, 108, 101]⟩, .string ⟨#[117, 116, 102, 45, 49, 54, 98, 101]⟩, .string ⟨#[119, 105, 110, 100, 111, 119, 115, 45, 49, 50, 53, 50]⟩, .string ⟨#[105, 115, 111, 45, 56, 56, 53, 57, 45, 49, 53]⟩, .string ⟨#[105, 115, 111, 45, 56, 56, 53, 57, 45, 53]⟩, .string ⟨#[120, 45, 117, 115, 101, 114, 45, 100, 101, 102, 105, 110, 101, 100]⟩] 9) _ rfl) (.cells #[.string ⟨#[]⟩, .string ⟨#[34]⟩, .string ⟨#[39]⟩] 9))))
            | (at_builtin; refine step_append_str (w0 := w) rfl w.heap.size (.tmp 47) (.tmp 55) rfl _ (k + 14) (X ++ headW) ⟨#[117, 116, 102, 45, 49, 54, 98, 101]⟩ rfl rfl hown3 hB3 hB3.size (by show k + 14 + 8 ≤ 140737488355328; omega) ?_; intro v4 w4 hown4 hB4 hg4)
            | (at_builtin; refine step_append_str (w0 := w) rfl w.heap.size (.tmp 57) (.const (.string ⟨#[32, 62]⟩)) rfl _ (k + 14 + 8) (X ++ headW ++ [117, 116, 102, 45, 49, 54, 98, 101]) _ rfl rfl hown4 hB4 hB4.size (by show k + 14 + 8 + 2 ≤ 140737488355328; omega) ?_; intro v5 w5 hown5 hB5 hg5))
          obtain ⟨ad, cap, hv, hcap, hrd⟩ := own_some (L := X ++ tailS 2 0) (by rw [HLEN.out, show X ++ tailS 2 0 = X ++ headW ++ [117, 116, 102, 45, 49, 54, 98, 101] ++ [32, 62] by rw [List.append_assoc, List.append_assoc]; rfl]; exact hown5) (by rw [HLEN.out]; omega)
          subst hv
          have P := prescan11 ad cap (X ++ tailS 2 0) w5 hcap hrd (by rw [HLEN.out]; omega) (hT.below hB5)
          rw [HP.out] at P
          refine P.mono ?_
          rintro e w6 ⟨rfl, hb6⟩
          dsimp only [preE]
          go_wp2
          go_ret
          exact ⟨rfl, btr hB5 hb6⟩
      · have HP := Go.Lib.hid ((pre_meta X 2 1 (by decide) (by decide) HX.out (by rw [HXl.out]; exact hk5)).trans (show some (metaF ((2 : Nat) : Int)) = some 0 by decide))
        have hlen : (X ++ tailS 2 1).length = k + 14 + 10 + 2 := by rw [List.length_append, HXl.out]; show k + (14 + 10 + 2) = _; omega
        have HLEN := Go.Lib.hid hlen
        clear hlen
        by_cases h1 : k < L.length
        all_goals
          first | (have h2 : decide ((k : Int) < 500) = false := decide_eq_false (by omega)) | (have h2 : decide ((k : Int) < (L.length : Int)) = false := decide_eq_false (by omega))
          clear hlt
          go_wp2_with (first
            | (at_builtin; refine step_append_str (w0 := w) rfl w.heap.size (.tmp 45) (.const (.string ⟨#[60, 109, 101, 116, 97, 32, 99, 104, 97, 114, 115, 101, 116, 61]⟩)) rfl _ k X _ rfl rfl (hown.alloc _ |>.alloc _) (bal (bal hB _) _) (by simp; omega) hl0 ?_; intro v3 w3 hown3 hB3 hg3; have hN := blk_cells ((hg3.block wr.heap.size (by simp; omega) (fun e => by have := own_lt hown _ e.symm; omega)).trans (at_old (at_new wr (.cells #[.string ⟨#[117, 116, 102, 45, 56]⟩, .string ⟨#[117, 116, 102, 45, 49, 54, 108, 101]⟩, .string ⟨#[117, 116, 102, 45, 49, 54, 98, 101]⟩, .string ⟨#[119, 105, 110, 100, 111, 119, 115, 45, 49, 50, 53, 50]⟩, .string ⟨#[105, 115, 111, 45, 56, 56, 53, 57, 45, 49, 53]⟩, .string ⟨#[105, 115, 111, 45, 56, 56, 53, 57, 45, 53]⟩, .string ⟨#[120, 45, 117, 115, 101, 114, 45, 100, 101, 102, 105, 110, 101, 100]⟩] 9) _ rfl) (.cells #[.string ⟨#[]⟩, .string ⟨#[34]⟩, .string ⟨#[39]⟩] 9))))
            | (at_builtin; refine step_append_str (w0 := w) rfl w.heap.size (.tmp 47) (.tmp 55) rfl _ (k + 14) (X ++ headW) ⟨#[34, 117, 116, 102, 45, 49, 54, 98, 101, 34]⟩ rfl rfl hown3 hB3 hB3.size (by show k + 14 + 10 ≤ 140737488355328; omega) ?_; intro v4 w4 hown4 hB4 hg4)
            | (at_builtin; refine step_append_str (w0 := w) rfl w.heap.size (.tmp 57) (.const (.string ⟨#[32, 62]⟩)) rfl _ (k + 14 + 10) (X ++ headW ++ [34, 117, 116, 102, 45, 49, 54, 98, 101, 34]) _ rfl rfl hown4 hB4 hB4.size (by show k + 14 + 10 + 2 ≤ 140737488355328; omega) ?_; intro v5 w5 hown5 hB5 hg5))
          obtain ⟨ad, cap, hv, hcap, hrd⟩ := own_some (L := X ++ tailS 2 1) (by rw [HLEN.out, show X ++ tailS 2 1 = X ++ headW ++ [34, 117, 116, 102, 45, 49, 54, 98, 101, 34] ++ [32, 62] by rw [List.append_assoc, List.append_assoc]; rfl]; exact hown5) (by rw [HLEN.out]; omega)
          subst hv
          have P := prescan11 ad cap (X ++ tailS 2 1) w5 hcap hrd (by rw [HLEN.out]; omega) (hT.below hB5)
          rw [HP.out] at P
          refine P.mono ?_
          rintro e w6 ⟨rfl, hb6⟩
          dsimp only [preE]
          go_wp2
          go_ret
          exact ⟨rfl, btr hB5 hb6⟩
      · have HP := Go.Lib.hid ((pre_meta X 2 2 (by decide) (by decide) HX.out (by rw [HXl.out]; exact hk5)).trans (show some (metaF ((2 : Nat) : Int)) = some 0 by decide))
        have hlen : (X ++ tailS 2 2).length = k + 14 + 10 + 2 := by rw [List.length_append, HXl.out]; show k + (14 + 10 + 2) = _; omega
        have HLEN := Go.Lib.hid hlen
        clear hlen
        by_cases h1 : k < L.length
        all_goals
          first | (have h2 : decide ((k : Int) < 500) = false := decide_eq_false (by omega)) | (have h2 : decide ((k : Int) < (L.length : Int)) = false := decide_eq_false (by omega))
          clear hlt
          go_wp2_with (first
            | (at_builtin; refine step_append_str (w0 := w) rfl w.heap.size (.tmp 45) (.const (.string ⟨#[60, 109, 101, 116, 97, 32, 99, 104, 97, 114, 115, 101, 116, 61]⟩)) rfl _ k X _ rfl rfl (hown.alloc _ |>.alloc _) (bal (bal hB _) _) (by simp; omega) hl0 ?_; intro v3 w3 hown3 hB3 hg3; have hN := blk_cells ((hg3.block wr.heap.size (by simp; omega) (fun e => by have := own_lt hown _ e.symm; omega)).trans (at_old (at_new wr (.cells #[.string ⟨#[117, 116, 102, 45, 56]⟩, .string ⟨#[117, 116, 102, 45, 49, 54, 108, 101]⟩, .string ⟨#[117, 116, 102, 45, 49, 54, 98, 101]⟩, .string ⟨#[119, 105, 110, 100, 111, 119, 115, 45, 49, 50, 53, 50]⟩, .string ⟨#[105, 115, 111, 45, 56, 56, 53, 57, 45, 49, 53]⟩, .string ⟨#[105, 115, 111, 45, 56, 56, 53, 57, 45, 53]⟩, .string ⟨#[120, 45, 117, 115, 101, 114, 45, 100, 101, 102, 105, 110, 101, 100]⟩] 9) _ rfl) (.cells #[.string ⟨#[]⟩, .string ⟨#[34]⟩, .string ⟨#[39]⟩] 9))))
            | (at_builtin; refine step_append_str (w0 := w) rfl w.heap.size (.tmp 47) (.tmp 55) rfl _ (k + 14) (X ++ headW) ⟨#[39, 117, 116, 102, 45, 49, 54, 98, 101, 39]⟩ rfl rfl hown3 hB3 hB3.size (by show k + 14 + 10 ≤ 140737488355328; omega) ?_; intro v4 w4 hown4 hB4 hg4)
            | (at_builtin; refine step_append_str (w0 := w) rfl w.heap.size (.tmp 57) (.const (.string ⟨#[32, 62]⟩)) rfl _ (k + 14 + 10) (X ++ headW ++ [39, 117, 116, 102, 45, 49, 54, 98, 101, 39]) _ rfl rfl hown4 hB4 hB4.size (by show k + 14 + 10 + 2 ≤ 140737488355328; omega) ?_; intro v5 w5 hown5 hB5 hg5))
          obtain ⟨ad, cap, hv, hcap, hrd⟩ := own_some (L := X ++ tailS 2 2) (by rw [HLEN.out, show X ++ tailS 2 2 = X ++ headW ++ [39, 117, 116, 102, 45, 49, 54, 98, 101, 39] ++ [32, 62] by rw [List.append_assoc, List.append_assoc]; rfl]; exact hown5) (by rw [HLEN.out]; omega)
          subst hv
          have P := prescan11 ad cap (X ++ tailS 2 2) w5 hcap hrd (by rw [HLEN.out]; omega) (hT.below hB5)
          rw [HP.out] at P
          refine P.mono ?_
          rintro e w6 ⟨rfl, hb6⟩
          dsimp only [preE]
          go_wp2
          go_ret
          exact ⟨rfl, btr hB5 hb6⟩
      · have HP := Go.Lib.hid ((pre_meta X 3 0 (by decide) (by decide) HX.out (by rw [HXl.out]; exact hk5)).trans (show some (metaF ((3 : Nat) : Int)) = some 3 by decide))
        have hlen : (X ++ tailS 3 0).length = k + 14 + 12 + 2 := by rw [List.length_append, HXl.out]; show k + (14 + 12 + 2) = _; omega
        have HLEN := Go.Lib.hid hlen
        clear hlen
        by_cases h1 : k < L.length
        all_goals
          first | (have h2 : decide ((k : Int) < 500) = false := decide_eq_false (by omega)) | (have h2 : decide ((k : Int) < (L.length : Int)) = false := decide_eq_false (by omega))
          clear hlt
          go_wp2_with (first
            | (at_builtin; refine step_append_str (w0 := w) rfl w.heap.size (.tmp 45) (.const (.string ⟨#[60, 109, 101, 116, 97, 32, 99, 104, 97, 114, 115, 101, 116, 61]⟩)) rfl _ k X _ rfl rfl (hown.alloc _ |>.alloc _) (bal (bal hB _) _) (by simp; omega) hl0 ?_; intro v3 w3 hown3 hB3 hg3; have hN := blk_cells ((hg3.block wr.heap.size (by simp; omega) (fun e => by have := own_lt hown _ e.symm; omega)).trans (at_old (at_new wr (.cells #[.string ⟨#[117, 116, 102, 45, 56]⟩, .string ⟨#[117, 116, 102, 45, 49, 54, 108, 101]⟩, .string ⟨#[117, 116, 102, 45, 49, 54, 98, 101]⟩, .string ⟨#[119, 105, 110, 100, 111, 119, 115, 45, 49, 50, 53, 50]⟩, .string ⟨#[105, 115, 111, 45, 56, 56, 53, 57, 45, 49, 53]⟩, .string ⟨#[105, 115, 111, 45, 56, 56, 53, 57, 45, 53]⟩, .string ⟨#[120, 45, 117, 115, 101, 114, 45, 100, 101, 102, 105, 110, 101, 100]⟩] 9) _ rfl) (.cells #[.string ⟨#[]⟩, .string ⟨#[34]⟩, .string ⟨#[39]⟩] 9))))
            | (at_builtin; refine step_append_str (w0 := w) rfl w.heap.size (.tmp 47) (.tmp 55) rfl _ (k + 14) (X ++ headW) ⟨#[119, 105, 110, 100, 111, 119, 115, 45, 49, 50, 53, 50]⟩ rfl rfl hown3 hB3 hB3.size (by show k + 14 + 12 ≤ 140737488355328; omega) ?_; intro v4 w4 hown4 hB4 hg4)
            | (at_builtin; refine step_append_str (w0 := w) rfl w.heap.size (.tmp 57) (.const (.string ⟨#[32, 62]⟩)) rfl _ (k + 14 + 12) (X ++ headW ++ [119, 105, 110, 100, 111, 119, 115, 45, 49, 50, 53, 50]) _ rfl rfl hown4 hB4 hB4.size (by show k + 14 + 12 + 2 ≤ 140737488355328; omega) ?_; intro v5 w5 hown5 hB5 hg5))
          obtain ⟨ad, cap, hv, hcap, hrd⟩ := own_some (L := X ++ tailS 3 0) (by rw [HLEN.out, show X ++ tailS 3 0 = X ++ headW ++ [119, 105, 110, 100, 111, 119, 115, 45, 49, 50, 53, 50] ++ [32, 62] by rw [List.append_assoc, List.append_assoc]; rfl]; exact hown5) (by rw [HLEN.out]; omega)
          subst hv
          have P := prescan11 ad cap (X ++ tailS 3 0) w5 hcap hrd (by rw [HLEN.out]; omega) (hT.below hB5)
          rw [HP.out] at P
          refine P.mono ?_
          rintro e w6 ⟨rfl, hb6⟩
          dsimp only [preE]
          go_wp2
          go_ret
          exact ⟨rfl, btr hB5 hb6⟩
      · have HP := Go.Lib.hid ((pre_meta X 3 1 (by decide) (by decide) HX.out (by rw [HXl.out]; exact hk5)).trans (show some (metaF ((3 : Nat) : Int)) = some 3 by decide))
        have hlen : (X ++ tailS 3 1).length = k + 14 + 14 + 2 := by rw [List.length_append, HXl.out]; show k + (14 + 14 + 2) = _; omega
        have HLEN := Go.Lib.hid hlen
        clear hlen
        by_cases h1 : k < L.length
        all_goals
          first | (have h2 : decide ((k : Int) < 500) = false := decide_eq_false (by omega)) | (have h2 : decide ((k : Int) < (L.length : Int)) = false := decide_eq_false (by omega))
          clear hlt
          go_wp2_with (first
            | (at_builtin; refine step_append_str (w0 := w) rfl w.heap.size (.tmp 45) (.const (.string ⟨#[60, 109, 101, 116, 97, 32, 99, 104, 97, 114, 115, 101, 116, 61]⟩)) rfl _ k X _ rfl rfl (hown.alloc _ |>.alloc _) (bal (bal hB _) _) (by simp; omega) hl0 ?_; intro v3 w3 hown3 hB3 hg3; have hN := blk_cells ((hg3.block wr.heap.size (by simp; omega) (fun e => by have := own_lt hown _ e.symm; omega)).trans (at_old (at_new wr (.cells #[.string ⟨#[117, 116, 102, 45, 56]⟩, .string ⟨#[117, 116, 102, 45, 49, 54, 108, 101]⟩, .string ⟨#[117, 116, 102, 45, 49, 54, 98, 101]⟩, .string ⟨#[119, 105, 110, 100, 111, 119, 115, 45, 49, 50, 53, 50]⟩, .string ⟨#[105, 115, 111, 45, 56, 56, 53, 57, 45, 49, 53]⟩, .string ⟨#[105, 115, 111, 45, 56, 56, 53, 57, 45, 53]⟩, .string ⟨#[120, 45, 117, 115, 101, 114, 45, 100, 101, 102, 105, 110, 101, 100]⟩] 9) _ rfl) (.cells #[.string ⟨#[]⟩, .string ⟨#[34]⟩, .string ⟨#[39]⟩] 9))))
            | (at_builtin; refine step_append_str (w0 := w) rfl w.heap.size (.tmp 47) (.tmp 55) rfl _ (k + 14) (X ++ headW) ⟨#[34, 119, 105, 110, 100, 111, 119, 115, 45, 49, 50, 53, 50, 34]⟩ rfl rfl hown3 hB3 hB3.size (by show k + 14 + 14 ≤ 140737488355328; omega) ?_; intro v4 w4 hown4 hB4 hg4)
            | (at_builtin; refine step_append_str (w0 := w) rfl w.heap.size (.tmp 57) (.const (.string ⟨#[32, 62]⟩)) rfl _ (k + 14 + 14) (X ++ headW ++ [34, 119, 105, 110, 100, 111, 119, 115, 45, 49, 50, 53, 50, 34]) _ rfl rfl hown4 hB4 hB4.size (by show k + 14 + 14 + 2 ≤ 140737488355328; omega) ?_; intro v5 w5 hown5 hB5 hg5))
          obtain ⟨ad, cap, hv, hcap, hrd⟩ := own_some (L := X ++ tailS 3 1) (by rw [HLEN.out, show X ++ tailS 3 1 = X ++ headW ++ [34, 119, 105, 110, 100, 111, 119, 115, 45, 49, 50, 53, 50, 34] ++ [32, 62] by rw [List.append_assoc, List.append_assoc]; rfl]; exact hown5) (by rw [HLEN.out]; omega)
          subst hv
          have P := prescan11 ad cap (X ++ tailS 3 1) w5 hcap hrd (by rw [HLEN.out]; omega) (hT.below hB5)
          rw [HP.out] at P
          refine P.mono ?_
          rintro e w6 ⟨rfl, hb6⟩
          dsimp only [preE]
          go_wp2
          go_ret
          exact ⟨rfl, btr hB5 hb6⟩
      · have HP := Go.Lib.hid ((pre_meta X 3 2 (by decide) (by decide) HX.out (by rw [HXl.out]; exact hk5)).trans (show some (metaF ((3 : Nat) : Int)) = some 3 by decide))
        have hlen : (X ++ tailS 3 2).length = k + 14 + 14 + 2 := by rw [List.length_append, HXl.out]; show k + (14 + 14 + 2) = _; omega
        have HLEN := Go.Lib.hid hlen
        clear hlen
        by_cases h1 : k < L.length
        all_goals
          first | (have h2 : decide ((k : Int) < 500) = false := decide_eq_false (by omega)) | (have h2 : decide ((k : Int) < (L.length : Int)) = false := decide_eq_false (by omega))
          clear hlt
          go_wp2_with (first
            | (at_builtin; refine step_append_str (w0 := w) rfl w.heap.size (.tmp 45) (.const (.string ⟨#[60, 109, 101, 116, 97, 32, 99, 104, 97, 114, 115, 101, 116, 61]⟩)) rfl _ k X _ rfl rfl (hown.alloc _ |>.alloc _) (bal (bal hB _) _) (by simp; omega) hl0 ?_; intro v3 w3 hown3 hB3 hg3; have hN := blk_cells ((hg3.block wr.heap.size (by simp; omega) (fun e => by have := own_lt hown _ e.symm; omega)).trans (at_old (at_new wr (.cells #[.string ⟨#[117, 116, 102, 45, 56]⟩, .string ⟨#[117, 116, 102, 45, 49, 54, 108, 101]⟩, .string ⟨#[117, 116, 102, 45, 49, 54, 98, 101]⟩, .string ⟨#[119, 105, 110, 100, 111, 119, 115, 45, 49, 50, 53, 50]⟩, .string ⟨#[105, 115, 111, 45, 56, 56, 53, 57, 45, 49, 53]⟩, .string ⟨#[105, 115, 111, 45, 56, 56, 53, 57, 45, 53]⟩, .string ⟨#[120, 45, 117, 115, 101, 114, 45, 100, 101, 102, 105, 110, 101, 100]⟩] 9) _ rfl) (.cells #[.string ⟨#[]⟩, .string ⟨#[34]⟩, .string ⟨#[39]⟩] 9))))
            | (at_builtin; refine step_append_str (w0 := w) rfl w.heap.size (.tmp 47) (.tmp 55) rfl _ (k + 14) (X ++ headW) ⟨#[39, 119, 105, 110, 100, 111, 119, 115, 45, 49, 50, 53, 50, 39]⟩ rfl rfl hown3 hB3 hB3.size (by show k + 14 + 14 ≤ 140737488355328; omega) ?_; intro v4 w4 hown4 hB4 hg4)
            | (at_builtin; refine step_append_str (w0 := w) rfl w.heap.size (.tmp 57) (.const (.string ⟨#[32, 62]⟩)) rfl _ (k + 14 + 14) (X ++ headW ++ [39, 119, 105, 110, 100, 111, 119, 115, 45, 49, 50, 53, 50, 39]) _ rfl rfl hown4 hB4 hB4.size (by show k + 14 + 14 + 2 ≤ 140737488355328; omega) ?_; intro v5 w5 hown5 hB5 hg5))
          obtain ⟨ad, cap, hv, hcap, hrd⟩ := own_some (L := X ++ tailS 3 2) (by rw [HLEN.out, show X ++ tailS 3 2 = X ++ headW ++ [39, 119, 105, 110, 100, 111, 119, 115, 45, 49, 50, 53, 50, 39] ++ [32, 62] by rw [List.append_assoc, List.append_assoc]; rfl]; exact hown5) (by rw [HLEN.out]; omega)
          subst hv
          have P := prescan11 ad cap (X ++ tailS 3 2) w5 hcap hrd (by rw [HLEN.out]; omega) (hT.below hB5)
          rw [HP.out] at P
          refine P.mono ?_
          rintro e w6 ⟨rfl, hb6⟩
          dsimp only [preE]
          go_wp2
          go_ret
          exact ⟨rfl, btr hB5 hb6⟩
      · have HP := Go.Lib.hid ((pre_meta X 4 0 (by decide) (by decide) HX.out (by rw [HXl.out]; exact hk5)).trans (show some (metaF ((4 : Nat) : Int)) = some 4 by decide))
        have hlen : (X ++ tailS 4 0).length = k + 14 + 11 + 2 := by rw [List.length_append, HXl.out]; show k + (14 + 11 + 2) = _; omega
        have HLEN := Go.Lib.hid hlen
        clear hlen
        by_cases h1 : k < L.length
        all_goals
          first | (have h2 : decide ((k : Int) < 500) = false := decide_eq_false (by omega)) | (have h2 : decide ((k : Int) < (L.length : Int)) = false := decide_eq_false (by omega))
          clear hlt
          go_wp2_with (first
            | (at_builtin; refine step_append_str (w0 := w) rfl w.heap.size (.tmp 45) (.const (.string ⟨#[60, 109, 101, 116, 97, 32, 99, 104, 97, 114, 115, 101, 116, 61]⟩)) rfl _ k X _ rfl rfl (hown.alloc _ |>.alloc _) (bal (bal hB _) _) (by simp; omega) hl0 ?_; intro v3 w3 hown3 hB3 hg3; have hN := blk_cells ((hg3.block wr.heap.size (by simp; omega) (fun e => by have := own_lt hown _ e.symm; omega)).trans (at_old (at_new wr (.cells #[.string ⟨#[117, 116, 102, 45, 56]⟩, .string ⟨#[117, 116, 102, 45, 49, 54, 108, 101]⟩, .string ⟨#[117, 116, 102, 45, 49, 54, 98, 101]⟩, .string ⟨#[119, 105, 110, 100, 111, 119, 115, 45, 49, 50, 53, 50]⟩, .string ⟨#[105, 115, 111, 45, 56, 56, 53, 57, 45, 49, 53]⟩, .string ⟨#[105, 115, 111, 45, 56, 56, 53, 57, 45, 53]⟩, .string ⟨#[120, 45, 117, 115, 101, 114, 45, 100, 101, 102, 105, 110, 101, 100]⟩] 9) _ rfl) (.cells #[.string ⟨#[]⟩, .string ⟨#[34]⟩, .string ⟨#[39]⟩] 9))))
            | (at_builtin; refine step_append_str (w0 := w) rfl w.heap.size (.tmp 47) (.tmp 55) rfl _ (k + 14) (X ++ headW) ⟨#[105, 115, 111, 45, 56, 56, 53, 57, 45, 49, 53]⟩ rfl rfl hown3 hB3 hB3.size (by show k + 14 + 11 ≤ 140737488355328; omega) ?_; intro v4 w4 hown4 hB4 hg4)
            | (at_builtin; refine step_append_str (w0 := w) rfl w.heap.size (.tmp 57) (.const (.string ⟨#[32, 62]⟩)) rfl _ (k + 14 + 11) (X ++ headW ++ [105, 115, 111, 45, 56, 56, 53, 57, 45, 49, 53]) _ rfl rfl hown4 hB4 hB4.size (by show k + 14 + 11 + 2 ≤ 140737488355328; omega) ?_; intro v5 w5 hown5 hB5 hg5))
          obtain ⟨ad, cap, hv, hcap, hrd⟩ := own_some (L := X ++ tailS 4 0) (by rw [HLEN.out, show X ++ tailS 4 0 = X ++ headW ++ [105, 115, 111, 45, 56, 56, 53, 57, 45, 49, 53] ++ [32, 62] by rw [List.append_assoc, List.append_assoc]; rfl]; exact hown5) (by rw [HLEN.out]; omega)
          subst hv
          have P := prescan11 ad cap (X ++ tailS 4 0) w5 hcap hrd (by rw [HLEN.out]; omega) (hT.below hB5)
          rw [HP.out] at P
          refine P.mono ?_
          rintro e w6 ⟨rfl, hb6⟩
          dsimp only [preE]
          go_wp2
          go_ret
          exact ⟨rfl, btr hB5 hb6⟩
      · have HP := Go.Lib.hid ((pre_meta X 4 1 (by decide) (by decide) HX.out (by rw [HXl.out]; exact hk5)).trans (show some (metaF ((4 : Nat) : Int)) = some 4 by decide))
        have hlen : (X ++ tailS 4 1).length = k + 14 + 13 + 2 := by rw [List.length_append, HXl.out]; show k + (14 + 13 + 2) = _; omega
        have HLEN := Go.Lib.hid hlen
        clear hlen
        by_cases h1 : k < L.length
        all_goals
          first | (have h2 : decide ((k : Int) < 500) = false := decide_eq_false (by omega)) | (have h2 : decide ((k : Int) < (L.length : Int)) = false := decide_eq_false (by omega))
          clear hlt
          go_wp2_with (first
            | (at_builtin; refine step_append_str (w0 := w) rfl w.heap.size (.tmp 45) (.const (.string ⟨#[60, 109, 101, 116, 97, 32, 99, 104, 97, 114, 115, 101, 116, 61]⟩)) rfl _ k X _ rfl rfl (hown.alloc _ |>.alloc _) (bal (bal hB _) _) (by simp; omega) hl0 ?_; intro v3 w3 hown3 hB3 hg3; have hN := blk_cells ((hg3.block wr.heap.size (by simp; omega) (fun e => by have := own_lt hown _ e.symm; omega)).trans (at_old (at_new wr (.cells #[.string ⟨#[117, 116, 102, 45, 56]⟩, .string ⟨#[117, 116, 102, 45, 49, 54, 108, 101]⟩, .string ⟨#[117, 116, 102, 45, 49, 54, 98, 101]⟩, .string ⟨#[119, 105, 110, 100, 111, 119, 115, 45, 49, 50, 53, 50]⟩, .string ⟨#[105, 115, 111, 45, 56, 56, 53, 57, 45, 49, 53]⟩, .string ⟨#[105, 115, 111, 45, 56, 56, 53, 57, 45, 53]⟩, .string ⟨#[120, 45, 117, 115, 101, 114, 45, 100, 101, 102, 105, 110, 101, 100]⟩] 9) _ rfl) (.cells #[.string ⟨#[]⟩, .string ⟨#[34]⟩, .string ⟨#[39]⟩] 9))))
            | (at_builtin; refine step_append_str (w0 := w) rfl w.heap.size (.tmp 47) (.tmp 55) rfl _ (k + 14) (X ++ headW) ⟨#[34, 105, 115, 111, 45, 56, 56, 53, 57, 45, 49, 53, 34]⟩ rfl rfl hown3 hB3 hB3.size (by show k + 14 + 13 ≤ 140737488355328; omega) ?_; intro v4 w4 hown4 hB4 hg4)
            | (at_builtin; refine step_append_str (w0 := w) rfl w.heap.size (.tmp 57) (.const (.string ⟨#[32, 62]⟩)) rfl _ (k + 14 + 13) (X ++ headW ++ [34, 105, 115, 111, 45, 56, 56, 53, 57, 45, 49, 53, 34]) _ rfl rfl hown4 hB4 hB4.size (by show k + 14 + 13 + 2 ≤ 140737488355328; omega) ?_; intro v5 w5 hown5 hB5 hg5))
          obtain ⟨ad, cap, hv, hcap, hrd⟩ := own_some (L := X ++ tailS 4 1) (by rw [HLEN.out, show X ++ tailS 4 1 = X ++ headW ++ [34, 105, 115, 111, 45, 56, 56, 53, 57, 45, 49, 53, 34] ++ [32, 62] by rw [List.append_assoc, List.append_assoc]; rfl]; exact hown5) (by rw [HLEN.out]; omega)
          subst hv
          have P := prescan11 ad cap (X ++ tailS 4 1) w5 hcap hrd (by rw [HLEN.out]; omega) (hT.below hB5)
          rw [HP.out] at P
          refine P.mono ?_
          rintro e w6 ⟨rfl, hb6⟩
          dsimp only [preE]
          go_wp2
          go_ret
          exact ⟨rfl, btr hB5 hb6⟩
      · have HP := Go.Lib.hid ((pre_meta X 4 2 (by decide) (by decide) HX.out (by rw [HXl.out]; exact hk5)).trans (show some (metaF ((4 : Nat) : Int)) = some 4 by decide))
        have hlen : (X ++ tailS 4 2).length = k + 14 + 13 + 2 := by rw [List.length_append, HXl.out]; show k + (14 + 13 + 2) = _; omega
        have HLEN := Go.Lib.hid hlen
        clear hlen
        by_cases h1 : k < L.length
        all_goals
          first | (have h2 : decide ((k : Int) < 500) = false := decide_eq_false (by omega)) | (have h2 : decide ((k : Int) < (L.length : Int)) = false := decide_eq_false (by omega))
          clear hlt
          go_wp2_with (first
            | (at_builtin; refine step_append_str (w0 := w) rfl w.heap.size (.tmp 45) (.const (.string ⟨#[60, 109, 101, 116, 97, 32, 99, 104, 97, 114, 115, 101, 116, 61]⟩)) rfl _ k X _ rfl rfl (hown.alloc _ |>.alloc _) (bal (bal hB _) _) (by simp; omega) hl0 ?_; intro v3 w3 hown3 hB3 hg3; have hN := blk_cells ((hg3.block wr.heap.size (by simp; omega) (fun e => by have := own_lt hown _ e.symm; omega)).trans (at_old (at_new wr (.cells #[.string ⟨#[117, 116, 102, 45, 56]⟩, .string ⟨#[117, 116, 102, 45, 49, 54, 108, 101]⟩, .string ⟨#[117, 116, 102, 45, 49, 54, 98, 101]⟩, .string ⟨#[119, 105, 110, 100, 111, 119, 115, 45, 49, 50, 53, 50]⟩, .string ⟨#[105, 115, 111, 45, 56, 56, 53, 57, 45, 49, 53]⟩, .string ⟨#[105, 115, 111, 45, 56, 56, 53, 57, 45, 53]⟩, .string ⟨#[120, 45, 117, 115, 101, 114, 45, 100, 101, 102, 105, 110, 101, 100]⟩] 9) _ rfl) (.cells #[.string ⟨#[]⟩, .string ⟨#[34]⟩, .string ⟨#[39]⟩] 9))))
            | (at_builtin; refine step_append_str (w0 := w) rfl w.heap.size (.tmp 47) (.tmp 55) rfl _ (k + 14) (X ++ headW) ⟨#[39, 105, 115, 111, 45, 56, 56, 53, 57, 45, 49, 53, 39]⟩ rfl rfl hown3 hB3 hB3.size (by show k + 14 + 13 ≤ 140737488355328; omega) ?_; intro v4 w4 hown4 hB4 hg4)
            | (at_builtin; refine step_append_str (w0 := w) rfl w.heap.size (.tmp 57) (.const (.string ⟨#[32, 62]⟩)) rfl _ (k + 14 + 13) (X ++ headW ++ [39, 105, 115, 111, 45, 56, 56, 53, 57, 45, 49, 53, 39]) _ rfl rfl hown4 hB4 hB4.size (by show k + 14 + 13 + 2 ≤ 140737488355328; omega) ?_; intro v5 w5 hown5 hB5 hg5))
          obtain ⟨ad, cap, hv, hcap, hrd⟩ := own_some (L := X ++ tailS 4 2) (by rw [HLEN.out, show X ++ tailS 4 2 = X ++ headW ++ [39, 105, 115, 111, 45, 56, 56, 53, 57, 45, 49, 53, 39] ++ [32, 62] by rw [List.append_assoc, List.append_assoc]; rfl]; exact hown5) (by rw [HLEN.out]; omega)
          subst hv
          have P := prescan11 ad cap (X ++ tailS 4 2) w5 hcap hrd (by rw [HLEN.out]; omega) (hT.below hB5)
          rw [HP.out] at P
          refine P.mono ?_
          rintro e w6 ⟨rfl, hb6⟩
          dsimp only [preE]
          go_wp2
          go_ret
          exact ⟨rfl, btr hB5 hb6⟩
      · have HP := Go.Lib.hid ((pre_meta X 5 0 (by decide) (by decide) HX.out (by rw [HXl.out]; exact hk5)).trans (show some (metaF ((5 : Nat) : Int)) = some 5 by decide))
        have hlen : (X ++ tailS 5 0).length = k + 14 + 10 + 2 := by rw [List.length_append, HXl.out]; show k + (14 + 10 + 2) = _; omega
        have HLEN := Go.Lib.hid hlen
        clear hlen
        by_cases h1 : k < L.length
        all_goals
          first | (have h2 : decide ((k : Int) < 500) = false := decide_eq_false (by omega)) | (have h2 : decide ((k : Int) < (L.length : Int)) = false := decide_eq_false (by omega))
          clear hlt
          go_wp2_with (first
            | (at_builtin; refine step_append_str (w0 := w) rfl w.heap.size (.tmp 45) (.const (.string ⟨#[60, 109, 101, 116, 97, 32, 99, 104, 97, 114, 115, 101, 116, 61]⟩)) rfl _ k X _ rfl rfl (hown.alloc _ |>.alloc _) (bal (bal hB _) _) (by simp; omega) hl0 ?_; intro v3 w3 hown3 hB3 hg3; have hN := blk_cells ((hg3.block wr.heap.size (by simp; omega) (fun e => by have := own_lt hown _ e.symm; omega)).trans (at_old (at_new wr (.cells #[.string ⟨#[117, 116, 102, 45, 56]⟩, .string ⟨#[117, 116, 102, 45, 49, 54, 108, 101]⟩, .string ⟨#[117, 116, 102, 45, 49, 54, 98, 101]⟩, .string ⟨#[119, 105, 110, 100, 111, 119, 115, 45, 49, 50, 53, 50]⟩, .string ⟨#[105, 115, 111, 45, 56, 56, 53, 57, 45, 49, 53]⟩, .string ⟨#[105, 115, 111, 45, 56, 56, 53, 57, 45, 53]⟩, .string ⟨#[120, 45, 117, 115, 101, 114, 45, 100, 101, 102, 105, 110, 101, 100]⟩] 9) _ rfl) (.cells #[.string ⟨#[]⟩, .string ⟨#[34]⟩, .string ⟨#[39]⟩] 9))))
            | (at_builtin; refine step_append_str (w0 := w) rfl w.heap.size (.tmp 47) (.tmp 55) rfl _ (k + 14) (X ++ headW) ⟨#[105, 115, 111, 45, 56, 56, 53, 57, 45, 53]⟩ rfl rfl hown3 hB3 hB3.size (by show k + 14 + 10 ≤ 140737488355328; omega) ?_; intro v4 w4 hown4 hB4 hg4)
            | (at_builtin; refine step_append_str (w0 := w) rfl w.heap.size (.tmp 57) (.const (.string ⟨#[32, 62]⟩)) rfl _ (k + 14 + 10) (X ++ headW ++ [105, 115, 111, 45, 56, 56, 53, 57, 45, 53]) _ rfl rfl hown4 hB4 hB4.size (by show k + 14 + 10 + 2 ≤ 140737488355328; omega) ?_; intro v5 w5 hown5 hB5 hg5))
          obtain ⟨ad, cap, hv, hcap, hrd⟩ := own_some (L := X ++ tailS 5 0) (by rw [HLEN.out, show X ++ tailS 5 0 = X ++ headW ++ [105, 115, 111, 45, 56, 56, 53, 57, 45, 53] ++ [32, 62] by rw [List.append_assoc, List.append_assoc]; rfl]; exact hown5) (by rw [HLEN.out]; omega)
          subst hv
          have P := prescan11 ad cap (X ++ tailS 5 0) w5 hcap hrd (by rw [HLEN.out]; omega) (hT.below hB5)
          rw [HP.out] at P
          refine P.mono ?_
          rintro e w6 ⟨rfl, hb6⟩
          dsimp only [preE]
          go_wp2
          go_ret
          exact ⟨rfl, btr hB5 hb6⟩
      · have HP := Go.Lib.hid ((pre_meta X 5 1 (by decide) (by decide) HX.out (by rw [HXl.out]; exact hk5)).trans (show some (metaF ((5 : Nat) : Int)) = some 5 by decide))
        have hlen : (X ++ tailS 5 1).length = k + 14 + 12 + 2 := by rw [List.length_append, HXl.out]; show k + (14 + 12 + 2) = _; omega
        have HLEN := Go.Lib.hid hlen
        clear hlen
        by_cases h1 : k < L.length
        all_goals
          first | (have h2 : decide ((k : Int) < 500) = false := decide_eq_false (by omega)) | (have h2 : decide ((k : Int) < (L.length : Int)) = false := decide_eq_false (by omega))
          clear hlt
          go_wp2_with (first
            | (at_builtin; refine step_append_str (w0 := w) rfl w.heap.size (.tmp 45) (.const (.string ⟨#[60, 109, 101, 116, 97, 32, 99, 104, 97, 114, 115, 101, 116, 61]⟩)) rfl _ k X _ rfl rfl (hown.alloc _ |>.alloc _) (bal (bal hB _) _) (by simp; omega) hl0 ?_; intro v3 w3 hown3 hB3 hg3; have hN := blk_cells ((hg3.block wr.heap.size (by simp; omega) (fun e => by have := own_lt hown _ e.symm; omega)).trans (at_old (at_new wr (.cells #[.string ⟨#[117, 116, 102, 45, 56]⟩, .string ⟨#[117, 116, 102, 45, 49, 54, 108, 101]⟩, .string ⟨#[117, 116, 102, 45, 49, 54, 98, 101]⟩, .string ⟨#[119, 105, 110, 100, 111, 119, 115, 45, 49, 50, 53, 50]⟩, .string ⟨#[105, 115, 111, 45, 56, 56, 53, 57, 45, 49, 53]⟩, .string ⟨#[105, 115, 111, 45, 56, 56, 53, 57, 45, 53]⟩, .string ⟨#[120, 45, 117, 115, 101, 114, 45, 100, 101, 102, 105, 110, 101, 100]⟩] 9) _ rfl) (.cells #[.string ⟨#[]⟩, .string ⟨#[34]⟩, .string ⟨#[39]⟩] 9))))
            | (at_builtin; refine step_append_str (w0 := w) rfl w.heap.size (.tmp 47) (.tmp 55) rfl _ (k + 14) (X ++ headW) ⟨#[34, 105, 115, 111, 45, 56, 56, 53, 57, 45, 53, 34]⟩ rfl rfl hown3 hB3 hB3.size (by show k + 14 + 12 ≤ 140737488355328; omega) ?_; intro v4 w4 hown4 hB4 hg4)
            | (at_builtin; refine step_append_str (w0 := w) rfl w.heap.size (.tmp 57) (.const (.string ⟨#[32, 62]⟩)) rfl _ (k + 14 + 12) (X ++ headW ++ [34, 105, 115, 111, 45, 56, 56, 53, 57, 45, 53, 34]) _ rfl rfl hown4 hB4 hB4.size (by show k + 14 + 12 + 2 ≤ 140737488355328; omega) ?_; intro v5 w5 hown5 hB5 hg5))
          obtain ⟨ad, cap, hv, hcap, hrd⟩ := own_some (L := X ++ tailS 5 1) (by rw [HLEN.out, show X ++ tailS 5 1 = X ++ headW ++ [34, 105, 115, 111, 45, 56, 56, 53, 57, 45, 53, 34] ++ [32, 62] by rw [List.append_assoc, List.append_assoc]; rfl]; exact hown5) (by rw [HLEN.out]; omega)
          subst hv
          have P := prescan11 ad cap (X ++ tailS 5 1) w5 hcap hrd (by rw [HLEN.out]; omega) (hT.below hB5)
          rw [HP.out] at P
          refine P.mono ?_
          rintro e w6 ⟨rfl, hb6⟩
          dsimp only [preE]
          go_wp2
          go_ret
          exact ⟨rfl, btr hB5 hb6⟩
      · have HP := Go.Lib.hid ((pre_meta X 5 2 (by decide) (by decide) HX.out (by rw [HXl.out]; exact hk5)).trans (show some (metaF ((5 : Nat) : Int)) = some 5 by decide))
        have hlen : (X ++ tailS 5 2).length = k + 14 + 12 + 2 := by rw [List.length_append, HXl.out]; show k + (14 + 12 + 2) = _; omega
        have HLEN := Go.Lib.hid hlen
        clear hlen
        by_cases h1 : k < L.length
        all_goals
          first | (have h2 : decide ((k : Int) < 500) = false := decide_eq_false (by omega)) | (have h2 : decide ((k : Int) < (L.length : Int)) = false := decide_eq_false (by omega))
          clear hlt
          go_wp2_with (first
            | (at_builtin; refine step_append_str (w0 := w) rfl w.heap.size (.tmp 45) (.const (.string ⟨#[60, 109, 101, 116, 97, 32, 99, 104, 97, 114, 115, 101, 116, 61]⟩)) rfl _ k X _ rfl rfl (hown.alloc _ |>.alloc _) (bal (bal hB _) _) (by simp; omega) hl0 ?_; intro v3 w3 hown3 hB3 hg3; have hN := blk_cells ((hg3.block wr.heap.size (by simp; omega) (fun e => by have := own_lt hown _ e.symm; omega)).trans (at_old (at_new wr (.cells #[.string ⟨#[117, 116, 102, 45, 56]⟩, .string ⟨#[117, 116, 102, 45, 49, 54, 108, 101]⟩, .string ⟨#[117, 116, 102, 45, 49, 54, 98, 101]⟩, .string ⟨#[119, 105, 110, 100, 111, 119, 115, 45, 49, 50, 53, 50]⟩, .string ⟨#[105, 115, 111, 45, 56, 56, 53, 57, 45, 49, 53]⟩, .string ⟨#[105, 115, 111, 45, 56, 56, 53, 57, 45, 53]⟩, .string ⟨#[120, 45, 117, 115, 101, 114, 45, 100, 101, 102, 105, 110, 101, 100]⟩] 9) _ rfl) (.cells #[.string ⟨#[]⟩, .string ⟨#[34]⟩, .string ⟨#[39]⟩] 9))))
            | (at_builtin; refine step_append_str (w0 := w) rfl w.heap.size (.tmp 47) (.tmp 55) rfl _ (k + 14) (X ++ headW) ⟨#[39, 105, 115, 111, 45, 56, 56, 53, 57, 45, 53, 39]⟩ rfl rfl hown3 hB3 hB3.size (by show k + 14 + 12 ≤ 140737488355328; omega) ?_; intro v4 w4 hown4 hB4 hg4)
            | (at_builtin; refine step_append_str (w0 := w) rfl w.heap.size (.tmp 57) (.const (.string ⟨#[32, 62]⟩)) rfl _ (k + 14 + 12) (X ++ headW ++ [39, 105, 115, 111, 45, 56, 56, 53, 57, 45, 53, 39]) _ rfl rfl hown4 hB4 hB4.size (by show k + 14 + 12 + 2 ≤ 140737488355328; omega) ?_; intro v5 w5 hown5 hB5 hg5))
          obtain ⟨ad, cap, hv, hcap, hrd⟩ := own_some (L := X ++ tailS 5 2) (by rw [HLEN.out, show X ++ tailS 5 2 = X ++ headW ++ [39, 105, 115, 111, 45, 56, 56, 53, 57, 45, 53, 39] ++ [32, 62] by rw [List.append_assoc, List.append_assoc]; rfl]; exact hown5) (by rw [HLEN.out]; omega)
          subst hv
          have P := prescan11 ad cap (X ++ tailS 5 2) w5 hcap hrd (by rw [HLEN.out]; omega) (hT.below hB5)
          rw [HP.out] at P
          refine P.mono ?_
          rintro e w6 ⟨rfl, hb6⟩
          dsimp only [preE]
          go_wp2
          go_ret
          exact ⟨rfl, btr hB5 hb6⟩
      · have HP := Go.Lib.hid ((pre_meta X 6 0 (by decide) (by decide) HX.out (by rw [HXl.out]; exact hk5)).trans (show some (metaF ((6 : Nat) : Int)) = some 3 by decide))
        have hlen : (X ++ tailS 6 0).length = k + 14 + 14 + 2 := by rw [List.length_append, HXl.out]; show k + (14 + 14 + 2) = _; omega
        have HLEN := Go.Lib.hid hlen
        clear hlen
        by_cases h1 : k < L.length
        all_goals
          first | (have h2 : decide ((k : Int) < 500) = false := decide_eq_false (by omega)) | (have h2 : decide ((k : Int) < (L.length : Int)) = false := decide_eq_false (by omega))
          clear hlt
          go_wp2_with (first
            | (at_builtin; refine step_append_str (w0 := w) rfl w.heap.size (.tmp 45) (.const (.string ⟨#[60, 109, 101, 116, 97, 32, 99, 104, 97, 114, 115, 101, 116, 61]⟩)) rfl _ k X _ rfl rfl (hown.alloc _ |>.alloc _) (bal (bal hB _) _) (by simp; omega) hl0 ?_; intro v3 w3 hown3 hB3 hg3; have hN := blk_cells ((hg3.block wr.heap.size (by simp; omega) (fun e => by have := own_lt hown _ e.symm; omega)).trans (at_old (at_new wr (.cells #[.string ⟨#[117, 116, 102, 45, 56]⟩, .string ⟨#[117, 116, 102, 45, 49, 54, 108, 101]⟩, .string ⟨#[117, 116, 102, 45, 49, 54, 98, 101]⟩, .string ⟨#[119, 105, 110, 100, 111, 119, 115, 45, 49, 50, 53, 50]⟩, .string ⟨#[105, 115, 111, 45, 56, 56, 53, 57, 45, 49, 53]⟩, .string ⟨#[105, 115, 111, 45, 56, 56, 53, 57, 45, 53]⟩, .string ⟨#[120, 45, 117, 115, 101, 114, 45, 100, 101, 102, 105, 110, 101, 100]⟩] 9) _ rfl) (.cells #[.string ⟨#[]⟩, .string ⟨#[34]⟩, .string ⟨#[39]⟩] 9))))
            | (at_builtin; refine step_append_str (w0 := w) rfl w.heap.size (.tmp 47) (.tmp 55) rfl _ (k + 14) (X ++ headW) ⟨#[120, 45, 117, 115, 101, 114, 45, 100, 101, 102, 105, 110, 101, 100]⟩ rfl rfl hown3 hB3 hB3.size (by show k + 14 + 14 ≤ 140737488355328; omega) ?_; intro v4 w4 hown4 hB4 hg4)
            | (at_builtin; refine step_append_str (w0 := w) rfl w.heap.size (.tmp 57) (.const (.string ⟨#[32, 62]⟩)) rfl _ (k + 14 + 14) (X ++ headW ++ [120, 45, 117, 115, 101, 114, 45, 100, 101, 102, 105, 110, 101, 100]) _ rfl rfl hown4 hB4 hB4.size (by show k + 14 + 14 + 2 ≤ 140737488355328; omega) ?_; intro v5 w5 hown5 hB5 hg5))
          obtain ⟨ad, cap, hv, hcap, hrd⟩ := own_some (L := X ++ tailS 6 0) (by rw [HLEN.out, show X ++ tailS 6 0 = X ++ headW ++ [120, 45, 117, 115, 101, 114, 45, 100, 101, 102, 105, 110, 101, 100] ++ [32, 62] by rw [List.append_assoc, List.append_assoc]; rfl]; exact hown5) (by rw [HLEN.out]; omega)
          subst hv
          have P := prescan11 ad cap (X ++ tailS 6 0) w5 hcap hrd (by rw [HLEN.out]; omega) (hT.below hB5)
          rw [HP.out] at P
          refine P.mono ?_
          rintro e w6 ⟨rfl, hb6⟩
          dsimp only [preE]
          go_wp2
          go_ret
          exact ⟨rfl, btr hB5 hb6⟩
      · have HP := Go.Lib.hid ((pre_meta X 6 1 (by decide) (by decide) HX.out (by rw [HXl.out]; exact hk5)).trans (show some (metaF ((6 : Nat) : Int)) = some 3 by decide))
        have hlen : (X ++ tailS 6 1).length = k + 14 + 16 + 2 := by rw [List.length_append, HXl.out]; show k + (14 + 16 + 2) = _; omega
        have HLEN := Go.Lib.hid hlen
        clear hlen
        by_cases h1 : k < L.length
        all_goals
          first | (have h2 : decide ((k : Int) < 500) = false := decide_eq_false (by omega)) | (have h2 : decide ((k : Int) < (L.length : Int)) = false := decide_eq_false (by omega))
          clear hlt
          go_wp2_with (first
            | (at_builtin; refine step_append_str (w0 := w) rfl w.heap.size (.tmp 45) (.const (.string ⟨#[60, 109, 101, 116, 97, 32, 99, 104, 97, 114, 115, 101, 116, 61]⟩)) rfl _ k X _ rfl rfl (hown.alloc _ |>.alloc _) (bal (bal hB _) _) (by simp; omega) hl0 ?_; intro v3 w3 hown3 hB3 hg3; have hN := blk_cells ((hg3.block wr.heap.size (by simp; omega) (fun e => by have := own_lt hown _ e.symm; omega)).trans (at_old (at_new wr (.cells #[.string ⟨#[117, 116, 102, 45, 56]⟩, .string ⟨#[117, 116, 102, 45, 49, 54, 108, 101]⟩, .string ⟨#[117, 116, 102, 45, 49, 54, 98, 101]⟩, .string ⟨#[119, 105, 110, 100, 111, 119, 115, 45, 49, 50, 53, 50]⟩, .string ⟨#[105, 115, 111, 45, 56, 56, 53, 57, 45, 49, 53]⟩, .string ⟨#[105, 115, 111, 45, 56, 56, 53, 57, 45, 53]⟩, .string ⟨#[120, 45, 117, 115, 101, 114, 45, 100, 101, 102, 105, 110, 101, 100]⟩] 9) _ rfl) (.cells #[.string ⟨#[]⟩, .string ⟨#[34]⟩, .string ⟨#[39]⟩] 9))))
            | (at_builtin; refine step_append_str (w0 := w) rfl w.heap.size (.tmp 47) (.tmp 55) rfl _ (k + 14) (X ++ headW) ⟨#[34, 120, 45, 117, 115, 101, 114, 45, 100, 101, 102, 105, 110, 101, 100, 34]⟩ rfl rfl hown3 hB3 hB3.size (by show k + 14 + 16 ≤ 140737488355328; omega) ?_; intro v4 w4 hown4 hB4 hg4)
            | (at_builtin; refine step_append_str (w0 := w) rfl w.heap.size (.tmp 57) (.const (.string ⟨#[32, 62]⟩)) rfl _ (k + 14 + 16) (X ++ headW ++ [34, 120, 45, 117, 115, 101, 114, 45, 100, 101, 102, 105, 110, 101, 100, 34]) _ rfl rfl hown4 hB4 hB4.size (by show k + 14 + 16 + 2 ≤ 140737488355328; omega) ?_; intro v5 w5 hown5 hB5 hg5))
          obtain ⟨ad, cap, hv, hcap, hrd⟩ := own_some (L := X ++ tailS 6 1) (by rw [HLEN.out, show X ++ tailS 6 1 = X ++ headW ++ [34, 120, 45, 117, 115, 101, 114, 45, 100, 101, 102, 105, 110, 101, 100, 34] ++ [32, 62] by rw [List.append_assoc, List.append_assoc]; rfl]; exact hown5) (by rw [HLEN.out]; omega)
          subst hv
          have P := prescan11 ad cap (X ++ tailS 6 1) w5 hcap hrd (by rw [HLEN.out]; omega) (hT.below hB5)
          rw [HP.out] at P
          refine P.mono ?_
          rintro e w6 ⟨rfl, hb6⟩
          dsimp only [preE]
          go_wp2
          go_ret
          exact ⟨rfl, btr hB5 hb6⟩
      · have HP := Go.Lib.hid ((pre_meta X 6 2 (by decide) (by decide) HX.out (by rw [HXl.out]; exact hk5)).trans (show some (metaF ((6 : Nat) : Int)) = some 3 by decide))
        have hlen : (X ++ tailS 6 2).length = k + 14 + 16 + 2 := by rw [List.length_append, HXl.out]; show k + (14 + 16 + 2) = _; omega
        have HLEN := Go.Lib.hid hlen
        clear hlen
        by_cases h1 : k < L.length
        all_goals
          first | (have h2 : decide ((k : Int) < 500) = false := decide_eq_false (by omega)) | (have h2 : decide ((k : Int) < (L.length : Int)) = false := decide_eq_false (by omega))
          clear hlt
          go_wp2_with (first
            | (at_builtin; refine step_append_str (w0 := w) rfl w.heap.size (.tmp 45) (.const (.string ⟨#[60, 109, 101, 116, 97, 32, 99, 104, 97, 114, 115, 101, 116, 61]⟩)) rfl _ k X _ rfl rfl (hown.alloc _ |>.alloc _) (bal (bal hB _) _) (by simp; omega) hl0 ?_; intro v3 w3 hown3 hB3 hg3; have hN := blk_cells ((hg3.block wr.heap.size (by simp; omega) (fun e => by have := own_lt hown _ e.symm; omega)).trans (at_old (at_new wr (.cells #[.string ⟨#[117, 116, 102, 45, 56]⟩, .string ⟨#[117, 116, 102, 45, 49, 54, 108, 101]⟩, .string ⟨#[117, 116, 102, 45, 49, 54, 98, 101]⟩, .string ⟨#[119, 105, 110, 100, 111, 119, 115, 45, 49, 50, 53, 50]⟩, .string ⟨#[105, 115, 111, 45, 56, 56, 53, 57, 45, 49, 53]⟩, .string ⟨#[105, 115, 111, 45, 56, 56, 53, 57, 45, 53]⟩, .string ⟨#[120, 45, 117, 115, 101, 114, 45, 100, 101, 102, 105, 110, 101, 100]⟩] 9) _ rfl) (.cells #[.string ⟨#[]⟩, .string ⟨#[34]⟩, .string ⟨#[39]⟩] 9))))
            | (at_builtin; refine step_append_str (w0 := w) rfl w.heap.size (.tmp 47) (.tmp 55) rfl _ (k + 14) (X ++ headW) ⟨#[39, 120, 45, 117, 115, 101, 114, 45, 100, 101, 102, 105, 110, 101, 100, 39]⟩ rfl rfl hown3 hB3 hB3.size (by show k + 14 + 16 ≤ 140737488355328; omega) ?_; intro v4 w4 hown4 hB4 hg4)
            | (at_builtin; refine step_append_str (w0 := w) rfl w.heap.size (.tmp 57) (.const (.string ⟨#[32, 62]⟩)) rfl _ (k + 14 + 16) (X ++ headW ++ [39, 120, 45, 117, 115, 101, 114, 45, 100, 101, 102, 105, 110, 101, 100, 39]) _ rfl rfl hown4 hB4 hB4.size (by show k + 14 + 16 + 2 ≤ 140737488355328; omega) ?_; intro v5 w5 hown5 hB5 hg5))
          obtain ⟨ad, cap, hv, hcap, hrd⟩ := own_some (L := X ++ tailS 6 2) (by rw [HLEN.out, show X ++ tailS 6 2 = X ++ headW ++ [39, 120, 45, 117, 115, 101, 114, 45, 100, 101, 102, 105, 110, 101, 100, 39] ++ [32, 62] by rw [List.append_assoc, List.append_assoc]; rfl]; exact hown5) (by rw [HLEN.out]; omega)
          subst hv
          have P := prescan11 ad cap (X ++ tailS 6 2) w5 hcap hrd (by rw [HLEN.out]; omega) (hT.below hB5)
          rw [HP.out] at P
          refine P.mono ?_
          rintro e w6 ⟨rfl, hb6⟩
          dsimp only [preE]
          go_wp2
          go_ret
          exact ⟨rfl, btr hB5 hb6⟩
end Go.Proofs.YtcmhfcnjfhcpdaaDoor
