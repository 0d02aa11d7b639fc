/- The walks of MathML's closure and of each with it. -/
import Derived.Test.YtpicgchcdbginaaA1
import Derived.Test.YtpicgchcdbginaaKitB
import Derived.WideShapes
namespace Go.Proofs.Ytpicgchcdbginaa
open Go.RowKit

def sdu : List UInt8 := [100, 101, 102, 105, 110, 105, 116, 105, 111, 110, 117, 114, 108]
def sdU : ByteArray := ⟨#[100, 101, 102, 105, 110, 105, 116, 105, 111, 110, 85, 82, 76]⟩
def mathF (x : A4) : A4 := if x.nm.toList == sdu then { x with nm := sdU } else x
/-- Attributes, each changed if it has no namespace. -/
def eachF (f : A4 → A4) (L : List A4) : List A4 := L.map fun x => if x.sp = 0 then f x else x
theorem eachF_snoc (f : A4 → A4) (L : List A4) (k : Nat) (h : k < L.length) : eachF f (L.take (k + 1)) = eachF f (L.take k) ++ [if L[k].sp = 0 then f L[k] else L[k]] := by
  simp only [eachF, List.take_succ_eq_append_getElem h, List.map_append, List.map_cons, List.map_nil]
theorem eachF_length (f : A4 → A4) (L : List A4) : (eachF f L).length = L.length := by simp [eachF]

theorem size30 (x : A4) : (Try.prog.info? 30).map (·.size) = some x.c.size := by rw [show x.c.size = 4 from rfl]; kernel_rfl
theorem ret_agg {a b : Array Value} (h : a = b) : Ending.returned (.agg a) = .returned (.agg b) := by rw [h]
theorem A4_eq {x y : A4} (h0 : y.sp = x.sp) (h1 : y.pre.toList = x.pre.toList) (h2 : y.nm.toList = x.nm.toList) (h3 : y.va.toList = x.va.toList) : y = x := by
  have e : ∀ {a b : ByteArray}, a.toList = b.toList → a = b := fun {a b} h => by
    rw [tl, tl] at h
    exact Go.WideShapes.bytes_inj h
  cases x; cases y
  simp only at h0 h1 h2 h3
  subst h0
  rw [e h1, e h2, e h3]
theorem neq30 {x y : A4} (h : ¬ y = x) : ∀ W : World, (binOp .neq 30 (.agg #[.int .i64 y.sp, .string y.pre, .string y.nm, .string y.va]) (.agg #[.int .i64 x.sp, .string x.pre, .string x.nm, .string x.va])).run Try.prog W = .ok (.bool true) W := by
  intro W
  by_cases h0 : y.sp = x.sp
  · by_cases h1 : y.pre.toList = x.pre.toList
    · by_cases h2 : y.nm.toList = x.nm.toList
      · by_cases h3 : y.va.toList = x.va.toList
        · exact absurd (A4_eq h0 h1 h2 h3) h
        · go_simp
      · go_simp
    · go_simp
  · go_simp
set_option maxHeartbeats 400000 in
theorem math25 (x : A4) (w : World) : Calls Try.prog 25 #[.agg x.c] w fun e w' => e = .returned (.agg (mathF x).c) ∧ Below w.heap.size w w' := by
  cases hx : x.nm.toList == sdu
  · have hf : mathF x = x := by simp [mathF, hx]
    rw [hf]
    unfold A4.c
    unfold sdu at hx
    go_enter Try.func25, Try.ntmps25
    go_wp2
    exact bodyPost_ret (results_cell_row rfl _ _ (w.heap.size + 1) 30 x.c (0, 0) _ rfl (at_new _ _ _ (by simp)) Try.underlying30 rfl (size30 x)) rfl ⟨rfl, bal (bal (Below.refl _ _) _) _⟩
  · have hf : mathF x = { x with nm := sdU } := by simp [mathF, hx]
    rw [hf]
    unfold A4.c
    unfold sdu at hx
    go_enter Try.func25, Try.ntmps25
    go_wp2
    exact bodyPost_ret (results_cell_row rfl _ _ (w.heap.size + 1) 30 ({ x with nm := sdU } : A4).c (0, 0) _ rfl (at_new _ _ _ (by simp)) Try.underlying30 rfl (size30 _)) rfl ⟨rfl, bal (bal (Below.refl _ _) _) _⟩

theorem math25' (x : A4) (w : World) : Calls Try.prog 25 #[.agg #[.int .i64 x.sp, .string x.pre, .string x.nm, .string x.va]] w fun e w' =>
    e = .returned (.agg #[.int .i64 (mathF x).sp, .string (mathF x).pre, .string (mathF x).nm, .string (mathF x).va]) ∧ Below w.heap.size w w' := math25 x w
theorem math25s (x : A4) (h : mathF x = x) (w : World) : Calls Try.prog 25 #[.agg #[.int .i64 x.sp, .string x.pre, .string x.nm, .string x.va]] w fun e w' =>
    e = .returned (.agg #[.int .i64 x.sp, .string x.pre, .string x.nm, .string x.va]) ∧ Below w.heap.size w w' := by
  have := math25 x w
  rwa [h] at this

set_option maxHeartbeats 1000000 in
theorem each25 (oa : Option Addr) (cap : Nat) (L : List A4) (w : World) (hL : RdA w oa L) (hm : L.length * 56 ≤ 140737488351232) :
    Calls Try.prog 24 #[.slice oa L.length cap, .func (.func 25) #[] #[]] w fun e w' => ∃ oa' cap', e = .returned (.slice oa' L.length cap') ∧ RdA w' oa' (eachF mathF L) ∧ Below w.heap.size w w' := by
  go_enter Try.func24, Try.ntmps24
  go_wp2
  go_loopw [5, 7, 8, 11] (fun v5 v7 v8 v11 wr => ∃ k : Nat, k ≤ L.length ∧ v11 = .int .i64 k ∧ Below w.heap.size w wr ∧ wr.ownsRow w.heap.size 30 4 v5 k (cellsA (eachF mathF (L.take k)))) (fun _ _ _ v11 _ => L.length - (intOf v11).toNat)
  case atStart => exact ⟨0, Nat.zero_le _, rfl, Below.refl _ _, own_nil _ _ _ _⟩
  case round =>
    obtain ⟨k, hk, rfl, hB, hown⟩ := hrel
    by_cases hlt : k < L.length
    · obtain ⟨b, off, rfl, hc⟩ := hL (by intro h; subst h; simp at hlt)
      obtain ⟨c0, c1, c2, c3⟩ := hc k hlt
      have d0 := bcl hB c0
      have d1 := bcl hB c1
      have d2 := bcl hB c2
      have d3 := bcl hB c3
      have HS := Go.Lib.hid (eachF_snoc mathF L k hlt)
      clear hc c0 c1 c2 c3 hL
      generalize L[k] = x at *
      have hsz := hB.size
      by_cases hsp0 : x.sp = 0
      · have hspb : (x.sp == 0) = true := by simpa using hsp0
        have HSP := Go.Lib.hid hsp0
        clear hsp0
        by_cases hy : mathF x = x
        · have HY := Go.Lib.hid hy
          clear hy
          go_wp2_with (first
            | (go_at_call 25; (with_reducible refine (math25s x HY.out _).mono ?_); rintro e w2 ⟨rfl, hb2⟩; have hq2 := bblk hb2 (at_new _ _ wr.heap.size rfl); have hx2 := blk_cells hq2; have hl2 := blk_lt hq2; have hB2 := btr (bal hB _) hb2; have hown2 := own_below (hown.alloc _) hb2)
            | (at_builtin; refine step_append rfl w.heap.size (.tmp 27) (.tmp 29) 25 30 _ 4 56 rfl Try.underlying25 info30 rfl (by decide) (by decide) _ k _ _ #[.int .i64 x.sp, .string x.pre, .string x.nm, .string x.va] rfl rfl (by simp) rfl (oneA _) (hown2.alloc _) (bal hB2 _) (by have := hB2.size; simp; omega) (by omega) ?_; intro v1 w3 hown3 hB3))
          all_goals
            go_roundw
            case rel => exact ⟨k + 1, by omega, by go_num, hB3, by rw [HS.out, cellsA_snoc, if_pos HSP.out, HY.out]; exact hown3⟩
            case measure => simp [intOf]; omega
        · have hne := neq30 hy
          have C := fun w' => math25' x w'
          clear hy
          generalize mathF x = y at *
          go_wp2_with (first
            | (go_at_call 25; (with_reducible refine (C _).mono ?_); rintro e w2 ⟨rfl, hb2⟩; have hq2 := bblk hb2 (at_new _ _ wr.heap.size rfl); have hx2 := blk_cells hq2; have hl2 := blk_lt hq2; have hB2 := btr (bal hB _) hb2; have hown2 := own_below (hown.alloc _) hb2)
            | ((with_reducible refine at_op ⟨none, .store 30 (.tmp 7) (.tmp 26), _, _, _, _⟩ ?_); refine step_store_row rfl 30 _ _ rfl wr.heap.size 30 #[.int .i64 x.sp, .string x.pre, .string x.nm, .string x.va] #[.int .i64 y.sp, .string y.pre, .string y.nm, .string y.va] rfl rfl (at_old hq2 _) (size30 y) rfl (oneA y) ?_; have hx3 := blk_cells (setRow_heap _ _ _ #[.int .i64 y.sp, .string y.pre, .string y.nm, .string y.va] _ _ (at_old hq2 (.cells #[.int .i64 y.sp, .string y.pre, .string y.nm, .string y.va] 30))); have hB4 := setRow_below (bal hB2 (.cells #[.int .i64 y.sp, .string y.pre, .string y.nm, .string y.va] 30)) hsz #[.int .i64 y.sp, .string y.pre, .string y.nm, .string y.va]; have hown4 := own_setRow (hown2.alloc (.cells #[.int .i64 y.sp, .string y.pre, .string y.nm, .string y.va] 30)) (fun q hq => Nat.ne_of_lt (own_lt hown q hq)) #[.int .i64 y.sp, .string y.pre, .string y.nm, .string y.va])
            | (at_builtin; refine step_append rfl w.heap.size (.tmp 27) (.tmp 29) 25 30 _ 4 56 rfl Try.underlying25 info30 rfl (by decide) (by decide) _ k _ _ #[.int .i64 y.sp, .string y.pre, .string y.nm, .string y.va] rfl rfl (by simp) rfl (oneA _) (hown4) (hB4) (by have := hB2.size; simp; omega) (by omega) ?_; intro v1 w3 hown3 hB3))
          all_goals
            go_roundw
            case rel => exact ⟨k + 1, by omega, by go_num, hB3, by rw [HS.out, cellsA_snoc, if_pos HSP.out]; exact hown3⟩
            case measure => simp [intOf]; omega
      · have hspb : (x.sp == 0) = false := by simpa using hsp0
        have HSP := Go.Lib.hid hsp0
        clear hsp0
        go_wp2_with (first
          | (go_at_call 25; (with_reducible refine (math25' x _).mono ?_); rintro e w2 ⟨rfl, hb2⟩; have hq2 := bblk hb2 (at_new _ _ wr.heap.size rfl); have hx2 := blk_cells hq2; have hl2 := blk_lt hq2; have hB2 := btr (bal hB _) hb2; have hown2 := own_below (hown.alloc _) hb2)
          | (at_builtin; refine step_append rfl w.heap.size (.tmp 27) (.tmp 29) 25 30 _ 4 56 rfl Try.underlying25 info30 rfl (by decide) (by decide) _ k _ _ #[.int .i64 x.sp, .string x.pre, .string x.nm, .string x.va] rfl rfl (by simp) rfl (oneA _) (hown2.alloc _) (bal hB2 _) (by have := hB2.size; simp; omega) (by omega) ?_; intro v1 w3 hown3 hB3))
        all_goals
          go_roundw
          case rel => exact ⟨k + 1, by omega, by go_num, hB3, by rw [HS.out, cellsA_snoc, if_neg HSP.out]; exact hown3⟩
          case measure => simp [intOf]; omega
    · obtain rfl : k = L.length := by omega
      go_wp2
      go_ret
      rw [List.take_length] at hown
      obtain ⟨oa', cap', rfl, _, hr⟩ := RdA.own hown
      exact ⟨oa', cap', rfl, hr, hB⟩
end Go.Proofs.Ytpicgchcdbginaa
