/- Texts of one seat, merged: lemmas and contracts that the law leans on. -/
import Derived.Test.YthfdiinfeljeeaaGreatDoorCM5
import Derived.Deep.RegionHeld
import Derived.OrdersIn
/- A region that draws its order, within a round: walked as out of one. -/
namespace Go.Proofs.YthfdiinfeljeeaaGreatDoor
open Go.RowKit
/-- A postcondition that lets no panic through, and no run that outgrows. -/
def stillQ (Q : Exit → Act → World → Prop) : Exit → Act → World → Prop
  | .panic _, _, _ => False
  | .outgrown, _, _ => False
  | e, a, w => Q e a w
theorem stillQ_mono {Q : Exit → Act → World → Prop} : ∀ e a w, stillQ Q e a w → Q e a w := fun e a w h => by
  cases e <;> first | exact h | exact h.elim
theorem still_out {Q : Exit → Act → World → Prop} : ¬ LetsOut (stillQ Q) := fun ⟨_, _, h⟩ => h
section
variable {P : Program} {ops : Array Oper} {Q : Exit → Act → World → Prop} {md : Region.Mode} {l n : Nat}
theorem rows_round {row : String} {args : Array Value} {w : World} {R : Value → World → Prop} (h : Rows P row args w R) : RowsIn (Fence.wide.inRound l) n P row args w R :=
  fun c cs _ => let ⟨v, w', r, s⟩ := h c cs; ⟨v, w', r, stepsIn_wide.2 s⟩
theorem oper_round {o : Oper} {a : Act} {w : World} {K : Act → World → Prop} (hnd : ∀ c, o.op ≠ .defer c) (h : o.wp P a w K (stillQ Q)) : o.wpIn (Fence.wide.inRound l) n P a w K (stillQ Q) := by
  refine ⟨fun _ _ => trivial, ?_⟩
  rw [Fence.inRound_round, Oper.semAt_some l _ _ hnd]
  unfold Oper.wp at h
  generalize (execOp a.eval o).run P w = r at *
  cases r with
  | ok x w' =>
    cases x <;> simp only [Oper.upon, Oper.uponIn] at h ⊢
    case value u => exact h
    case skip => exact h
    case defer d => exact h
    case enter f args => exact ⟨fun h' => (nomatch h'), callsIn_wide.2 h⟩
    case row row args => exact ⟨fun h' => (nomatch h'), rows_round h⟩
  | halt x w' => cases x <;> simp only [Oper.upon, Oper.uponIn] at h ⊢ <;> exact h
theorem op_round (hnd : ∀ (j : Nat) (o : Oper), ops[j]? = some o → ∀ c, o.op ≠ .defer c) {i : Nat} {a : Act} {w : World} {K : Act → World → Prop} (h : wpOp P ops (stillQ Q) i K a w) : wpOpIn (Fence.wide.inRound l) n P ops (stillQ Q) i K a w := by
  unfold wpOp at h
  unfold wpOpIn
  cases ho : ops[i]? with
  | none => rw [ho] at h; exact h
  | some o =>
    rw [ho] at h
    dsimp only at h ⊢
    split
    · rename_i hw
      rw [if_pos hw] at h
      exact oper_round (hnd i o ho) (h.resolve_right fun h' => still_out h'.2)
    · rename_i hw
      rw [if_neg hw] at h
      exact ⟨fun _ _ => trivial, h⟩
theorem any_round (hnd : ∀ (j : Nat) (o : Oper), ops[j]? = some o → ∀ c, o.op ≠ .defer c) : ∀ (fuel : Nat) (listed : Array Bool) (a : Act) (w : World), wpAny P md ops (stillQ Q) fuel listed a w → wpAnyIn (Fence.wide.inRound l) n P md ops (stillQ Q) fuel listed a w
  | 0, _, _, _, h => h
  | fuel + 1, _, _, _, h => ⟨h.1, fun i hi => op_round hnd (wpOp_mono (fun a' w' h' => any_round hnd fuel _ a' w' h') (h.2 i hi))⟩
/-- No operation defers. -/
def noDefer (ops : Array Oper) : Bool := ops.all fun o => match o.op with | .defer _ => false | _ => true
theorem noDefer_spec (h : noDefer ops = true) (j : Nat) (o : Oper) (ho : ops[j]? = some o) : ∀ c, o.op ≠ .defer c := by
  rintro c hc
  obtain ⟨hj, rfl⟩ := Array.getElem?_eq_some_iff.1 ho
  have := (Array.all_eq_true.1 h) j hj
  rw [hc] at this
  cases this
/-- The region's beginning, within a round. -/
theorem region_round {id : Nat} {a : Act} {w : World} {S : World → Prop} (hm : P.follows .mixedOrders = true) (hnd : noDefer ops = true) (hS : S w.drew)
    (h : S w.drew → wpAnyH P .any ops (stillQ Q) S ops.size (Array.replicate ops.size false) a w.drew) : (Code.region id ops true).wpIn (Fence.wide.inRound l) n P Q a w :=
  wpIn_mono (wpIn_region_any hm (any_round (noDefer_spec hnd) _ _ _ _ (wpAny_of_held _ _ _ _ (h hS)))) stillQ_mono
end
end Go.Proofs.YthfdiinfeljeeaaGreatDoor
/- A head is right as the document says. -/
namespace Go.Proofs.YthfdiinfeljeeaaGreatDoor
open Go.RowKit
theorem textN_V (l : List Nd) (i : Nat) : textN (gN l i) = textV (vN l) i := rfl
set_option maxRecDepth 100000 in
set_option maxHeartbeats 1000000 in
theorem head27n (n : Nd) (p b : Nat) (w : World) (hbn : bareN n wHead = false) : Calls Tryz.prog 27 #[.pointer (some ⟨p, 0, none⟩), .agg (n.look b)] w fun e w' => e = .returned (.bool false) ∧ Below w.heap.size w w' := by
  have BH := fun W => bare26N n b ⟨#[104, 101, 97, 100]⟩ wHead hs_head W
  rw [hbn] at BH
  clear hbn
  obtain ⟨kind, space, name, al, aa, ac, data, sys, up, fst, lst, prv, nxt, inn, host⟩ := n
  unfold Nd.look at BH ⊢
  dsimp only at *
  have hrx := at_new ((w.alloc (.cells #[.pointer (some ⟨p, 0, none⟩)] 24)).alloc (.cells #[.int .i64 kind, .int .i64 space, .string name, .slice (some ⟨b, 0, none⟩) al.length al.length, .string data, .string sys, .int .i64 up, .int .i64 fst, .int .i64 lst, .int .i64 prv, .int .i64 nxt, .int .i64 inn] 52)) (.cells #[.bool false] 4) (w.heap.size + 1 + 1) (by simp)
  have hb0 := bal (bal (bal (Below.refl w.heap.size w) (.cells #[.pointer (some ⟨p, 0, none⟩)] 24)) (.cells #[.int .i64 kind, .int .i64 space, .string name, .slice (some ⟨b, 0, none⟩) al.length al.length, .string data, .string sys, .int .i64 up, .int .i64 fst, .int .i64 lst, .int .i64 prv, .int .i64 nxt, .int .i64 inn] 52)) (.cells #[.bool false] 4)
  go_enter Tryz.func27, Tryz.ntmps27
  go_wp2_with (go_at_call 26; with_reducible refine (BH _).mono ?_; rintro e w1 ⟨rfl, hw1⟩; have hr1 := bblk hw1 hrx; have fr1 := blk_free hr1; have cr1 := blk_cells hr1)
  have hr2 := set_blk (i := 0) hr1 (.bool false)
  exact bodyPost_ret (results_cell_boolN rfl _ _ ⟨w.heap.size + 1 + 1, 0, none⟩ _ rfl (blk_cells hr2 0) Tryz.underlying4) rfl ⟨rfl, (btr hb0 hw1).setCell (p := ⟨w.heap.size + 1 + 1, 0, none⟩) (by simp; omega) _⟩
set_option maxRecDepth 100000 in
set_option maxHeartbeats 1000000 in
theorem head27f (n : Nd) (p b : Nat) (w : World) (hfl : n.fst ≠ n.lst) : Calls Tryz.prog 27 #[.pointer (some ⟨p, 0, none⟩), .agg (n.look b)] w fun e w' => e = .returned (.bool false) ∧ Below w.heap.size w w' := by
  cases hbn : bareN n wHead
  · exact head27n n p b w hbn
  have BH := fun W => bare26N n b ⟨#[104, 101, 97, 100]⟩ wHead hs_head W
  rw [hbn] at BH
  clear hbn
  have hne : (n.fst != n.lst) = true := bne_iff_ne.2 hfl
  clear hfl
  obtain ⟨kind, space, name, al, aa, ac, data, sys, up, fst, lst, prv, nxt, inn, host⟩ := n
  unfold Nd.look at BH ⊢
  dsimp only at *
  have hrx := at_new ((w.alloc (.cells #[.pointer (some ⟨p, 0, none⟩)] 24)).alloc (.cells #[.int .i64 kind, .int .i64 space, .string name, .slice (some ⟨b, 0, none⟩) al.length al.length, .string data, .string sys, .int .i64 up, .int .i64 fst, .int .i64 lst, .int .i64 prv, .int .i64 nxt, .int .i64 inn] 52)) (.cells #[.bool false] 4) (w.heap.size + 1 + 1) (by simp)
  have hnx := at_old (at_new (w.alloc (.cells #[.pointer (some ⟨p, 0, none⟩)] 24)) (.cells #[.int .i64 kind, .int .i64 space, .string name, .slice (some ⟨b, 0, none⟩) al.length al.length, .string data, .string sys, .int .i64 up, .int .i64 fst, .int .i64 lst, .int .i64 prv, .int .i64 nxt, .int .i64 inn] 52) (w.heap.size + 1) (by simp)) (.cells #[.bool false] 4)
  have hb0 := bal (bal (bal (Below.refl w.heap.size w) (.cells #[.pointer (some ⟨p, 0, none⟩)] 24)) (.cells #[.int .i64 kind, .int .i64 space, .string name, .slice (some ⟨b, 0, none⟩) al.length al.length, .string data, .string sys, .int .i64 up, .int .i64 fst, .int .i64 lst, .int .i64 prv, .int .i64 nxt, .int .i64 inn] 52)) (.cells #[.bool false] 4)
  go_enter Tryz.func27, Tryz.ntmps27
  go_wp2_with (go_at_call 26; with_reducible refine (BH _).mono ?_; rintro e w1 ⟨rfl, hw1⟩; have hr1 := bblk hw1 hrx; have fr1 := blk_free hr1; have cr1 := blk_cells hr1; have cn1 := blk_cells (bblk hw1 hnx))
  have hr2 := set_blk (i := 0) hr1 (.bool false)
  exact bodyPost_ret (results_cell_boolN rfl _ _ ⟨w.heap.size + 1 + 1, 0, none⟩ _ rfl (blk_cells hr2 0) Tryz.underlying4) rfl ⟨rfl, (btr hb0 hw1).setCell (p := ⟨w.heap.size + 1 + 1, 0, none⟩) (by simp; omega) _⟩
theorem head27 (B p g cap : Nat) (l : List Nd) (ks : Nat → List Nat) (id b : Nat) (w : World) (hA : ArO w B p g cap l) (hG : Good l ks) (hX : Ex l) (hid : id < l.length) (hE : Env w) :
    Calls Tryz.prog 27 #[.pointer (some ⟨p, 0, none⟩), .agg ((gN l id).look b)] w fun e w' => e = .returned (.bool (headV (vN l) ks id)) ∧ Below w.heap.size w w' := by
  have hal : ∀ m ∈ l, m.al.length ≤ 1024 := fun m hm => (hX.sm m hm).al
  have hds : ∀ m ∈ l, m.data.size ≤ 1048576 := fun m hm => (hX.sm m hm).data
  rcases kids_cases hG id hid with ⟨hk, e1, e2⟩ | ⟨t, hk, e1, e2, ht⟩ | ⟨hne, h2⟩
  · cases hbn : bareN (gN l id) wHead
    · have hR : headV (vN l) ks id = false := by rw [headV, ← bareN_V, hbn]; rfl
      rw [hR]
      exact head27n _ p b w hbn
    · have hR : headV (vN l) ks id = true := by rw [headV, ← bareN_V, hbn, hk]; rfl
      rw [hR]
      exact head27a B p g cap l (gN l id) b 0 0 w true hA hE hal hds hbn (by rw [e1, e2]) (fun h => absurd e1 h) (fun _ => rfl) (fun h => absurd e1 h) (fun h => absurd e1 h) (fun h => absurd e1 h) (fun h => absurd e1 h)
  · have htn : (t : Int) ≠ -1 := by omega
    cases hbn : bareN (gN l id) wHead
    · have hR : headV (vN l) ks id = false := by rw [headV, ← bareN_V, hbn]; rfl
      rw [hR]
      exact head27n _ p b w hbn
    · have hR : headV (vN l) ks id = (bareN (gN l t) wTitle && match ks t with
          | [] => true
          | [x] => textV (vN l) x
          | _ => false) := by rw [headV, ← bareN_V, hbn, hk]; dsimp only; rw [← bareN_V, Bool.true_and]; rfl
      rw [hR]
      have hF := fun R c h1 h2 h3 h4 => head27a B p g cap l (gN l id) b t c w R hA hE hal hds hbn (by rw [e1, e2]) (fun _ => ⟨e1, ht⟩) (fun h => absurd h (by rw [e1]; exact htn)) h1 h2 h3 h4
      rcases kids_cases hG t ht with ⟨hk2, f1, f2⟩ | ⟨c, hk2, f1, f2, hc⟩ | ⟨hne, h2⟩
      · refine hF _ 0 (fun _ h => by rw [h]; rfl) (fun _ _ h => absurd (by rw [f1, f2]) h) (fun _ h _ _ => by rw [h, hk2]; rfl) (fun _ _ _ h => absurd f1 h)
      · refine hF _ c (fun _ h => by rw [h]; rfl) (fun _ _ h => absurd (by rw [f1, f2]) h) (fun _ _ _ h => by rw [f1] at h; omega) (fun _ h _ _ => ⟨f1, hc, by rw [h, hk2, Bool.true_and]; rfl⟩)
      · refine hF _ 0 (fun _ h => by rw [h]; rfl) (fun _ h _ => ?_) (fun _ _ h => absurd h hne) (fun _ _ h => absurd h hne)
        rw [h]
        rcases hk2 : ks t with _ | ⟨x, _ | ⟨y, r⟩⟩
        · rw [hk2] at h2; simp at h2
        · rw [hk2] at h2; simp at h2
        · rfl
  · have hR : headV (vN l) ks id = false := by
      rw [headV]
      rcases hk2 : ks id with _ | ⟨x, _ | ⟨y, r⟩⟩
      · rw [hk2] at h2; simp at h2
      · rw [hk2] at h2; simp at h2
      · simp
    rw [hR]
    exact head27f _ p b w hne
end Go.Proofs.YthfdiinfeljeeaaGreatDoor
/- A struct stored cell by cell. -/
namespace Go.Proofs.YthfdiinfeljeeaaGreatDoor
open Go.RowKit
theorem fill12b (w3 : World) (r t : Nat) (v0 v1 v2 v3 v4 v5 v6 v7 v8 v9 v10 v11 z0 z1 z2 z3 z4 z5 z6 z7 z8 z9 z10 z11 : Value) (h : w3.heap[r]? = some (.cells #[z0, z1, z2, z3, z4, z5, z6, z7, z8, z9, z10, z11] t (0, 0))) :
    ((((((((((((w3.setCell ⟨r, 0, none⟩ v0).setCell ⟨r, 1, none⟩ v1).setCell ⟨r, 2, none⟩ v2).setCell ⟨r, 3, none⟩ v3).setCell ⟨r, 4, none⟩ v4).setCell ⟨r, 5, none⟩ v5).setCell ⟨r, 6, none⟩ v6).setCell ⟨r, 7, none⟩ v7).setCell ⟨r, 8, none⟩ v8).setCell ⟨r, 9, none⟩ v9).setCell ⟨r, 10, none⟩ v10).setCell ⟨r, 11, none⟩ v11).heap[r]? = some (.cells #[v0, v1, v2, v3, v4, v5, v6, v7, v8, v9, v10, v11] t (0, 0)) ∧ (∀ k y, k ≠ r → w3.heap[k]? = some y → ((((((((((((w3.setCell ⟨r, 0, none⟩ v0).setCell ⟨r, 1, none⟩ v1).setCell ⟨r, 2, none⟩ v2).setCell ⟨r, 3, none⟩ v3).setCell ⟨r, 4, none⟩ v4).setCell ⟨r, 5, none⟩ v5).setCell ⟨r, 6, none⟩ v6).setCell ⟨r, 7, none⟩ v7).setCell ⟨r, 8, none⟩ v8).setCell ⟨r, 9, none⟩ v9).setCell ⟨r, 10, none⟩ v10).setCell ⟨r, 11, none⟩ v11).heap[k]? = some y) ∧ (∀ B w0, B ≤ r → Below B w0 w3 → Below B w0 ((((((((((((w3.setCell ⟨r, 0, none⟩ v0).setCell ⟨r, 1, none⟩ v1).setCell ⟨r, 2, none⟩ v2).setCell ⟨r, 3, none⟩ v3).setCell ⟨r, 4, none⟩ v4).setCell ⟨r, 5, none⟩ v5).setCell ⟨r, 6, none⟩ v6).setCell ⟨r, 7, none⟩ v7).setCell ⟨r, 8, none⟩ v8).setCell ⟨r, 9, none⟩ v9).setCell ⟨r, 10, none⟩ v10).setCell ⟨r, 11, none⟩ v11)) := by
  refine ⟨?_, fun k y h1 hy => (set_blk_ne (set_blk_ne (set_blk_ne (set_blk_ne (set_blk_ne (set_blk_ne (set_blk_ne (set_blk_ne (set_blk_ne (set_blk_ne (set_blk_ne (set_blk_ne hy h1 v0) h1 v1) h1 v2) h1 v3) h1 v4) h1 v5) h1 v6) h1 v7) h1 v8) h1 v9) h1 v10) h1 v11), fun B w0 hB hb => ((((((((((((hb.setCell (p := ⟨r, 0, none⟩) hB v0).setCell (p := ⟨r, 1, none⟩) hB v1).setCell (p := ⟨r, 2, none⟩) hB v2).setCell (p := ⟨r, 3, none⟩) hB v3).setCell (p := ⟨r, 4, none⟩) hB v4).setCell (p := ⟨r, 5, none⟩) hB v5).setCell (p := ⟨r, 6, none⟩) hB v6).setCell (p := ⟨r, 7, none⟩) hB v7).setCell (p := ⟨r, 8, none⟩) hB v8).setCell (p := ⟨r, 9, none⟩) hB v9).setCell (p := ⟨r, 10, none⟩) hB v10).setCell (p := ⟨r, 11, none⟩) hB v11)⟩
  have hf := (set_blk (i := 11) (set_blk (i := 10) (set_blk (i := 9) (set_blk (i := 8) (set_blk (i := 7) (set_blk (i := 6) (set_blk (i := 5) (set_blk (i := 4) (set_blk (i := 3) (set_blk (i := 2) (set_blk (i := 1) (set_blk (i := 0) h v0) v1) v2) v3) v4) v5) v6) v7) v8) v9) v10) v11)
  simpa only [List.setIfInBounds_toArray, List.set_cons_zero, List.set_cons_succ] using hf
end Go.Proofs.YthfdiinfeljeeaaGreatDoor
