/- Texts of one seat, merged: lemmas and contracts that the law leans on. -/
import Derived.Test.YthfdiinfeljeeaaGreatDoorCM6
import Derived.Lib.Builder
import Derived.Lib.AppendStr
import Derived.Lib.UnsafeStr
import Derived.Laws.Externs
import Derived.WalkKit
/- Is a document in the class? -/
namespace Go.Proofs.YthfdiinfeljeeaaGreatDoor
open Go.RowKit Go.Shelf
attribute [local go_sem] Oper.semAt_some
set_option maxRecDepth 100000 in
set_option maxHeartbeats 4000000 in
theorem in7a (B p g cap : Nat) (l : List Nd) (ks : Nat → List Nat) (t : Nat) (w : World) (R : Bool) (hA : ArO w B p g cap l) (hG : Good l ks) (hX : Ex l) (hl : l.length ≤ 607) (hE : Env w) (h0l : 0 < l.length)
    (ht : (l[0]'h0l).fst ≠ -1 ∧ (l[0]'h0l).fst = (l[0]'h0l).lst → (l[0]'h0l).fst = (t : Int) ∧ t < l.length)
    (h0 : ¬ ((l[0]'h0l).fst ≠ -1 ∧ (l[0]'h0l).fst = (l[0]'h0l).lst) → R = false)
    (h1 : t < l.length → bareN (gN l t) wHtml = false → R = false)
    (h2 : t < l.length → bareN (gN l t) wHtml = true → (ks t).length ≠ 2 → R = false)
    (h3 : t < l.length → bareN (gN l t) wHtml = true → ∀ a b, ks t = [a, b] → R = (headV (vN l) ks a && bodyV (vN l) ks b)) :
    Calls Tryz.prog 7 #[.pointer (some ⟨p, 0, none⟩)] w fun e w' => e = .returned (.bool R) ∧ Below w.heap.size w w' := by
  have hal : ∀ m ∈ l, m.al.length ≤ 1024 := fun m hm => (hX.sm m hm).al
  have hb0 := bal (bal (Below.refl w.heap.size w) (.cells #[.pointer (some ⟨p, 0, none⟩)] 24)) (.cells #[.bool false] 4)
  have hbx := at_old (at_new w (.cells #[.pointer (some ⟨p, 0, none⟩)] 24) _ rfl) (.cells #[.bool false] 4)
  have hrx := at_new (w.alloc (.cells #[.pointer (some ⟨p, 0, none⟩)] 24)) (.cells #[.bool false] 4) (w.heap.size + 1) (by simp)
  have hN := node21 B p g cap l 0 _ (hA.below hb0) h0l (hal _ (List.getElem_mem h0l))
  have hLn := fun W h => len20 B p l W h
  have HH := Go.Lib.hid (And.intro ht (And.intro h0 (And.intro h1 (And.intro h2 h3))))
  have hO := fun (m : Nat) (hm : 1 ≤ m) (W0 : World) (b b1 b2 : Nat) hA h1 h2 => only_stops m hm B p g cap l (l[0]'h0l) b b1 b2 t W0 hA h1 h2 ht hal
  have hone : ((l[0]'h0l).fst ≠ -1 ∧ (l[0]'h0l).fst = (l[0]'h0l).lst → oneN (l[0]'h0l) = 1) ∧ (¬ ((l[0]'h0l).fst ≠ -1 ∧ (l[0]'h0l).fst = (l[0]'h0l).lst) → oneN (l[0]'h0l) = 0) := ⟨fun h => by unfold oneN; rw [if_pos h], fun h => by unfold oneN; rw [if_neg h]⟩
  have hTb := fun W b => bare26N (gN l t) b ⟨#[104, 116, 109, 108]⟩ wHtml hs_html W
  have hKs : t < l.length → ∀ W, ArO W B p g cap l → Calls Tryz.prog 25 #[.pointer (some ⟨p, 0, none⟩), .int .i64 (t : Int)] W fun e w' => ∃ v, e = .returned v ∧ w'.ownsRow W.heap.size 3 1 v (ks t).length (ints (ks t)) ∧ Below W.heap.size W w' := fun h W hA => by
    have hch := hG.chain t h
    rw [show gN l t = l[t] from getD_of h] at hch
    exact kids25 B p g cap l t (ks t) W hA h hch (by have := nodup_bound l.length (ks t) (hG.nod t h) (fun c hc => (hG.mem t h c hc).1); omega)
  clear ht h0 h1 h2 h3
  generalize gN l t = T at *
  generalize l[0]'h0l = n at *
  have OH := fun b W => only24 p b n W
  obtain ⟨kind, space, name, al, aa, ac, data, sys, up, fst, lst, prv, nxt, inn, host⟩ := n
  unfold NodePost Nd.look at hN
  unfold Nd.look at OH hO hTb
  dsimp only at *
  have hln0 : ((l.length : Int) == 0) = false := by rw [beq_eq_false_iff_ne]; omega
  refine (callsIn_wide (n := 6)).1 ?_
  refine callsIn_of_wp_marks Tryz.func7 rfl trivial ?_ rfl
  simp only [Tryz.ntmps7, List.size_toArray, List.length_cons, List.length_nil, Nat.reduceAdd, Nat.reduceSub, Array.replicate_succ, Array.replicate_zero, List.push_toArray, List.append_toArray, List.nil_append, List.cons_append]
  gi_wp2_with (first
    | (refine ⟨trivial, ?_⟩; gi_at_call 21; refine (callsIn_wide.2 hN).mono ?_; rintro e w1 ⟨b0, rfl, hab, hle1, hw1⟩; have bA1 := at_old (bblk hw1 hbx) (.cells #[.int .i64 kind, .int .i64 space, .string name, .slice (some ⟨b0, 0, none⟩) al.length al.length, .string data, .string sys, .int .i64 up, .int .i64 fst, .int .i64 lst, .int .i64 prv, .int .i64 nxt, .int .i64 inn] 52); have cA1 := blk_cells bA1; have bD1 := at_new w1 (.cells #[.int .i64 kind, .int .i64 space, .string name, .slice (some ⟨b0, 0, none⟩) al.length al.length, .string data, .string sys, .int .i64 up, .int .i64 fst, .int .i64 lst, .int .i64 prv, .int .i64 nxt, .int .i64 inn] 52) _ rfl; have cD1 := blk_cells bD1)
    | (refine ⟨trivial, ?_⟩; gi_at_call 20; refine (callsIn_wide.2 (hLn _ (((hA.below hb0).below hw1).below (bal (Below.refl _ _) _)).shut)).mono ?_; rintro e w2 ⟨rfl, rfl⟩))
  refine ⟨trivial, ?_⟩
  refine (callsIn_wide.2 (OH b0 _)).mono ?_
  rintro e W0 ⟨rfl, hW0⟩
  gi_wp2
  have hb1 := bal (btr hb0 hw1) (.cells #[.int .i64 kind, .int .i64 space, .string name, .slice (some ⟨b0, 0, none⟩) al.length al.length, .string data, .string sys, .int .i64 up, .int .i64 fst, .int .i64 lst, .int .i64 prv, .int .i64 nxt, .int .i64 inn] 52)
  have hsz1 : (w1.alloc (.cells #[.int .i64 kind, .int .i64 space, .string name, .slice (some ⟨b0, 0, none⟩) al.length al.length, .string data, .string sys, .int .i64 up, .int .i64 fst, .int .i64 lst, .int .i64 prv, .int .i64 nxt, .int .i64 inn] 52)).heap.size = w1.heap.size + 1 := by simp
  have hle1 := hw1.size
  have q1 : W0.heap[w1.heap.size + 1]? = some (.cells #[.pointer (some ⟨p, 0, none⟩)] 24 (0, 0)) := by rw [← hW0]; exact at_old (at_new _ _ _ (by simp)) _
  have q2 := at_new ((w1.alloc (.cells #[.int .i64 kind, .int .i64 space, .string name, .slice (some ⟨b0, 0, none⟩) al.length al.length, .string data, .string sys, .int .i64 up, .int .i64 fst, .int .i64 lst, .int .i64 prv, .int .i64 nxt, .int .i64 inn] 52)).alloc (.cells #[.pointer (some ⟨p, 0, none⟩)] 24)) (.cells #[.int .i64 kind, .int .i64 space, .string name, .slice (some ⟨b0, 0, none⟩) al.length al.length, .string data, .string sys, .int .i64 up, .int .i64 fst, .int .i64 lst, .int .i64 prv, .int .i64 nxt, .int .i64 inn] 52) (w1.heap.size + 1 + 1) (by simp)
  have hb2 : Below (w1.alloc (.cells #[.int .i64 kind, .int .i64 space, .string name, .slice (some ⟨b0, 0, none⟩) al.length al.length, .string data, .string sys, .int .i64 up, .int .i64 fst, .int .i64 lst, .int .i64 prv, .int .i64 nxt, .int .i64 inn] 52)).heap.size (w1.alloc (.cells #[.int .i64 kind, .int .i64 space, .string name, .slice (some ⟨b0, 0, none⟩) al.length al.length, .string data, .string sys, .int .i64 up, .int .i64 fst, .int .i64 lst, .int .i64 prv, .int .i64 nxt, .int .i64 inn] 52)) W0 := by rw [← hW0]; exact bal (bal (Below.refl _ _) _) _
  have hsz0 : w1.heap.size + 3 = W0.heap.size := by rw [← hW0]; simp
  rw [hW0] at q2
  have hb3 := btr hb1 hb2
  have hsz : w.heap.size + 2 ≤ w1.heap.size := by simpa using hle1
  have bR : Boxed W0 (w.heap.size + 1) 4 (.bool false) := bblk hb2 (at_old (bblk hw1 hrx) _)
  have bA := bblk hb2 bA1
  have bD := bblk hb2 bD1
  have hOO := hO 5 (by decide) W0 b0 (w1.heap.size + 1 + 1) (w1.heap.size + 1) (hA.below hb3) q2 q1
  clear hW0 OH hbx hrx hb0 hw1 bA1 cA1 bD1 cD1 hb1 hb2 hO hLn hN hab hle1 hsz1 hln0
  refine wpIn_rangeFunc_ownH rfl (by decide) (gf := 52) (lb := #[.pointer (some ⟨w1.heap.size + 1 + 1, 0, none⟩), .pointer (some ⟨w1.heap.size + 1, 0, none⟩)]) rfl trivial (enters_of Tryz.func52 (by kernel_rfl) rfl)
    hOO (fun _ _ => trivial) (fun _ _ _ _ _ _ _ _ => trivial) (Below.refl _ _) (fun _ => rfl)
    (fun pre W => (pre = [] ∧ Boxed W (w.heap.size + 1) 4 (.bool false)) ∧ (W.heap[w.heap.size]? = some (.cells #[.pointer (some ⟨p, 0, none⟩)] 24 (0, 0)) ∧ W.heap[w1.heap.size]? = some (.cells #[.int .i64 kind, .int .i64 space, .string name, .slice (some ⟨b0, 0, none⟩) al.length al.length, .string data, .string sys, .int .i64 up, .int .i64 fst, .int .i64 lst, .int .i64 prv, .int .i64 nxt, .int .i64 inn] 52 (0, 0))) ∧ Below w.heap.size w W)
    (fun c' _ W => (c' = .ret ∧ Boxed W (w.heap.size + 1) 4 (.bool R)) ∧ Below w.heap.size w W)
    (OwnFrom.and (OwnFrom.and (ownFrom_pure _ _) (Own.from (boxed_own _ _ _) _)) (OwnFrom.and (OwnFrom.and (Own.from (blk_own _ _ _) _) (Own.from (blk_own _ _ _) _)) (ownFrom_below (Nat.le_refl _) (by omega))))
    (fun c' => OwnFrom.and (OwnFrom.and (ownFrom_pure _ _) (Own.from (boxed_own _ _ _) _)) (ownFrom_below (Nat.le_refl _) (by omega)))
    ⟨⟨rfl, bR⟩, ⟨bA, bD⟩, hb3⟩
    (fun x a' W => ∃ Bx, w.heap.size + 1 < Bx ∧ W.heap[Bx]? = some (.cells #[.int .i64 T.kind, .int .i64 T.space, .string T.name, .slice (some ⟨x, 0, none⟩) T.al.length T.al.length, .string T.data, .string T.sys, .int .i64 T.up, .int .i64 T.fst, .int .i64 T.lst, .int .i64 T.prv, .int .i64 T.nxt, .int .i64 T.inn] 52 (0, 0)) ∧ a' = { tmps := #[.pointer (some ⟨p, 0, none⟩), .pointer (some ⟨w.heap.size, 0, none⟩), .pointer (some ⟨w.heap.size + 1, 0, none⟩), .pointer (some ⟨w1.heap.size, 0, none⟩), .int .i64 0, .pointer (some ⟨Bx, 0, none⟩), undef, undef, undef, undef, undef, .tuple #[.agg #[.int .i64 kind, .int .i64 space, .string name, .slice (some ⟨b0, 0, none⟩) al.length al.length, .string data, .string sys, .int .i64 up, .int .i64 fst, .int .i64 lst, .int .i64 prv, .int .i64 nxt, .int .i64 inn], .int .i64 0], .pointer (some ⟨p, 0, none⟩), .tuple #[.agg #[.int .i64 kind, .int .i64 space, .string name, .slice (some ⟨b0, 0, none⟩) al.length al.length, .string data, .string sys, .int .i64 up, .int .i64 fst, .int .i64 lst, .int .i64 prv, .int .i64 nxt, .int .i64 inn], .int .i64 0], .agg #[.int .i64 kind, .int .i64 space, .string name, .slice (some ⟨b0, 0, none⟩) al.length al.length, .string data, .string sys, .int .i64 up, .int .i64 fst, .int .i64 lst, .int .i64 prv, .int .i64 nxt, .int .i64 inn], .int .i64 0, .pointer (some ⟨p, 0, none⟩), .int .i64 (l.length : Int), .bool false, .pointer (some ⟨p, 0, none⟩), .agg #[.int .i64 kind, .int .i64 space, .string name, .slice (some ⟨b0, 0, none⟩) al.length al.length, .string data, .string sys, .int .i64 up, .int .i64 fst, .int .i64 lst, .int .i64 prv, .int .i64 nxt, .int .i64 inn], .func (.func 52) #[] #[.pointer (some ⟨w1.heap.size + 1 + 1, 0, none⟩), .pointer (some ⟨w1.heap.size + 1, 0, none⟩)], .agg #[.int .i64 T.kind, .int .i64 T.space, .string T.name, .slice (some ⟨x, 0, none⟩) T.al.length T.al.length, .string T.data, .string T.sys, .int .i64 T.up, .int .i64 T.fst, .int .i64 T.lst, .int .i64 T.prv, .int .i64 T.nxt, .int .i64 T.inn], undef, undef, undef, undef, undef, undef, undef, undef, undef, undef, undef, undef, undef, undef, undef, undef, undef, undef, undef, undef, undef, undef, undef, undef, undef, undef, undef, undef, undef, undef, undef, undef, undef, undef, undef, undef, undef, undef, undef, undef, undef, undef, undef, undef, undef, undef, undef, undef, undef, undef, undef, undef, undef, undef, undef, undef, undef, undef], defers := [] })
    (fun x a' _ X Y row hs hg hr => by obtain ⟨Bx, e1, e2, e3⟩ := hs; exact ⟨Bx, e1, blk_own Bx _ 52 () X Y row e2 hg (fun r e => (hr r e).2), e3⟩)
    ?assign ?body ?done ?stop
  case assign =>
    rintro ly pre x W K ⟨⟨hp, bR1⟩, ⟨bA1, bD1⟩, hB1⟩ hK
    gi_wp2
    exact hK _ _ (below_keeps (bal (Below.refl _ _) _)) trivial ⟨⟨hp, at_old bR1 _⟩, ⟨at_old bA1 _, at_old bD1 _⟩, hB1.trans ((bal (Below.refl _ _) _).mono hB1.size)⟩ ⟨W.heap.size, bR1.lt, at_new _ _ _ rfl, rfl⟩
  case body =>
    rintro ly pre x a' W hly ⟨r, hr⟩ ⟨⟨rfl, bR1⟩, ⟨bA1, bD1⟩, hB1⟩ ⟨Bx, hBx, bX, rfl⟩ hlt
    have hcond : fst ≠ -1 ∧ fst = lst := by
      rcases Decidable.em (fst ≠ -1 ∧ fst = lst) with h | h
      · exact h
      · have := hone.2 h; simp only [List.length_nil] at hlt; omega
    obtain ⟨ht, -, h1, h2, h3⟩ := HH.out
    obtain ⟨et, htl⟩ := ht hcond
    have h1 := h1 htl
    have h2 := h2 htl
    have h3 := h3 htl
    have hKs := hKs htl
    have hTb := fun W => hTb W x
    clear HH hone hOO hcond ht q1 q2 bR bA bD hlt
    subst et
    have hbt := fun (w2 : World) (h : Below W.heap.size W w2) => hB1.trans (h.mono hB1.size)
    have hAW := hA.below hB1
    have cA := blk_cells bA1
    have cD := blk_cells bD1
    have cX := blk_cells bX
    cases hbn : bareN T wHtml
    · rw [hbn] at hTb
      obtain rfl := h1 hbn
      clear h1 h2 h3 hbn
      gi_wp2_with (first
        | (refine ⟨trivial, ?_⟩; gi_at_call 25; refine (CallsIn.inRound ly (callsIn_wide.2 (hKs _ hAW))).mono ?_; rintro e w2 ⟨v2, rfl, hown, hw2⟩; obtain ⟨oa, cap2, rfl⟩ := own_slice hown; have cX2 := blk_cells (bblk hw2 bX))
        | (refine ⟨trivial, ?_⟩; gi_at_call 26; refine (CallsIn.inRound ly (callsIn_wide.2 (hTb _))).mono ?_; rintro e w3 ⟨rfl, hw3⟩; have bR3 : Boxed w3 (w.heap.size + 1) 4 (.bool false) := bblk hw3 (bblk hw2 bR1); have cR3 := bR3.cell; have fR3 := bR3.frozen))
      have hw23 := btr hw2 hw3
      exact ⟨(below_keeps hw23).trans ((KeepsOthers.setCell _ _ _).from _), ⟨rfl, bR3.set _⟩, (hbt _ hw23).setCell (p := ⟨w.heap.size + 1, 0, none⟩) (by simp) _⟩
    · rw [hbn] at hTb
      have h2 := h2 hbn
      have h3 := h3 hbn
      clear h1 hbn
      by_cases hk2 : (ks t).length = 2
      · obtain ⟨x1, x2, hx⟩ : ∃ x1 x2, ks t = [x1, x2] := by
          rcases hk : ks t with _ | ⟨a, _ | ⟨b, _ | ⟨c, r⟩⟩⟩
          · rw [hk] at hk2; simp at hk2
          · rw [hk] at hk2; simp at hk2
          · exact ⟨a, b, rfl⟩
          · rw [hk] at hk2; simp at hk2
        have hR := h3 x1 x2 hx
        have hx1 := (hG.mem t htl x1 (by rw [hx]; simp)).1
        have hx2 := (hG.mem t htl x2 (by rw [hx]; simp)).1
        rw [hx] at hKs
        have HR := Go.Lib.hid hR
        clear h2 h3 hk2 hR
        gi_wp2_with (first
          | (refine ⟨trivial, ?_⟩; gi_at_call 25; refine (CallsIn.inRound ly (callsIn_wide.2 (hKs _ hAW))).mono ?_; rintro e w2 ⟨v2, rfl, hown, hw2⟩; obtain ⟨oa, cap2, rfl⟩ := own_slice hown; have cX2 := blk_cells (bblk hw2 bX))
          | (refine ⟨trivial, ?_⟩; gi_at_call 26; refine (CallsIn.inRound ly (callsIn_wide.2 (hTb _))).mono ?_; rintro e w3 ⟨rfl, hw3⟩))
        have hw23 := btr hw2 hw3
        have hownA := own_fr hown (Fr.of_below (B := 0) (T := []) (Nat.zero_le _) hw3) (by simp)
        obtain ⟨g2, rfl, hg2⟩ := own_form hownA (by simp)
        have e1 := hownA.cellAt 0 (by simp)
        have e2 := hownA.cellAt 1 (by simp)
        have bA3 := bblk hw23 bA1
        have bR3 : Boxed w3 (w.heap.size + 1) 4 (.bool false) := bblk hw23 bR1
        have hAd : ArO w3.drew B p g cap l := (hA.below (hbt _ hw23)).below ⟨rfl, rfl, rfl, Nat.le_refl _, fun _ _ => rfl⟩
        have hN1 := fun W (h : ArO W B p g cap l) => node21 B p g cap l x1 W h hx1 (hal _ (List.getElem_mem hx1))
        have hN2 := fun W (h : ArO W B p g cap l) => node21 B p g cap l x2 W h hx2 (hal _ (List.getElem_mem hx2))
        obtain ⟨N1, hN1e⟩ : ∃ N1, N1 = l[x1] := ⟨_, rfl⟩
        obtain ⟨N2, hN2e⟩ : ∃ N2, N2 = l[x2] := ⟨_, rfl⟩
        rw [← hN1e] at hN1
        rw [← hN2e] at hN2
        have HN1 := Go.Lib.hid hN1e
        have HN2 := Go.Lib.hid hN2e
        clear hN1e hN2e hx cX2 cX cA cD
        unfold NodePost Nd.look at hN1 hN2
        have HS := Go.Lib.hid (show ∀ W', Below w3.drew.heap.size w3.drew W' → (Below w3.drew.heap.size w3.drew W' ∧ W'.cell? ⟨w.heap.size, 0, none⟩ = some (.pointer (some ⟨p, 0, none⟩)) ∧ W'.cell? ⟨g2, 0, none⟩ = some (.int .i64 (x1 : Int)) ∧ W'.cell? ⟨g2, 1, none⟩ = some (.int .i64 (x2 : Int))) from fun W' h => ⟨h, bcl h (blk_cells bA3 0), bcl h e1, bcl h e2⟩)
        clear e1 e2
        refine wpIn_mono (Q := fun e a' W' => e = .normal ∧ ∃ F b1, a' = { tmps := #[.pointer (some ⟨p, 0, none⟩), .pointer (some ⟨w.heap.size, 0, none⟩), .pointer (some ⟨w.heap.size + 1, 0, none⟩), .pointer (some ⟨w1.heap.size, 0, none⟩), .int .i64 0, .pointer (some ⟨Bx, 0, none⟩), .slice (some ⟨g2, 0, none⟩) 2 cap2, .pointer (some ⟨F, 0, none⟩), .int .i64 0, undef, undef, .tuple #[.agg #[.int .i64 kind, .int .i64 space, .string name, .slice (some ⟨b0, 0, none⟩) al.length al.length, .string data, .string sys, .int .i64 up, .int .i64 (t : Int), .int .i64 lst, .int .i64 prv, .int .i64 nxt, .int .i64 inn], .int .i64 0], .pointer (some ⟨p, 0, none⟩), .tuple #[.agg #[.int .i64 kind, .int .i64 space, .string name, .slice (some ⟨b0, 0, none⟩) al.length al.length, .string data, .string sys, .int .i64 up, .int .i64 (t : Int), .int .i64 lst, .int .i64 prv, .int .i64 nxt, .int .i64 inn], .int .i64 0], .agg #[.int .i64 kind, .int .i64 space, .string name, .slice (some ⟨b0, 0, none⟩) al.length al.length, .string data, .string sys, .int .i64 up, .int .i64 (t : Int), .int .i64 lst, .int .i64 prv, .int .i64 nxt, .int .i64 inn], .int .i64 0, .pointer (some ⟨p, 0, none⟩), .int .i64 (l.length : Int), .bool false, .pointer (some ⟨p, 0, none⟩), .agg #[.int .i64 kind, .int .i64 space, .string name, .slice (some ⟨b0, 0, none⟩) al.length al.length, .string data, .string sys, .int .i64 up, .int .i64 (t : Int), .int .i64 lst, .int .i64 prv, .int .i64 nxt, .int .i64 inn], .func (.func 52) #[] #[.pointer (some ⟨w1.heap.size + 1 + 1, 0, none⟩), .pointer (some ⟨w1.heap.size + 1, 0, none⟩)], .agg #[.int .i64 T.kind, .int .i64 T.space, .string T.name, .slice (some ⟨x, 0, none⟩) T.al.length T.al.length, .string T.data, .string T.sys, .int .i64 T.up, .int .i64 T.fst, .int .i64 T.lst, .int .i64 T.prv, .int .i64 T.nxt, .int .i64 T.inn], .pointer (some ⟨p, 0, none⟩), .pointer (some ⟨w1.heap.size, 7, none⟩), .int .i64 (t : Int), .slice (some ⟨g2, 0, none⟩) 2 cap2, .agg #[.int .i64 T.kind, .int .i64 T.space, .string T.name, .slice (some ⟨x, 0, none⟩) T.al.length T.al.length, .string T.data, .string T.sys, .int .i64 T.up, .int .i64 T.fst, .int .i64 T.lst, .int .i64 T.prv, .int .i64 T.nxt, .int .i64 T.inn], .bool true, .bool false, .bool false, .slice (some ⟨g2, 0, none⟩) 2 cap2, .int .i64 2, .bool false, .bool false, .tuple #[.agg #[.int .i64 N1.kind, .int .i64 N1.space, .string N1.name, .slice (some ⟨b1, 0, none⟩) N1.al.length N1.al.length, .string N1.data, .string N1.sys, .int .i64 N1.up, .int .i64 N1.fst, .int .i64 N1.lst, .int .i64 N1.prv, .int .i64 N1.nxt, .int .i64 N1.inn], .int .i64 0], .pointer (some ⟨p, 0, none⟩), .slice (some ⟨g2, 0, none⟩) 2 cap2, .pointer (some ⟨g2, 0, none⟩), .int .i64 (x1 : Int), .tuple #[.agg #[.int .i64 N1.kind, .int .i64 N1.space, .string N1.name, .slice (some ⟨b1, 0, none⟩) N1.al.length N1.al.length, .string N1.data, .string N1.sys, .int .i64 N1.up, .int .i64 N1.fst, .int .i64 N1.lst, .int .i64 N1.prv, .int .i64 N1.nxt, .int .i64 N1.inn], .int .i64 0], .agg #[.int .i64 N1.kind, .int .i64 N1.space, .string N1.name, .slice (some ⟨b1, 0, none⟩) N1.al.length N1.al.length, .string N1.data, .string N1.sys, .int .i64 N1.up, .int .i64 N1.fst, .int .i64 N1.lst, .int .i64 N1.prv, .int .i64 N1.nxt, .int .i64 N1.inn], .int .i64 0, undef, undef, undef, undef, undef, undef, undef, undef, undef, undef, undef, undef, undef, undef, undef, undef, undef, undef, undef, undef, undef, undef, undef, undef, undef, undef, undef, undef, undef, undef, undef, undef, undef, undef, undef, undef, undef, undef], defers := [] } ∧ W'.heap[F]? = some (.cells #[.int .i64 N1.kind, .int .i64 N1.space, .string N1.name, .slice (some ⟨b1, 0, none⟩) N1.al.length N1.al.length, .string N1.data, .string N1.sys, .int .i64 N1.up, .int .i64 N1.fst, .int .i64 N1.lst, .int .i64 N1.prv, .int .i64 N1.nxt, .int .i64 N1.inn] 52 (0, 0)) ∧ W'.heap[b1]? = some (.cells (cellsA N1.al).toArray 80 (0, 0)) ∧ Below w3.drew.heap.size w3.drew W') ?_ ?_
        · skip
          refine region_round (S := fun W => Below w3.drew.heap.size w3.drew W ∧ W.cell? ⟨w.heap.size, 0, none⟩ = some (.pointer (some ⟨p, 0, none⟩)) ∧ W.cell? ⟨g2, 0, none⟩ = some (.int .i64 (x1 : Int)) ∧ W.cell? ⟨g2, 1, none⟩ = some (.int .i64 (x2 : Int))) (by kernel_rfl) (by kernel_rfl) (HS.out _ (Below.refl _ _)) (fun hHeld => ?_)
          refine wpAnyH_take (i := 0) (oi := ⟨some 36, _, _, _, _, _⟩) (v := ?_) rfl (by kernel_rfl) (by kernel_rfl) (by kernel_rfl) (fun _ _ _ h => h) (Or.inl ⟨by kernel_rfl, ?_⟩) (by assumption) ?_
          rotate_left
          · intro w hSw; (try dsimp only at hSw); (try go_simp); all_goals (with_reducible rfl)
          try simp only [Act.put]
          refine wpAnyH_take (i := 1) (oi := ⟨some 37, _, _, _, _, _⟩) (v := ?_) rfl (by kernel_rfl) (by kernel_rfl) (by kernel_rfl) (fun _ _ _ h => h) (Or.inl ⟨by kernel_rfl, ?_⟩) (by assumption) ?_
          rotate_left
          · intro w hSw; (try dsimp only at hSw); (try go_simp); all_goals (with_reducible rfl)
          try simp only [Act.put]
          refine wpAnyH_take (i := 2) (oi := ⟨some 38, _, _, _, _, _⟩) (v := ?_) rfl (by kernel_rfl) (by kernel_rfl) (by kernel_rfl) (fun _ _ _ h => h) (Or.inl ⟨by kernel_rfl, ?_⟩) (by assumption) ?_
          rotate_left
          · intro w hSw; (try dsimp only at hSw); (try go_simp); all_goals (with_reducible rfl)
          try simp only [Act.put]
          refine wpAnyH_take (i := 3) (oi := ⟨some 39, _, _, _, _, _⟩) (v := ?_) rfl (by kernel_rfl) (by kernel_rfl) (by kernel_rfl) (fun _ _ _ h => h) (Or.inl ⟨by kernel_rfl, ?_⟩) (by assumption) ?_
          rotate_left
          · intro w hSw; (try dsimp only at hSw); (try go_simp); all_goals (with_reducible rfl)
          try simp only [Act.put]
          refine wpAnyH_ready (rs := [4, 8]) (by kernel_rfl) (by simp) ?_
          refine AllReadyH.cons rfl (fun K hK => ?_) (AllReadyH.cons rfl (fun K hK => ?_) AllReadyH.nil)
          · go_simp
            go_wp2_with (go_at_call 21; refine (hN1 _ (hAd.below hHeld.1)).mono ?_; rintro e w4 ⟨b1, rfl, hab, hle4, hw4⟩)
            refine hK.out _ _ (HS.out _ (hHeld.1.trans (hw4.mono hHeld.1.size))) (fun hHeld => ?_)
            clear hK K
            have hB4 := hHeld.1
            refine wpAnyH_take (i := 5) (oi := ⟨some 35, _, _, _, _, _⟩) (v := ?_) rfl (by kernel_rfl) (by kernel_rfl) (by kernel_rfl) (fun _ _ _ h => h) (Or.inl ⟨by kernel_rfl, ?_⟩) (by assumption) ?_
            rotate_left
            · intro w hSw; (try dsimp only at hSw); (try go_simp); all_goals (with_reducible rfl)
            try simp only [Act.put]
            refine wpAnyH_take (i := 6) (oi := ⟨some 41, _, _, _, _, _⟩) (v := ?_) rfl (by kernel_rfl) (by kernel_rfl) (by kernel_rfl) (fun _ _ _ h => h) (Or.inl ⟨by kernel_rfl, ?_⟩) (by assumption) ?_
            rotate_left
            · intro w hSw; (try dsimp only at hSw); (try go_simp); all_goals (with_reducible rfl)
            try simp only [Act.put]
            refine wpAnyH_take (i := 7) (oi := ⟨some 42, _, _, _, _, _⟩) (v := ?_) rfl (by kernel_rfl) (by kernel_rfl) (by kernel_rfl) (fun _ _ _ h => h) (Or.inl ⟨by kernel_rfl, ?_⟩) (by assumption) ?_
            rotate_left
            · intro w hSw; (try dsimp only at hSw); (try go_simp); all_goals (with_reducible rfl)
            try simp only [Act.put]
            refine wpAnyH_ready (rs := [8]) (by kernel_rfl) (by simp) ?_
            refine AllReadyH.cons rfl (fun K hK => ?_) AllReadyH.nil
            go_simp
            refine hK.out _ _ (HS.out _ (hHeld.1.alloc hHeld.1.size _)) (fun hHeld => ?_)
            clear hK K
            refine wpAnyH_ready (rs := [9]) (by kernel_rfl) (by simp) ?_
            refine AllReadyH.cons rfl (fun K hK => ?_) AllReadyH.nil
            go_simp
            refine hK.out _ _ (HS.out _ (hB4.alloc hB4.size _)) (fun hHeld => ?_)
            clear hK K
            refine wpAnyH_take (i := 10) (oi := ⟨some 8, _, _, _, _, _⟩) (v := ?_) rfl (by kernel_rfl) (by kernel_rfl) (by kernel_rfl) (fun _ _ _ h => h) (Or.inl ⟨by kernel_rfl, ?_⟩) (by assumption) ?_
            rotate_left
            · intro w hSw; (try dsimp only at hSw); (try go_simp); all_goals (with_reducible rfl)
            try simp only [Act.put]
            refine wpAnyH_done (by kernel_rfl) ?_ _
            try simp only [List.setIfInBounds_toArray, List.set_cons_succ, List.set_cons_zero]
            exact ⟨rfl, _, _, rfl, at_new _ _ _ rfl, at_old hab _, hHeld.1⟩
          · go_simp
            have hz := at_new w3.drew (.cells zeroV 52) _ rfl
            refine hK.out _ _ (HS.out _ (hHeld.1.alloc hHeld.1.size _)) (fun hHeld => ?_)
            clear hK K
            refine wpAnyH_ready (rs := [4]) (by kernel_rfl) (by simp) ?_
            refine AllReadyH.cons rfl (fun K hK => ?_) AllReadyH.nil
            go_simp
            go_wp2_with (go_at_call 21; refine (hN1 _ (hAd.below hHeld.1)).mono ?_; rintro e w4 ⟨b1, rfl, hab, hle4, hw4⟩)
            refine hK.out _ _ (HS.out _ (hHeld.1.trans (hw4.mono hHeld.1.size))) (fun hHeld => ?_)
            clear hK K
            have hB4 := hHeld.1
            have hz4 : w4.heap[w3.heap.size]? = some (.cells zeroV 52 (0, 0)) := bblk hw4 hz
            unfold zeroV at hz4
            have cz := blk_cells hz4
            have fz := blk_free hz4
            obtain ⟨f1, f2, f3⟩ := fill12b w4 w3.heap.size 52 (.int .i64 N1.kind) (.int .i64 N1.space) (.string N1.name) (.slice (some ⟨b1, 0, none⟩) N1.al.length N1.al.length) (.string N1.data) (.string N1.sys) (.int .i64 N1.up) (.int .i64 N1.fst) (.int .i64 N1.lst) (.int .i64 N1.prv) (.int .i64 N1.nxt) (.int .i64 N1.inn) _ _ _ _ _ _ _ _ _ _ _ _ hz4
            have f2 := f2 b1 _ (Nat.ne_of_gt (Nat.lt_of_lt_of_le (blk_lt hz) hle4)) hab
            have f3 := f3 _ _ (Nat.le_refl _) hB4
            refine wpAnyH_take (i := 5) (oi := ⟨some 35, _, _, _, _, _⟩) (v := ?_) rfl (by kernel_rfl) (by kernel_rfl) (by kernel_rfl) (fun _ _ _ h => h) (Or.inl ⟨by kernel_rfl, ?_⟩) (by assumption) ?_
            rotate_left
            · intro w hSw; (try dsimp only at hSw); (try go_simp); all_goals (with_reducible rfl)
            try simp only [Act.put]
            refine wpAnyH_take (i := 6) (oi := ⟨some 41, _, _, _, _, _⟩) (v := ?_) rfl (by kernel_rfl) (by kernel_rfl) (by kernel_rfl) (fun _ _ _ h => h) (Or.inl ⟨by kernel_rfl, ?_⟩) (by assumption) ?_
            rotate_left
            · intro w hSw; (try dsimp only at hSw); (try go_simp); all_goals (with_reducible rfl)
            try simp only [Act.put]
            refine wpAnyH_take (i := 7) (oi := ⟨some 42, _, _, _, _, _⟩) (v := ?_) rfl (by kernel_rfl) (by kernel_rfl) (by kernel_rfl) (fun _ _ _ h => h) (Or.inl ⟨by kernel_rfl, ?_⟩) (by assumption) ?_
            rotate_left
            · intro w hSw; (try dsimp only at hSw); (try go_simp); all_goals (with_reducible rfl)
            try simp only [Act.put]
            refine wpAnyH_ready (rs := [9]) (by kernel_rfl) (by simp) ?_
            refine AllReadyH.cons rfl (fun K hK => ?_) AllReadyH.nil
            go_simp
            refine hK.out _ _ (HS.out _ f3) (fun hHeld => ?_)
            clear hK K
            refine wpAnyH_take (i := 10) (oi := ⟨some 8, _, _, _, _, _⟩) (v := ?_) rfl (by kernel_rfl) (by kernel_rfl) (by kernel_rfl) (fun _ _ _ h => h) (Or.inl ⟨by kernel_rfl, ?_⟩) (by assumption) ?_
            rotate_left
            · intro w hSw; (try dsimp only at hSw); (try go_simp); all_goals (with_reducible rfl)
            try simp only [Act.put]
            refine wpAnyH_done (by kernel_rfl) ?_ _
            try simp only [List.setIfInBounds_toArray, List.set_cons_succ, List.set_cons_zero]
            exact ⟨rfl, _, _, rfl, f1, f2, hHeld.1⟩
        · rintro e a' W9 ⟨rfl, F, b1, rfl, hF9, hab9, hB9⟩
          gi_wp2
          have hB23 : Below w3.heap.size w3 W9 := ⟨hB9.os, hB9.tape, hB9.output, hB9.size, hB9.block⟩
          have hw29 := btr hw23 hB23
          have hA9 : ArO W9.drew B p g cap l := (hA.below (hbt _ hw29)).below ⟨rfl, rfl, rfl, Nat.le_refl _, fun _ _ => rfl⟩
          have bA9 := bblk hB23 bA3
          have bR9 : Boxed W9 (w.heap.size + 1) 4 (.bool false) := bblk hB23 bR3
          obtain ⟨-, -, e1, e2⟩ := HS.out _ hB9
          have HS := Go.Lib.hid (show ∀ W', Below W9.drew.heap.size W9.drew W' → (Below W9.drew.heap.size W9.drew W' ∧ W'.cell? ⟨w.heap.size, 0, none⟩ = some (.pointer (some ⟨p, 0, none⟩)) ∧ W'.cell? ⟨g2, 0, none⟩ = some (.int .i64 (x1 : Int)) ∧ W'.cell? ⟨g2, 1, none⟩ = some (.int .i64 (x2 : Int))) from fun W' h => ⟨h, bcl h (blk_cells bA9 0), bcl h e1, bcl h e2⟩)
          clear e1 e2 hAd
          have hAd := hA9
          refine wpIn_mono (Q := fun e a' W' => e = .normal ∧ ∃ F2 b2, a' = { tmps := #[.pointer (some ⟨p, 0, none⟩), .pointer (some ⟨w.heap.size, 0, none⟩), .pointer (some ⟨w.heap.size + 1, 0, none⟩), .pointer (some ⟨w1.heap.size, 0, none⟩), .int .i64 0, .pointer (some ⟨Bx, 0, none⟩), .slice (some ⟨g2, 0, none⟩) 2 cap2, .pointer (some ⟨F, 0, none⟩), .int .i64 0, .pointer (some ⟨F2, 0, none⟩), .int .i64 0, .tuple #[.agg #[.int .i64 kind, .int .i64 space, .string name, .slice (some ⟨b0, 0, none⟩) al.length al.length, .string data, .string sys, .int .i64 up, .int .i64 (t : Int), .int .i64 lst, .int .i64 prv, .int .i64 nxt, .int .i64 inn], .int .i64 0], .pointer (some ⟨p, 0, none⟩), .tuple #[.agg #[.int .i64 kind, .int .i64 space, .string name, .slice (some ⟨b0, 0, none⟩) al.length al.length, .string data, .string sys, .int .i64 up, .int .i64 (t : Int), .int .i64 lst, .int .i64 prv, .int .i64 nxt, .int .i64 inn], .int .i64 0], .agg #[.int .i64 kind, .int .i64 space, .string name, .slice (some ⟨b0, 0, none⟩) al.length al.length, .string data, .string sys, .int .i64 up, .int .i64 (t : Int), .int .i64 lst, .int .i64 prv, .int .i64 nxt, .int .i64 inn], .int .i64 0, .pointer (some ⟨p, 0, none⟩), .int .i64 (l.length : Int), .bool false, .pointer (some ⟨p, 0, none⟩), .agg #[.int .i64 kind, .int .i64 space, .string name, .slice (some ⟨b0, 0, none⟩) al.length al.length, .string data, .string sys, .int .i64 up, .int .i64 (t : Int), .int .i64 lst, .int .i64 prv, .int .i64 nxt, .int .i64 inn], .func (.func 52) #[] #[.pointer (some ⟨w1.heap.size + 1 + 1, 0, none⟩), .pointer (some ⟨w1.heap.size + 1, 0, none⟩)], .agg #[.int .i64 T.kind, .int .i64 T.space, .string T.name, .slice (some ⟨x, 0, none⟩) T.al.length T.al.length, .string T.data, .string T.sys, .int .i64 T.up, .int .i64 T.fst, .int .i64 T.lst, .int .i64 T.prv, .int .i64 T.nxt, .int .i64 T.inn], .pointer (some ⟨p, 0, none⟩), .pointer (some ⟨w1.heap.size, 7, none⟩), .int .i64 (t : Int), .slice (some ⟨g2, 0, none⟩) 2 cap2, .agg #[.int .i64 T.kind, .int .i64 T.space, .string T.name, .slice (some ⟨x, 0, none⟩) T.al.length T.al.length, .string T.data, .string T.sys, .int .i64 T.up, .int .i64 T.fst, .int .i64 T.lst, .int .i64 T.prv, .int .i64 T.nxt, .int .i64 T.inn], .bool true, .bool false, .bool false, .slice (some ⟨g2, 0, none⟩) 2 cap2, .int .i64 2, .bool false, .bool false, .tuple #[.agg #[.int .i64 N1.kind, .int .i64 N1.space, .string N1.name, .slice (some ⟨b1, 0, none⟩) N1.al.length N1.al.length, .string N1.data, .string N1.sys, .int .i64 N1.up, .int .i64 N1.fst, .int .i64 N1.lst, .int .i64 N1.prv, .int .i64 N1.nxt, .int .i64 N1.inn], .int .i64 0], .pointer (some ⟨p, 0, none⟩), .slice (some ⟨g2, 0, none⟩) 2 cap2, .pointer (some ⟨g2, 0, none⟩), .int .i64 (x1 : Int), .tuple #[.agg #[.int .i64 N1.kind, .int .i64 N1.space, .string N1.name, .slice (some ⟨b1, 0, none⟩) N1.al.length N1.al.length, .string N1.data, .string N1.sys, .int .i64 N1.up, .int .i64 N1.fst, .int .i64 N1.lst, .int .i64 N1.prv, .int .i64 N1.nxt, .int .i64 N1.inn], .int .i64 0], .agg #[.int .i64 N1.kind, .int .i64 N1.space, .string N1.name, .slice (some ⟨b1, 0, none⟩) N1.al.length N1.al.length, .string N1.data, .string N1.sys, .int .i64 N1.up, .int .i64 N1.fst, .int .i64 N1.lst, .int .i64 N1.prv, .int .i64 N1.nxt, .int .i64 N1.inn], .int .i64 0, .tuple #[.agg #[.int .i64 N2.kind, .int .i64 N2.space, .string N2.name, .slice (some ⟨b2, 0, none⟩) N2.al.length N2.al.length, .string N2.data, .string N2.sys, .int .i64 N2.up, .int .i64 N2.fst, .int .i64 N2.lst, .int .i64 N2.prv, .int .i64 N2.nxt, .int .i64 N2.inn], .int .i64 0], .pointer (some ⟨p, 0, none⟩), .slice (some ⟨g2, 0, none⟩) 2 cap2, .pointer (some ⟨g2, 1, none⟩), .int .i64 (x2 : Int), .tuple #[.agg #[.int .i64 N2.kind, .int .i64 N2.space, .string N2.name, .slice (some ⟨b2, 0, none⟩) N2.al.length N2.al.length, .string N2.data, .string N2.sys, .int .i64 N2.up, .int .i64 N2.fst, .int .i64 N2.lst, .int .i64 N2.prv, .int .i64 N2.nxt, .int .i64 N2.inn], .int .i64 0], .agg #[.int .i64 N2.kind, .int .i64 N2.space, .string N2.name, .slice (some ⟨b2, 0, none⟩) N2.al.length N2.al.length, .string N2.data, .string N2.sys, .int .i64 N2.up, .int .i64 N2.fst, .int .i64 N2.lst, .int .i64 N2.prv, .int .i64 N2.nxt, .int .i64 N2.inn], .int .i64 0, undef, undef, undef, undef, undef, undef, undef, undef, undef, undef, undef, undef, undef, undef, undef, undef, undef, undef, undef, undef, undef, undef, undef, undef, undef, undef, undef, undef, undef, undef], defers := [] } ∧ W'.heap[F2]? = some (.cells #[.int .i64 N2.kind, .int .i64 N2.space, .string N2.name, .slice (some ⟨b2, 0, none⟩) N2.al.length N2.al.length, .string N2.data, .string N2.sys, .int .i64 N2.up, .int .i64 N2.fst, .int .i64 N2.lst, .int .i64 N2.prv, .int .i64 N2.nxt, .int .i64 N2.inn] 52 (0, 0)) ∧ W'.heap[b2]? = some (.cells (cellsA N2.al).toArray 80 (0, 0)) ∧ Below W9.drew.heap.size W9.drew W') ?_ ?_
          · skip
            refine region_round (S := fun W => Below W9.drew.heap.size W9.drew W ∧ W.cell? ⟨w.heap.size, 0, none⟩ = some (.pointer (some ⟨p, 0, none⟩)) ∧ W.cell? ⟨g2, 0, none⟩ = some (.int .i64 (x1 : Int)) ∧ W.cell? ⟨g2, 1, none⟩ = some (.int .i64 (x2 : Int))) (by kernel_rfl) (by kernel_rfl) (HS.out _ (Below.refl _ _)) (fun hHeld => ?_)
            refine wpAnyH_take (i := 0) (oi := ⟨some 44, _, _, _, _, _⟩) (v := ?_) rfl (by kernel_rfl) (by kernel_rfl) (by kernel_rfl) (fun _ _ _ h => h) (Or.inl ⟨by kernel_rfl, ?_⟩) (by assumption) ?_
            rotate_left
            · intro w hSw; (try dsimp only at hSw); (try go_simp); all_goals (with_reducible rfl)
            try simp only [Act.put]
            refine wpAnyH_take (i := 1) (oi := ⟨some 45, _, _, _, _, _⟩) (v := ?_) rfl (by kernel_rfl) (by kernel_rfl) (by kernel_rfl) (fun _ _ _ h => h) (Or.inl ⟨by kernel_rfl, ?_⟩) (by assumption) ?_
            rotate_left
            · intro w hSw; (try dsimp only at hSw); (try go_simp); all_goals (with_reducible rfl)
            try simp only [Act.put]
            refine wpAnyH_take (i := 2) (oi := ⟨some 46, _, _, _, _, _⟩) (v := ?_) rfl (by kernel_rfl) (by kernel_rfl) (by kernel_rfl) (fun _ _ _ h => h) (Or.inl ⟨by kernel_rfl, ?_⟩) (by assumption) ?_
            rotate_left
            · intro w hSw; (try dsimp only at hSw); (try go_simp); all_goals (with_reducible rfl)
            try simp only [Act.put]
            refine wpAnyH_take (i := 3) (oi := ⟨some 47, _, _, _, _, _⟩) (v := ?_) rfl (by kernel_rfl) (by kernel_rfl) (by kernel_rfl) (fun _ _ _ h => h) (Or.inl ⟨by kernel_rfl, ?_⟩) (by assumption) ?_
            rotate_left
            · intro w hSw; (try dsimp only at hSw); (try go_simp); all_goals (with_reducible rfl)
            try simp only [Act.put]
            refine wpAnyH_ready (rs := [4, 8]) (by kernel_rfl) (by simp) ?_
            refine AllReadyH.cons rfl (fun K hK => ?_) (AllReadyH.cons rfl (fun K hK => ?_) AllReadyH.nil)
            · go_simp
              go_wp2_with (go_at_call 21; refine (hN2 _ (hAd.below hHeld.1)).mono ?_; rintro e w4 ⟨b2, rfl, hab, hle4, hw4⟩)
              refine hK.out _ _ (HS.out _ (hHeld.1.trans (hw4.mono hHeld.1.size))) (fun hHeld => ?_)
              clear hK K
              have hB4 := hHeld.1
              refine wpAnyH_take (i := 5) (oi := ⟨some 43, _, _, _, _, _⟩) (v := ?_) rfl (by kernel_rfl) (by kernel_rfl) (by kernel_rfl) (fun _ _ _ h => h) (Or.inl ⟨by kernel_rfl, ?_⟩) (by assumption) ?_
              rotate_left
              · intro w hSw; (try dsimp only at hSw); (try go_simp); all_goals (with_reducible rfl)
              try simp only [Act.put]
              refine wpAnyH_take (i := 6) (oi := ⟨some 49, _, _, _, _, _⟩) (v := ?_) rfl (by kernel_rfl) (by kernel_rfl) (by kernel_rfl) (fun _ _ _ h => h) (Or.inl ⟨by kernel_rfl, ?_⟩) (by assumption) ?_
              rotate_left
              · intro w hSw; (try dsimp only at hSw); (try go_simp); all_goals (with_reducible rfl)
              try simp only [Act.put]
              refine wpAnyH_take (i := 7) (oi := ⟨some 50, _, _, _, _, _⟩) (v := ?_) rfl (by kernel_rfl) (by kernel_rfl) (by kernel_rfl) (fun _ _ _ h => h) (Or.inl ⟨by kernel_rfl, ?_⟩) (by assumption) ?_
              rotate_left
              · intro w hSw; (try dsimp only at hSw); (try go_simp); all_goals (with_reducible rfl)
              try simp only [Act.put]
              refine wpAnyH_ready (rs := [8]) (by kernel_rfl) (by simp) ?_
              refine AllReadyH.cons rfl (fun K hK => ?_) AllReadyH.nil
              go_simp
              refine hK.out _ _ (HS.out _ (hHeld.1.alloc hHeld.1.size _)) (fun hHeld => ?_)
              clear hK K
              refine wpAnyH_ready (rs := [9]) (by kernel_rfl) (by simp) ?_
              refine AllReadyH.cons rfl (fun K hK => ?_) AllReadyH.nil
              go_simp
              refine hK.out _ _ (HS.out _ (hB4.alloc hB4.size _)) (fun hHeld => ?_)
              clear hK K
              refine wpAnyH_take (i := 10) (oi := ⟨some 10, _, _, _, _, _⟩) (v := ?_) rfl (by kernel_rfl) (by kernel_rfl) (by kernel_rfl) (fun _ _ _ h => h) (Or.inl ⟨by kernel_rfl, ?_⟩) (by assumption) ?_
              rotate_left
              · intro w hSw; (try dsimp only at hSw); (try go_simp); all_goals (with_reducible rfl)
              try simp only [Act.put]
              refine wpAnyH_done (by kernel_rfl) ?_ _
              try simp only [List.setIfInBounds_toArray, List.set_cons_succ, List.set_cons_zero]
              exact ⟨rfl, _, _, rfl, at_new _ _ _ rfl, at_old hab _, hHeld.1⟩
            · go_simp
              have hz := at_new W9.drew (.cells zeroV 52) _ rfl
              refine hK.out _ _ (HS.out _ (hHeld.1.alloc hHeld.1.size _)) (fun hHeld => ?_)
              clear hK K
              refine wpAnyH_ready (rs := [4]) (by kernel_rfl) (by simp) ?_
              refine AllReadyH.cons rfl (fun K hK => ?_) AllReadyH.nil
              go_simp
              go_wp2_with (go_at_call 21; refine (hN2 _ (hAd.below hHeld.1)).mono ?_; rintro e w4 ⟨b2, rfl, hab, hle4, hw4⟩)
              refine hK.out _ _ (HS.out _ (hHeld.1.trans (hw4.mono hHeld.1.size))) (fun hHeld => ?_)
              clear hK K
              have hB4 := hHeld.1
              have hz4 : w4.heap[W9.heap.size]? = some (.cells zeroV 52 (0, 0)) := bblk hw4 hz
              unfold zeroV at hz4
              have cz := blk_cells hz4
              have fz := blk_free hz4
              obtain ⟨f1, f2, f3⟩ := fill12b w4 W9.heap.size 52 (.int .i64 N2.kind) (.int .i64 N2.space) (.string N2.name) (.slice (some ⟨b2, 0, none⟩) N2.al.length N2.al.length) (.string N2.data) (.string N2.sys) (.int .i64 N2.up) (.int .i64 N2.fst) (.int .i64 N2.lst) (.int .i64 N2.prv) (.int .i64 N2.nxt) (.int .i64 N2.inn) _ _ _ _ _ _ _ _ _ _ _ _ hz4
              have f2 := f2 b2 _ (Nat.ne_of_gt (Nat.lt_of_lt_of_le (blk_lt hz) hle4)) hab
              have f3 := f3 _ _ (Nat.le_refl _) hB4
              refine wpAnyH_take (i := 5) (oi := ⟨some 43, _, _, _, _, _⟩) (v := ?_) rfl (by kernel_rfl) (by kernel_rfl) (by kernel_rfl) (fun _ _ _ h => h) (Or.inl ⟨by kernel_rfl, ?_⟩) (by assumption) ?_
              rotate_left
              · intro w hSw; (try dsimp only at hSw); (try go_simp); all_goals (with_reducible rfl)
              try simp only [Act.put]
              refine wpAnyH_take (i := 6) (oi := ⟨some 49, _, _, _, _, _⟩) (v := ?_) rfl (by kernel_rfl) (by kernel_rfl) (by kernel_rfl) (fun _ _ _ h => h) (Or.inl ⟨by kernel_rfl, ?_⟩) (by assumption) ?_
              rotate_left
              · intro w hSw; (try dsimp only at hSw); (try go_simp); all_goals (with_reducible rfl)
              try simp only [Act.put]
              refine wpAnyH_take (i := 7) (oi := ⟨some 50, _, _, _, _, _⟩) (v := ?_) rfl (by kernel_rfl) (by kernel_rfl) (by kernel_rfl) (fun _ _ _ h => h) (Or.inl ⟨by kernel_rfl, ?_⟩) (by assumption) ?_
              rotate_left
              · intro w hSw; (try dsimp only at hSw); (try go_simp); all_goals (with_reducible rfl)
              try simp only [Act.put]
              refine wpAnyH_ready (rs := [9]) (by kernel_rfl) (by simp) ?_
              refine AllReadyH.cons rfl (fun K hK => ?_) AllReadyH.nil
              go_simp
              refine hK.out _ _ (HS.out _ f3) (fun hHeld => ?_)
              clear hK K
              refine wpAnyH_take (i := 10) (oi := ⟨some 10, _, _, _, _, _⟩) (v := ?_) rfl (by kernel_rfl) (by kernel_rfl) (by kernel_rfl) (fun _ _ _ h => h) (Or.inl ⟨by kernel_rfl, ?_⟩) (by assumption) ?_
              rotate_left
              · intro w hSw; (try dsimp only at hSw); (try go_simp); all_goals (with_reducible rfl)
              try simp only [Act.put]
              refine wpAnyH_done (by kernel_rfl) ?_ _
              try simp only [List.setIfInBounds_toArray, List.set_cons_succ, List.set_cons_zero]
              exact ⟨rfl, _, _, rfl, f1, f2, hHeld.1⟩
          · rintro e a' W10 ⟨rfl, F2, b2, rfl, hF2, hab2, hB10⟩
            gi_wp2
            have hB910 : Below W9.heap.size W9 W10 := ⟨hB10.os, hB10.tape, hB10.output, hB10.size, hB10.block⟩
            have hw210 := btr hw29 hB910
            have bA10 := bblk hB910 bA9
            have bR10 : Boxed W10.drew (w.heap.size + 1) 4 (.bool false) := bblk hB910 bR9
            have hF10 : W10.drew.heap[F]? = some (.cells #[.int .i64 N1.kind, .int .i64 N1.space, .string N1.name, .slice (some ⟨b1, 0, none⟩) N1.al.length N1.al.length, .string N1.data, .string N1.sys, .int .i64 N1.up, .int .i64 N1.fst, .int .i64 N1.lst, .int .i64 N1.prv, .int .i64 N1.nxt, .int .i64 N1.inn] 52 (0, 0)) := bblk hB910 hF9
            have hF20 : W10.drew.heap[F2]? = some (.cells #[.int .i64 N2.kind, .int .i64 N2.space, .string N2.name, .slice (some ⟨b2, 0, none⟩) N2.al.length N2.al.length, .string N2.data, .string N2.sys, .int .i64 N2.up, .int .i64 N2.fst, .int .i64 N2.lst, .int .i64 N2.prv, .int .i64 N2.nxt, .int .i64 N2.inn] 52 (0, 0)) := hF2
            have hab20 : W10.drew.heap[b2]? = some (.cells (cellsA N2.al).toArray 80 (0, 0)) := hab2
            obtain ⟨-, -, -, e2⟩ := HS.out _ hB10
            have e2 : W10.drew.cell? ⟨g2, 1, none⟩ = some (.int .i64 (x2 : Int)) := e2
            have hFn : F ≠ w.heap.size + 1 := fun e => by rw [e, show W10.drew.heap[w.heap.size + 1]? = _ from bR10] at hF10; injection hF10 with h; injection h with _ h _; exact absurd h (by decide)
            have hF2n : F2 ≠ w.heap.size + 1 := fun e => by rw [e, show W10.drew.heap[w.heap.size + 1]? = _ from bR10] at hF20; injection hF20 with h; injection h with _ h _; exact absurd h (by decide)
            have hg2n : g2 ≠ w.heap.size + 1 := by have := bR1.lt; omega
            have hbW : Below w.heap.size w W10.drew := (hbt _ hw210).trans ⟨rfl, rfl, rfl, Nat.le_refl _, fun _ _ => rfl⟩
            have hkW : KeepsFrom W0.heap.size W W10.drew := below_keeps (btr hw210 ⟨rfl, rfl, rfl, Nat.le_refl _, fun _ _ => rfl⟩)
            have hA10 : ArO W10.drew B p g cap l := (hA.below (hbt _ hw210)).below ⟨rfl, rfl, rfl, Nat.le_refl _, fun _ _ => rfl⟩
            have hE10 : Env W10.drew := hE.below hbW
            have cF := blk_cells hF10
            have cF2 := blk_cells hF20
            have hC0 : W10.drew.cell? ⟨w.heap.size, 0, none⟩ = some (.pointer (some ⟨p, 0, none⟩)) ∧ W10.drew.cell? ⟨g2, 1, none⟩ = some (.int .i64 (x2 : Int)) ∧ W10.drew.cell? ⟨F, 0, none⟩ = some (.int .i64 N1.kind) ∧ W10.drew.cell? ⟨F, 1, none⟩ = some (.int .i64 N1.space) ∧ W10.drew.cell? ⟨F, 2, none⟩ = some (.string N1.name) ∧ W10.drew.cell? ⟨F, 3, none⟩ = some (.slice (some ⟨b1, 0, none⟩) N1.al.length N1.al.length) ∧ W10.drew.cell? ⟨F, 4, none⟩ = some (.string N1.data) ∧ W10.drew.cell? ⟨F, 5, none⟩ = some (.string N1.sys) ∧ W10.drew.cell? ⟨F, 6, none⟩ = some (.int .i64 N1.up) ∧ W10.drew.cell? ⟨F, 7, none⟩ = some (.int .i64 N1.fst) ∧ W10.drew.cell? ⟨F, 8, none⟩ = some (.int .i64 N1.lst) ∧ W10.drew.cell? ⟨F, 9, none⟩ = some (.int .i64 N1.prv) ∧ W10.drew.cell? ⟨F, 10, none⟩ = some (.int .i64 N1.nxt) ∧ W10.drew.cell? ⟨F, 11, none⟩ = some (.int .i64 N1.inn) ∧ W10.drew.cell? ⟨F2, 0, none⟩ = some (.int .i64 N2.kind) ∧ W10.drew.cell? ⟨F2, 1, none⟩ = some (.int .i64 N2.space) ∧ W10.drew.cell? ⟨F2, 2, none⟩ = some (.string N2.name) ∧ W10.drew.cell? ⟨F2, 3, none⟩ = some (.slice (some ⟨b2, 0, none⟩) N2.al.length N2.al.length) := ⟨blk_cells bA10 0, e2, cF 0, cF 1, cF 2, cF 3, cF 4, cF 5, cF 6, cF 7, cF 8, cF 9, cF 10, cF 11, cF2 0, cF2 1, cF2 2, cF2 3⟩
            have hcb : ∀ (W1 W2 : World) (b j : Nat) (v : Value), b ≠ w.heap.size + 1 → W1.cell? ⟨b, j, none⟩ = some v → (∀ k, k ≠ w.heap.size + 1 → k < W1.heap.size → W2.heap[k]? = W1.heap[k]?) → W2.cell? ⟨b, j, none⟩ = some v := fun W1 W2 b j v hb hv h => (World.cell?_of_block (h b hb (World.block_lt_of_cell? W1 _ hv))).trans hv
            have HC := Go.Lib.hid (show ∀ W1 W2 : World, (W1.cell? ⟨w.heap.size, 0, none⟩ = some (.pointer (some ⟨p, 0, none⟩)) ∧ W1.cell? ⟨g2, 1, none⟩ = some (.int .i64 (x2 : Int)) ∧ W1.cell? ⟨F, 0, none⟩ = some (.int .i64 N1.kind) ∧ W1.cell? ⟨F, 1, none⟩ = some (.int .i64 N1.space) ∧ W1.cell? ⟨F, 2, none⟩ = some (.string N1.name) ∧ W1.cell? ⟨F, 3, none⟩ = some (.slice (some ⟨b1, 0, none⟩) N1.al.length N1.al.length) ∧ W1.cell? ⟨F, 4, none⟩ = some (.string N1.data) ∧ W1.cell? ⟨F, 5, none⟩ = some (.string N1.sys) ∧ W1.cell? ⟨F, 6, none⟩ = some (.int .i64 N1.up) ∧ W1.cell? ⟨F, 7, none⟩ = some (.int .i64 N1.fst) ∧ W1.cell? ⟨F, 8, none⟩ = some (.int .i64 N1.lst) ∧ W1.cell? ⟨F, 9, none⟩ = some (.int .i64 N1.prv) ∧ W1.cell? ⟨F, 10, none⟩ = some (.int .i64 N1.nxt) ∧ W1.cell? ⟨F, 11, none⟩ = some (.int .i64 N1.inn) ∧ W1.cell? ⟨F2, 0, none⟩ = some (.int .i64 N2.kind) ∧ W1.cell? ⟨F2, 1, none⟩ = some (.int .i64 N2.space) ∧ W1.cell? ⟨F2, 2, none⟩ = some (.string N2.name) ∧ W1.cell? ⟨F2, 3, none⟩ = some (.slice (some ⟨b2, 0, none⟩) N2.al.length N2.al.length)) → (∀ k, k ≠ w.heap.size + 1 → k < W1.heap.size → W2.heap[k]? = W1.heap[k]?) → (W2.cell? ⟨w.heap.size, 0, none⟩ = some (.pointer (some ⟨p, 0, none⟩)) ∧ W2.cell? ⟨g2, 1, none⟩ = some (.int .i64 (x2 : Int)) ∧ W2.cell? ⟨F, 0, none⟩ = some (.int .i64 N1.kind) ∧ W2.cell? ⟨F, 1, none⟩ = some (.int .i64 N1.space) ∧ W2.cell? ⟨F, 2, none⟩ = some (.string N1.name) ∧ W2.cell? ⟨F, 3, none⟩ = some (.slice (some ⟨b1, 0, none⟩) N1.al.length N1.al.length) ∧ W2.cell? ⟨F, 4, none⟩ = some (.string N1.data) ∧ W2.cell? ⟨F, 5, none⟩ = some (.string N1.sys) ∧ W2.cell? ⟨F, 6, none⟩ = some (.int .i64 N1.up) ∧ W2.cell? ⟨F, 7, none⟩ = some (.int .i64 N1.fst) ∧ W2.cell? ⟨F, 8, none⟩ = some (.int .i64 N1.lst) ∧ W2.cell? ⟨F, 9, none⟩ = some (.int .i64 N1.prv) ∧ W2.cell? ⟨F, 10, none⟩ = some (.int .i64 N1.nxt) ∧ W2.cell? ⟨F, 11, none⟩ = some (.int .i64 N1.inn) ∧ W2.cell? ⟨F2, 0, none⟩ = some (.int .i64 N2.kind) ∧ W2.cell? ⟨F2, 1, none⟩ = some (.int .i64 N2.space) ∧ W2.cell? ⟨F2, 2, none⟩ = some (.string N2.name) ∧ W2.cell? ⟨F2, 3, none⟩ = some (.slice (some ⟨b2, 0, none⟩) N2.al.length N2.al.length)) from fun W1 W2 h hk => by
              obtain ⟨h1, h2, h3, h4, h5, h6, h7, h8, h9, h10, h11, h12, h13, h14, h15, h16, h17, h18⟩ := h
              exact ⟨hcb _ _ _ _ _ (by omega) h1 hk, hcb _ _ _ _ _ hg2n h2 hk, hcb _ _ _ _ _ hFn h3 hk, hcb _ _ _ _ _ hFn h4 hk, hcb _ _ _ _ _ hFn h5 hk, hcb _ _ _ _ _ hFn h6 hk, hcb _ _ _ _ _ hFn h7 hk, hcb _ _ _ _ _ hFn h8 hk, hcb _ _ _ _ _ hFn h9 hk, hcb _ _ _ _ _ hFn h10 hk, hcb _ _ _ _ _ hFn h11 hk, hcb _ _ _ _ _ hFn h12 hk, hcb _ _ _ _ _ hFn h13 hk, hcb _ _ _ _ _ hFn h14 hk, hcb _ _ _ _ _ hF2n h15 hk, hcb _ _ _ _ _ hF2n h16 hk, hcb _ _ _ _ _ hF2n h17 hk, hcb _ _ _ _ _ hF2n h18 hk⟩)
            have hsm2 := hX.sm _ (List.getElem_mem hx2)
            have H27 := fun W' (h : Below W10.drew.heap.size W10.drew W') => head27 B p g cap l ks x1 b1 W' (hA10.below h) hG hX hx1 (hE10.below h)
            rw [show gN l x1 = N1 by rw [HN1.out]; exact getD_of hx1] at H27
            rw [← HN2.out] at hsm2
            have H28 := fun W' (h : Below W10.drew.heap.size W10.drew W') => attrs28 (some ⟨b2, 0, none⟩) N2.al.length N2.al W' hsm2.al (rdA_look (bblk h hab20)) hsm2.txt (hE10.below h)
            have H29 := fun W' (h : Below W10.drew.heap.size W10.drew W') => body29 B p g cap l ks x2 W' (hA10.below h) hG hX hl hx2 (hE10.below h)
            have hRe := HR.out
            have hv2 : vN l x2 = ⟨N2.kind, N2.space, N2.name, N2.data, N2.al⟩ := by rw [vN, show gN l x2 = N2 by rw [HN2.out]; exact getD_of hx2]
            rw [bodyV, hv2] at hRe
            dsimp only at hRe
            generalize headV (vN l) ks x1 = hd at *
            generalize attrsB N2.al = ab at *
            generalize (kidsV (vN l) (ks x2) fun c => oneV (vN l) ks 198 c true) = bd at *
            unfold Nd.look at H27
            have hBd := Below.refl W10.drew.heap.size W10.drew
            clear HS HR HN1 HN2 hF2 hab2 hB10 hB9 hF9 hab9 hN1 hN2 hAd hA9 bA9 bR9 hv2 hcb cF cF2 bA10 e2 hB910 hB23 bR3 bA3 hown hownA hKs hTb hb3 bX bA1 bD1 hw2 hw3
            refine wpIn_mono (Q := fun e _ W' => e = .normal ∧ Boxed W' (w.heap.size + 1) 4 (.bool R) ∧ Below w.heap.size w W' ∧ KeepsFrom W0.heap.size W W') ?_ ?_
            · cases hd
              · have hR : R = false := by simpa using hRe
                subst hR
                clear hRe
                refine region_round (S := fun W => W.cell? ⟨w.heap.size, 0, none⟩ = some (.pointer (some ⟨p, 0, none⟩)) ∧ W.cell? ⟨g2, 1, none⟩ = some (.int .i64 (x2 : Int)) ∧ W.cell? ⟨F, 0, none⟩ = some (.int .i64 N1.kind) ∧ W.cell? ⟨F, 1, none⟩ = some (.int .i64 N1.space) ∧ W.cell? ⟨F, 2, none⟩ = some (.string N1.name) ∧ W.cell? ⟨F, 3, none⟩ = some (.slice (some ⟨b1, 0, none⟩) N1.al.length N1.al.length) ∧ W.cell? ⟨F, 4, none⟩ = some (.string N1.data) ∧ W.cell? ⟨F, 5, none⟩ = some (.string N1.sys) ∧ W.cell? ⟨F, 6, none⟩ = some (.int .i64 N1.up) ∧ W.cell? ⟨F, 7, none⟩ = some (.int .i64 N1.fst) ∧ W.cell? ⟨F, 8, none⟩ = some (.int .i64 N1.lst) ∧ W.cell? ⟨F, 9, none⟩ = some (.int .i64 N1.prv) ∧ W.cell? ⟨F, 10, none⟩ = some (.int .i64 N1.nxt) ∧ W.cell? ⟨F, 11, none⟩ = some (.int .i64 N1.inn) ∧ W.cell? ⟨F2, 0, none⟩ = some (.int .i64 N2.kind) ∧ W.cell? ⟨F2, 1, none⟩ = some (.int .i64 N2.space) ∧ W.cell? ⟨F2, 2, none⟩ = some (.string N2.name) ∧ W.cell? ⟨F2, 3, none⟩ = some (.slice (some ⟨b2, 0, none⟩) N2.al.length N2.al.length)) (by kernel_rfl) (by kernel_rfl) hC0 (fun hHeld => ?_)
                refine wpAnyH_take (i := 0) (oi := ⟨some 51, _, _, _, _, _⟩) (v := ?_) rfl (by kernel_rfl) (by kernel_rfl) (by kernel_rfl) (fun _ _ _ h => h) (Or.inl ⟨by kernel_rfl, ?_⟩) (by assumption) ?_
                rotate_left
                · intro w hSw; (try dsimp only at hSw); (try go_simp); all_goals (with_reducible rfl)
                try simp only [Act.put]
                refine wpAnyH_take (i := 1) (oi := ⟨some 52, _, _, _, _, _⟩) (v := ?_) rfl (by kernel_rfl) (by kernel_rfl) (by kernel_rfl) (fun _ _ _ h => h) (Or.inl ⟨by kernel_rfl, ?_⟩) (by assumption) ?_
                rotate_left
                · intro w hSw; (try dsimp only at hSw); (try go_simp); all_goals (with_reducible rfl)
                try simp only [Act.put]
                refine wpAnyH_ready (rs := [2]) (by kernel_rfl) (by simp) ?_
                refine AllReadyH.cons rfl (fun K hK => ?_) AllReadyH.nil
                go_simp
                go_wp2_with (go_at_call 27; refine (H27 _ hBd).mono ?_; rintro e w5 ⟨rfl, hw5⟩)
                have B5 := btr hBd hw5
                refine hK.out _ _ (HC.out _ _ hHeld (fun k _ hk => hw5.block k hk)) (fun hHeld => ?_)
                clear hK K
                refine wpAnyH_take (i := 3) (oi := ⟨some 54, _, _, _, _, _⟩) (v := ?_) rfl (by kernel_rfl) (by kernel_rfl) (by kernel_rfl) (fun _ _ _ h => h) (Or.inl ⟨by kernel_rfl, ?_⟩) (by assumption) ?_
                rotate_left
                · intro w hSw; (try dsimp only at hSw); (try go_simp); all_goals (with_reducible rfl)
                try simp only [Act.put]
                refine wpAnyH_take (i := 4) (oi := ⟨some 55, _, _, _, _, _⟩) (v := undef) rfl (by kernel_rfl) (by kernel_rfl) (by kernel_rfl) (fun _ _ _ h => h) (Or.inr ⟨by kernel_rfl, rfl⟩) (by assumption) ?_
                try simp only [Act.put]
                refine wpAnyH_take (i := 5) (oi := ⟨some 56, _, _, _, _, _⟩) (v := undef) rfl (by kernel_rfl) (by kernel_rfl) (by kernel_rfl) (fun _ _ _ h => h) (Or.inr ⟨by kernel_rfl, rfl⟩) (by assumption) ?_
                try simp only [Act.put]
                refine wpAnyH_take (i := 6) (oi := ⟨some 57, _, _, _, _, _⟩) (v := undef) rfl (by kernel_rfl) (by kernel_rfl) (by kernel_rfl) (fun _ _ _ h => h) (Or.inr ⟨by kernel_rfl, rfl⟩) (by assumption) ?_
                try simp only [Act.put]
                refine wpAnyH_take (i := 7) (oi := ⟨some 58, _, _, _, _, _⟩) (v := ?_) rfl (by kernel_rfl) (by kernel_rfl) (by kernel_rfl) (fun _ _ _ h => h) (Or.inl ⟨by kernel_rfl, ?_⟩) (by assumption) ?_
                rotate_left
                · intro w hSw; (try dsimp only at hSw); (try go_simp); all_goals (with_reducible rfl)
                try simp only [Act.put]
                refine wpAnyH_take (i := 8) (oi := ⟨some 59, _, _, _, _, _⟩) (v := ?_) rfl (by kernel_rfl) (by kernel_rfl) (by kernel_rfl) (fun _ _ _ h => h) (Or.inl ⟨by kernel_rfl, ?_⟩) (by assumption) ?_
                rotate_left
                · intro w hSw; (try dsimp only at hSw); (try go_simp); all_goals (with_reducible rfl)
                try simp only [Act.put]
                refine wpAnyH_take (i := 9) (oi := ⟨some 60, _, _, _, _, _⟩) (v := undef) rfl (by kernel_rfl) (by kernel_rfl) (by kernel_rfl) (fun _ _ _ h => h) (Or.inr ⟨by kernel_rfl, rfl⟩) (by assumption) ?_
                try simp only [Act.put]
                refine wpAnyH_take (i := 10) (oi := ⟨some 61, _, _, _, _, _⟩) (v := undef) rfl (by kernel_rfl) (by kernel_rfl) (by kernel_rfl) (fun _ _ _ h => h) (Or.inr ⟨by kernel_rfl, rfl⟩) (by assumption) ?_
                try simp only [Act.put]
                refine wpAnyH_take (i := 11) (oi := ⟨some 62, _, _, _, _, _⟩) (v := undef) rfl (by kernel_rfl) (by kernel_rfl) (by kernel_rfl) (fun _ _ _ h => h) (Or.inr ⟨by kernel_rfl, rfl⟩) (by assumption) ?_
                try simp only [Act.put]
                refine wpAnyH_take (i := 12) (oi := ⟨some 63, _, _, _, _, _⟩) (v := ?_) rfl (by kernel_rfl) (by kernel_rfl) (by kernel_rfl) (fun _ _ _ h => h) (Or.inl ⟨by kernel_rfl, ?_⟩) (by assumption) ?_
                rotate_left
                · intro w hSw; (try dsimp only at hSw); (try go_simp); all_goals (with_reducible rfl)
                try simp only [Act.put]
                refine wpAnyH_take (i := 13) (oi := ⟨some 64, _, _, _, _, _⟩) (v := ?_) rfl (by kernel_rfl) (by kernel_rfl) (by kernel_rfl) (fun _ _ _ h => h) (Or.inl ⟨by kernel_rfl, ?_⟩) (by assumption) ?_
                rotate_left
                · intro w hSw; (try dsimp only at hSw); (try go_simp); all_goals (with_reducible rfl)
                try simp only [Act.put]
                refine wpAnyH_take (i := 14) (oi := ⟨some 65, _, _, _, _, _⟩) (v := undef) rfl (by kernel_rfl) (by kernel_rfl) (by kernel_rfl) (fun _ _ _ h => h) (Or.inr ⟨by kernel_rfl, rfl⟩) (by assumption) ?_
                try simp only [Act.put]
                refine wpAnyH_take (i := 15) (oi := ⟨some 66, _, _, _, _, _⟩) (v := undef) rfl (by kernel_rfl) (by kernel_rfl) (by kernel_rfl) (fun _ _ _ h => h) (Or.inr ⟨by kernel_rfl, rfl⟩) (by assumption) ?_
                try simp only [Act.put]
                refine wpAnyH_take (i := 16) (oi := ⟨some 67, _, _, _, _, _⟩) (v := undef) rfl (by kernel_rfl) (by kernel_rfl) (by kernel_rfl) (fun _ _ _ h => h) (Or.inr ⟨by kernel_rfl, rfl⟩) (by assumption) ?_
                try simp only [Act.put]
                refine wpAnyH_take (i := 17) (oi := ⟨some 68, _, _, _, _, _⟩) (v := ?_) rfl (by kernel_rfl) (by kernel_rfl) (by kernel_rfl) (fun _ _ _ h => h) (Or.inl ⟨by kernel_rfl, ?_⟩) (by assumption) ?_
                rotate_left
                · intro w hSw; (try dsimp only at hSw); (try go_simp); all_goals (with_reducible rfl)
                try simp only [Act.put]
                refine wpAnyH_take (i := 18) (oi := ⟨some 69, _, _, _, _, _⟩) (v := ?_) rfl (by kernel_rfl) (by kernel_rfl) (by kernel_rfl) (fun _ _ _ h => h) (Or.inl ⟨by kernel_rfl, ?_⟩) (by assumption) ?_
                rotate_left
                · intro w hSw; (try dsimp only at hSw); (try go_simp); all_goals (with_reducible rfl)
                try simp only [Act.put]
                refine wpAnyH_take (i := 19) (oi := ⟨some 70, _, _, _, _, _⟩) (v := undef) rfl (by kernel_rfl) (by kernel_rfl) (by kernel_rfl) (fun _ _ _ h => h) (Or.inr ⟨by kernel_rfl, rfl⟩) (by assumption) ?_
                try simp only [Act.put]
                refine wpAnyH_take (i := 20) (oi := ⟨some 71, _, _, _, _, _⟩) (v := undef) rfl (by kernel_rfl) (by kernel_rfl) (by kernel_rfl) (fun _ _ _ h => h) (Or.inr ⟨by kernel_rfl, rfl⟩) (by assumption) ?_
                try simp only [Act.put]
                refine wpAnyH_take (i := 21) (oi := ⟨some 72, _, _, _, _, _⟩) (v := undef) rfl (by kernel_rfl) (by kernel_rfl) (by kernel_rfl) (fun _ _ _ h => h) (Or.inr ⟨by kernel_rfl, rfl⟩) (by assumption) ?_
                try simp only [Act.put]
                refine wpAnyH_take (i := 22) (oi := ⟨some 73, _, _, _, _, _⟩) (v := ?_) rfl (by kernel_rfl) (by kernel_rfl) (by kernel_rfl) (fun _ _ _ h => h) (Or.inl ⟨by kernel_rfl, ?_⟩) (by assumption) ?_
                rotate_left
                · intro w hSw; (try dsimp only at hSw); (try go_simp); all_goals (with_reducible rfl)
                try simp only [Act.put]
                refine wpAnyH_take (i := 23) (oi := ⟨some 74, _, _, _, _, _⟩) (v := ?_) rfl (by kernel_rfl) (by kernel_rfl) (by kernel_rfl) (fun _ _ _ h => h) (Or.inl ⟨by kernel_rfl, ?_⟩) (by assumption) ?_
                rotate_left
                · intro w hSw; (try dsimp only at hSw); (try go_simp); all_goals (with_reducible rfl)
                try simp only [Act.put]
                refine wpAnyH_take (i := 24) (oi := ⟨some 75, _, _, _, _, _⟩) (v := undef) rfl (by kernel_rfl) (by kernel_rfl) (by kernel_rfl) (fun _ _ _ h => h) (Or.inr ⟨by kernel_rfl, rfl⟩) (by assumption) ?_
                try simp only [Act.put]
                refine wpAnyH_take (i := 25) (oi := ⟨some 76, _, _, _, _, _⟩) (v := undef) rfl (by kernel_rfl) (by kernel_rfl) (by kernel_rfl) (fun _ _ _ h => h) (Or.inr ⟨by kernel_rfl, rfl⟩) (by assumption) ?_
                try simp only [Act.put]
                refine wpAnyH_take (i := 26) (oi := ⟨some 77, _, _, _, _, _⟩) (v := undef) rfl (by kernel_rfl) (by kernel_rfl) (by kernel_rfl) (fun _ _ _ h => h) (Or.inr ⟨by kernel_rfl, rfl⟩) (by assumption) ?_
                try simp only [Act.put]
                refine wpAnyH_take (i := 27) (oi := ⟨some 78, _, _, _, _, _⟩) (v := undef) rfl (by kernel_rfl) (by kernel_rfl) (by kernel_rfl) (fun _ _ _ h => h) (Or.inr ⟨by kernel_rfl, rfl⟩) (by assumption) ?_
                try simp only [Act.put]
                refine wpAnyH_take (i := 28) (oi := ⟨some 79, _, _, _, _, _⟩) (v := undef) rfl (by kernel_rfl) (by kernel_rfl) (by kernel_rfl) (fun _ _ _ h => h) (Or.inr ⟨by kernel_rfl, rfl⟩) (by assumption) ?_
                try simp only [Act.put]
                refine wpAnyH_take (i := 29) (oi := ⟨some 80, _, _, _, _, _⟩) (v := ?_) rfl (by kernel_rfl) (by kernel_rfl) (by kernel_rfl) (fun _ _ _ h => h) (Or.inl ⟨by kernel_rfl, ?_⟩) (by assumption) ?_
                rotate_left
                · intro w hSw; (try dsimp only at hSw); (try go_simp); all_goals (with_reducible rfl)
                try simp only [Act.put]
                refine wpAnyH_ready (rs := [30]) (by kernel_rfl) (by simp) ?_
                refine AllReadyH.cons rfl (fun K hK => ?_) AllReadyH.nil
                have bRz : Boxed w5 (w.heap.size + 1) 4 (.bool false) := bblk B5 bR10
                have cRz := bRz.cell
                have fRz := bRz.frozen
                go_simp
                refine hK.out _ _ (HC.out _ _ hHeld (fun k hk _ => Below.heap_setCell _ _ _ _ hk)) (fun hHeld => ?_)
                clear hK K
                refine wpAnyH_done (by kernel_rfl) ?_ _
                exact ⟨rfl, bRz.set _, (hbW.trans (B5.mono hbW.size)).setCell (p := ⟨w.heap.size + 1, 0, none⟩) (by simp) _, hkW.trans ((below_keeps B5).trans ((KeepsOthers.setCell _ _ _).from _))⟩
              · cases hk : (N2.kind == 1)
                · have hR : R = false := by rw [hRe, hk]; simp
                  subst hR
                  clear hRe
                  refine region_round (S := fun W => W.cell? ⟨w.heap.size, 0, none⟩ = some (.pointer (some ⟨p, 0, none⟩)) ∧ W.cell? ⟨g2, 1, none⟩ = some (.int .i64 (x2 : Int)) ∧ W.cell? ⟨F, 0, none⟩ = some (.int .i64 N1.kind) ∧ W.cell? ⟨F, 1, none⟩ = some (.int .i64 N1.space) ∧ W.cell? ⟨F, 2, none⟩ = some (.string N1.name) ∧ W.cell? ⟨F, 3, none⟩ = some (.slice (some ⟨b1, 0, none⟩) N1.al.length N1.al.length) ∧ W.cell? ⟨F, 4, none⟩ = some (.string N1.data) ∧ W.cell? ⟨F, 5, none⟩ = some (.string N1.sys) ∧ W.cell? ⟨F, 6, none⟩ = some (.int .i64 N1.up) ∧ W.cell? ⟨F, 7, none⟩ = some (.int .i64 N1.fst) ∧ W.cell? ⟨F, 8, none⟩ = some (.int .i64 N1.lst) ∧ W.cell? ⟨F, 9, none⟩ = some (.int .i64 N1.prv) ∧ W.cell? ⟨F, 10, none⟩ = some (.int .i64 N1.nxt) ∧ W.cell? ⟨F, 11, none⟩ = some (.int .i64 N1.inn) ∧ W.cell? ⟨F2, 0, none⟩ = some (.int .i64 N2.kind) ∧ W.cell? ⟨F2, 1, none⟩ = some (.int .i64 N2.space) ∧ W.cell? ⟨F2, 2, none⟩ = some (.string N2.name) ∧ W.cell? ⟨F2, 3, none⟩ = some (.slice (some ⟨b2, 0, none⟩) N2.al.length N2.al.length)) (by kernel_rfl) (by kernel_rfl) hC0 (fun hHeld => ?_)
                  refine wpAnyH_take (i := 0) (oi := ⟨some 51, _, _, _, _, _⟩) (v := ?_) rfl (by kernel_rfl) (by kernel_rfl) (by kernel_rfl) (fun _ _ _ h => h) (Or.inl ⟨by kernel_rfl, ?_⟩) (by assumption) ?_
                  rotate_left
                  · intro w hSw; (try dsimp only at hSw); (try go_simp); all_goals (with_reducible rfl)
                  try simp only [Act.put]
                  refine wpAnyH_take (i := 1) (oi := ⟨some 52, _, _, _, _, _⟩) (v := ?_) rfl (by kernel_rfl) (by kernel_rfl) (by kernel_rfl) (fun _ _ _ h => h) (Or.inl ⟨by kernel_rfl, ?_⟩) (by assumption) ?_
                  rotate_left
                  · intro w hSw; (try dsimp only at hSw); (try go_simp); all_goals (with_reducible rfl)
                  try simp only [Act.put]
                  refine wpAnyH_ready (rs := [2]) (by kernel_rfl) (by simp) ?_
                  refine AllReadyH.cons rfl (fun K hK => ?_) AllReadyH.nil
                  go_simp
                  go_wp2_with (go_at_call 27; refine (H27 _ hBd).mono ?_; rintro e w5 ⟨rfl, hw5⟩)
                  have B5 := btr hBd hw5
                  refine hK.out _ _ (HC.out _ _ hHeld (fun k _ hk => hw5.block k hk)) (fun hHeld => ?_)
                  clear hK K
                  refine wpAnyH_take (i := 3) (oi := ⟨some 54, _, _, _, _, _⟩) (v := ?_) rfl (by kernel_rfl) (by kernel_rfl) (by kernel_rfl) (fun _ _ _ h => h) (Or.inl ⟨by kernel_rfl, ?_⟩) (by assumption) ?_
                  rotate_left
                  · intro w hSw; (try dsimp only at hSw); (try go_simp); all_goals (with_reducible rfl)
                  try simp only [Act.put]
                  refine wpAnyH_take (i := 4) (oi := ⟨some 55, _, _, _, _, _⟩) (v := ?_) rfl (by kernel_rfl) (by kernel_rfl) (by kernel_rfl) (fun _ _ _ h => h) (Or.inl ⟨by kernel_rfl, ?_⟩) (by assumption) ?_
                  rotate_left
                  · intro w hSw; (try dsimp only at hSw); (try go_simp); all_goals (with_reducible rfl)
                  try simp only [Act.put]
                  refine wpAnyH_take (i := 5) (oi := ⟨some 56, _, _, _, _, _⟩) (v := ?_) rfl (by kernel_rfl) (by kernel_rfl) (by kernel_rfl) (fun _ _ _ h => h) (Or.inl ⟨by kernel_rfl, ?_⟩) (by assumption) ?_
                  rotate_left
                  · intro w hSw; (try dsimp only at hSw); (try go_simp); all_goals (with_reducible rfl)
                  try simp only [Act.put]
                  refine wpAnyH_take (i := 6) (oi := ⟨some 57, _, _, _, _, _⟩) (v := ?_) rfl (by kernel_rfl) (by kernel_rfl) (by kernel_rfl) (fun _ _ _ h => h) (Or.inl ⟨by kernel_rfl, ?_⟩) (by assumption) ?_
                  rotate_left
                  · intro w hSw; (try dsimp only at hSw); (try go_simp); all_goals (with_reducible rfl)
                  try simp only [Act.put]
                  refine wpAnyH_take (i := 7) (oi := ⟨some 58, _, _, _, _, _⟩) (v := ?_) rfl (by kernel_rfl) (by kernel_rfl) (by kernel_rfl) (fun _ _ _ h => h) (Or.inl ⟨by kernel_rfl, ?_⟩) (by assumption) ?_
                  rotate_left
                  · intro w hSw; (try dsimp only at hSw); (try go_simp); all_goals (with_reducible rfl)
                  try simp only [Act.put]
                  refine wpAnyH_take (i := 8) (oi := ⟨some 59, _, _, _, _, _⟩) (v := ?_) rfl (by kernel_rfl) (by kernel_rfl) (by kernel_rfl) (fun _ _ _ h => h) (Or.inl ⟨by kernel_rfl, ?_⟩) (by assumption) ?_
                  rotate_left
                  · intro w hSw; (try dsimp only at hSw); (try go_simp); all_goals (with_reducible rfl)
                  try simp only [Act.put]
                  refine wpAnyH_take (i := 9) (oi := ⟨some 60, _, _, _, _, _⟩) (v := undef) rfl (by kernel_rfl) (by kernel_rfl) (by kernel_rfl) (fun _ _ _ h => h) (Or.inr ⟨by kernel_rfl, rfl⟩) (by assumption) ?_
                  try simp only [Act.put]
                  refine wpAnyH_take (i := 10) (oi := ⟨some 61, _, _, _, _, _⟩) (v := undef) rfl (by kernel_rfl) (by kernel_rfl) (by kernel_rfl) (fun _ _ _ h => h) (Or.inr ⟨by kernel_rfl, rfl⟩) (by assumption) ?_
                  try simp only [Act.put]
                  refine wpAnyH_take (i := 11) (oi := ⟨some 62, _, _, _, _, _⟩) (v := undef) rfl (by kernel_rfl) (by kernel_rfl) (by kernel_rfl) (fun _ _ _ h => h) (Or.inr ⟨by kernel_rfl, rfl⟩) (by assumption) ?_
                  try simp only [Act.put]
                  refine wpAnyH_take (i := 12) (oi := ⟨some 63, _, _, _, _, _⟩) (v := ?_) rfl (by kernel_rfl) (by kernel_rfl) (by kernel_rfl) (fun _ _ _ h => h) (Or.inl ⟨by kernel_rfl, ?_⟩) (by assumption) ?_
                  rotate_left
                  · intro w hSw; (try dsimp only at hSw); (try go_simp); all_goals (with_reducible rfl)
                  try simp only [Act.put]
                  refine wpAnyH_take (i := 13) (oi := ⟨some 64, _, _, _, _, _⟩) (v := ?_) rfl (by kernel_rfl) (by kernel_rfl) (by kernel_rfl) (fun _ _ _ h => h) (Or.inl ⟨by kernel_rfl, ?_⟩) (by assumption) ?_
                  rotate_left
                  · intro w hSw; (try dsimp only at hSw); (try go_simp); all_goals (with_reducible rfl)
                  try simp only [Act.put]
                  refine wpAnyH_take (i := 14) (oi := ⟨some 65, _, _, _, _, _⟩) (v := undef) rfl (by kernel_rfl) (by kernel_rfl) (by kernel_rfl) (fun _ _ _ h => h) (Or.inr ⟨by kernel_rfl, rfl⟩) (by assumption) ?_
                  try simp only [Act.put]
                  refine wpAnyH_take (i := 15) (oi := ⟨some 66, _, _, _, _, _⟩) (v := undef) rfl (by kernel_rfl) (by kernel_rfl) (by kernel_rfl) (fun _ _ _ h => h) (Or.inr ⟨by kernel_rfl, rfl⟩) (by assumption) ?_
                  try simp only [Act.put]
                  refine wpAnyH_take (i := 16) (oi := ⟨some 67, _, _, _, _, _⟩) (v := undef) rfl (by kernel_rfl) (by kernel_rfl) (by kernel_rfl) (fun _ _ _ h => h) (Or.inr ⟨by kernel_rfl, rfl⟩) (by assumption) ?_
                  try simp only [Act.put]
                  refine wpAnyH_take (i := 17) (oi := ⟨some 68, _, _, _, _, _⟩) (v := ?_) rfl (by kernel_rfl) (by kernel_rfl) (by kernel_rfl) (fun _ _ _ h => h) (Or.inl ⟨by kernel_rfl, ?_⟩) (by assumption) ?_
                  rotate_left
                  · intro w hSw; (try dsimp only at hSw); (try go_simp); all_goals (with_reducible rfl)
                  try simp only [Act.put]
                  refine wpAnyH_take (i := 18) (oi := ⟨some 69, _, _, _, _, _⟩) (v := ?_) rfl (by kernel_rfl) (by kernel_rfl) (by kernel_rfl) (fun _ _ _ h => h) (Or.inl ⟨by kernel_rfl, ?_⟩) (by assumption) ?_
                  rotate_left
                  · intro w hSw; (try dsimp only at hSw); (try go_simp); all_goals (with_reducible rfl)
                  try simp only [Act.put]
                  refine wpAnyH_take (i := 19) (oi := ⟨some 70, _, _, _, _, _⟩) (v := undef) rfl (by kernel_rfl) (by kernel_rfl) (by kernel_rfl) (fun _ _ _ h => h) (Or.inr ⟨by kernel_rfl, rfl⟩) (by assumption) ?_
                  try simp only [Act.put]
                  refine wpAnyH_take (i := 20) (oi := ⟨some 71, _, _, _, _, _⟩) (v := undef) rfl (by kernel_rfl) (by kernel_rfl) (by kernel_rfl) (fun _ _ _ h => h) (Or.inr ⟨by kernel_rfl, rfl⟩) (by assumption) ?_
                  try simp only [Act.put]
                  refine wpAnyH_take (i := 21) (oi := ⟨some 72, _, _, _, _, _⟩) (v := undef) rfl (by kernel_rfl) (by kernel_rfl) (by kernel_rfl) (fun _ _ _ h => h) (Or.inr ⟨by kernel_rfl, rfl⟩) (by assumption) ?_
                  try simp only [Act.put]
                  refine wpAnyH_take (i := 22) (oi := ⟨some 73, _, _, _, _, _⟩) (v := ?_) rfl (by kernel_rfl) (by kernel_rfl) (by kernel_rfl) (fun _ _ _ h => h) (Or.inl ⟨by kernel_rfl, ?_⟩) (by assumption) ?_
                  rotate_left
                  · intro w hSw; (try dsimp only at hSw); (try go_simp); all_goals (with_reducible rfl)
                  try simp only [Act.put]
                  refine wpAnyH_take (i := 23) (oi := ⟨some 74, _, _, _, _, _⟩) (v := ?_) rfl (by kernel_rfl) (by kernel_rfl) (by kernel_rfl) (fun _ _ _ h => h) (Or.inl ⟨by kernel_rfl, ?_⟩) (by assumption) ?_
                  rotate_left
                  · intro w hSw; (try dsimp only at hSw); (try go_simp); all_goals (with_reducible rfl)
                  try simp only [Act.put]
                  refine wpAnyH_take (i := 24) (oi := ⟨some 75, _, _, _, _, _⟩) (v := undef) rfl (by kernel_rfl) (by kernel_rfl) (by kernel_rfl) (fun _ _ _ h => h) (Or.inr ⟨by kernel_rfl, rfl⟩) (by assumption) ?_
                  try simp only [Act.put]
                  refine wpAnyH_take (i := 25) (oi := ⟨some 76, _, _, _, _, _⟩) (v := undef) rfl (by kernel_rfl) (by kernel_rfl) (by kernel_rfl) (fun _ _ _ h => h) (Or.inr ⟨by kernel_rfl, rfl⟩) (by assumption) ?_
                  try simp only [Act.put]
                  refine wpAnyH_take (i := 26) (oi := ⟨some 77, _, _, _, _, _⟩) (v := undef) rfl (by kernel_rfl) (by kernel_rfl) (by kernel_rfl) (fun _ _ _ h => h) (Or.inr ⟨by kernel_rfl, rfl⟩) (by assumption) ?_
                  try simp only [Act.put]
                  refine wpAnyH_take (i := 27) (oi := ⟨some 78, _, _, _, _, _⟩) (v := undef) rfl (by kernel_rfl) (by kernel_rfl) (by kernel_rfl) (fun _ _ _ h => h) (Or.inr ⟨by kernel_rfl, rfl⟩) (by assumption) ?_
                  try simp only [Act.put]
                  refine wpAnyH_take (i := 28) (oi := ⟨some 79, _, _, _, _, _⟩) (v := undef) rfl (by kernel_rfl) (by kernel_rfl) (by kernel_rfl) (fun _ _ _ h => h) (Or.inr ⟨by kernel_rfl, rfl⟩) (by assumption) ?_
                  try simp only [Act.put]
                  refine wpAnyH_take (i := 29) (oi := ⟨some 80, _, _, _, _, _⟩) (v := ?_) rfl (by kernel_rfl) (by kernel_rfl) (by kernel_rfl) (fun _ _ _ h => h) (Or.inl ⟨by kernel_rfl, ?_⟩) (by assumption) ?_
                  rotate_left
                  · intro w hSw; (try dsimp only at hSw); (try go_simp); all_goals (with_reducible rfl)
                  try simp only [Act.put]
                  refine wpAnyH_ready (rs := [30]) (by kernel_rfl) (by simp) ?_
                  refine AllReadyH.cons rfl (fun K hK => ?_) AllReadyH.nil
                  have bRz : Boxed w5 (w.heap.size + 1) 4 (.bool false) := bblk B5 bR10
                  have cRz := bRz.cell
                  have fRz := bRz.frozen
                  go_simp
                  refine hK.out _ _ (HC.out _ _ hHeld (fun k hk _ => Below.heap_setCell _ _ _ _ hk)) (fun hHeld => ?_)
                  clear hK K
                  refine wpAnyH_done (by kernel_rfl) ?_ _
                  exact ⟨rfl, bRz.set _, (hbW.trans (B5.mono hbW.size)).setCell (p := ⟨w.heap.size + 1, 0, none⟩) (by simp) _, hkW.trans ((below_keeps B5).trans ((KeepsOthers.setCell _ _ _).from _))⟩
                · cases hs : (N2.space == 0)
                  · have hR : R = false := by rw [hRe, hs]; simp
                    subst hR
                    clear hRe
                    refine region_round (S := fun W => W.cell? ⟨w.heap.size, 0, none⟩ = some (.pointer (some ⟨p, 0, none⟩)) ∧ W.cell? ⟨g2, 1, none⟩ = some (.int .i64 (x2 : Int)) ∧ W.cell? ⟨F, 0, none⟩ = some (.int .i64 N1.kind) ∧ W.cell? ⟨F, 1, none⟩ = some (.int .i64 N1.space) ∧ W.cell? ⟨F, 2, none⟩ = some (.string N1.name) ∧ W.cell? ⟨F, 3, none⟩ = some (.slice (some ⟨b1, 0, none⟩) N1.al.length N1.al.length) ∧ W.cell? ⟨F, 4, none⟩ = some (.string N1.data) ∧ W.cell? ⟨F, 5, none⟩ = some (.string N1.sys) ∧ W.cell? ⟨F, 6, none⟩ = some (.int .i64 N1.up) ∧ W.cell? ⟨F, 7, none⟩ = some (.int .i64 N1.fst) ∧ W.cell? ⟨F, 8, none⟩ = some (.int .i64 N1.lst) ∧ W.cell? ⟨F, 9, none⟩ = some (.int .i64 N1.prv) ∧ W.cell? ⟨F, 10, none⟩ = some (.int .i64 N1.nxt) ∧ W.cell? ⟨F, 11, none⟩ = some (.int .i64 N1.inn) ∧ W.cell? ⟨F2, 0, none⟩ = some (.int .i64 N2.kind) ∧ W.cell? ⟨F2, 1, none⟩ = some (.int .i64 N2.space) ∧ W.cell? ⟨F2, 2, none⟩ = some (.string N2.name) ∧ W.cell? ⟨F2, 3, none⟩ = some (.slice (some ⟨b2, 0, none⟩) N2.al.length N2.al.length)) (by kernel_rfl) (by kernel_rfl) hC0 (fun hHeld => ?_)
                    refine wpAnyH_take (i := 0) (oi := ⟨some 51, _, _, _, _, _⟩) (v := ?_) rfl (by kernel_rfl) (by kernel_rfl) (by kernel_rfl) (fun _ _ _ h => h) (Or.inl ⟨by kernel_rfl, ?_⟩) (by assumption) ?_
                    rotate_left
                    · intro w hSw; (try dsimp only at hSw); (try go_simp); all_goals (with_reducible rfl)
                    try simp only [Act.put]
                    refine wpAnyH_take (i := 1) (oi := ⟨some 52, _, _, _, _, _⟩) (v := ?_) rfl (by kernel_rfl) (by kernel_rfl) (by kernel_rfl) (fun _ _ _ h => h) (Or.inl ⟨by kernel_rfl, ?_⟩) (by assumption) ?_
                    rotate_left
                    · intro w hSw; (try dsimp only at hSw); (try go_simp); all_goals (with_reducible rfl)
                    try simp only [Act.put]
                    refine wpAnyH_ready (rs := [2]) (by kernel_rfl) (by simp) ?_
                    refine AllReadyH.cons rfl (fun K hK => ?_) AllReadyH.nil
                    go_simp
                    go_wp2_with (go_at_call 27; refine (H27 _ hBd).mono ?_; rintro e w5 ⟨rfl, hw5⟩)
                    have B5 := btr hBd hw5
                    refine hK.out _ _ (HC.out _ _ hHeld (fun k _ hk => hw5.block k hk)) (fun hHeld => ?_)
                    clear hK K
                    refine wpAnyH_take (i := 3) (oi := ⟨some 54, _, _, _, _, _⟩) (v := ?_) rfl (by kernel_rfl) (by kernel_rfl) (by kernel_rfl) (fun _ _ _ h => h) (Or.inl ⟨by kernel_rfl, ?_⟩) (by assumption) ?_
                    rotate_left
                    · intro w hSw; (try dsimp only at hSw); (try go_simp); all_goals (with_reducible rfl)
                    try simp only [Act.put]
                    refine wpAnyH_take (i := 4) (oi := ⟨some 55, _, _, _, _, _⟩) (v := ?_) rfl (by kernel_rfl) (by kernel_rfl) (by kernel_rfl) (fun _ _ _ h => h) (Or.inl ⟨by kernel_rfl, ?_⟩) (by assumption) ?_
                    rotate_left
                    · intro w hSw; (try dsimp only at hSw); (try go_simp); all_goals (with_reducible rfl)
                    try simp only [Act.put]
                    refine wpAnyH_take (i := 5) (oi := ⟨some 56, _, _, _, _, _⟩) (v := ?_) rfl (by kernel_rfl) (by kernel_rfl) (by kernel_rfl) (fun _ _ _ h => h) (Or.inl ⟨by kernel_rfl, ?_⟩) (by assumption) ?_
                    rotate_left
                    · intro w hSw; (try dsimp only at hSw); (try go_simp); all_goals (with_reducible rfl)
                    try simp only [Act.put]
                    refine wpAnyH_take (i := 6) (oi := ⟨some 57, _, _, _, _, _⟩) (v := ?_) rfl (by kernel_rfl) (by kernel_rfl) (by kernel_rfl) (fun _ _ _ h => h) (Or.inl ⟨by kernel_rfl, ?_⟩) (by assumption) ?_
                    rotate_left
                    · intro w hSw; (try dsimp only at hSw); (try go_simp); all_goals (with_reducible rfl)
                    try simp only [Act.put]
                    refine wpAnyH_take (i := 7) (oi := ⟨some 58, _, _, _, _, _⟩) (v := ?_) rfl (by kernel_rfl) (by kernel_rfl) (by kernel_rfl) (fun _ _ _ h => h) (Or.inl ⟨by kernel_rfl, ?_⟩) (by assumption) ?_
                    rotate_left
                    · intro w hSw; (try dsimp only at hSw); (try go_simp); all_goals (with_reducible rfl)
                    try simp only [Act.put]
                    refine wpAnyH_take (i := 8) (oi := ⟨some 59, _, _, _, _, _⟩) (v := ?_) rfl (by kernel_rfl) (by kernel_rfl) (by kernel_rfl) (fun _ _ _ h => h) (Or.inl ⟨by kernel_rfl, ?_⟩) (by assumption) ?_
                    rotate_left
                    · intro w hSw; (try dsimp only at hSw); (try go_simp); all_goals (with_reducible rfl)
                    try simp only [Act.put]
                    refine wpAnyH_take (i := 9) (oi := ⟨some 60, _, _, _, _, _⟩) (v := ?_) rfl (by kernel_rfl) (by kernel_rfl) (by kernel_rfl) (fun _ _ _ h => h) (Or.inl ⟨by kernel_rfl, ?_⟩) (by assumption) ?_
                    rotate_left
                    · intro w hSw; (try dsimp only at hSw); (try go_simp); all_goals (with_reducible rfl)
                    try simp only [Act.put]
                    refine wpAnyH_take (i := 10) (oi := ⟨some 61, _, _, _, _, _⟩) (v := ?_) rfl (by kernel_rfl) (by kernel_rfl) (by kernel_rfl) (fun _ _ _ h => h) (Or.inl ⟨by kernel_rfl, ?_⟩) (by assumption) ?_
                    rotate_left
                    · intro w hSw; (try dsimp only at hSw); (try go_simp); all_goals (with_reducible rfl)
                    try simp only [Act.put]
                    refine wpAnyH_take (i := 11) (oi := ⟨some 62, _, _, _, _, _⟩) (v := ?_) rfl (by kernel_rfl) (by kernel_rfl) (by kernel_rfl) (fun _ _ _ h => h) (Or.inl ⟨by kernel_rfl, ?_⟩) (by assumption) ?_
                    rotate_left
                    · intro w hSw; (try dsimp only at hSw); (try go_simp); all_goals (with_reducible rfl)
                    try simp only [Act.put]
                    refine wpAnyH_take (i := 12) (oi := ⟨some 63, _, _, _, _, _⟩) (v := ?_) rfl (by kernel_rfl) (by kernel_rfl) (by kernel_rfl) (fun _ _ _ h => h) (Or.inl ⟨by kernel_rfl, ?_⟩) (by assumption) ?_
                    rotate_left
                    · intro w hSw; (try dsimp only at hSw); (try go_simp); all_goals (with_reducible rfl)
                    try simp only [Act.put]
                    refine wpAnyH_take (i := 13) (oi := ⟨some 64, _, _, _, _, _⟩) (v := ?_) rfl (by kernel_rfl) (by kernel_rfl) (by kernel_rfl) (fun _ _ _ h => h) (Or.inl ⟨by kernel_rfl, ?_⟩) (by assumption) ?_
                    rotate_left
                    · intro w hSw; (try dsimp only at hSw); (try go_simp); all_goals (with_reducible rfl)
                    try simp only [Act.put]
                    refine wpAnyH_take (i := 14) (oi := ⟨some 65, _, _, _, _, _⟩) (v := undef) rfl (by kernel_rfl) (by kernel_rfl) (by kernel_rfl) (fun _ _ _ h => h) (Or.inr ⟨by kernel_rfl, rfl⟩) (by assumption) ?_
                    try simp only [Act.put]
                    refine wpAnyH_take (i := 15) (oi := ⟨some 66, _, _, _, _, _⟩) (v := undef) rfl (by kernel_rfl) (by kernel_rfl) (by kernel_rfl) (fun _ _ _ h => h) (Or.inr ⟨by kernel_rfl, rfl⟩) (by assumption) ?_
                    try simp only [Act.put]
                    refine wpAnyH_take (i := 16) (oi := ⟨some 67, _, _, _, _, _⟩) (v := undef) rfl (by kernel_rfl) (by kernel_rfl) (by kernel_rfl) (fun _ _ _ h => h) (Or.inr ⟨by kernel_rfl, rfl⟩) (by assumption) ?_
                    try simp only [Act.put]
                    refine wpAnyH_take (i := 17) (oi := ⟨some 68, _, _, _, _, _⟩) (v := ?_) rfl (by kernel_rfl) (by kernel_rfl) (by kernel_rfl) (fun _ _ _ h => h) (Or.inl ⟨by kernel_rfl, ?_⟩) (by assumption) ?_
                    rotate_left
                    · intro w hSw; (try dsimp only at hSw); (try go_simp); all_goals (with_reducible rfl)
                    try simp only [Act.put]
                    refine wpAnyH_take (i := 18) (oi := ⟨some 69, _, _, _, _, _⟩) (v := ?_) rfl (by kernel_rfl) (by kernel_rfl) (by kernel_rfl) (fun _ _ _ h => h) (Or.inl ⟨by kernel_rfl, ?_⟩) (by assumption) ?_
                    rotate_left
                    · intro w hSw; (try dsimp only at hSw); (try go_simp); all_goals (with_reducible rfl)
                    try simp only [Act.put]
                    refine wpAnyH_take (i := 19) (oi := ⟨some 70, _, _, _, _, _⟩) (v := undef) rfl (by kernel_rfl) (by kernel_rfl) (by kernel_rfl) (fun _ _ _ h => h) (Or.inr ⟨by kernel_rfl, rfl⟩) (by assumption) ?_
                    try simp only [Act.put]
                    refine wpAnyH_take (i := 20) (oi := ⟨some 71, _, _, _, _, _⟩) (v := undef) rfl (by kernel_rfl) (by kernel_rfl) (by kernel_rfl) (fun _ _ _ h => h) (Or.inr ⟨by kernel_rfl, rfl⟩) (by assumption) ?_
                    try simp only [Act.put]
                    refine wpAnyH_take (i := 21) (oi := ⟨some 72, _, _, _, _, _⟩) (v := undef) rfl (by kernel_rfl) (by kernel_rfl) (by kernel_rfl) (fun _ _ _ h => h) (Or.inr ⟨by kernel_rfl, rfl⟩) (by assumption) ?_
                    try simp only [Act.put]
                    refine wpAnyH_take (i := 22) (oi := ⟨some 73, _, _, _, _, _⟩) (v := ?_) rfl (by kernel_rfl) (by kernel_rfl) (by kernel_rfl) (fun _ _ _ h => h) (Or.inl ⟨by kernel_rfl, ?_⟩) (by assumption) ?_
                    rotate_left
                    · intro w hSw; (try dsimp only at hSw); (try go_simp); all_goals (with_reducible rfl)
                    try simp only [Act.put]
                    refine wpAnyH_take (i := 23) (oi := ⟨some 74, _, _, _, _, _⟩) (v := ?_) rfl (by kernel_rfl) (by kernel_rfl) (by kernel_rfl) (fun _ _ _ h => h) (Or.inl ⟨by kernel_rfl, ?_⟩) (by assumption) ?_
                    rotate_left
                    · intro w hSw; (try dsimp only at hSw); (try go_simp); all_goals (with_reducible rfl)
                    try simp only [Act.put]
                    refine wpAnyH_take (i := 24) (oi := ⟨some 75, _, _, _, _, _⟩) (v := undef) rfl (by kernel_rfl) (by kernel_rfl) (by kernel_rfl) (fun _ _ _ h => h) (Or.inr ⟨by kernel_rfl, rfl⟩) (by assumption) ?_
                    try simp only [Act.put]
                    refine wpAnyH_take (i := 25) (oi := ⟨some 76, _, _, _, _, _⟩) (v := undef) rfl (by kernel_rfl) (by kernel_rfl) (by kernel_rfl) (fun _ _ _ h => h) (Or.inr ⟨by kernel_rfl, rfl⟩) (by assumption) ?_
                    try simp only [Act.put]
                    refine wpAnyH_take (i := 26) (oi := ⟨some 77, _, _, _, _, _⟩) (v := undef) rfl (by kernel_rfl) (by kernel_rfl) (by kernel_rfl) (fun _ _ _ h => h) (Or.inr ⟨by kernel_rfl, rfl⟩) (by assumption) ?_
                    try simp only [Act.put]
                    refine wpAnyH_take (i := 27) (oi := ⟨some 78, _, _, _, _, _⟩) (v := undef) rfl (by kernel_rfl) (by kernel_rfl) (by kernel_rfl) (fun _ _ _ h => h) (Or.inr ⟨by kernel_rfl, rfl⟩) (by assumption) ?_
                    try simp only [Act.put]
                    refine wpAnyH_take (i := 28) (oi := ⟨some 79, _, _, _, _, _⟩) (v := undef) rfl (by kernel_rfl) (by kernel_rfl) (by kernel_rfl) (fun _ _ _ h => h) (Or.inr ⟨by kernel_rfl, rfl⟩) (by assumption) ?_
                    try simp only [Act.put]
                    refine wpAnyH_take (i := 29) (oi := ⟨some 80, _, _, _, _, _⟩) (v := ?_) rfl (by kernel_rfl) (by kernel_rfl) (by kernel_rfl) (fun _ _ _ h => h) (Or.inl ⟨by kernel_rfl, ?_⟩) (by assumption) ?_
                    rotate_left
                    · intro w hSw; (try dsimp only at hSw); (try go_simp); all_goals (with_reducible rfl)
                    try simp only [Act.put]
                    refine wpAnyH_ready (rs := [30]) (by kernel_rfl) (by simp) ?_
                    refine AllReadyH.cons rfl (fun K hK => ?_) AllReadyH.nil
                    have bRz : Boxed w5 (w.heap.size + 1) 4 (.bool false) := bblk B5 bR10
                    have cRz := bRz.cell
                    have fRz := bRz.frozen
                    go_simp
                    refine hK.out _ _ (HC.out _ _ hHeld (fun k hk _ => Below.heap_setCell _ _ _ _ hk)) (fun hHeld => ?_)
                    clear hK K
                    refine wpAnyH_done (by kernel_rfl) ?_ _
                    exact ⟨rfl, bRz.set _, (hbW.trans (B5.mono hbW.size)).setCell (p := ⟨w.heap.size + 1, 0, none⟩) (by simp) _, hkW.trans ((below_keeps B5).trans ((KeepsOthers.setCell _ _ _).from _))⟩
                  · cases hn : (N2.name.toList == wBody)
                    · have hR : R = false := by rw [hRe, hn]; simp
                      subst hR
                      clear hRe
                      refine region_round (S := fun W => W.cell? ⟨w.heap.size, 0, none⟩ = some (.pointer (some ⟨p, 0, none⟩)) ∧ W.cell? ⟨g2, 1, none⟩ = some (.int .i64 (x2 : Int)) ∧ W.cell? ⟨F, 0, none⟩ = some (.int .i64 N1.kind) ∧ W.cell? ⟨F, 1, none⟩ = some (.int .i64 N1.space) ∧ W.cell? ⟨F, 2, none⟩ = some (.string N1.name) ∧ W.cell? ⟨F, 3, none⟩ = some (.slice (some ⟨b1, 0, none⟩) N1.al.length N1.al.length) ∧ W.cell? ⟨F, 4, none⟩ = some (.string N1.data) ∧ W.cell? ⟨F, 5, none⟩ = some (.string N1.sys) ∧ W.cell? ⟨F, 6, none⟩ = some (.int .i64 N1.up) ∧ W.cell? ⟨F, 7, none⟩ = some (.int .i64 N1.fst) ∧ W.cell? ⟨F, 8, none⟩ = some (.int .i64 N1.lst) ∧ W.cell? ⟨F, 9, none⟩ = some (.int .i64 N1.prv) ∧ W.cell? ⟨F, 10, none⟩ = some (.int .i64 N1.nxt) ∧ W.cell? ⟨F, 11, none⟩ = some (.int .i64 N1.inn) ∧ W.cell? ⟨F2, 0, none⟩ = some (.int .i64 N2.kind) ∧ W.cell? ⟨F2, 1, none⟩ = some (.int .i64 N2.space) ∧ W.cell? ⟨F2, 2, none⟩ = some (.string N2.name) ∧ W.cell? ⟨F2, 3, none⟩ = some (.slice (some ⟨b2, 0, none⟩) N2.al.length N2.al.length)) (by kernel_rfl) (by kernel_rfl) hC0 (fun hHeld => ?_)
                      refine wpAnyH_take (i := 0) (oi := ⟨some 51, _, _, _, _, _⟩) (v := ?_) rfl (by kernel_rfl) (by kernel_rfl) (by kernel_rfl) (fun _ _ _ h => h) (Or.inl ⟨by kernel_rfl, ?_⟩) (by assumption) ?_
                      rotate_left
                      · intro w hSw; (try dsimp only at hSw); (try go_simp); all_goals (with_reducible rfl)
                      try simp only [Act.put]
                      refine wpAnyH_take (i := 1) (oi := ⟨some 52, _, _, _, _, _⟩) (v := ?_) rfl (by kernel_rfl) (by kernel_rfl) (by kernel_rfl) (fun _ _ _ h => h) (Or.inl ⟨by kernel_rfl, ?_⟩) (by assumption) ?_
                      rotate_left
                      · intro w hSw; (try dsimp only at hSw); (try go_simp); all_goals (with_reducible rfl)
                      try simp only [Act.put]
                      refine wpAnyH_ready (rs := [2]) (by kernel_rfl) (by simp) ?_
                      refine AllReadyH.cons rfl (fun K hK => ?_) AllReadyH.nil
                      go_simp
                      go_wp2_with (go_at_call 27; refine (H27 _ hBd).mono ?_; rintro e w5 ⟨rfl, hw5⟩)
                      have B5 := btr hBd hw5
                      refine hK.out _ _ (HC.out _ _ hHeld (fun k _ hk => hw5.block k hk)) (fun hHeld => ?_)
                      clear hK K
                      refine wpAnyH_take (i := 3) (oi := ⟨some 54, _, _, _, _, _⟩) (v := ?_) rfl (by kernel_rfl) (by kernel_rfl) (by kernel_rfl) (fun _ _ _ h => h) (Or.inl ⟨by kernel_rfl, ?_⟩) (by assumption) ?_
                      rotate_left
                      · intro w hSw; (try dsimp only at hSw); (try go_simp); all_goals (with_reducible rfl)
                      try simp only [Act.put]
                      refine wpAnyH_take (i := 4) (oi := ⟨some 55, _, _, _, _, _⟩) (v := ?_) rfl (by kernel_rfl) (by kernel_rfl) (by kernel_rfl) (fun _ _ _ h => h) (Or.inl ⟨by kernel_rfl, ?_⟩) (by assumption) ?_
                      rotate_left
                      · intro w hSw; (try dsimp only at hSw); (try go_simp); all_goals (with_reducible rfl)
                      try simp only [Act.put]
                      refine wpAnyH_take (i := 5) (oi := ⟨some 56, _, _, _, _, _⟩) (v := ?_) rfl (by kernel_rfl) (by kernel_rfl) (by kernel_rfl) (fun _ _ _ h => h) (Or.inl ⟨by kernel_rfl, ?_⟩) (by assumption) ?_
                      rotate_left
                      · intro w hSw; (try dsimp only at hSw); (try go_simp); all_goals (with_reducible rfl)
                      try simp only [Act.put]
                      refine wpAnyH_take (i := 6) (oi := ⟨some 57, _, _, _, _, _⟩) (v := ?_) rfl (by kernel_rfl) (by kernel_rfl) (by kernel_rfl) (fun _ _ _ h => h) (Or.inl ⟨by kernel_rfl, ?_⟩) (by assumption) ?_
                      rotate_left
                      · intro w hSw; (try dsimp only at hSw); (try go_simp); all_goals (with_reducible rfl)
                      try simp only [Act.put]
                      refine wpAnyH_take (i := 7) (oi := ⟨some 58, _, _, _, _, _⟩) (v := ?_) rfl (by kernel_rfl) (by kernel_rfl) (by kernel_rfl) (fun _ _ _ h => h) (Or.inl ⟨by kernel_rfl, ?_⟩) (by assumption) ?_
                      rotate_left
                      · intro w hSw; (try dsimp only at hSw); (try go_simp); all_goals (with_reducible rfl)
                      try simp only [Act.put]
                      refine wpAnyH_take (i := 8) (oi := ⟨some 59, _, _, _, _, _⟩) (v := ?_) rfl (by kernel_rfl) (by kernel_rfl) (by kernel_rfl) (fun _ _ _ h => h) (Or.inl ⟨by kernel_rfl, ?_⟩) (by assumption) ?_
                      rotate_left
                      · intro w hSw; (try dsimp only at hSw); (try go_simp); all_goals (with_reducible rfl)
                      try simp only [Act.put]
                      refine wpAnyH_take (i := 9) (oi := ⟨some 60, _, _, _, _, _⟩) (v := ?_) rfl (by kernel_rfl) (by kernel_rfl) (by kernel_rfl) (fun _ _ _ h => h) (Or.inl ⟨by kernel_rfl, ?_⟩) (by assumption) ?_
                      rotate_left
                      · intro w hSw; (try dsimp only at hSw); (try go_simp); all_goals (with_reducible rfl)
                      try simp only [Act.put]
                      refine wpAnyH_take (i := 10) (oi := ⟨some 61, _, _, _, _, _⟩) (v := ?_) rfl (by kernel_rfl) (by kernel_rfl) (by kernel_rfl) (fun _ _ _ h => h) (Or.inl ⟨by kernel_rfl, ?_⟩) (by assumption) ?_
                      rotate_left
                      · intro w hSw; (try dsimp only at hSw); (try go_simp); all_goals (with_reducible rfl)
                      try simp only [Act.put]
                      refine wpAnyH_take (i := 11) (oi := ⟨some 62, _, _, _, _, _⟩) (v := ?_) rfl (by kernel_rfl) (by kernel_rfl) (by kernel_rfl) (fun _ _ _ h => h) (Or.inl ⟨by kernel_rfl, ?_⟩) (by assumption) ?_
                      rotate_left
                      · intro w hSw; (try dsimp only at hSw); (try go_simp); all_goals (with_reducible rfl)
                      try simp only [Act.put]
                      refine wpAnyH_take (i := 12) (oi := ⟨some 63, _, _, _, _, _⟩) (v := ?_) rfl (by kernel_rfl) (by kernel_rfl) (by kernel_rfl) (fun _ _ _ h => h) (Or.inl ⟨by kernel_rfl, ?_⟩) (by assumption) ?_
                      rotate_left
                      · intro w hSw; (try dsimp only at hSw); (try go_simp); all_goals (with_reducible rfl)
                      try simp only [Act.put]
                      refine wpAnyH_take (i := 13) (oi := ⟨some 64, _, _, _, _, _⟩) (v := ?_) rfl (by kernel_rfl) (by kernel_rfl) (by kernel_rfl) (fun _ _ _ h => h) (Or.inl ⟨by kernel_rfl, ?_⟩) (by assumption) ?_
                      rotate_left
                      · intro w hSw; (try dsimp only at hSw); (try go_simp); all_goals (with_reducible rfl)
                      try simp only [Act.put]
                      refine wpAnyH_take (i := 14) (oi := ⟨some 65, _, _, _, _, _⟩) (v := ?_) rfl (by kernel_rfl) (by kernel_rfl) (by kernel_rfl) (fun _ _ _ h => h) (Or.inl ⟨by kernel_rfl, ?_⟩) (by assumption) ?_
                      rotate_left
                      · intro w hSw; (try dsimp only at hSw); (try go_simp); all_goals (with_reducible rfl)
                      try simp only [Act.put]
                      refine wpAnyH_take (i := 15) (oi := ⟨some 66, _, _, _, _, _⟩) (v := ?_) rfl (by kernel_rfl) (by kernel_rfl) (by kernel_rfl) (fun _ _ _ h => h) (Or.inl ⟨by kernel_rfl, ?_⟩) (by assumption) ?_
                      rotate_left
                      · intro w hSw; (try dsimp only at hSw); (try go_simp); all_goals (with_reducible rfl)
                      try simp only [Act.put]
                      refine wpAnyH_take (i := 16) (oi := ⟨some 67, _, _, _, _, _⟩) (v := ?_) rfl (by kernel_rfl) (by kernel_rfl) (by kernel_rfl) (fun _ _ _ h => h) (Or.inl ⟨by kernel_rfl, ?_⟩) (by assumption) ?_
                      rotate_left
                      · intro w hSw; (try dsimp only at hSw); (try go_simp); all_goals (with_reducible rfl)
                      try simp only [Act.put]
                      refine wpAnyH_take (i := 17) (oi := ⟨some 68, _, _, _, _, _⟩) (v := ?_) rfl (by kernel_rfl) (by kernel_rfl) (by kernel_rfl) (fun _ _ _ h => h) (Or.inl ⟨by kernel_rfl, ?_⟩) (by assumption) ?_
                      rotate_left
                      · intro w hSw; (try dsimp only at hSw); (try go_simp); all_goals (with_reducible rfl)
                      try simp only [Act.put]
                      refine wpAnyH_take (i := 18) (oi := ⟨some 69, _, _, _, _, _⟩) (v := ?_) rfl (by kernel_rfl) (by kernel_rfl) (by kernel_rfl) (fun _ _ _ h => h) (Or.inl ⟨by kernel_rfl, ?_⟩) (by assumption) ?_
                      rotate_left
                      · intro w hSw; (try dsimp only at hSw); (try go_simp); all_goals (with_reducible rfl)
                      try simp only [Act.put]
                      refine wpAnyH_take (i := 19) (oi := ⟨some 70, _, _, _, _, _⟩) (v := undef) rfl (by kernel_rfl) (by kernel_rfl) (by kernel_rfl) (fun _ _ _ h => h) (Or.inr ⟨by kernel_rfl, rfl⟩) (by assumption) ?_
                      try simp only [Act.put]
                      refine wpAnyH_take (i := 20) (oi := ⟨some 71, _, _, _, _, _⟩) (v := undef) rfl (by kernel_rfl) (by kernel_rfl) (by kernel_rfl) (fun _ _ _ h => h) (Or.inr ⟨by kernel_rfl, rfl⟩) (by assumption) ?_
                      try simp only [Act.put]
                      refine wpAnyH_take (i := 21) (oi := ⟨some 72, _, _, _, _, _⟩) (v := undef) rfl (by kernel_rfl) (by kernel_rfl) (by kernel_rfl) (fun _ _ _ h => h) (Or.inr ⟨by kernel_rfl, rfl⟩) (by assumption) ?_
                      try simp only [Act.put]
                      refine wpAnyH_take (i := 22) (oi := ⟨some 73, _, _, _, _, _⟩) (v := ?_) rfl (by kernel_rfl) (by kernel_rfl) (by kernel_rfl) (fun _ _ _ h => h) (Or.inl ⟨by kernel_rfl, ?_⟩) (by assumption) ?_
                      rotate_left
                      · intro w hSw; (try dsimp only at hSw); (try go_simp); all_goals (with_reducible rfl)
                      try simp only [Act.put]
                      refine wpAnyH_take (i := 23) (oi := ⟨some 74, _, _, _, _, _⟩) (v := ?_) rfl (by kernel_rfl) (by kernel_rfl) (by kernel_rfl) (fun _ _ _ h => h) (Or.inl ⟨by kernel_rfl, ?_⟩) (by assumption) ?_
                      rotate_left
                      · intro w hSw; (try dsimp only at hSw); (try go_simp); all_goals (with_reducible rfl)
                      try simp only [Act.put]
                      refine wpAnyH_take (i := 24) (oi := ⟨some 75, _, _, _, _, _⟩) (v := undef) rfl (by kernel_rfl) (by kernel_rfl) (by kernel_rfl) (fun _ _ _ h => h) (Or.inr ⟨by kernel_rfl, rfl⟩) (by assumption) ?_
                      try simp only [Act.put]
                      refine wpAnyH_take (i := 25) (oi := ⟨some 76, _, _, _, _, _⟩) (v := undef) rfl (by kernel_rfl) (by kernel_rfl) (by kernel_rfl) (fun _ _ _ h => h) (Or.inr ⟨by kernel_rfl, rfl⟩) (by assumption) ?_
                      try simp only [Act.put]
                      refine wpAnyH_take (i := 26) (oi := ⟨some 77, _, _, _, _, _⟩) (v := undef) rfl (by kernel_rfl) (by kernel_rfl) (by kernel_rfl) (fun _ _ _ h => h) (Or.inr ⟨by kernel_rfl, rfl⟩) (by assumption) ?_
                      try simp only [Act.put]
                      refine wpAnyH_take (i := 27) (oi := ⟨some 78, _, _, _, _, _⟩) (v := undef) rfl (by kernel_rfl) (by kernel_rfl) (by kernel_rfl) (fun _ _ _ h => h) (Or.inr ⟨by kernel_rfl, rfl⟩) (by assumption) ?_
                      try simp only [Act.put]
                      refine wpAnyH_take (i := 28) (oi := ⟨some 79, _, _, _, _, _⟩) (v := undef) rfl (by kernel_rfl) (by kernel_rfl) (by kernel_rfl) (fun _ _ _ h => h) (Or.inr ⟨by kernel_rfl, rfl⟩) (by assumption) ?_
                      try simp only [Act.put]
                      refine wpAnyH_take (i := 29) (oi := ⟨some 80, _, _, _, _, _⟩) (v := ?_) rfl (by kernel_rfl) (by kernel_rfl) (by kernel_rfl) (fun _ _ _ h => h) (Or.inl ⟨by kernel_rfl, ?_⟩) (by assumption) ?_
                      rotate_left
                      · intro w hSw; (try dsimp only at hSw); (try go_simp); all_goals (with_reducible rfl)
                      try simp only [Act.put]
                      refine wpAnyH_ready (rs := [30]) (by kernel_rfl) (by simp) ?_
                      refine AllReadyH.cons rfl (fun K hK => ?_) AllReadyH.nil
                      have bRz : Boxed w5 (w.heap.size + 1) 4 (.bool false) := bblk B5 bR10
                      have cRz := bRz.cell
                      have fRz := bRz.frozen
                      go_simp
                      refine hK.out _ _ (HC.out _ _ hHeld (fun k hk _ => Below.heap_setCell _ _ _ _ hk)) (fun hHeld => ?_)
                      clear hK K
                      refine wpAnyH_done (by kernel_rfl) ?_ _
                      exact ⟨rfl, bRz.set _, (hbW.trans (B5.mono hbW.size)).setCell (p := ⟨w.heap.size + 1, 0, none⟩) (by simp) _, hkW.trans ((below_keeps B5).trans ((KeepsOthers.setCell _ _ _).from _))⟩
                    · cases ab
                      · have hR : R = false := by rw [hRe]; simp
                        subst hR
                        clear hRe
                        refine region_round (S := fun W => W.cell? ⟨w.heap.size, 0, none⟩ = some (.pointer (some ⟨p, 0, none⟩)) ∧ W.cell? ⟨g2, 1, none⟩ = some (.int .i64 (x2 : Int)) ∧ W.cell? ⟨F, 0, none⟩ = some (.int .i64 N1.kind) ∧ W.cell? ⟨F, 1, none⟩ = some (.int .i64 N1.space) ∧ W.cell? ⟨F, 2, none⟩ = some (.string N1.name) ∧ W.cell? ⟨F, 3, none⟩ = some (.slice (some ⟨b1, 0, none⟩) N1.al.length N1.al.length) ∧ W.cell? ⟨F, 4, none⟩ = some (.string N1.data) ∧ W.cell? ⟨F, 5, none⟩ = some (.string N1.sys) ∧ W.cell? ⟨F, 6, none⟩ = some (.int .i64 N1.up) ∧ W.cell? ⟨F, 7, none⟩ = some (.int .i64 N1.fst) ∧ W.cell? ⟨F, 8, none⟩ = some (.int .i64 N1.lst) ∧ W.cell? ⟨F, 9, none⟩ = some (.int .i64 N1.prv) ∧ W.cell? ⟨F, 10, none⟩ = some (.int .i64 N1.nxt) ∧ W.cell? ⟨F, 11, none⟩ = some (.int .i64 N1.inn) ∧ W.cell? ⟨F2, 0, none⟩ = some (.int .i64 N2.kind) ∧ W.cell? ⟨F2, 1, none⟩ = some (.int .i64 N2.space) ∧ W.cell? ⟨F2, 2, none⟩ = some (.string N2.name) ∧ W.cell? ⟨F2, 3, none⟩ = some (.slice (some ⟨b2, 0, none⟩) N2.al.length N2.al.length)) (by kernel_rfl) (by kernel_rfl) hC0 (fun hHeld => ?_)
                        refine wpAnyH_take (i := 0) (oi := ⟨some 51, _, _, _, _, _⟩) (v := ?_) rfl (by kernel_rfl) (by kernel_rfl) (by kernel_rfl) (fun _ _ _ h => h) (Or.inl ⟨by kernel_rfl, ?_⟩) (by assumption) ?_
                        rotate_left
                        · intro w hSw; (try dsimp only at hSw); (try go_simp); all_goals (with_reducible rfl)
                        try simp only [Act.put]
                        refine wpAnyH_take (i := 1) (oi := ⟨some 52, _, _, _, _, _⟩) (v := ?_) rfl (by kernel_rfl) (by kernel_rfl) (by kernel_rfl) (fun _ _ _ h => h) (Or.inl ⟨by kernel_rfl, ?_⟩) (by assumption) ?_
                        rotate_left
                        · intro w hSw; (try dsimp only at hSw); (try go_simp); all_goals (with_reducible rfl)
                        try simp only [Act.put]
                        refine wpAnyH_ready (rs := [2]) (by kernel_rfl) (by simp) ?_
                        refine AllReadyH.cons rfl (fun K hK => ?_) AllReadyH.nil
                        go_simp
                        go_wp2_with (go_at_call 27; refine (H27 _ hBd).mono ?_; rintro e w5 ⟨rfl, hw5⟩)
                        have B5 := btr hBd hw5
                        refine hK.out _ _ (HC.out _ _ hHeld (fun k _ hk => hw5.block k hk)) (fun hHeld => ?_)
                        clear hK K
                        refine wpAnyH_take (i := 3) (oi := ⟨some 54, _, _, _, _, _⟩) (v := ?_) rfl (by kernel_rfl) (by kernel_rfl) (by kernel_rfl) (fun _ _ _ h => h) (Or.inl ⟨by kernel_rfl, ?_⟩) (by assumption) ?_
                        rotate_left
                        · intro w hSw; (try dsimp only at hSw); (try go_simp); all_goals (with_reducible rfl)
                        try simp only [Act.put]
                        refine wpAnyH_take (i := 4) (oi := ⟨some 55, _, _, _, _, _⟩) (v := ?_) rfl (by kernel_rfl) (by kernel_rfl) (by kernel_rfl) (fun _ _ _ h => h) (Or.inl ⟨by kernel_rfl, ?_⟩) (by assumption) ?_
                        rotate_left
                        · intro w hSw; (try dsimp only at hSw); (try go_simp); all_goals (with_reducible rfl)
                        try simp only [Act.put]
                        refine wpAnyH_take (i := 5) (oi := ⟨some 56, _, _, _, _, _⟩) (v := ?_) rfl (by kernel_rfl) (by kernel_rfl) (by kernel_rfl) (fun _ _ _ h => h) (Or.inl ⟨by kernel_rfl, ?_⟩) (by assumption) ?_
                        rotate_left
                        · intro w hSw; (try dsimp only at hSw); (try go_simp); all_goals (with_reducible rfl)
                        try simp only [Act.put]
                        refine wpAnyH_take (i := 6) (oi := ⟨some 57, _, _, _, _, _⟩) (v := ?_) rfl (by kernel_rfl) (by kernel_rfl) (by kernel_rfl) (fun _ _ _ h => h) (Or.inl ⟨by kernel_rfl, ?_⟩) (by assumption) ?_
                        rotate_left
                        · intro w hSw; (try dsimp only at hSw); (try go_simp); all_goals (with_reducible rfl)
                        try simp only [Act.put]
                        refine wpAnyH_take (i := 7) (oi := ⟨some 58, _, _, _, _, _⟩) (v := ?_) rfl (by kernel_rfl) (by kernel_rfl) (by kernel_rfl) (fun _ _ _ h => h) (Or.inl ⟨by kernel_rfl, ?_⟩) (by assumption) ?_
                        rotate_left
                        · intro w hSw; (try dsimp only at hSw); (try go_simp); all_goals (with_reducible rfl)
                        try simp only [Act.put]
                        refine wpAnyH_take (i := 8) (oi := ⟨some 59, _, _, _, _, _⟩) (v := ?_) rfl (by kernel_rfl) (by kernel_rfl) (by kernel_rfl) (fun _ _ _ h => h) (Or.inl ⟨by kernel_rfl, ?_⟩) (by assumption) ?_
                        rotate_left
                        · intro w hSw; (try dsimp only at hSw); (try go_simp); all_goals (with_reducible rfl)
                        try simp only [Act.put]
                        refine wpAnyH_take (i := 9) (oi := ⟨some 60, _, _, _, _, _⟩) (v := ?_) rfl (by kernel_rfl) (by kernel_rfl) (by kernel_rfl) (fun _ _ _ h => h) (Or.inl ⟨by kernel_rfl, ?_⟩) (by assumption) ?_
                        rotate_left
                        · intro w hSw; (try dsimp only at hSw); (try go_simp); all_goals (with_reducible rfl)
                        try simp only [Act.put]
                        refine wpAnyH_take (i := 10) (oi := ⟨some 61, _, _, _, _, _⟩) (v := ?_) rfl (by kernel_rfl) (by kernel_rfl) (by kernel_rfl) (fun _ _ _ h => h) (Or.inl ⟨by kernel_rfl, ?_⟩) (by assumption) ?_
                        rotate_left
                        · intro w hSw; (try dsimp only at hSw); (try go_simp); all_goals (with_reducible rfl)
                        try simp only [Act.put]
                        refine wpAnyH_take (i := 11) (oi := ⟨some 62, _, _, _, _, _⟩) (v := ?_) rfl (by kernel_rfl) (by kernel_rfl) (by kernel_rfl) (fun _ _ _ h => h) (Or.inl ⟨by kernel_rfl, ?_⟩) (by assumption) ?_
                        rotate_left
                        · intro w hSw; (try dsimp only at hSw); (try go_simp); all_goals (with_reducible rfl)
                        try simp only [Act.put]
                        refine wpAnyH_take (i := 12) (oi := ⟨some 63, _, _, _, _, _⟩) (v := ?_) rfl (by kernel_rfl) (by kernel_rfl) (by kernel_rfl) (fun _ _ _ h => h) (Or.inl ⟨by kernel_rfl, ?_⟩) (by assumption) ?_
                        rotate_left
                        · intro w hSw; (try dsimp only at hSw); (try go_simp); all_goals (with_reducible rfl)
                        try simp only [Act.put]
                        refine wpAnyH_take (i := 13) (oi := ⟨some 64, _, _, _, _, _⟩) (v := ?_) rfl (by kernel_rfl) (by kernel_rfl) (by kernel_rfl) (fun _ _ _ h => h) (Or.inl ⟨by kernel_rfl, ?_⟩) (by assumption) ?_
                        rotate_left
                        · intro w hSw; (try dsimp only at hSw); (try go_simp); all_goals (with_reducible rfl)
                        try simp only [Act.put]
                        refine wpAnyH_take (i := 14) (oi := ⟨some 65, _, _, _, _, _⟩) (v := ?_) rfl (by kernel_rfl) (by kernel_rfl) (by kernel_rfl) (fun _ _ _ h => h) (Or.inl ⟨by kernel_rfl, ?_⟩) (by assumption) ?_
                        rotate_left
                        · intro w hSw; (try dsimp only at hSw); (try go_simp); all_goals (with_reducible rfl)
                        try simp only [Act.put]
                        refine wpAnyH_take (i := 15) (oi := ⟨some 66, _, _, _, _, _⟩) (v := ?_) rfl (by kernel_rfl) (by kernel_rfl) (by kernel_rfl) (fun _ _ _ h => h) (Or.inl ⟨by kernel_rfl, ?_⟩) (by assumption) ?_
                        rotate_left
                        · intro w hSw; (try dsimp only at hSw); (try go_simp); all_goals (with_reducible rfl)
                        try simp only [Act.put]
                        refine wpAnyH_take (i := 16) (oi := ⟨some 67, _, _, _, _, _⟩) (v := ?_) rfl (by kernel_rfl) (by kernel_rfl) (by kernel_rfl) (fun _ _ _ h => h) (Or.inl ⟨by kernel_rfl, ?_⟩) (by assumption) ?_
                        rotate_left
                        · intro w hSw; (try dsimp only at hSw); (try go_simp); all_goals (with_reducible rfl)
                        try simp only [Act.put]
                        refine wpAnyH_take (i := 17) (oi := ⟨some 68, _, _, _, _, _⟩) (v := ?_) rfl (by kernel_rfl) (by kernel_rfl) (by kernel_rfl) (fun _ _ _ h => h) (Or.inl ⟨by kernel_rfl, ?_⟩) (by assumption) ?_
                        rotate_left
                        · intro w hSw; (try dsimp only at hSw); (try go_simp); all_goals (with_reducible rfl)
                        try simp only [Act.put]
                        refine wpAnyH_take (i := 18) (oi := ⟨some 69, _, _, _, _, _⟩) (v := ?_) rfl (by kernel_rfl) (by kernel_rfl) (by kernel_rfl) (fun _ _ _ h => h) (Or.inl ⟨by kernel_rfl, ?_⟩) (by assumption) ?_
                        rotate_left
                        · intro w hSw; (try dsimp only at hSw); (try go_simp); all_goals (with_reducible rfl)
                        try simp only [Act.put]
                        refine wpAnyH_take (i := 19) (oi := ⟨some 70, _, _, _, _, _⟩) (v := ?_) rfl (by kernel_rfl) (by kernel_rfl) (by kernel_rfl) (fun _ _ _ h => h) (Or.inl ⟨by kernel_rfl, ?_⟩) (by assumption) ?_
                        rotate_left
                        · intro w hSw; (try dsimp only at hSw); (try go_simp); all_goals (with_reducible rfl)
                        try simp only [Act.put]
                        refine wpAnyH_take (i := 20) (oi := ⟨some 71, _, _, _, _, _⟩) (v := ?_) rfl (by kernel_rfl) (by kernel_rfl) (by kernel_rfl) (fun _ _ _ h => h) (Or.inl ⟨by kernel_rfl, ?_⟩) (by assumption) ?_
                        rotate_left
                        · intro w hSw; (try dsimp only at hSw); (try go_simp); all_goals (with_reducible rfl)
                        try simp only [Act.put]
                        refine wpAnyH_ready (rs := [21]) (by kernel_rfl) (by simp) ?_
                        refine AllReadyH.cons rfl (fun K hK => ?_) AllReadyH.nil
                        go_simp
                        go_wp2_with (go_at_call 28; refine (H28 _ B5).mono ?_; rintro e w6 ⟨rfl, hw6⟩)
                        have B6 := btr B5 hw6
                        refine hK.out _ _ (HC.out _ _ hHeld (fun k _ hk => hw6.block k hk)) (fun hHeld => ?_)
                        clear hK K
                        refine wpAnyH_take (i := 22) (oi := ⟨some 73, _, _, _, _, _⟩) (v := ?_) rfl (by kernel_rfl) (by kernel_rfl) (by kernel_rfl) (fun _ _ _ h => h) (Or.inl ⟨by kernel_rfl, ?_⟩) (by assumption) ?_
                        rotate_left
                        · intro w hSw; (try dsimp only at hSw); (try go_simp); all_goals (with_reducible rfl)
                        try simp only [Act.put]
                        refine wpAnyH_take (i := 23) (oi := ⟨some 74, _, _, _, _, _⟩) (v := ?_) rfl (by kernel_rfl) (by kernel_rfl) (by kernel_rfl) (fun _ _ _ h => h) (Or.inl ⟨by kernel_rfl, ?_⟩) (by assumption) ?_
                        rotate_left
                        · intro w hSw; (try dsimp only at hSw); (try go_simp); all_goals (with_reducible rfl)
                        try simp only [Act.put]
                        refine wpAnyH_take (i := 24) (oi := ⟨some 75, _, _, _, _, _⟩) (v := undef) rfl (by kernel_rfl) (by kernel_rfl) (by kernel_rfl) (fun _ _ _ h => h) (Or.inr ⟨by kernel_rfl, rfl⟩) (by assumption) ?_
                        try simp only [Act.put]
                        refine wpAnyH_take (i := 25) (oi := ⟨some 76, _, _, _, _, _⟩) (v := undef) rfl (by kernel_rfl) (by kernel_rfl) (by kernel_rfl) (fun _ _ _ h => h) (Or.inr ⟨by kernel_rfl, rfl⟩) (by assumption) ?_
                        try simp only [Act.put]
                        refine wpAnyH_take (i := 26) (oi := ⟨some 77, _, _, _, _, _⟩) (v := undef) rfl (by kernel_rfl) (by kernel_rfl) (by kernel_rfl) (fun _ _ _ h => h) (Or.inr ⟨by kernel_rfl, rfl⟩) (by assumption) ?_
                        try simp only [Act.put]
                        refine wpAnyH_take (i := 27) (oi := ⟨some 78, _, _, _, _, _⟩) (v := undef) rfl (by kernel_rfl) (by kernel_rfl) (by kernel_rfl) (fun _ _ _ h => h) (Or.inr ⟨by kernel_rfl, rfl⟩) (by assumption) ?_
                        try simp only [Act.put]
                        refine wpAnyH_take (i := 28) (oi := ⟨some 79, _, _, _, _, _⟩) (v := undef) rfl (by kernel_rfl) (by kernel_rfl) (by kernel_rfl) (fun _ _ _ h => h) (Or.inr ⟨by kernel_rfl, rfl⟩) (by assumption) ?_
                        try simp only [Act.put]
                        refine wpAnyH_take (i := 29) (oi := ⟨some 80, _, _, _, _, _⟩) (v := ?_) rfl (by kernel_rfl) (by kernel_rfl) (by kernel_rfl) (fun _ _ _ h => h) (Or.inl ⟨by kernel_rfl, ?_⟩) (by assumption) ?_
                        rotate_left
                        · intro w hSw; (try dsimp only at hSw); (try go_simp); all_goals (with_reducible rfl)
                        try simp only [Act.put]
                        refine wpAnyH_ready (rs := [30]) (by kernel_rfl) (by simp) ?_
                        refine AllReadyH.cons rfl (fun K hK => ?_) AllReadyH.nil
                        have bRz : Boxed w6 (w.heap.size + 1) 4 (.bool false) := bblk B6 bR10
                        have cRz := bRz.cell
                        have fRz := bRz.frozen
                        go_simp
                        refine hK.out _ _ (HC.out _ _ hHeld (fun k hk _ => Below.heap_setCell _ _ _ _ hk)) (fun hHeld => ?_)
                        clear hK K
                        refine wpAnyH_done (by kernel_rfl) ?_ _
                        exact ⟨rfl, bRz.set _, (hbW.trans (B6.mono hbW.size)).setCell (p := ⟨w.heap.size + 1, 0, none⟩) (by simp) _, hkW.trans ((below_keeps B6).trans ((KeepsOthers.setCell _ _ _).from _))⟩
                      · have hR : R = bd := by rw [hRe, hk, hs, hn]; simp
                        subst hR
                        clear hRe
                        refine region_round (S := fun W => W.cell? ⟨w.heap.size, 0, none⟩ = some (.pointer (some ⟨p, 0, none⟩)) ∧ W.cell? ⟨g2, 1, none⟩ = some (.int .i64 (x2 : Int)) ∧ W.cell? ⟨F, 0, none⟩ = some (.int .i64 N1.kind) ∧ W.cell? ⟨F, 1, none⟩ = some (.int .i64 N1.space) ∧ W.cell? ⟨F, 2, none⟩ = some (.string N1.name) ∧ W.cell? ⟨F, 3, none⟩ = some (.slice (some ⟨b1, 0, none⟩) N1.al.length N1.al.length) ∧ W.cell? ⟨F, 4, none⟩ = some (.string N1.data) ∧ W.cell? ⟨F, 5, none⟩ = some (.string N1.sys) ∧ W.cell? ⟨F, 6, none⟩ = some (.int .i64 N1.up) ∧ W.cell? ⟨F, 7, none⟩ = some (.int .i64 N1.fst) ∧ W.cell? ⟨F, 8, none⟩ = some (.int .i64 N1.lst) ∧ W.cell? ⟨F, 9, none⟩ = some (.int .i64 N1.prv) ∧ W.cell? ⟨F, 10, none⟩ = some (.int .i64 N1.nxt) ∧ W.cell? ⟨F, 11, none⟩ = some (.int .i64 N1.inn) ∧ W.cell? ⟨F2, 0, none⟩ = some (.int .i64 N2.kind) ∧ W.cell? ⟨F2, 1, none⟩ = some (.int .i64 N2.space) ∧ W.cell? ⟨F2, 2, none⟩ = some (.string N2.name) ∧ W.cell? ⟨F2, 3, none⟩ = some (.slice (some ⟨b2, 0, none⟩) N2.al.length N2.al.length)) (by kernel_rfl) (by kernel_rfl) hC0 (fun hHeld => ?_)
                        refine wpAnyH_take (i := 0) (oi := ⟨some 51, _, _, _, _, _⟩) (v := ?_) rfl (by kernel_rfl) (by kernel_rfl) (by kernel_rfl) (fun _ _ _ h => h) (Or.inl ⟨by kernel_rfl, ?_⟩) (by assumption) ?_
                        rotate_left
                        · intro w hSw; (try dsimp only at hSw); (try go_simp); all_goals (with_reducible rfl)
                        try simp only [Act.put]
                        refine wpAnyH_take (i := 1) (oi := ⟨some 52, _, _, _, _, _⟩) (v := ?_) rfl (by kernel_rfl) (by kernel_rfl) (by kernel_rfl) (fun _ _ _ h => h) (Or.inl ⟨by kernel_rfl, ?_⟩) (by assumption) ?_
                        rotate_left
                        · intro w hSw; (try dsimp only at hSw); (try go_simp); all_goals (with_reducible rfl)
                        try simp only [Act.put]
                        refine wpAnyH_ready (rs := [2]) (by kernel_rfl) (by simp) ?_
                        refine AllReadyH.cons rfl (fun K hK => ?_) AllReadyH.nil
                        go_simp
                        go_wp2_with (go_at_call 27; refine (H27 _ hBd).mono ?_; rintro e w5 ⟨rfl, hw5⟩)
                        have B5 := btr hBd hw5
                        refine hK.out _ _ (HC.out _ _ hHeld (fun k _ hk => hw5.block k hk)) (fun hHeld => ?_)
                        clear hK K
                        refine wpAnyH_take (i := 3) (oi := ⟨some 54, _, _, _, _, _⟩) (v := ?_) rfl (by kernel_rfl) (by kernel_rfl) (by kernel_rfl) (fun _ _ _ h => h) (Or.inl ⟨by kernel_rfl, ?_⟩) (by assumption) ?_
                        rotate_left
                        · intro w hSw; (try dsimp only at hSw); (try go_simp); all_goals (with_reducible rfl)
                        try simp only [Act.put]
                        refine wpAnyH_take (i := 4) (oi := ⟨some 55, _, _, _, _, _⟩) (v := ?_) rfl (by kernel_rfl) (by kernel_rfl) (by kernel_rfl) (fun _ _ _ h => h) (Or.inl ⟨by kernel_rfl, ?_⟩) (by assumption) ?_
                        rotate_left
                        · intro w hSw; (try dsimp only at hSw); (try go_simp); all_goals (with_reducible rfl)
                        try simp only [Act.put]
                        refine wpAnyH_take (i := 5) (oi := ⟨some 56, _, _, _, _, _⟩) (v := ?_) rfl (by kernel_rfl) (by kernel_rfl) (by kernel_rfl) (fun _ _ _ h => h) (Or.inl ⟨by kernel_rfl, ?_⟩) (by assumption) ?_
                        rotate_left
                        · intro w hSw; (try dsimp only at hSw); (try go_simp); all_goals (with_reducible rfl)
                        try simp only [Act.put]
                        refine wpAnyH_take (i := 6) (oi := ⟨some 57, _, _, _, _, _⟩) (v := ?_) rfl (by kernel_rfl) (by kernel_rfl) (by kernel_rfl) (fun _ _ _ h => h) (Or.inl ⟨by kernel_rfl, ?_⟩) (by assumption) ?_
                        rotate_left
                        · intro w hSw; (try dsimp only at hSw); (try go_simp); all_goals (with_reducible rfl)
                        try simp only [Act.put]
                        refine wpAnyH_take (i := 7) (oi := ⟨some 58, _, _, _, _, _⟩) (v := ?_) rfl (by kernel_rfl) (by kernel_rfl) (by kernel_rfl) (fun _ _ _ h => h) (Or.inl ⟨by kernel_rfl, ?_⟩) (by assumption) ?_
                        rotate_left
                        · intro w hSw; (try dsimp only at hSw); (try go_simp); all_goals (with_reducible rfl)
                        try simp only [Act.put]
                        refine wpAnyH_take (i := 8) (oi := ⟨some 59, _, _, _, _, _⟩) (v := ?_) rfl (by kernel_rfl) (by kernel_rfl) (by kernel_rfl) (fun _ _ _ h => h) (Or.inl ⟨by kernel_rfl, ?_⟩) (by assumption) ?_
                        rotate_left
                        · intro w hSw; (try dsimp only at hSw); (try go_simp); all_goals (with_reducible rfl)
                        try simp only [Act.put]
                        refine wpAnyH_take (i := 9) (oi := ⟨some 60, _, _, _, _, _⟩) (v := ?_) rfl (by kernel_rfl) (by kernel_rfl) (by kernel_rfl) (fun _ _ _ h => h) (Or.inl ⟨by kernel_rfl, ?_⟩) (by assumption) ?_
                        rotate_left
                        · intro w hSw; (try dsimp only at hSw); (try go_simp); all_goals (with_reducible rfl)
                        try simp only [Act.put]
                        refine wpAnyH_take (i := 10) (oi := ⟨some 61, _, _, _, _, _⟩) (v := ?_) rfl (by kernel_rfl) (by kernel_rfl) (by kernel_rfl) (fun _ _ _ h => h) (Or.inl ⟨by kernel_rfl, ?_⟩) (by assumption) ?_
                        rotate_left
                        · intro w hSw; (try dsimp only at hSw); (try go_simp); all_goals (with_reducible rfl)
                        try simp only [Act.put]
                        refine wpAnyH_take (i := 11) (oi := ⟨some 62, _, _, _, _, _⟩) (v := ?_) rfl (by kernel_rfl) (by kernel_rfl) (by kernel_rfl) (fun _ _ _ h => h) (Or.inl ⟨by kernel_rfl, ?_⟩) (by assumption) ?_
                        rotate_left
                        · intro w hSw; (try dsimp only at hSw); (try go_simp); all_goals (with_reducible rfl)
                        try simp only [Act.put]
                        refine wpAnyH_take (i := 12) (oi := ⟨some 63, _, _, _, _, _⟩) (v := ?_) rfl (by kernel_rfl) (by kernel_rfl) (by kernel_rfl) (fun _ _ _ h => h) (Or.inl ⟨by kernel_rfl, ?_⟩) (by assumption) ?_
                        rotate_left
                        · intro w hSw; (try dsimp only at hSw); (try go_simp); all_goals (with_reducible rfl)
                        try simp only [Act.put]
                        refine wpAnyH_take (i := 13) (oi := ⟨some 64, _, _, _, _, _⟩) (v := ?_) rfl (by kernel_rfl) (by kernel_rfl) (by kernel_rfl) (fun _ _ _ h => h) (Or.inl ⟨by kernel_rfl, ?_⟩) (by assumption) ?_
                        rotate_left
                        · intro w hSw; (try dsimp only at hSw); (try go_simp); all_goals (with_reducible rfl)
                        try simp only [Act.put]
                        refine wpAnyH_take (i := 14) (oi := ⟨some 65, _, _, _, _, _⟩) (v := ?_) rfl (by kernel_rfl) (by kernel_rfl) (by kernel_rfl) (fun _ _ _ h => h) (Or.inl ⟨by kernel_rfl, ?_⟩) (by assumption) ?_
                        rotate_left
                        · intro w hSw; (try dsimp only at hSw); (try go_simp); all_goals (with_reducible rfl)
                        try simp only [Act.put]
                        refine wpAnyH_take (i := 15) (oi := ⟨some 66, _, _, _, _, _⟩) (v := ?_) rfl (by kernel_rfl) (by kernel_rfl) (by kernel_rfl) (fun _ _ _ h => h) (Or.inl ⟨by kernel_rfl, ?_⟩) (by assumption) ?_
                        rotate_left
                        · intro w hSw; (try dsimp only at hSw); (try go_simp); all_goals (with_reducible rfl)
                        try simp only [Act.put]
                        refine wpAnyH_take (i := 16) (oi := ⟨some 67, _, _, _, _, _⟩) (v := ?_) rfl (by kernel_rfl) (by kernel_rfl) (by kernel_rfl) (fun _ _ _ h => h) (Or.inl ⟨by kernel_rfl, ?_⟩) (by assumption) ?_
                        rotate_left
                        · intro w hSw; (try dsimp only at hSw); (try go_simp); all_goals (with_reducible rfl)
                        try simp only [Act.put]
                        refine wpAnyH_take (i := 17) (oi := ⟨some 68, _, _, _, _, _⟩) (v := ?_) rfl (by kernel_rfl) (by kernel_rfl) (by kernel_rfl) (fun _ _ _ h => h) (Or.inl ⟨by kernel_rfl, ?_⟩) (by assumption) ?_
                        rotate_left
                        · intro w hSw; (try dsimp only at hSw); (try go_simp); all_goals (with_reducible rfl)
                        try simp only [Act.put]
                        refine wpAnyH_take (i := 18) (oi := ⟨some 69, _, _, _, _, _⟩) (v := ?_) rfl (by kernel_rfl) (by kernel_rfl) (by kernel_rfl) (fun _ _ _ h => h) (Or.inl ⟨by kernel_rfl, ?_⟩) (by assumption) ?_
                        rotate_left
                        · intro w hSw; (try dsimp only at hSw); (try go_simp); all_goals (with_reducible rfl)
                        try simp only [Act.put]
                        refine wpAnyH_take (i := 19) (oi := ⟨some 70, _, _, _, _, _⟩) (v := ?_) rfl (by kernel_rfl) (by kernel_rfl) (by kernel_rfl) (fun _ _ _ h => h) (Or.inl ⟨by kernel_rfl, ?_⟩) (by assumption) ?_
                        rotate_left
                        · intro w hSw; (try dsimp only at hSw); (try go_simp); all_goals (with_reducible rfl)
                        try simp only [Act.put]
                        refine wpAnyH_take (i := 20) (oi := ⟨some 71, _, _, _, _, _⟩) (v := ?_) rfl (by kernel_rfl) (by kernel_rfl) (by kernel_rfl) (fun _ _ _ h => h) (Or.inl ⟨by kernel_rfl, ?_⟩) (by assumption) ?_
                        rotate_left
                        · intro w hSw; (try dsimp only at hSw); (try go_simp); all_goals (with_reducible rfl)
                        try simp only [Act.put]
                        refine wpAnyH_ready (rs := [21]) (by kernel_rfl) (by simp) ?_
                        refine AllReadyH.cons rfl (fun K hK => ?_) AllReadyH.nil
                        go_simp
                        go_wp2_with (go_at_call 28; refine (H28 _ B5).mono ?_; rintro e w6 ⟨rfl, hw6⟩)
                        have B6 := btr B5 hw6
                        refine hK.out _ _ (HC.out _ _ hHeld (fun k _ hk => hw6.block k hk)) (fun hHeld => ?_)
                        clear hK K
                        refine wpAnyH_take (i := 22) (oi := ⟨some 73, _, _, _, _, _⟩) (v := ?_) rfl (by kernel_rfl) (by kernel_rfl) (by kernel_rfl) (fun _ _ _ h => h) (Or.inl ⟨by kernel_rfl, ?_⟩) (by assumption) ?_
                        rotate_left
                        · intro w hSw; (try dsimp only at hSw); (try go_simp); all_goals (with_reducible rfl)
                        try simp only [Act.put]
                        refine wpAnyH_take (i := 23) (oi := ⟨some 74, _, _, _, _, _⟩) (v := ?_) rfl (by kernel_rfl) (by kernel_rfl) (by kernel_rfl) (fun _ _ _ h => h) (Or.inl ⟨by kernel_rfl, ?_⟩) (by assumption) ?_
                        rotate_left
                        · intro w hSw; (try dsimp only at hSw); (try go_simp); all_goals (with_reducible rfl)
                        try simp only [Act.put]
                        refine wpAnyH_take (i := 24) (oi := ⟨some 75, _, _, _, _, _⟩) (v := ?_) rfl (by kernel_rfl) (by kernel_rfl) (by kernel_rfl) (fun _ _ _ h => h) (Or.inl ⟨by kernel_rfl, ?_⟩) (by assumption) ?_
                        rotate_left
                        · intro w hSw; (try dsimp only at hSw); (try go_simp); all_goals (with_reducible rfl)
                        try simp only [Act.put]
                        refine wpAnyH_take (i := 25) (oi := ⟨some 76, _, _, _, _, _⟩) (v := ?_) rfl (by kernel_rfl) (by kernel_rfl) (by kernel_rfl) (fun _ _ _ h => h) (Or.inl ⟨by kernel_rfl, ?_⟩) (by assumption) ?_
                        rotate_left
                        · intro w hSw; (try dsimp only at hSw); (try go_simp); all_goals (with_reducible rfl)
                        try simp only [Act.put]
                        refine wpAnyH_take (i := 26) (oi := ⟨some 77, _, _, _, _, _⟩) (v := ?_) rfl (by kernel_rfl) (by kernel_rfl) (by kernel_rfl) (fun _ _ _ h => h) (Or.inl ⟨by kernel_rfl, ?_⟩) (by assumption) ?_
                        rotate_left
                        · intro w hSw; (try dsimp only at hSw); (try go_simp); all_goals (with_reducible rfl)
                        try simp only [Act.put]
                        refine wpAnyH_take (i := 27) (oi := ⟨some 78, _, _, _, _, _⟩) (v := ?_) rfl (by kernel_rfl) (by kernel_rfl) (by kernel_rfl) (fun _ _ _ h => h) (Or.inl ⟨by kernel_rfl, ?_⟩) (by assumption) ?_
                        rotate_left
                        · intro w hSw; (try dsimp only at hSw); (try go_simp); all_goals (with_reducible rfl)
                        try simp only [Act.put]
                        refine wpAnyH_ready (rs := [28]) (by kernel_rfl) (by simp) ?_
                        refine AllReadyH.cons rfl (fun K hK => ?_) AllReadyH.nil
                        go_simp
                        go_wp2_with (go_at_call 29; refine (H29 _ B6).mono ?_; rintro e w7 ⟨rfl, hw7⟩)
                        have B7 := btr B6 hw7
                        refine hK.out _ _ (HC.out _ _ hHeld (fun k _ hk => hw7.block k hk)) (fun hHeld => ?_)
                        clear hK K
                        refine wpAnyH_take (i := 29) (oi := ⟨some 80, _, _, _, _, _⟩) (v := ?_) rfl (by kernel_rfl) (by kernel_rfl) (by kernel_rfl) (fun _ _ _ h => h) (Or.inl ⟨by kernel_rfl, ?_⟩) (by assumption) ?_
                        rotate_left
                        · intro w hSw; (try dsimp only at hSw); (try go_simp); all_goals (with_reducible rfl)
                        try simp only [Act.put]
                        refine wpAnyH_ready (rs := [30]) (by kernel_rfl) (by simp) ?_
                        refine AllReadyH.cons rfl (fun K hK => ?_) AllReadyH.nil
                        have bRz : Boxed w7 (w.heap.size + 1) 4 (.bool false) := bblk B7 bR10
                        have cRz := bRz.cell
                        have fRz := bRz.frozen
                        go_simp
                        refine hK.out _ _ (HC.out _ _ hHeld (fun k hk _ => Below.heap_setCell _ _ _ _ hk)) (fun hHeld => ?_)
                        clear hK K
                        refine wpAnyH_done (by kernel_rfl) ?_ _
                        exact ⟨rfl, bRz.set _, (hbW.trans (B7.mono hbW.size)).setCell (p := ⟨w.heap.size + 1, 0, none⟩) (by simp) _, hkW.trans ((below_keeps B7).trans ((KeepsOthers.setCell _ _ _).from _))⟩
            · rintro e a' W11 ⟨rfl, hR11, hB11, hK11⟩
              gi_wp2
              exact ⟨hK11, ⟨rfl, hR11⟩, hB11⟩
      · obtain rfl := h2 hk2
        have hkn : (((ks t).length : Int) != 2) = true := by rw [bne_iff_ne]; omega
        clear h2 h3 hk2
        gi_wp2_with (first
          | (refine ⟨trivial, ?_⟩; gi_at_call 25; refine (CallsIn.inRound ly (callsIn_wide.2 (hKs _ hAW))).mono ?_; rintro e w2 ⟨v2, rfl, hown, hw2⟩; obtain ⟨oa, cap2, rfl⟩ := own_slice hown; have cX2 := blk_cells (bblk hw2 bX))
          | (refine ⟨trivial, ?_⟩; gi_at_call 26; refine (CallsIn.inRound ly (callsIn_wide.2 (hTb _))).mono ?_; rintro e w3 ⟨rfl, hw3⟩; have bR3 : Boxed w3 (w.heap.size + 1) 4 (.bool false) := bblk hw3 (bblk hw2 bR1); have cR3 := bR3.cell; have fR3 := bR3.frozen))
        have hw23 := btr hw2 hw3
        exact ⟨(below_keeps hw23).trans ((KeepsOthers.setCell _ _ _).from _), ⟨rfl, bR3.set _⟩, (hbt _ hw23).setCell (p := ⟨w.heap.size + 1, 0, none⟩) (by simp) _⟩
  case done =>
    rintro D ys W hD hys ⟨⟨rfl, bR1⟩, ⟨bA1, bD1⟩, hB1⟩ hK
    have hR : R = false := HH.out.2.1 fun h => by have := hone.1 h; rw [← hys] at this; simp at this
    subst hR
    have cR := bR1.cell
    have fR := bR1.frozen
    have hws := hB1.size
    have hlt1 := bR1.lt
    clear HH hone hOO hTb hKs
    gi_wp2
    have hK' := (KeepsOthers.setCell W ⟨w.heap.size + 1, 0, none⟩ (.bool false)).same D _ hK rfl
    refine ⟨by simp, .inl ⟨_, _, rfl, run_takeDeferred hK', ?_⟩⟩
    have hc5 := cell_kept (bR1.set (.bool false)).cell (grownBy_putObj' _ D (.deferred none)) (fun r e => by cases e; exact ⟨_, hK', rfl⟩)
    exact ⟨_, results_cell_boolN rfl _ _ _ _ rfl hc5 Tryz.underlying4, rfl, (hB1.setCell (p := ⟨w.heap.size + 1, 0, none⟩) (by simp) _).trans (belowK_b (w := w) (Nat.le_refl _) _ D _ _ (by omega) hK' rfl rfl)⟩
  case stop =>
    rintro D c' pre W hD hpre ⟨⟨rfl, bR1⟩, hB1⟩ hK
    clear HH hone hOO hTb hKs
    gi_wp2
    refine ⟨by simp, .inl ⟨_, _, rfl, run_takeDeferred hK, ?_⟩⟩
    have hc5 := cell_kept bR1.cell (grownBy_putObj' _ D (.deferred none)) (fun r e => by cases e; exact ⟨_, hK, rfl⟩)
    exact ⟨_, results_cell_boolN rfl _ _ _ _ rfl hc5 Tryz.underlying4, rfl, hB1.trans (belowK_b (w := w) (Nat.le_refl _) W D _ _ (by omega) hK rfl rfl)⟩
end Go.Proofs.YthfdiinfeljeeaaGreatDoor
/- A strings.Builder at the head of a block: what a write does. -/
namespace Go.Proofs.YthfdiinfeljeeaaGreatDoor
open Go.RowKit
/-- A builder at the head of block b, of type T; behind it other cells. -/
structure WB (B b T : Nat) (rest bs : List Value) (w : World) : Prop where
  base : B ≤ b
  ex : ∃ p v, (p = .pointer none ∨ p = .pointer (some ⟨b, 0, none⟩)) ∧ w.heap[b]? = some (.cells (p :: v :: rest).toArray T (0, 0)) ∧ w.ownsRow B 5 1 v bs.length bs ∧ (v = .slice none 0 0 ↔ bs = [])
/-- A type whose head is a builder. -/
def HeadB (T k : Nat) : Prop := T ≠ 5 ∧ liesAt Tryz.prog Tryz.prog.depth T (k / Tryz.prog.cellsOf T) 0 95 1 = true
theorem head95 : HeadB 95 2 := ⟨by decide, by kernel_rfl⟩
theorem head97 : HeadB 97 4 := ⟨by decide, by kernel_rfl⟩
theorem Tryz.size95 : (Tryz.prog.info? 95).map (·.size) = some 2 := by kernel_rfl
theorem grown_refl (w : World) (row : Option Nat) : w.grownBy w row := ⟨rfl, rfl, rfl, Nat.le_refl _, fun _ _ _ => rfl⟩
theorem grown_set (W : World) (b i : Nat) (v : Value) : W.grownBy (W.setCell ⟨b, i, none⟩ v) (some b) :=
  ⟨rfl, rfl, rfl, by simp [World.setCell], fun k _ hk => Below.heap_setCell _ _ _ _ (fun e => hk (by simp [e]))⟩
set_option maxHeartbeats 1000000 in
set_option maxRecDepth 100000 in
theorem copy107 (T k b : Nat) (hT : HeadB T k) (p v : Value) (rest : List Value) (w : World) (hp : p = .pointer none ∨ p = .pointer (some ⟨b, 0, none⟩)) (hb : w.heap[b]? = some (.cells (p :: v :: rest).toArray T (0, 0))) (hk : rest.length + 2 = k) :
    Calls Tryz.prog 107 #[.pointer (some ⟨b, 0, none⟩)] w fun e w' => e = .returned (.tuple #[]) ∧ w'.heap[b]? = some (.cells (.pointer (some ⟨b, 0, none⟩) :: v :: rest).toArray T (0, 0)) ∧ w.grownBy w' (some b) := by
  obtain ⟨j, hj, hjs⟩ := Option.map_eq_some_iff.1 Tryz.size95
  have h0 := blk_cells hb 0
  rw [show (p :: v :: rest).toArray[0]? = some p by simp] at h0
  have hf := blk_free hb 0
  have hsh : w.shape? b = some (T, k) := by simp [World.shape?, hb, ← hk]
  rcases hp with rfl | rfl
  · go_enter Tryz.func107, Tryz.ntmps107
    go_wp2
    rw [Lib.run_to_unsafe w ⟨b, 0, none⟩ Tryz.underlying92 Tryz.underlying168 hj (by rw [hjs]; decide) hsh (by show 0 < k; omega)]
    simp only [Result.andThen]
    rw [Oper.upon_value]
    go_wp2
    rw [run_callFunc_extern Tryz.func118 (by kernel_rfl) (by kernel_rfl) (by kernel_rfl) (e := Extern.AbiNoEscape.same) (by kernel_rfl)]
    rw [Lib.run_noEscape]
    simp only [Result.andThen]
    rw [Oper.upon_value]
    go_wp2
    rw [Lib.run_from_unsafe w ⟨b, 0, none⟩ Tryz.underlying168 Tryz.underlying92 hj hsh hT.2]
    simp only [Result.andThen]
    rw [Oper.upon_value]
    go_wp2
    go_end0
    exact ⟨rfl, by rw [set_blk hb]; simp, grown_set _ _ _ _⟩
  · go_enter Tryz.func107, Tryz.ntmps107
    go_wp2
    rw [Lib.run_neq_ptr_same w _ Tryz.underlying92 hj]
    go_wp2
    go_end0
    exact ⟨rfl, hb, grown_refl _ _⟩
theorem Tryz.info5 : (Tryz.prog.info? 5).map (fun i => (i.zero, i.size, i.bytes)) = some (some (.int .u8 0), 1, 1) := by kernel_rfl
theorem own_block {w : World} {B n : Nat} {v : Value} {xs : List Value} (h : w.ownsRow B 5 1 v n xs) {g : Nat} (hg : v.ownBlock = some g) : B ≤ g ∧ ∃ cs, w.heap[g]? = some (.cells cs 5 (0, 0)) := by
  rcases h.2 with ⟨h', _⟩ | ⟨g', cap, cur, h', hb, hg', _⟩
  · subst h'; cases hg
  · subst h'
    injection hg with hg
    subst hg
    exact ⟨hb, cur, hg'⟩
set_option maxHeartbeats 2000000 in
set_option maxRecDepth 100000 in
theorem write86 (B b T k : Nat) (hT : HeadB T k) (rest bs : List Value) (hk : rest.length + 2 = k) (s : ByteArray) (w : World) (h : WB B b T rest bs w) (hlen : bs.length + s.size ≤ 140737488355328) (hBw : B ≤ w.heap.size) :
    Calls Tryz.prog 86 #[.pointer (some ⟨b, 0, none⟩), .string s] w fun e w' => e = .returned (.tuple #[.int .i64 s.size, .nilIface]) ∧ WB B b T rest (bs ++ Lib.strCells s) w' ∧ Fr B [T, 5] w w' := by
  obtain ⟨hB, p, v, hp, hbk, hown, hnil⟩ := h
  obtain ⟨i0, hi, hz0, hz1, hz2⟩ := info_parts Tryz.info5
  have C := copy107 T k b hT p v rest w hp hbk hk
  go_enter Tryz.func86, Tryz.ntmps86
  go_wp2_with (go_at_call 107; refine C.mono ?_)
  rintro e w1 ⟨rfl, hb1, hg1⟩
  have hr1 : w1.ownsRow B 5 1 v bs.length bs := hown.kept hg1 (.inr fun e => by
    obtain ⟨_, cs, hc⟩ := own_block hown e
    rw [hbk] at hc
    exact hT.1 (by injection hc with hc; injection hc))
  have hF1 : Fr B [T, 5] w w1 := (Fr.refl B _ w).grown hg1 (fun g e => by cases e; exact ⟨hB, .inr ⟨_, _, _, hbk, by simp⟩⟩) hBw
  have hs1 := hg1.size
  have c0 := blk_cells hb1 0
  have c1 := blk_cells hb1 1
  have f1 := blk_free hb1 1
  rw [show (Value.pointer (some ⟨b, 0, none⟩) :: v :: rest).toArray[0]? = some (.pointer (some ⟨b, 0, none⟩)) by simp] at c0
  rw [show (Value.pointer (some ⟨b, 0, none⟩) :: v :: rest).toArray[1]? = some v by simp] at c1
  clear C hbk hg1 hp
  go_wp2_with (at_builtin; refine Lib.wpList_append_own_string _ rfl _ _ 93 9 rfl B 5 i0 Tryz.underlying93 Tryz.underlying9 hi hz0 hz1 hz2 _ _ _ rfl hr1 s rfl ?c3 ?c4 ?c5 ?_)
  case c3 => unfold maxLen; omega
  case c4 => omega
  case c5 => omega
  intro v' w2 hown' hgrow hn'
  have hne : ∀ g, v.ownBlock = some g → g ≠ b := fun g e he => by
    obtain ⟨_, cs, hc⟩ := own_block hr1 e
    rw [he, hb1] at hc
    exact hT.1 (by injection hc with hc; injection hc)
  have hb2 : w2.heap[b]? = some (.cells (.pointer (some ⟨b, 0, none⟩) :: v :: rest).toArray T (0, 0)) := by
    rw [hgrow.block b (blk_lt hb1) (fun e => hne b e.symm rfl)]
    exact hb1
  have hF2 : Fr B [T, 5] w w2 := hF1.grown hgrow (fun g e => by obtain ⟨h1, cs, h2⟩ := own_block hr1 e; exact ⟨h1, .inr ⟨_, _, _, h2, by simp⟩⟩) hBw
  have d0 := blk_cells hb2 0
  have d1 := blk_cells hb2 1
  have g1 := blk_free hb2 1
  rw [show (Value.pointer (some ⟨b, 0, none⟩) :: v :: rest).toArray[0]? = some (.pointer (some ⟨b, 0, none⟩)) by simp] at d0
  rw [show (Value.pointer (some ⟨b, 0, none⟩) :: v :: rest).toArray[1]? = some v by simp] at d1
  obtain ⟨ao, n', cap, rfl⟩ : ∃ ao n' cap, v' = .slice ao n' cap := by
    rcases hown'.2 with ⟨hv, _⟩ | ⟨g, cap, cur, hv, _⟩
    · exact ⟨_, _, _, hv⟩
    · exact ⟨_, _, _, hv⟩
  have hl2 : bs.length + s.size = (bs ++ Lib.strCells s).length := by rw [List.length_append, Lib.strCells_length]
  rw [hl2] at hown'
  have hb3 := set_blk (i := 1) hb2 (.slice ao n' cap)
  have hr3 : (w2.setCell ⟨b, 1, none⟩ (.slice ao n' cap)).ownsRow B 5 1 (.slice ao n' cap) (bs ++ Lib.strCells s).length (bs ++ Lib.strCells s) := hown'.kept (grown_set w2 b 1 _) (.inr fun e => by
    obtain ⟨_, cs, hc⟩ := own_block hown' e
    rw [hb2] at hc
    exact hT.1 (by injection hc with hc; injection hc))
  have hn3 : Value.slice ao n' cap = .slice none 0 0 ↔ bs ++ Lib.strCells s = [] := by
    rw [hn', List.append_eq_nil_iff]
    constructor
    · rintro ⟨h1, rfl⟩
      exact ⟨h1, rfl⟩
    · rintro ⟨h1, h2⟩
      refine ⟨h1, ByteArray.ext ?_⟩
      have : s.size = 0 := by rw [← Lib.strCells_length, h2]; rfl
      exact Array.eq_empty_of_size_eq_zero this
  clear hown' hgrow hn' hr1 hb1 hF1 hown hnil hl2 hne
  go_wp2
  go_ret2
  exact ⟨rfl, ⟨hB, _, _, .inr rfl, by simpa using hb3, hr3, hn3⟩, hF2.set hb2 (by simp) hB _⟩
end Go.Proofs.YthfdiinfeljeeaaGreatDoor
