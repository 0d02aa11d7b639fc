/- The walk of the law that code points as bytes are the reference's. -/
import Derived.Test.YtmfifaigphnbmaaG1
import Derived.Deep.RegionLaw
import Derived.Laws.BytesArg
namespace Go.Proofs.Ytmfifaigphnbmaa
open Go.RowKit
/-- 'append(out, xs...)' as one step of a region that draws. -/
theorem step_append_wanted {P : Program} {ops : Array Oper} {o : Oper} {a : Act} {W : World} {K : Act → World → Prop} {Q : Exit → Act → World → Prop} {E : Prop} (hgd : o.guard = none) (base : Nat) (s x : Operand) (t e : TypeId) (z : Value) (size bytes : Nat)
    (ho : o.op = .call { callee := .builtin .append, args := #[s, x], argTypes := #[t, t] })
    (ht : P.underlying t = some (.slice e)) (hinfo : (P.info? e).map (fun i => (i.zero, i.size, i.bytes)) = some (some z, size, bytes)) (hz : z.cells.size = size) (hs0 : 0 < size) (hb0 : 0 < bytes)
    (v : Value) (n m c : Nat) (oa : Option Addr) (xs news : List Value) (hs : a.eval s = v) (hx : a.eval x = .slice oa m c) (hnl : news.length = m * size)
    (hrd : ∀ j u, news[j]? = some u → ∃ ad, oa = some ad ∧ W.cell? (ad.add j) = some u) (h1 : ∀ u ∈ news, u.oneCell' = true)
    (HO : W.ownsRow base e size v n xs) (hbase : base ≤ W.heap.size) (hl : (n + m) * bytes ≤ 140737488355328)
    (h : ∀ v1 w1, w1.ownsRow base e size v1 (n + m) (xs ++ news) → Below base W w1 → K (a.put o.dst v1) w1) :
    if Region.wanted o (yielded ops a.tmps) = true then Oper.wp P o a W K Q else E := by
  rw [if_pos (by simp [Region.wanted, hgd])]
  obtain ⟨i0, hi, hzz⟩ := Option.map_eq_some_iff.1 hinfo
  simp only [Prod.mk.injEq] at hzz
  obtain ⟨hz0, hz1, hz2⟩ := hzz
  have hlen : n + m ≤ 140737488355328 := Nat.le_trans (Nat.le_mul_of_pos_right _ hb0) hl
  rcases oa with _ | ad
  · have hnews : news = [] := by
      cases news with
      | nil => rfl
      | cons u r => obtain ⟨ad, had, _⟩ := hrd 0 u rfl; cases had
    subst hnews
    obtain rfl : m = 0 := by
      rcases Nat.eq_zero_or_pos m with h0 | h0
      · exact h0
      · have := Nat.mul_pos h0 hs0; simp at hnl; omega
    have hrun : (execOp a.eval o).run P W = .ok (.value v) W := by
      unfold execOp
      simp only [ho, resolve, invoke, builtin, Sem.run_bind, Sem.run_pure, Result.andThen_ok, List.map_toArray, List.map_cons, List.map_nil, hs, hx]
      rcases HO.2 with ⟨rfl, hn⟩ | ⟨g, cap, cur, rfl, _, _, hnc, _⟩
      · subst hn; simp [Builtin.append_, run_underlying ht, sizeOf, typeInfo, hi, Builtin.lenOf, Builtin.firstCells]
      · simp [Builtin.append_, run_underlying ht, sizeOf, typeInfo, hi, Builtin.lenOf, Builtin.firstCells, hnc, storeCells]
    unfold Oper.wp
    rw [hrun]
    exact h v W (by simpa using HO) (Below.refl _ _)
  · exact wp_append_own W s x t ho base e i0 z size bytes ht hi hz0 hz1 hz2 hz hs0 v n xs hs HO ad m c news hx hnl
      (fun j u hu => by obtain ⟨ad', h', hc⟩ := hrd j u hu; injection h' with h'; subst h'; exact hc) h1 (by simp only [maxLen]; omega) hl hbase
      (fun v1 w1 hown hg _ => h v1 w1 hown ((Below.refl _ _).grown hg hbase (own_base HO)))
theorem own_conv {w : World} {base m c : Nat} {oa : Option Addr} {L : List UInt8} (h : w.ownsRow base 5 1 (.slice oa m c) m (u8s L)) : (convert 22 9 (.slice oa m c)).run Try.prog w = .ok (.string (mkS L)) w := by
  have hm : m = L.length := by have := h.1; rw [u8s_length] at this; omega
  rcases h.2 with ⟨hv, h0⟩ | ⟨g, cap, cur, hv, _⟩
  · injection hv with e1 e2 e3
    subst e1
    have : L = [] := List.eq_nil_of_length_eq_zero (by omega)
    subst this
    exact run_convert_bytes_nil w 22 5 Try.underlying22 Try.underlying5 _ _ 9 Try.underlying9
  · injection hv with e1 e2 e3
    subst e1
    rw [← strOfNums_u8]
    refine run_convert_bytes_arg w 22 5 Try.underlying22 Try.underlying5 g 0 m c _ (by simp [hm]) (fun i hi => ?_) 9 Try.underlying9
    obtain ⟨ad, had, hc⟩ := (own_read h).2 i (.int .u8 (L[i]'(by omega)).toNat) (by simp [u8s, show i < L.length by omega])
    cases had
    rw [show (⟨g, 0 + i, none⟩ : Addr) = Addr.add ⟨g, 0, none⟩ i by unfold Addr.add; split <;> simp_all, hc]
    simp [List.getD_eq_getElem?_getD, show i < L.length by omega]
theorem RdR.read {w w1 : World} {oa : Option Addr} {X : List Int} (hR : RdR w oa X) (hb : Below w.heap.size w w1) : ∀ j u, (X.map (Value.int .i32))[j]? = some u → ∃ ad, oa = some ad ∧ w1.cell? (ad.add j) = some u := fun j u hu => by
  have hj : j < X.length := by
    rcases Nat.lt_or_ge j X.length with h | h
    · exact h
    · rw [List.getElem?_eq_none (by simpa using h)] at hu; cases hu
  obtain ⟨ad, h1, h2⟩ := (hR.below hb) j hj
  refine ⟨ad, h1, ?_⟩
  rw [h2, ← hu]
  simp [hj]
set_option maxRecDepth 100000 in
set_option maxHeartbeats 4000000 in
theorem utf8s9 (oa : Option Addr) (n cap : Nat) (X : List Int) (w : World) (hn : n = X.length) (hm : X.length ≤ 35184372088832) (hR : RdR w oa X) (hw : ∀ x ∈ X, -2147483648 ≤ x ∧ x ≤ 2147483647) :
    Calls Try.prog 9 #[.slice oa n cap] w fun e w' => e = .returned (.bool true) ∧ Below w.heap.size w w' := by
  have hB0 : Below w.heap.size w (w.drew.alloc (.cells #[] 28)) := bal (bdw w) _
  have HO := own_empty w.drew w.heap.size 21 1 w.heap.size rfl (Nat.le_refl _)
  have hB0 : Below w.heap.size w (w.drew.alloc (.cells #[] 21)) := bal (bdw w) _
  have hrd := hR.read hB0
  have hnl : (X.map (Value.int .i32)).length = n * 1 := by rw [hn]; simp
  have hbs : w.heap.size ≤ (w.drew.alloc (.cells #[] 21)).heap.size := by simp
  have hhl : (0 + n) * 4 ≤ 140737488355328 := by omega
  have HN := Go.Lib.hid hn
  have k19 := fun (W : World) (hb : Below w.heap.size w W) => rutf8_19 oa n cap X W HN.out hm (hR.below hb) hw
  clear hn hm hw
  go_enter Try.func9, Try.ntmps9
  go_wp2
  go_region_law (first
    | (refine step_append_wanted rfl w.heap.size (.tmp 3) (.tmp 4) 28 21 (.int .i32 0) 1 4 rfl Try.underlying28 Try.info21 rfl (by decide) (by decide) (.slice (some ⟨w.heap.size, 0, none⟩) 0 0) 0 n cap oa [] (X.map (Value.int .i32)) rfl rfl hnl hrd (i32_one X) HO hbs hhl ?_; intro v1 w1 hown hb1; rw [Nat.zero_add, List.nil_append] at hown; obtain ⟨oa1, c1, rfl⟩ := own_slice hown; have hB1 := hB0.trans hb1)
    | (go_simp; go_at_call 18; refine (utf8_18 _ n _ X _ HN.out (RdR.own hown)).mono ?_; rintro e w2 ⟨g, z, fr, c, rfl, hr2, hg2, hb2⟩; have hB2 := btr hB1 hb2; have kc2 := hr2.back (P := Try.prog) 22 5 c _ rfl Try.underlying22 Try.underlying5 9 Try.underlying9)
    | (go_simp; go_at_call 19; refine (k19 _ hB2).mono ?_; rintro e w3 ⟨v3, rfl, hown3, hb3⟩; obtain ⟨oa3, c3, rfl⟩ := own_slice hown3; have kc3 := own_conv hown3; have kc32 := (hr2.below hb3).back (P := Try.prog) 22 5 c _ rfl Try.underlying22 Try.underlying5 9 Try.underlying9; have hB3 := btr hB2 hb3)
    | (go_simp; go_at_call 16; refine (awake16 _).mono ?_; rintro e w4 ⟨rfl, hb4⟩; have hB4 := btr hB3 hb4))
  all_goals go_wp2
  all_goals go_ret
  all_goals exact ⟨rfl, hB4⟩
end Go.Proofs.Ytmfifaigphnbmaa
