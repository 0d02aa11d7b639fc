/- The reference's small digits. -/
import Derived.Test.YtghhidaihajdmaaDoorS0
import Derived.Test.YtghhidaihajdmaaDoorKitY
import Derived.Deep.RegionLaw
import Derived.Laws.BytesArg
namespace Go.Proofs.YtghhidaihajdmaaDoor
open Go.RowKit
theorem Tryd.info5 : (Tryd.prog.info? 5).map (fun i => (i.zero, i.size, i.bytes)) = some (some (.int .u8 0), 1, 1) := by kernel_rfl
section
variable {P : Program} {ops : Array Oper} {rest : List Oper} {o : Oper} {a : Act} {Q : Exit → Act → World → Prop}
theorem step_append2_wanted {E : Prop} {K : Act → World → Prop} {w0 W : World} (hgd : o.guard = none) (base : Nat) (s x : Operand) (t e : TypeId) (z : Value) (size bytes : Nat)
    (ho : o.op = .call { callee := .builtin .append, args := #[s, x], argTypes := #[t, t] })
    (ht : P.underlying t = some (.slice e)) (hinfo : (P.info? e).map (fun i => (i.zero, i.size, i.bytes)) = some (some z, size, bytes)) (hz : z.cells.size = size) (hs0 : 0 < size) (hb0 : 0 < bytes)
    (v : Value) (n m : Nat) (xs : List Value) (cs : Array Value) (hs : a.eval s = v) (hx : a.eval x = .slice (some ⟨m, 0, none⟩) 2 2) (hm : m = W.heap.size) (hcs : cs.size = 2 * size) (h1 : ∀ u ∈ cs.toList, u.oneCell' = true)
    (HO : W.ownsRow base e size v n xs) (HB : Below base w0 W) (hbase : base ≤ W.heap.size) (hl : (n + 2) * bytes ≤ 140737488355328)
    (h : ∀ v1 w1, w1.ownsRow base e size v1 (n + 2) (xs ++ cs.toList) → Below base w0 w1 → K (a.put o.dst v1) w1) :
    if Region.wanted o (yielded ops a.tmps) = true then Oper.wp P o a (W.alloc (.cells cs e)) K Q else E := by
  rw [if_pos (by simp [Region.wanted, hgd])]
  subst hm
  obtain ⟨i0, hi, hzz⟩ := Option.map_eq_some_iff.1 hinfo
  simp only [Prod.mk.injEq] at hzz
  obtain ⟨hz0, hz1, hz2⟩ := hzz
  have hlen : n + 2 ≤ 140737488355328 := Nat.le_trans (Nat.le_mul_of_pos_right _ hb0) hl
  exact wp_append_own (W.alloc (.cells cs e)) s x t ho base e i0 z size bytes ht hi hz0 hz1 hz2 hz hs0 v n xs hs (HO.alloc _) ⟨W.heap.size, 0, none⟩ 2 2 cs.toList hx (by simp [hcs])
    (World.news_of_block (cs := cs) (t := e) (fr := (0, 0)) (heap_alloc_new W _)) h1 (by simp only [maxLen]; omega) hl (by simp; omega)
    (fun v1 w1 hown hg _ => h v1 w1 hown ((HB.alloc hbase _).grown hg (by simp; omega) (own_base HO)))
theorem at_dst (k : Nat) {X Y : Prop} (_h : o.dst = some k) (hx : if Region.wanted o (yielded ops a.tmps) = true then X else Y) : if Region.wanted o (yielded ops a.tmps) = true then X else Y := hx
end
theorem dig_at' (k : Nat) (h : k < 16) : ((ByteArray.mk #[48, 49, 50, 51, 52, 53, 54, 55, 56, 57, 97, 98, 99, 100, 101, 102])[k]'h) = digs.getD k 0 := by
  rw [List.getD_eq_getElem?_getD, List.getElem?_eq_getElem (show k < digs.length from h)]
  rfl
theorem wrap_u8 (n : Int) (h0 : 0 ≤ n) (h1 : n < 256) : IntKind.u8.wrap n = n := by rw [IntKind.wrap_u8]; omega
set_option maxRecDepth 100000 in
theorem own_conv {w : World} {base m c : Nat} {oa : Option Addr} {L : List UInt8} (h : w.ownsRow base 5 1 (.slice oa m c) m (u8s L)) : (convert 37 9 (.slice oa m c)).run Tryd.prog w = .ok (.string (mkS L)) w := by
  have hm : m = L.length := by have := h.1; rw [u8s_length] at this; omega
  rcases h.2 with ⟨hv, h0⟩ | ⟨g, cap, cur, hv, _⟩
  · injection hv with e1 e2 e3
    subst e1
    have : L = [] := List.eq_nil_of_length_eq_zero (by omega)
    subst this
    exact run_convert_bytes_nil w 37 5 Tryd.underlying37 Tryd.underlying5 _ _ 9 Tryd.underlying9
  · injection hv with e1 e2 e3
    subst e1
    rw [← strOfNums_u8]
    refine run_convert_bytes_arg w 37 5 Tryd.underlying37 Tryd.underlying5 g 0 m c _ (by simp [hm]) (fun i hi => ?_) 9 Tryd.underlying9
    obtain ⟨ad, had, hc⟩ := (own_read h).2 i (.int .u8 (L[i]'(by omega)).toNat) (by simp [u8s, show i < L.length by omega])
    cases had
    rw [show (⟨g, 0 + i, none⟩ : Addr) = Addr.add ⟨g, 0, none⟩ i by unfold Addr.add; split <;> simp_all, hc]
    simp [List.getD_eq_getElem?_getD, show i < L.length by omega]
set_option maxRecDepth 100000 in
theorem digits19 (s : ByteArray) (w : World) (hs : s.size ≤ 65536) : Calls Tryd.prog 19 #[.string s] w fun e w' => e = .returned (.string (mkS (hexL s.data.toList))) ∧ Below w.heap.size w w' := by
  go_enter Tryd.func19, Tryd.ntmps19
  go_wp2_with fail
  go_loopw [4, 5] (fun v4 v5 wr => ∃ i : Nat, v5 = .int .i64 i ∧ i ≤ s.size ∧ wr.ownsRow w.heap.size 5 1 v4 (2 * i) (u8s (hexL (s.data.toList.take i))) ∧ Below w.heap.size w wr) (fun _ v5 _ => s.size - (intOf v5).toNat)
  case atStart => exact ⟨0, rfl, Nat.zero_le _, own_nil w w.heap.size 5 1, Below.refl _ w⟩
  case round =>
    obtain ⟨i, rfl, hi, hown, hbw⟩ := hrel
    by_cases hlt : i < s.size
    · have H := hexL_take s.data.toList i (by rw [dlen]; exact hlt)
      rw [show s.data.toList[i]'(by rw [dlen]; exact hlt) = s[i] by rw [Array.getElem_toList]; rfl] at H
      have HX := Go.Lib.hid H
      clear H
      have hb8 := s[i].toNat_lt
      obtain ⟨d, hd⟩ : ∃ d : Nat, d = s[i].toNat / 16 := ⟨_, rfl⟩
      obtain ⟨e, he⟩ : ∃ e : Nat, e = s[i].toNat % 16 := ⟨_, rfl⟩
      have hdi : (s[i].toNat : Int) / 16 = (d : Int) := by omega
      have hei : (s[i].toNat : Int).tmod 16 = (e : Int) := by rw [Int.tmod_eq_emod_of_nonneg (by omega)]; omega
      have hd16 : (d : Int) < 16 := by omega
      have he16 : (e : Int) < 16 := by omega
      have hwd : IntKind.u8.wrap (d : Int) = d := wrap_u8 _ (by omega) (by omega)
      have hwe : IntKind.u8.wrap (e : Int) = e := wrap_u8 _ (by omega) (by omega)
      have hone : ∀ u ∈ (#[Value.int .u8 (digs.getD d 0).toNat, .int .u8 (digs.getD e 0).toNat] : Array Value).toList, u.oneCell' = true := by
        intro u hu
        rcases (show u = _ ∨ u = _ by simpa using hu) with rfl | rfl <;> rfl
      have hdn : d < 16 := by omega
      have hen : e < 16 := by omega
      have HE := Go.Lib.hid (show hexB s[i] = [digs.getD d 0, digs.getD e 0] by rw [hexB, ← hd, ← he])
      clear hd he
      have hd1 := dig_at' d hdn
      have hd2 := dig_at' e hen
      generalize digs.getD d 0 = x at *
      generalize digs.getD e 0 = y at *
      have hownd : wr.drew.ownsRow w.heap.size 5 1 u4 (2 * i) (u8s (hexL (s.data.toList.take i))) := hown
      have hbwd : Below w.heap.size w wr.drew := bdr hbw 1
      go_wp2_with fail
      go_region_law (first
        | (refine at_dst 26 rfl ?_; go_must (refine step_append2_wanted rfl w.heap.size (.tmp 12) (.tmp 25) 37 5 (.int .u8 0) 1 1 rfl Tryd.underlying37 Tryd.info5 rfl (by decide) (by decide) u4 (2 * i) _ _ #[.int .u8 x.toNat, .int .u8 y.toNat] rfl rfl rfl rfl hone hownd hbwd hbw.size (by omega) ?_; intro v1 w3 hown3 hB3)))
      all_goals have HO3 := Go.Lib.hid hown3
      all_goals clear hown3 hown hownd hone
      all_goals go_wp2
      all_goals go_roundw
      all_goals first
        | (case measure => simp [intOf]; omega)
        | (case rel =>
            refine ⟨i + 1, by go_num, by omega, ?_, hB3⟩
            have := HO3.out
            rw [HX.out, HE.out]
            simpa [u8s, Nat.mul_add] using this)
    · obtain rfl : i = s.size := by omega
      rw [List.take_of_length_le (by rw [dlen]; exact Nat.le_refl _)] at hown
      obtain ⟨oa, c, rfl⟩ := own_slice hown
      have hcv := own_conv hown
      go_wp2
      go_ret
      exact ⟨rfl, hbw⟩
end Go.Proofs.YtghhidaihajdmaaDoor
