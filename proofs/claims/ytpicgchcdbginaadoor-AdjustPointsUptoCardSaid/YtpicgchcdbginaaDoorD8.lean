/- An argument that is a slice of attributes, opened. -/
import Derived.Test.YtpicgchcdbginaaDoorD1
import Derived.Test.YtpicgchcdbginaaDoorKitS
namespace Go.Proofs.YtpicgchcdbginaaDoor
open Go.Joins Go.ChangeShapes Go.WideShapes Go.RowKit Go.Deep Go.ChangeAt
section
variable {H : Type} {enc : TypeId × Value → H} {w : World} {base : Nat} {spare : Nat → Bool} {held : Bool}
theorem shape31 : ∃ f0 f1 f2 f3 : Field, Tryd.prog.underlying 31 = some (.struct #[f0, f1, f2, f3]) ∧ f0.type = 3 ∧ f1.type = 9 ∧ f2.type = 9 ∧ f3.type = 9 ∧ oneCellFields Tryd.prog #[f0, f1, f2, f3] = true :=
  ⟨_, _, _, _, Tryd.underlying31, rfl, rfl, rfl, rfl, by kernel_rfl⟩
theorem cells31 : Tryd.prog.cellsOf 31 = 4 := by kernel_rfl
theorem open_attr {i off n : Nat} {b : Nat} {f0 f1 f2 f3 : Field} {ys : List (DataW H × List MemPlace)} (h0 : f0.type = 3) (h1 : f1.type = 9) (h2 : f2.type = 9) (h3 : f3.type = 9)
    (hf : ∀ (j : Nat) (f : Field), #[f0, f1, f2, f3][j]? = some f → ∃ (v : Value) (y : DataW H × List MemPlace), w.cell? ((⟨b, off, none⟩ : Addr).add (i * 4 + j)) = some v ∧ ys[j]? = some y ∧ DataW.trod enc Tryd.prog w base spare held n f.type [v] = some y) :
    ∃ x : A4, w.cell? ⟨b, off + i * 4, none⟩ = some (.int .i64 x.sp) ∧ w.cell? ⟨b, off + i * 4 + 1, none⟩ = some (.string x.pre) ∧ w.cell? ⟨b, off + i * 4 + 2, none⟩ = some (.string x.nm) ∧ w.cell? ⟨b, off + i * 4 + 3, none⟩ = some (.string x.va) ∧
      x.pre.size ≤ maxLen ∧ x.nm.size ≤ maxLen ∧ x.va.size ≤ maxLen ∧ DataW.lit (.string x.va.data.toList) ∈ ys.map (·.1) := by
  obtain ⟨v0, y0, c0, _, t0⟩ := hf 0 f0 rfl
  obtain ⟨v1, y1, c1, _, t1⟩ := hf 1 f1 rfl
  obtain ⟨v2, y2, c2, _, t2⟩ := hf 2 f2 rfl
  obtain ⟨v3, y3, c3, g3, t3⟩ := hf 3 f3 rfl
  rw [h0] at t0
  rw [h1] at t1
  rw [h2] at t2
  rw [h3] at t3
  obtain ⟨n0, e0, _, _⟩ := DataW.trod_int Tryd.underlying3 t0
  obtain ⟨s1, e1, _, z1⟩ := DataW.trod_string Tryd.underlying9 t1
  obtain ⟨s2, e2, _, z2⟩ := DataW.trod_string Tryd.underlying9 t2
  obtain ⟨s3, e3, x3, z3⟩ := DataW.trod_string Tryd.underlying9 t3
  simp only [List.cons.injEq, and_true] at e0 e1 e2 e3
  subst e0 e1 e2 e3
  rw [add_plain] at c0 c1 c2 c3
  exact ⟨⟨n0, s1, s2, s3⟩, c0, c1, c2, c3, z1, z2, z3, List.mem_map.2 ⟨y3, List.mem_of_getElem? g3, by rw [x3]⟩⟩
/-- A slice of attributes that came in, in a struct or by itself. -/
theorem open_attrs_of {oa : Option Addr} {len cap fuel : Nat} {x : DataW H × List MemPlace} (hf : DataW.trod enc Tryd.prog w base spare held fuel 22 [.slice oa len cap] = some x) :
    ∃ L : List A4, len = L.length ∧ RdA w oa L ∧ (∀ x ∈ L, x.pre.size ≤ maxLen ∧ x.nm.size ≤ maxLen ∧ x.va.size ≤ maxLen) ∧ (L = [] ∨ ∃ elems sp, x.1 = .slice elems sp ∧ elems.length = L.length ∧ ∀ y ∈ L, ∃ parts, DataW.agg parts ∈ elems ∧ DataW.lit (.string y.va.data.toList) ∈ parts) := by
  obtain ⟨f0, f1, f2, f3, hu, h0, h1, h2, h3, hone⟩ := shape31
  rcases open_slice_fields Tryd.underlying22 hu hone cells31 hf with ⟨hcs, _⟩ | ⟨a, len', cap', m, D, Pl, hcs, _, hlc, _, hm, hx, hi⟩
  · simp at hcs
    obtain ⟨rfl, rfl, rfl⟩ := hcs
    exact ⟨[], rfl, fun h => absurd rfl h, by simp, .inl rfl⟩
  · simp at hcs
    obtain ⟨rfl, rfl, rfl⟩ := hcs
    subst hx
    have hle : len ≤ m := by rw [hm]; split <;> omega
    rcases Nat.eq_zero_or_pos len with rfl | hpos
    · exact ⟨[], rfl, fun h => absurd rfl h, by simp, .inl rfl⟩
    · obtain ⟨b, off, spot⟩ := a
      have hspot : spot = none := by
        obtain ⟨ys, n, _, _, _, hff⟩ := hi 0 (by omega)
        obtain ⟨v, y, hc, _, _⟩ := hff 0 f0 rfl
        simpa [Addr.add] using World.cell?_spot hc
      subst hspot
      have hex : ∀ i, i < len → ∃ x : A4, w.cell? ⟨b, off + i * 4, none⟩ = some (.int .i64 x.sp) ∧ w.cell? ⟨b, off + i * 4 + 1, none⟩ = some (.string x.pre) ∧ w.cell? ⟨b, off + i * 4 + 2, none⟩ = some (.string x.nm) ∧ w.cell? ⟨b, off + i * 4 + 3, none⟩ = some (.string x.va) ∧
          x.pre.size ≤ maxLen ∧ x.nm.size ≤ maxLen ∧ x.va.size ≤ maxLen ∧ ∃ parts, D i = .agg parts ∧ DataW.lit (.string x.va.data.toList) ∈ parts := fun i hil => by
        obtain ⟨ys, n, hD, _, _, hff⟩ := hi i (by omega)
        obtain ⟨x, q0, q1, q2, q3, q4, q5, q6, q7⟩ := open_attr h0 h1 h2 h3 hff
        exact ⟨x, q0, q1, q2, q3, q4, q5, q6, _, hD, q7⟩
      let X : Nat → A4 := fun i => if h : i < len then (hex i h).choose else ⟨0, ByteArray.empty, ByteArray.empty, ByteArray.empty⟩
      have hX : ∀ i (h : i < len), X i = (hex i h).choose := fun i h => by simp only [X, dif_pos h]
      have hlen : ((List.range len).map X).length = len := by simp
      refine ⟨(List.range len).map X, hlen.symm, fun _ => ⟨b, off, rfl, fun k hk => ?_⟩, fun x hx => ?_, .inr ⟨_, _, rfl, by simp, fun y hy => ?_⟩⟩
      · have hk' : k < len := by rwa [hlen] at hk
        have e : ((List.range len).map X)[k] = X k := by simp
        rw [e, hX k hk']
        have := (hex k hk').choose_spec
        exact ⟨this.1, this.2.1, this.2.2.1, this.2.2.2.1⟩
      · obtain ⟨k, hk, rfl⟩ := List.mem_map.1 hx
        have hk' : k < len := by simpa using hk
        rw [hX k hk']
        have := (hex k hk').choose_spec
        exact ⟨this.2.2.2.2.1, this.2.2.2.2.2.1, this.2.2.2.2.2.2.1⟩
      · obtain ⟨k, hk, rfl⟩ := List.mem_map.1 hy
        have hk' : k < len := by simpa using hk
        obtain ⟨parts, hD, hm⟩ := (hex k hk').choose_spec.2.2.2.2.2.2.2
        rw [hX k hk']
        exact ⟨parts, by rw [← hD]; exact List.mem_map.2 ⟨k, hk, rfl⟩, hm⟩
theorem open_attrs {r : Reach} {b0 : Nat} {v : Value} {d : DataW H} {ps : List MemPlace} (hval : Value.okWide Tryd.prog w r b0 22 v) (h : DataW.Trod enc Tryd.prog w base spare held 22 v d ps) :
    ∃ oa cap L, v = .slice oa (List.length L) cap ∧ RdA w oa L ∧ (∀ x ∈ L, x.pre.size ≤ maxLen ∧ x.nm.size ≤ maxLen ∧ x.va.size ≤ maxLen) ∧ (L = [] ∨ ∃ elems sp, d = .slice elems sp ∧ elems.length = L.length ∧ ∀ y ∈ L, ∃ parts, DataW.agg parts ∈ elems ∧ DataW.lit (.string y.va.data.toList) ∈ parts) := by
  obtain ⟨oa, len, cap, rfl⟩ := okWide_slice Tryd.underlying22 hval
  obtain ⟨fuel, hf⟩ := h
  obtain ⟨L, rfl, h1, h2, h3⟩ := open_attrs_of hf
  exact ⟨oa, cap, L, rfl, h1, h2, h3⟩
theorem bytes31 : Tryd.prog.bytesOf 31 = 56 := by kernel_rfl
theorem attrs_sized {L : List A4} {ts : List TypeId} {ds : List (DataW H)} {d : DataW H} {j : Nat} (h : (DataW.weightsEach Tryd.prog ts ds).all (· ≤ reachBytes) = true) (ht : ts[j]? = some 22) (hd : ds[j]? = some d)
    (hL : L = [] ∨ ∃ elems sp, d = .slice elems sp ∧ elems.length = L.length ∧ ∀ y ∈ L, ∃ parts, DataW.agg parts ∈ elems ∧ DataW.lit (.string y.va.data.toList) ∈ parts) : L.length * 56 ≤ 140737488351232 := by
  rcases hL with rfl | ⟨elems, sp, rfl, hel, _⟩
  · simp
  · have := sized_slice h ht hd Tryd.underlying22
    rw [bytes31] at this
    have hr : reachBytes = 140737488351232 := rfl
    rw [hr] at this
    omega
theorem attrs_sized_field {L : List A4} {ts : List TypeId} {ds : List (DataW H)} {j i : Nat} {t : TypeId} {fs : List TypeId} {F : Array Field} {parts : List (DataW H)} {d : DataW H}
    (h : (DataW.weightsEach Tryd.prog ts ds).all (· ≤ reachBytes) = true) (ht : ts[j]? = some t) (hd : ds[j]? = some (.agg parts)) (hu : Tryd.prog.underlying t = some (.struct F)) (hF : F.toList.map (·.type) = fs) (hi : fs[i]? = some 22) (hp : parts[i]? = some d)
    (hL : L = [] ∨ ∃ elems sp, d = .slice elems sp ∧ elems.length = L.length ∧ ∀ y ∈ L, ∃ parts, DataW.agg parts ∈ elems ∧ DataW.lit (.string y.va.data.toList) ∈ parts) : L.length * 56 ≤ 140737488351232 := by
  rcases hL with rfl | ⟨elems, sp, rfl, hel, _⟩
  · simp
  · subst hF
    have h1 : (elems.length + sp.length) * Tryd.prog.bytesOf 31 ∈ DataW.weightsEach Tryd.prog (F.toList.map (·.type)) parts := DataW.weights_mem_each hi hp _ (by simp [DataW.weights, Tryd.underlying22])
    have h2 := List.all_eq_true.1 h _ (DataW.weights_mem_each ht hd ((elems.length + sp.length) * Tryd.prog.bytesOf 31) (by simpa [DataW.weights, hu] using h1))
    have h3 : (elems.length + sp.length) * Tryd.prog.bytesOf 31 ≤ 140737488351232 := of_decide_eq_true h2
    rw [bytes31, hel] at h3
    omega
end
end Go.Proofs.YtpicgchcdbginaaDoor
