/- The walk of the reference's Breaks. -/
import Derived.Test.YtpicgchcdbginaaDoorE2
namespace Go.Proofs.YtpicgchcdbginaaDoor
open Go.RowKit

theorem box9 {w w1 : World} {vs : Array Value} {t : TypeId} (hb : Below (w.heap.size + 1) (w.alloc (.cells vs t)) w1) : w1.heap[w.heap.size]? = some (.cells vs t (0, 0)) := by
  have := bblk (w := w.alloc (.cells vs t)) (by simpa using hb) (at_new w (.cells vs t) w.heap.size rfl)
  exact this
set_option maxHeartbeats 2000000 in
theorem refbreaks11 (kind has ch : Int) (nm data sys : ByteArray) (q sf : Bool) (oa : Option Addr) (cap : Nat) (L : List A4) (w : World) (hL : RdA w oa L) (hm : L.length * 56 ≤ 140737488351232) :
    Calls Tryd.prog 11 #[.agg #[.int .i64 kind, .string nm, .string data, .string sys, .int .i64 has, .bool q, .int .i32 ch, .bool sf, .slice oa L.length cap]] w fun e w' => e = .returned (.bool (brkP kind nm L)) ∧ Below w.heap.size w w' := by
  cases h2 : kind == 2
  · cases h1 : kind == 1
    · have hP : Hid (brkP kind nm L = false) := Go.Lib.hid (by simp only [brkP, h2, h1]; rfl)
      go_enter Tryd.func11, Tryd.ntmps11
      go_wp2
      go_ret
      exact ⟨ret_bool hP.out.symm, bal (Below.refl _ _) _⟩
    · obtain rfl : kind = 1 := by simpa using h1
      clear h2 h1
      cases hf : nm.toList == [102, 111, 110, 116]
      · have hP : Hid (brkP 1 nm L = oneB brL nm) := Go.Lib.hid (by simp only [brkP, hf]; rfl)
        have hO : Hid (oneB brL nm = (nm.toList == [98] || (nm.toList == [98, 105, 103] || (nm.toList == [98, 108, 111, 99, 107, 113, 117, 111, 116, 101] || (nm.toList == [98, 111, 100, 121] || (nm.toList == [98, 114] || (nm.toList == [99, 101, 110, 116, 101, 114] || (nm.toList == [99, 111, 100, 101] || (nm.toList == [100, 100] || (nm.toList == [100, 105, 118] || (nm.toList == [100, 108] || (nm.toList == [100, 116] || (nm.toList == [101, 109] || (nm.toList == [101, 109, 98, 101, 100] || (nm.toList == [104, 49] || (nm.toList == [104, 50] || (nm.toList == [104, 51] || (nm.toList == [104, 52] || (nm.toList == [104, 53] || (nm.toList == [104, 54] || (nm.toList == [104, 101, 97, 100] || (nm.toList == [104, 114] || (nm.toList == [105] || (nm.toList == [105, 109, 103] || (nm.toList == [108, 105] || (nm.toList == [108, 105, 115, 116, 105, 110, 103] || (nm.toList == [109, 101, 110, 117] || (nm.toList == [109, 101, 116, 97] || (nm.toList == [110, 111, 98, 114] || (nm.toList == [111, 108] || (nm.toList == [112] || (nm.toList == [112, 114, 101] || (nm.toList == [114, 117, 98, 121] || (nm.toList == [115] || (nm.toList == [115, 109, 97, 108, 108] || (nm.toList == [115, 112, 97, 110] || (nm.toList == [115, 116, 114, 111, 110, 103] || (nm.toList == [115, 116, 114, 105, 107, 101] || (nm.toList == [115, 117, 98] || (nm.toList == [115, 117, 112] || (nm.toList == [116, 97, 98, 108, 101] || (nm.toList == [116, 116] || (nm.toList == [117] || (nm.toList == [117, 108] || (nm.toList == [118, 97, 114]))))))))))))))))))))))))))))))))))))))))))))) := Go.Lib.hid (by simp only [brL, oneB_cons, oneB_nil, Bool.or_false])
        go_enter Tryd.func11, Tryd.ntmps11
        go_wp2
        all_goals
          go_ret
          refine ⟨ret_bool (Eq.trans ?_ hP.out.symm), bal (Below.refl _ _) _⟩
          rw [hO.out]
          clear hP hO
          first
          | (simp only [*, Bool.true_or, Bool.or_true, Bool.or_false]; done)
          | simp_all
      · have hP : Hid (brkP 1 nm L = L.any (fun x => oneB cfL x.nm)) := Go.Lib.hid (by simp only [brkP, hf]; rfl)
        go_enter Tryd.func11, Tryd.ntmps11
        go_wp2
        go_loopw [2, 3, 4] (fun _ v9 _ wr => ∃ k : Nat, k ≤ L.length ∧ v9 = .int .i64 k ∧ wr = w.alloc (.cells #[.int .i64 1, .string nm, .string data, .string sys, .int .i64 has, .bool q, .int .i32 ch, .bool sf, .slice oa L.length cap] 27) ∧ Hid ((L.take k).any (fun x => oneB cfL x.nm) = false)) (fun _ v9 _ _ => L.length - (intOf v9).toNat)
        case atStart => exact ⟨0, Nat.zero_le _, rfl, rfl, Go.Lib.hid rfl⟩
        case round =>
          obtain ⟨k, hk, rfl, rfl, hF⟩ := hrel
          by_cases hlt : k < L.length
          · obtain ⟨b, off, rfl, hc⟩ := hL (by intro h; subst h; simp at hlt)
            obtain ⟨c0, c1, c2, c3⟩ := hc k hlt
            have d2 := cell_alloc c2 (.cells #[.int .i64 1, .string nm, .string data, .string sys, .int .i64 has, .bool q, .int .i32 ch, .bool sf, .slice (some ⟨b, off, none⟩) L.length cap] 27)
            have HN : Hid (oneB cfL L[k].nm = false → (L.take (k + 1)).any (fun x => oneB cfL x.nm) = false) := Go.Lib.hid (fun h => by
              rw [List.take_succ_eq_append_getElem hlt, List.any_append, hF.out]
              simp [h])
            have HY : Hid (oneB cfL L[k].nm = true → L.any (fun x => oneB cfL x.nm) = true) := Go.Lib.hid (fun h => List.any_eq_true.2 ⟨_, List.getElem_mem hlt, h⟩)
            clear hc c0 c1 c3 hL
            generalize L[k] = x at *
            have hO : Hid (oneB cfL x.nm = (x.nm.toList == [99, 111, 108, 111, 114] || (x.nm.toList == [102, 97, 99, 101] || x.nm.toList == [115, 105, 122, 101]))) := Go.Lib.hid (by simp only [cfL, oneB_cons, oneB_nil, Bool.or_false])
            go_wp2
            all_goals first
              | (go_roundw
                 case rel => exact ⟨k + 1, by omega, by go_num, trivial, Go.Lib.hid (HN.out (by rw [hO.out]; simp_all))⟩
                 case measure => simp [intOf]; omega)
              | (go_ret
                 exact ⟨ret_bool (Eq.trans (HY.out (by rw [hO.out]; simp_all)).symm hP.out.symm), bal (Below.refl _ _) _⟩)
          · obtain rfl : k = L.length := by omega
            have HP : Hid (L.any (fun x => oneB cfL x.nm) = false) := Go.Lib.hid (by have := hF.out; rwa [List.take_length] at this)
            go_wp2
            go_ret
            exact ⟨ret_bool (HP.out.symm.trans hP.out.symm), bal (Below.refl _ _) _⟩
  · have hP : Hid (brkP kind nm L = (nm.toList == [98, 114] || nm.toList == [112])) := Go.Lib.hid (by simp only [brkP, h2]; rfl)
    go_enter Tryd.func11, Tryd.ntmps11
    go_wp2
    all_goals
      go_ret
      refine ⟨ret_bool (Eq.trans ?_ hP.out.symm), bal (Below.refl _ _) _⟩
      simp_all
end Go.Proofs.YtpicgchcdbginaaDoor
