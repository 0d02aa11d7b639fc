/- Texts of one seat, merged: lemmas and contracts that the law leans on. -/
import Derived.Test.YthfdiinfeljeeaaGreatDoorCM3
import Derived.Maps.OwnSet
import Derived.Maps.Views
import Derived.Maps.OwnOps
import Derived.Deep.QuietTactic
import Derived.Laws.EntriesVeiled
/- Comments that may stand, both sides. -/
namespace Go.Proofs.YthfdiinfeljeeaaGreatDoor
open Go.RowKit
/-- What the library's variables read as. -/
structure Env (w : World) : Prop where
  tabs : Lib.Utf8Tabs 0 1 w
  m : ∃ m, w.cell? ⟨2, 0, none⟩ = some (.int .i64 m)
theorem Env.below {w w1 : World} (h : Env w) (hb : Below w.heap.size w w1) : Env w1 := ⟨tabs_below h.tabs hb, by obtain ⟨m, hm⟩ := h.m; exact ⟨m, bcl hb hm⟩⟩
def ddL : List UInt8 → Bool
  | a :: b :: t => (a == 45 && b == 45) || ddL (b :: t)
  | _ => false
theorem dd_index : ∀ L : List UInt8, Lib.contains L [45, 45] = ddL L
  | [] => rfl
  | [a] => by
    show decide (0 ≤ if ([45, 45] : List UInt8).isPrefixOf [a] then (0 : Int) else if (-1 : Int) == -1 then -1 else -1 + 1) = false
    rw [show ([45, 45] : List UInt8).isPrefixOf [a] = false by simp [List.isPrefixOf]]
    rfl
  | a :: b :: t => by
    have ih := dd_index (b :: t)
    unfold Lib.contains at ih ⊢
    rw [show Lib.index (a :: b :: t) [45, 45] = if ([45, 45] : List UInt8).isPrefixOf (a :: b :: t) then (0 : Int) else if (Lib.index (b :: t) [45, 45] == -1) = true then -1 else Lib.index (b :: t) [45, 45] + 1 from rfl]
    rw [show ddL (a :: b :: t) = ((a == 45 && b == 45) || ddL (b :: t)) from rfl, ← ih]
    have hg := Lib.index_ge (b :: t) [45, 45]
    generalize Lib.index (b :: t) [45, 45] = z at *
    rw [show ([45, 45] : List UInt8).isPrefixOf (a :: b :: t) = (a == 45 && b == 45) by
      simp only [List.isPrefixOf, Bool.and_true]
      rw [Bool.eq_iff_iff]; simp only [Bool.and_eq_true, beq_iff_eq]
      exact ⟨fun h => ⟨h.1.symm, h.2.symm⟩, fun h => ⟨h.1.symm, h.2.symm⟩⟩]
    cases a == 45 && b == 45
    · simp only [Bool.false_or, Bool.false_eq_true, if_false]
      split
      · next h => rw [beq_iff_eq] at h; rw [decide_eq_false (by omega), decide_eq_false (by omega)]
      · next h => rw [beq_iff_eq] at h; rw [Bool.eq_iff_iff, decide_eq_true_eq, decide_eq_true_eq]; omega
    · simp
/-- A comment's text may stand. -/
def commB (s : ByteArray) : Bool := plainB s && !Lib.hasPrefix s.data.toList [62] && !Lib.hasPrefix s.data.toList [45, 62] && !Lib.hasSuffix s.data.toList [45] && !ddL s.data.toList
set_option maxHeartbeats 4000000 in
set_option maxRecDepth 100000 in
theorem comment78 (s : ByteArray) (w : World) (hs : s.size ≤ 1048576) (hE : Env w) :
    Calls Tryz.prog 78 #[.string s] w fun e w' => e = .returned (.bool (commB s)) ∧ Below w.heap.size w w' := by
  have P := plain54 s w hs hE.tabs
  have H1 := fun W => Tryz.strings_HasPrefix s ⟨#[62]⟩ W
  have H2 := fun W => Tryz.strings_HasPrefix s ⟨#[45, 62]⟩ W
  have H3 := fun W => Tryz.strings_HasSuffix s ⟨#[45]⟩ W (by omega)
  obtain ⟨m, hm⟩ := hE.m
  have H4 := fun W => Tryz.strings_Contains s ⟨#[45, 45]⟩ m W (by omega)
  rw [dd_index] at H4
  unfold commB
  generalize plainB s = p at *
  generalize Lib.hasPrefix s.data.toList [62] = a at *
  generalize Lib.hasPrefix s.data.toList [45, 62] = b at *
  generalize Lib.hasSuffix s.data.toList [45] = c at *
  generalize ddL s.data.toList = d at *
  clear hE
  cases p
  · go_enter Tryz.func78, Tryz.ntmps78
    go_wp2_with (go_at_call 54; refine P.mono ?_; rintro e w1 ⟨rfl, hw⟩)
    go_ret
    exact ⟨rfl, hw⟩
  · cases a
    · cases b
      · cases c
        · go_enter Tryz.func78, Tryz.ntmps78
          go_wp2_with (first
            | (go_at_call 54; refine P.mono ?_; rintro e w1 ⟨rfl, hw⟩)
            | (go_at_call 100; first | (refine (H1 _).mono ?_; rintro e w1 ⟨rfl, rfl⟩) | (refine (H2 _).mono ?_; rintro e w1 ⟨rfl, rfl⟩))
            | (go_at_call 101; refine (H3 _).mono ?_; rintro e w1 ⟨rfl, rfl⟩)
            | (go_at_call 102; refine (H4 _ (bcl hw hm)).mono ?_; rintro e w1 ⟨rfl, rfl⟩))
          go_ret
          exact ⟨by cases d <;> rfl, hw⟩
        · go_enter Tryz.func78, Tryz.ntmps78
          go_wp2_with (first
            | (go_at_call 54; refine P.mono ?_; rintro e w1 ⟨rfl, hw⟩)
            | (go_at_call 100; first | (refine (H1 _).mono ?_; rintro e w1 ⟨rfl, rfl⟩) | (refine (H2 _).mono ?_; rintro e w1 ⟨rfl, rfl⟩))
            | (go_at_call 101; refine (H3 _).mono ?_; rintro e w1 ⟨rfl, rfl⟩))
          go_ret
          exact ⟨by cases d <;> rfl, hw⟩
      · go_enter Tryz.func78, Tryz.ntmps78
        go_wp2_with (first
          | (go_at_call 54; refine P.mono ?_; rintro e w1 ⟨rfl, hw⟩)
          | (go_at_call 100; first | (refine (H1 _).mono ?_; rintro e w1 ⟨rfl, rfl⟩) | (refine (H2 _).mono ?_; rintro e w1 ⟨rfl, rfl⟩)))
        go_ret
        exact ⟨by cases c <;> cases d <;> rfl, hw⟩
    · go_enter Tryz.func78, Tryz.ntmps78
      go_wp2_with (first
        | (go_at_call 54; refine P.mono ?_; rintro e w1 ⟨rfl, hw⟩)
        | (go_at_call 100; refine (H1 _).mono ?_; rintro e w1 ⟨rfl, rfl⟩))
      go_ret
      exact ⟨by cases b <;> cases c <;> cases d <;> rfl, hw⟩
end Go.Proofs.YthfdiinfeljeeaaGreatDoor
/- Comments: the reference. -/
namespace Go.Proofs.YthfdiinfeljeeaaGreatDoor
open Go.RowKit
theorem is45 {x : UInt8} {b : Bool} (h : ((x.toNat : Int) == 45) = b) : (x == 45) = b := by
  rw [← h, Bool.eq_iff_iff, beq_iff_eq, beq_iff_eq]
  constructor
  · rintro rfl; rfl
  · intro h2
    apply UInt8.toNat_inj.1
    rw [show (45 : UInt8).toNat = 45 from rfl]; omega
theorem at0 (s : ByteArray) (i : Nat) (h : i < s.size) : s.data.toList[i]'(by rw [dlen]; exact h) = s[i] := by rw [Array.getElem_toList]; rfl
theorem dd_step (s : ByteArray) (i : Nat) (h : i + 1 < s.size) : ddL (s.data.toList.drop i) = ((s[i]'(by omega) == 45 && s[i + 1]'h == 45) || ddL (s.data.toList.drop (i + 1))) := by
  rw [List.drop_eq_getElem_cons (show i < s.data.toList.length by rw [dlen]; omega), List.drop_eq_getElem_cons (show i + 1 < s.data.toList.length by rw [dlen]; omega), at0 s i (by omega), at0 s (i + 1) h]
  rfl
theorem dd_end (s : ByteArray) (i : Nat) (h : s.size ≤ i + 1) : ddL (s.data.toList.drop i) = false := by
  have hl : (s.data.toList.drop i).length ≤ 1 := by rw [List.length_drop, dlen]; omega
  rcases hd : s.data.toList.drop i with _ | ⟨a, _ | ⟨b, t⟩⟩
  · rfl
  · rfl
  · rw [hd] at hl; simp at hl
theorem pre62 (s : ByteArray) (h0 : 0 < s.size) : (((s[0]'h0).toNat : Int) == 62) = Lib.hasPrefix s.data.toList [62] := by
  rcases hL : s.data.toList with _ | ⟨a, t⟩
  · have := dlen s; rw [hL] at this; simp at this; omega
  · have ha := at0 s 0 h0
    simp only [hL, List.getElem_cons_zero] at ha
    rw [← ha]
    simp only [Lib.hasPrefix, List.isPrefixOf, Bool.and_true]
    rw [Bool.eq_iff_iff, beq_iff_eq, beq_iff_eq]
    constructor
    · intro h; apply UInt8.toNat_inj.1; rw [show (62 : UInt8).toNat = 62 from rfl]; omega
    · rintro rfl; rfl
theorem suf45 (s : ByteArray) (n : Nat) (h : s.size = n + 1) : (((s[n]'(by omega)).toNat : Int) == 45) = Lib.hasSuffix s.data.toList [45] := by
  have hd : s.data.toList.drop n = [s[n]'(by omega)] := by
    rw [List.drop_eq_getElem_cons (show n < s.data.toList.length by rw [dlen]; omega), List.drop_of_length_le (by rw [dlen]; omega), at0 s n (by omega)]
  have hl : s.data.toList.length = n + 1 := by rw [dlen, h]
  generalize s[n]'(by omega) = x at *
  rw [← Lib.hasSuffix_of_drop, hl]
  simp only [List.length_cons, List.length_nil, Nat.zero_add, Nat.add_sub_cancel]
  rw [decide_eq_true (show 1 ≤ n + 1 by omega), Bool.true_and, hd]
  rw [Bool.eq_iff_iff, beq_iff_eq, beq_iff_eq]
  constructor
  · intro h2
    congr 1
    apply UInt8.toNat_inj.1; rw [show (45 : UInt8).toNat = 45 from rfl]; omega
  · intro h2
    injection h2 with h2 _
    rw [h2]; rfl
theorem pre4562 (s : ByteArray) : (decide (2 ≤ s.size) && ((s.extract 0 2).toList == [45, 62])) = Lib.hasPrefix s.data.toList [45, 62] := by
  have h := Lib.hasPrefix_raw s ⟨#[45, 62]⟩
  rw [tl ⟨#[45, 62]⟩] at h
  exact h
set_option maxHeartbeats 4000000 in
set_option maxRecDepth 100000 in
theorem rcomment81 (s : ByteArray) (w : World) (hs : s.size ≤ 1048576) :
    Calls Tryz.prog 81 #[.string s] w fun e w' => e = .returned (.bool (commB s)) ∧ Below w.heap.size w w' := by
  have P := rplain59 s w hs
  have hsz : s.data.toList.length = s.size := dlen s
  unfold commB
  rcases (show s.size = 0 ∨ 0 < s.size by omega) with h0 | h0
  · have hL : s.data.toList = [] := List.eq_nil_of_length_eq_zero (by omega)
    have hemp : s.toList.isEmpty = true := by rw [tl, hL]; rfl
    rw [show Lib.hasPrefix s.data.toList [62] = false by rw [hL]; rfl, show Lib.hasPrefix s.data.toList [45, 62] = false by rw [hL]; rfl, show Lib.hasSuffix s.data.toList [45] = false by rw [hL]; rfl]
    generalize plainB s = p at *
    clear hL hsz
    cases p
    · go_enter Tryz.func81, Tryz.ntmps81
      go_wp2_with (go_at_call 59; refine P.mono ?_; rintro e w1 ⟨rfl, hw⟩)
      go_ret
      exact ⟨rfl, hw⟩
    · go_enter Tryz.func81, Tryz.ntmps81
      go_wp2_with (go_at_call 59; refine P.mono ?_; rintro e w1 ⟨rfl, hw⟩)
      go_loopw [3] (fun v3 wr => ∃ i : Nat, v3 = .int .i64 i ∧ i ≤ s.size ∧ wr = w1 ∧ ddL s.data.toList = ddL (s.data.toList.drop i)) (fun v3 _ => s.size - (intOf v3).toNat)
      case atStart => exact ⟨0, rfl, Nat.zero_le _, rfl, rfl⟩
      case round =>
        obtain ⟨i, rfl, hi, rfl, hd⟩ := hrel
        by_cases hlt : i + 1 < s.size
        · exfalso; omega
        · have he : ddL (s.data.toList.drop i) = false := dd_end s i (by omega)
          have H := Go.Lib.hid (hd.trans he)
          clear hd he
          go_wp2
          go_ret
          exact ⟨ret_bool (by rw [H.out]; rfl), hw⟩
  · have hne : s.data.toList ≠ [] := by intro h; rw [h] at hsz; simp at hsz; omega
    have hemp : s.toList.isEmpty = false := by rw [tl]; cases h : s.data.toList with | nil => exact absurd h hne | cons _ _ => rfl
    obtain ⟨n, hn⟩ : ∃ n, s.size = n + 1 := ⟨s.size - 1, by omega⟩
    have hA := pre62 s h0
    have hB := pre4562 s
    have hC := suf45 s n hn
    obtain ⟨x, hx⟩ : ∃ x, s[0]'h0 = x := ⟨_, rfl⟩
    have hnlt : n < s.size := by omega
    obtain ⟨z, hz⟩ : ∃ z, s[n]'hnlt = z := ⟨_, rfl⟩
    rw [hx] at hA
    rw [hz] at hC
    generalize plainB s = p at *
    generalize Lib.hasPrefix s.data.toList [62] = a at *
    generalize Lib.hasPrefix s.data.toList [45, 62] = b at *
    generalize Lib.hasSuffix s.data.toList [45] = c at *
    have hidx : ((s.size : Int) - 1) = (n : Int) := by omega
    clear hne
    cases p
    · go_enter Tryz.func81, Tryz.ntmps81
      go_wp2_with (go_at_call 59; refine P.mono ?_; rintro e w1 ⟨rfl, hw⟩)
      go_ret
      exact ⟨rfl, hw⟩
    · cases a
      · by_cases h2 : 2 ≤ s.size
        · rw [decide_eq_true h2, Bool.true_and] at hB
          cases b
          · cases c
            · go_enter Tryz.func81, Tryz.ntmps81
              go_wp2_with (go_at_call 59; refine P.mono ?_; rintro e w1 ⟨rfl, hw⟩)
              go_loopw [3] (fun v3 wr => ∃ i : Nat, v3 = .int .i64 i ∧ i ≤ s.size ∧ wr = w1 ∧ ddL s.data.toList = ddL (s.data.toList.drop i)) (fun v3 _ => s.size - (intOf v3).toNat)
              case atStart => exact ⟨0, rfl, Nat.zero_le _, rfl, rfl⟩
              case round =>
                obtain ⟨i, rfl, hi, rfl, hd⟩ := hrel
                by_cases hlt : i + 1 < s.size
                · have hst := dd_step s i hlt
                  obtain ⟨x1, hx1⟩ : ∃ x1, s[i]'(by omega) = x1 := ⟨_, rfl⟩
                  obtain ⟨x2, hx2⟩ : ∃ x2, s[i + 1]'(by omega) = x2 := ⟨_, rfl⟩
                  rw [hx1, hx2] at hst
                  have H := Go.Lib.hid (And.intro hst hd)
                  clear hst hd
                  cases q1 : ((x1.toNat : Int) == 45)
                  · go_wp2
                    go_roundw
                    case rel => exact ⟨i + 1, by go_num, by omega, by trivial, by rw [H.out.2, H.out.1, is45 q1]; rfl⟩
                    case measure => simp [intOf]; omega
                  · cases q2 : ((x2.toNat : Int) == 45)
                    · go_wp2
                      go_roundw
                      case rel => exact ⟨i + 1, by go_num, by omega, by trivial, by rw [H.out.2, H.out.1, is45 q1, is45 q2]; rfl⟩
                      case measure => simp [intOf]; omega
                    · go_wp2
                      go_ret
                      exact ⟨ret_bool (by rw [H.out.2, H.out.1, is45 q1, is45 q2]; simp), hw⟩
                · have he : ddL (s.data.toList.drop i) = false := dd_end s i (by omega)
                  have H := Go.Lib.hid (hd.trans he)
                  clear hd he
                  go_wp2
                  go_ret
                  exact ⟨ret_bool (by rw [H.out]; rfl), hw⟩
            · go_enter Tryz.func81, Tryz.ntmps81
              go_wp2_with (go_at_call 59; refine P.mono ?_; rintro e w1 ⟨rfl, hw⟩)
              go_ret
              exact ⟨rfl, hw⟩
          · go_enter Tryz.func81, Tryz.ntmps81
            go_wp2_with (go_at_call 59; refine P.mono ?_; rintro e w1 ⟨rfl, hw⟩)
            go_ret
            exact ⟨rfl, hw⟩
        · rw [decide_eq_false h2, Bool.false_and] at hB
          subst hB
          cases c
          · go_enter Tryz.func81, Tryz.ntmps81
            go_wp2_with (go_at_call 59; refine P.mono ?_; rintro e w1 ⟨rfl, hw⟩)
            go_loopw [3] (fun v3 wr => ∃ i : Nat, v3 = .int .i64 i ∧ i ≤ s.size ∧ wr = w1 ∧ ddL s.data.toList = ddL (s.data.toList.drop i)) (fun v3 _ => s.size - (intOf v3).toNat)
            case atStart => exact ⟨0, rfl, Nat.zero_le _, rfl, rfl⟩
            case round =>
              obtain ⟨i, rfl, hi, rfl, hd⟩ := hrel
              by_cases hlt : i + 1 < s.size
              · exfalso; omega
              · have he : ddL (s.data.toList.drop i) = false := dd_end s i (by omega)
                have H := Go.Lib.hid (hd.trans he)
                clear hd he
                go_wp2
                go_ret
                exact ⟨ret_bool (by rw [H.out]; rfl), hw⟩
          · go_enter Tryz.func81, Tryz.ntmps81
            go_wp2_with (go_at_call 59; refine P.mono ?_; rintro e w1 ⟨rfl, hw⟩)
            go_ret
            exact ⟨rfl, hw⟩
      · go_enter Tryz.func81, Tryz.ntmps81
        go_wp2_with (go_at_call 59; refine P.mono ?_; rintro e w1 ⟨rfl, hw⟩)
        go_ret
        exact ⟨rfl, hw⟩
end Go.Proofs.YthfdiinfeljeeaaGreatDoor
/- A set of names: a map of strings and bools that the call has made. -/
namespace Go.Proofs.YthfdiinfeljeeaaGreatDoor
open Go.RowKit
open Go.Maps (Keyed IsMap)
def boolR : Value → Option (DataW Unit × List MemPlace)
  | .bool b => some (.lit (.bool b), [])
  | _ => none
theorem boolR_inv {v : Value} {b : Bool} {ps : List MemPlace} (h : boolR v = some (.lit (.bool b), ps)) : v = .bool b := by
  cases v <;> simp [boolR] at h
  rw [h.1]
theorem key9 : Keyed Tryz.prog 9 := Maps.string_keyed Tryz.underlying9
theorem keyS (s : ByteArray) (hs : s.size ≤ 1048576) : keyOf Tryz.prog 9 (.string s) = some (.string s.data.toList) := by
  have : s.size ≤ maxLen := by unfold maxLen; omega
  simp [keyOf, mapKey, Tryz.underlying9, this]
theorem litS_inj {s t : ByteArray} (h : (Lit.string s.data.toList) = .string t.data.toList) : s = t := by
  injection h with h
  cases s; cases t
  congr 1
  exact Array.toList_inj.1 h
structure SeenAt (w : World) (b : Nat) (S : List (List UInt8)) : Prop where
  ex : ∃ (D : DataW Unit), w.ownsMap Tryz.prog 9 boolR b S.length D ∧ ∀ s : ByteArray, D.atKey (.string s.data.toList) (.lit (.bool false)) = .lit (.bool (decide (s.data.toList ∈ S)))
theorem SeenAt.made (w : World) : SeenAt (w.alloc (.map #[] 0)) w.heap.size [] :=
  ⟨.map [], World.ownsMap_made w Tryz.prog 9 boolR, fun s => by simp [DataW.atKey]⟩
theorem SeenAt.look {w : World} {b : Nat} {S : List (List UInt8)} (h : SeenAt w b S) (s : ByteArray) (hs : s.size ≤ 1048576) : (Instr.lookup 105 (.map (some b)) (.string s) false).run Tryz.prog w = .ok (.bool (decide (s.data.toList ∈ S))) w := by
  obtain ⟨D, hD, hat⟩ := h.ex
  obtain ⟨v, ps, hrun, hv⟩ := hD.lookup key9 (t := 105) (e := 4) Tryz.underlying105 (z := .bool false) ((zero_of_info (P := Tryz.prog) (t := 4) (n := 1) (by kernel_rfl)).1 w) (zd := .lit (.bool false)) (zp := []) rfl (keyS s hs)
  rw [hat s] at hv
  rw [boolR_inv hv] at hrun
  exact hrun
theorem SeenAt.put {w : World} {b : Nat} {S : List (List UInt8)} (h : SeenAt w b S) (s : ByteArray) (hs : s.size ≤ 1048576) (hl : S.length < 1048576) : ∃ w', (Instr.mapUpdate 105 (.map (some b)) (.string s) (.bool true)).run Tryz.prog w = .ok () w' ∧ SeenAt w' b (s.data.toList :: S) ∧ w.grownBy w' (some b) := by
  obtain ⟨D, hD, hat⟩ := h.ex
  obtain ⟨w', hrun, hD', hg⟩ := hD.update key9 (t := 105) (e := 4) Tryz.underlying105 (by unfold maxLen; omega) (keyS s hs) (val := .bool true) (d := .lit (.bool true)) (ps := []) rfl
  refine ⟨w', hrun, ⟨_, hD', fun t => ?_⟩, hg⟩
  by_cases e : t = s
  · subst e
    rw [Maps.atKey_put_same hD.isMap (by simp [WideAt.IsKeyLit])]
    simp
  · rw [Maps.atKey_put_other (fun h => e (litS_inj h)), hat t]
    have e2 : t.data.toList ≠ s.data.toList := fun h => e (litS_inj (by rw [h]))
    simp [e2]
theorem SeenAt.below {w w1 : World} {b : Nat} {S : List (List UInt8)} (h : SeenAt w b S) (hb : Below w.heap.size w w1) : SeenAt w1 b S := by
  obtain ⟨D, ⟨es, clock, hm, r⟩, hat⟩ := h.ex
  exact ⟨D, ⟨es, clock, (hb.block b (Array.getElem?_eq_some_iff.1 hm).1).trans hm, r⟩, hat⟩
end Go.Proofs.YthfdiinfeljeeaaGreatDoor
/- Plain attributes of unlike names: the program. -/
namespace Go.Proofs.YthfdiinfeljeeaaGreatDoor
open Go.RowKit
def okA (x : A4) : Bool := x.sp == 0 && x.pre.data.toList.isEmpty && nameL x.nm.data.toList && plainB x.va
def nms (L : List A4) : List (List UInt8) := L.map fun x => x.nm.data.toList
def okAt (L : List A4) (j : Nat) : Bool := match L[j]? with
  | some x => okA x && !decide (x.nm.data.toList ∈ nms (L.take j))
  | none => true
def attrsB (L : List A4) : Bool := (List.range L.length).all (okAt L)
theorem attrs_all {L : List A4} (h : ∀ j, j < L.length → okAt L j = true) : attrsB L = true := by
  rw [attrsB, List.all_eq_true]
  intro j hj
  exact h j (List.mem_range.1 hj)
theorem attrs_no {L : List A4} {j : Nat} (hj : j < L.length) (h : okAt L j = false) : attrsB L = false := by
  rw [attrsB, List.all_eq_false]
  exact ⟨j, List.mem_range.2 hj, by rw [h]; simp⟩
theorem okAt_of {L : List A4} {j : Nat} (hj : j < L.length) : okAt L j = (okA L[j] && !decide (L[j].nm.data.toList ∈ nms (L.take j))) := by
  rw [okAt, List.getElem?_eq_getElem hj]
theorem nms_snoc {L : List A4} {j : Nat} (hj : j < L.length) : nms (L.take (j + 1)) = nms (L.take j) ++ [L[j].nm.data.toList] := by
  rw [List.take_succ_eq_append_getElem hj, nms, List.map_append]; rfl
set_option maxHeartbeats 4000000 in
set_option maxRecDepth 100000 in
theorem attrs28 (oa : Option Addr) (c : Nat) (L : List A4) (w : World) (hL : L.length ≤ 1024) (hR : RdA w oa L) (hsz : ∀ s ∈ txtA L, s.size ≤ 1048576) (hE : Env w) :
    Calls Tryz.prog 28 #[.slice oa L.length c] w fun e w' => e = .returned (.bool (attrsB L)) ∧ Below w.heap.size w w' := by
  have hmk : (Instr.makeMap 105 none).run Tryz.prog w = .ok (.map (some w.heap.size)) (w.alloc (.map #[] 0)) := rfl
  have hS0 := SeenAt.made w
  have hB0 := bal (Below.refl w.heap.size w) (.map #[] 0)
  go_enter Tryz.func28, Tryz.ntmps28
  go_wp2
  clear hmk
  go_loopw [5, 9] (fun v5 v9 wr => ∃ k : Nat, v9 = .int .i64 k ∧ k ≤ L.length ∧ SeenAt wr w.heap.size (nms (L.take k)).reverse ∧ Below w.heap.size w wr ∧ ∀ j, j < k → okAt L j = true) (fun _ v9 _ => L.length - (intOf v9).toNat)
  case atStart => exact ⟨0, rfl, Nat.zero_le _, by simpa [nms] using hS0, hB0, fun j hj => absurd hj (Nat.not_lt_zero _)⟩
  case round =>
    clear hS0 hB0
    obtain ⟨k, rfl, hk, hS, hbw, hall⟩ := hrel
    by_cases hlt : k < L.length
    · obtain ⟨b, off, rfl, hc⟩ := (hR.below hbw) (by rintro rfl; simp at hlt)
      obtain ⟨c0, c1, c2, c3⟩ := hc k hlt
      have hok := okAt_of hlt
      have hsn := nms_snoc hlt
      have hm := txt_mem hlt
      have hs2 := hsz _ hm.2.1
      have hs3 := hsz _ hm.2.2
      have hno := fun h => attrs_no (L := L) hlt h
      have hmem : ∀ y, y ∈ (nms (L.take k)).reverse ↔ y ∈ nms (L.take k) := fun y => List.mem_reverse
      have hlen : (nms (L.take k)).reverse.length < 1048576 := by simp [nms]; omega
      obtain ⟨⟨sp, pre, nm, va⟩, hx⟩ : ∃ x, x = L[k] := ⟨_, rfl⟩
      rw [← hx] at c0 c1 c2 c3 hok hsn hs2 hs3
      dsimp only at c0 c1 c2 c3 hok hsn hs2 hs3
      clear hx hc hm
      have hS1 := hS.below (bal (Below.refl _ _) (.cells #[.int .i64 sp, .string pre, .string nm, .string va] 80))
      have hb1 := bal hbw (.cells #[.int .i64 sp, .string pre, .string nm, .string va] 80)
      have hnb : wr.heap.size = wr.heap.size := rfl
      have hE1 := hE.below hb1
      have hlk := hS1.look nm hs2
      have N := name55 nm (wr.alloc (.cells #[.int .i64 sp, .string pre, .string nm, .string va] 80)) hs2
      have HS := Go.Lib.hid (And.intro hall (And.intro hok (And.intro hsn (And.intro hno hmem))))
      clear hall hok hsn hno hmem hS hbw
      have hbt : ∀ {w1 : World}, Below (wr.alloc (.cells #[.int .i64 sp, .string pre, .string nm, .string va] 80)).heap.size (wr.alloc (.cells #[.int .i64 sp, .string pre, .string nm, .string va] 80)) w1 → Below w.heap.size w w1 := fun h => hb1.trans ⟨h.os, h.tape, h.output, h.size, fun j hj => h.block j (Nat.lt_of_lt_of_le hj hb1.size)⟩
      have hpe : pre.toList.isEmpty = pre.data.toList.isEmpty := by rw [tl]
      cases q1 : (sp == 0)
      · have q1' : (sp != 0) = true := by rw [bne, q1]; rfl
        clear N hlk
        go_wp2
        go_ret
        exact ⟨ret_bool (HS.out.2.2.2.1 (by rw [HS.out.2.1]; simp [okA, q1])).symm, hb1⟩
      · have q1' : (sp != 0) = false := by rw [bne, q1]; rfl
        cases q2 : pre.data.toList.isEmpty
        · rw [q2] at hpe
          clear N hlk
          go_wp2
          go_ret
          exact ⟨ret_bool (HS.out.2.2.2.1 (by rw [HS.out.2.1]; simp only [okA, q2, Bool.and_false, Bool.false_and])).symm, hb1⟩
        · rw [q2] at hpe
          cases q3 : decide (nm.data.toList ∈ (nms (L.take k)).reverse)
          · rw [q3] at hlk
            cases q4 : nameL nm.data.toList
            · rw [q4] at N
              go_wp2_with (first | (go_at_call 55; refine N.mono ?_; rintro e w1 ⟨rfl, hw1⟩; have cb1 := blk_cells ((hw1.block wr.heap.size (by simp)).trans (at_new wr (.cells #[.int .i64 sp, .string pre, .string nm, .string va] 80) _ rfl))))
              go_ret
              exact ⟨ret_bool (HS.out.2.2.2.1 (by rw [HS.out.2.1]; simp only [okA, q4, Bool.and_false, Bool.false_and])).symm, hbt hw1⟩
            · rw [q4] at N
              cases q5 : plainB va
              · go_wp2_with (first | (go_at_call 55; refine N.mono ?_; rintro e w1 ⟨rfl, hw1⟩; have cb1 := blk_cells ((hw1.block wr.heap.size (by simp)).trans (at_new wr (.cells #[.int .i64 sp, .string pre, .string nm, .string va] 80) _ rfl))) | (go_at_call 54; refine (plain54 va w1 hs3 (hE1.below hw1).tabs).mono ?_; rintro e w2 ⟨rfl, hw2⟩; rw [q5]))
                go_ret
                exact ⟨ret_bool (HS.out.2.2.2.1 (by rw [HS.out.2.1]; simp only [okA, q5, Bool.and_false, Bool.false_and])).symm, (hbt hw1).trans ⟨hw2.os, hw2.tape, hw2.output, hw2.size, fun j hj => hw2.block j (Nat.lt_of_lt_of_le hj (hbt hw1).size)⟩⟩
              · go_wp2_with (first | (go_at_call 55; refine N.mono ?_; rintro e w1 ⟨rfl, hw1⟩; have cb1 := blk_cells ((hw1.block wr.heap.size (by simp)).trans (at_new wr (.cells #[.int .i64 sp, .string pre, .string nm, .string va] 80) _ rfl))) | (go_at_call 54; refine (plain54 va w1 hs3 (hE1.below hw1).tabs).mono ?_; rintro e w2 ⟨rfl, hw2⟩; rw [q5]; have hS2 := (hS1.below hw1).below hw2; obtain ⟨w3, hput, hS3, hg3⟩ := hS2.put nm hs2 hlen; have hbx := (hw2.block _ (Nat.lt_of_lt_of_le (by simp) hw1.size)).trans ((hw1.block _ (by simp)).trans (at_new wr (.cells #[.int .i64 sp, .string pre, .string nm, .string va] 80) _ rfl)); have cb := blk_cells hbx))
                have hb2 : Below w.heap.size w w2 := (hbt hw1).trans ⟨hw2.os, hw2.tape, hw2.output, hw2.size, fun j hj => hw2.block j (Nat.lt_of_lt_of_le hj (hbt hw1).size)⟩
                go_roundw
                case rel => exact ⟨k + 1, by go_num, by omega, by rw [HS.out.2.2.1, List.reverse_append]; exact hS3, hb2.grown hg3 (by first | omega | exact hb2.size) (fun g hg => by injection hg with hg; omega), fun j hj => by
                  rcases (show j < k ∨ j = k by omega) with h | rfl
                  · exact HS.out.1 j h
                  · have q3' : ¬ nm.data.toList ∈ nms (L.take j) := fun h => of_decide_eq_false q3 ((HS.out.2.2.2.2 _).2 h)
                    rw [HS.out.2.1, decide_eq_false q3', okA, q1, q2, q4, q5]; rfl⟩
                case measure => simp [intOf]; omega
          · rw [q3] at hlk
            clear N
            go_wp2
            go_ret
            exact ⟨ret_bool (HS.out.2.2.2.1 (by rw [HS.out.2.1]; rw [decide_eq_true ((HS.out.2.2.2.2 _).1 (of_decide_eq_true q3))]; simp)).symm, hb1⟩
    · obtain rfl : k = L.length := by omega
      have hall := Go.Lib.hid hall
      go_wp2
      go_ret
      exact ⟨ret_bool (attrs_all hall.out).symm, hbw⟩
end Go.Proofs.YthfdiinfeljeeaaGreatDoor
/- Plain attributes of unlike names: the reference. -/
namespace Go.Proofs.YthfdiinfeljeeaaGreatDoor
open Go.RowKit
theorem below_drewN {B : Nat} {a w : World} (h : Below B a w) (q : Nat) : Below B a (w.drewN q) := below_drewNv h q
theorem mem_nms {L : List A4} {k : Nat} {y : List UInt8} (hk : k ≤ L.length) : y ∈ nms (L.take k) ↔ ∃ j, ∃ h : j < k, (L[j]'(by omega)).nm.data.toList = y := by
  unfold nms
  rw [List.mem_map]
  constructor
  · rintro ⟨x, hx, rfl⟩
    obtain ⟨i, hi, rfl⟩ := List.mem_iff_getElem.1 hx
    rw [List.length_take] at hi
    exact ⟨i, by omega, by rw [List.getElem_take]⟩
  · rintro ⟨j, hj, rfl⟩
    exact ⟨L[j]'(by omega), List.mem_iff_getElem.2 ⟨j, by rw [List.length_take]; omega, by rw [List.getElem_take]⟩, rfl⟩
set_option maxHeartbeats 4000000 in
set_option maxRecDepth 100000 in
theorem rattrs32 (oa : Option Addr) (c : Nat) (L : List A4) (w : World) (hL : L.length ≤ 1024) (hR : RdA w oa L) (hsz : ∀ s ∈ txtA L, s.size ≤ 1048576) :
    Calls Tryz.prog 32 #[.slice oa L.length c] w fun e w' => e = .returned (.bool (attrsB L)) ∧ Below w.heap.size w w' := by
  go_enter Tryz.func32, Tryz.ntmps32
  go_wp2
  go_loopw [3, 4] (fun v3 v4 wr => ∃ k : Nat, v3 = .int .i64 k ∧ k ≤ L.length ∧ Below w.heap.size w wr ∧ ∀ j, j < k → okAt L j = true) (fun v3 _ _ => L.length - (intOf v3).toNat)
  case atStart => exact ⟨0, rfl, Nat.zero_le _, Below.refl _ _, fun j hj => absurd hj (Nat.not_lt_zero _)⟩
  case round =>
    obtain ⟨k, rfl, hk, hbw, hall⟩ := hrel
    by_cases hlt : k < L.length
    · obtain ⟨b, off, rfl, hc⟩ := (hR.below hbw) (by rintro rfl; simp at hlt)
      obtain ⟨c0, c1, c2, c3⟩ := hc k hlt
      have hok := okAt_of hlt
      have hm := txt_mem hlt
      have hs2 := hsz _ hm.2.1
      have hs3 := hsz _ hm.2.2
      have hno := fun h => attrs_no (L := L) hlt h
      have hc2 : ∀ j (h : j < L.length), w.cell? ⟨b, off + j * 4 + 2, none⟩ = some (.string L[j].nm) := fun j h => by
        obtain ⟨b', off', e, hh⟩ := hR (by rintro rfl; simp at hlt)
        injection e with e
        injection e with e1 e2 _
        subst e1 e2
        exact (hh j h).2.2.1
      have hmn := fun y => mem_nms (L := L) (k := k) (y := y) hk
      obtain ⟨x, hx⟩ : ∃ x, x = L[k] := ⟨_, rfl⟩
      rw [← hx] at c0 c1 c2 c3 hok hs2 hs3
      obtain ⟨sp, pre, nm, va⟩ := x
      dsimp only at c0 c1 c2 c3 hok hs2 hs3
      have N := name60 nm wr hs2
      have P := fun W => rplain59 va W hs3
      have HC2 := Go.Lib.hid hc2
      have HX := Go.Lib.hid hx
      have HS := Go.Lib.hid (And.intro hall (And.intro hok (And.intro hmn hno)))
      have hbt : ∀ {w1 w2 : World}, Below w.heap.size w w1 → Below w1.heap.size w1 w2 → Below w.heap.size w w2 := fun h h2 => h.trans ⟨h2.os, h2.tape, h2.output, h2.size, fun j hj => h2.block j (Nat.lt_of_lt_of_le hj h.size)⟩
      have hpe : pre.toList.isEmpty = pre.data.toList.isEmpty := by rw [tl]
      clear hall hok hmn hno hx hc hm hc2
      cases q1 : (sp == 0)
      · have q1' : (sp != 0) = true := by rw [bne, q1]; rfl
        clear N
        go_wp2
        go_ret
        exact ⟨ret_bool (HS.out.2.2.2 (by rw [HS.out.2.1]; simp [okA, q1])).symm, hbw⟩
      · have q1' : (sp != 0) = false := by rw [bne, q1]; rfl
        cases q2 : pre.data.toList.isEmpty
        · rw [q2] at hpe
          clear N
          go_wp2
          go_ret
          exact ⟨ret_bool (HS.out.2.2.2 (by rw [HS.out.2.1]; simp only [okA, q2, Bool.and_false, Bool.false_and])).symm, hbw⟩
        · rw [q2] at hpe
          cases q4 : nameL nm.data.toList
          · rw [q4] at N
            go_wp2_with (go_at_call 60; refine N.mono ?_; rintro e w1 ⟨rfl, hw1⟩)
            go_ret
            exact ⟨ret_bool (HS.out.2.2.2 (by rw [HS.out.2.1]; simp only [okA, q4, Bool.and_false, Bool.false_and])).symm, hbt hbw hw1⟩
          · rw [q4] at N
            cases q5 : plainB va
            · rw [q5] at P
              go_wp2_with (first | (go_at_call 60; refine N.mono ?_; rintro e w1 ⟨rfl, hw1⟩; have cx3 := bcl hw1 c3) | (go_at_call 59; refine (P _).mono ?_; rintro e w2 ⟨rfl, hw2⟩))
              go_ret
              exact ⟨ret_bool (HS.out.2.2.2 (by rw [HS.out.2.1]; simp only [okA, q5, Bool.and_false, Bool.false_and])).symm, hbt (hbt hbw hw1) hw2⟩
            · rw [q5] at P
              go_wp2_with (first | (go_at_call 60; refine N.mono ?_; rintro e w1 ⟨rfl, hw1⟩; have cx3 := bcl hw1 c3) | (go_at_call 59; refine (P _).mono ?_; rintro e w2 ⟨rfl, hw2⟩))
              have hb2 := hbt (hbt hbw hw1) hw2
              clear N P hw1 hw2 cx3 c0 c1 c2 c3
              go_loopw [4] (fun v4 wr2 => ∃ i : Nat, v4 = .int .i64 i ∧ i ≤ k ∧ Below w.heap.size w wr2 ∧ ∀ j, ∀ h : j < i, ∀ h2 : j < L.length, L[j].nm.data.toList ≠ nm.data.toList) (fun v4 _ => k - (intOf v4).toNat)
              case atStart => exact ⟨0, rfl, Nat.zero_le _, hb2, fun j hj => absurd hj (Nat.not_lt_zero _)⟩
              case round =>
                obtain ⟨i, rfl, hi, hb3, hun⟩ := hrel
                by_cases hik : i < k
                · have d1 := bcl hb3 (HC2.out i (by omega))
                  have d2 := bcl hb3 (HC2.out k hlt)
                  rw [← HX.out] at d2
                  dsimp only at d2
                  obtain ⟨y, hy⟩ : ∃ y, y = (L[i]'(by omega)).nm := ⟨_, rfl⟩
                  rw [← hy] at d1
                  have hil : i < L.length := by omega
                  have HU := Go.Lib.hid (And.intro hun hy)
                  clear hun hy
                  have ey : (y.toList == nm.toList) = (y.data.toList == nm.data.toList) := by rw [tl, tl]
                  cases q6 : (y.data.toList == nm.data.toList)
                  · rw [q6] at ey
                    go_wp2
                    go_quiet (fail)
                    go_wp2
                    go_roundw
                    case rel => exact ⟨i + 1, by go_num, by omega, below_drewN hb3 _, fun j hj h2 => by
                      rcases (show j < i ∨ j = i by omega) with h | rfl
                      · exact HU.out.1 j h h2
                      · rw [← HU.out.2]; exact beq_eq_false_iff_ne.1 q6⟩
                    case measure => simp [intOf]; omega
                  · rw [q6] at ey
                    go_wp2
                    go_quiet (fail)
                    go_wp2
                    go_ret
                    exact ⟨ret_bool (HS.out.2.2.2 (by
                      rw [HS.out.2.1, decide_eq_true ((HS.out.2.2.1 _).2 ⟨i, hik, by rw [← HU.out.2]; exact beq_iff_eq.1 q6⟩)]; simp)).symm, below_drewN hb3 _⟩
                · obtain rfl : i = k := by omega
                  have HU := Go.Lib.hid hun
                  clear hun
                  go_wp2
                  go_roundw
                  case rel => exact ⟨i + 1, by go_num, by omega, hb3, fun j hj => by
                    rcases (show j < i ∨ j = i by omega) with h | rfl
                    · exact HS.out.1 j h
                    · have hn : ¬ nm.data.toList ∈ nms (L.take j) := fun h => by
                        obtain ⟨j', h1, h2⟩ := (HS.out.2.2.1 _).1 h
                        exact HU.out j' h1 (by omega) h2
                      rw [HS.out.2.1, decide_eq_false hn, okA, q1, q2, q4, q5]; rfl⟩
                  case measure => simp [intOf]; omega
    · obtain rfl : k = L.length := by omega
      have hall := Go.Lib.hid hall
      go_wp2
      go_ret
      exact ⟨ret_bool (attrs_all hall.out).symm, hbw⟩
end Go.Proofs.YthfdiinfeljeeaaGreatDoor
/- Which nodes are right: plainly; the reference's look at one node. -/
namespace Go.Proofs.YthfdiinfeljeeaaGreatDoor
open Go.RowKit
abbrev wSpan : List UInt8 := [115, 112, 97, 110]
abbrev wP : List UInt8 := [112]
abbrev wDiv : List UInt8 := [100, 105, 118]
abbrev wSection : List UInt8 := [115, 101, 99, 116, 105, 111, 110]
abbrev wArticle : List UInt8 := [97, 114, 116, 105, 99, 108, 101]
abbrev wMain : List UInt8 := [109, 97, 105, 110]
abbrev wAside : List UInt8 := [97, 115, 105, 100, 101]
def blockW (s : ByteArray) : Bool := s.toList == wDiv || s.toList == wSection || s.toList == wArticle || s.toList == wMain || s.toList == wAside
/-- Is a node right, if what is in it is (kf: among inline things, kt: among blocks)? -/
def bodyB (kind space : Int) (name data : ByteArray) (al : List A4) (block : Bool) (depth : Int) (kf kt : Bool) : Bool :=
  if 200 < depth then false
  else if (kind == 2) = true then !data.toList.isEmpty && plainB data
  else if (kind == 3) = true then commB data
  else if (kind == 1) = true then
    if (space == 0 && attrsB al) = true then
      if (name.toList == wSpan) = true then kf
      else if (name.toList == wP) = true then block && kf
      else if blockW name = true then block && kt
      else false
    else false
  else false
def RdAs (w : World) (oa : Option Addr) (L : List A4) : Prop := RdA w oa L
theorem AtO.rdA {w : World} {n : On} (h : AtO w n) : RdA w n.aa n.al := by
  intro hne
  rcases h.1 with ⟨_, h2, _⟩ | ⟨b, cs, h1, h2, h3⟩
  · exact absurd h2 hne
  · refine ⟨b, 0, h1, fun k hk => ?_⟩
    have hc := blk_cells h2
    have hg : ∀ j, j < 4 → w.cell? ⟨b, 0 + k * 4 + j, none⟩ = n.al[k].c[j]? := fun j hj => by
      rw [Nat.zero_add, hc, ← cellsA_at n.al k j hk hj]
      obtain ⟨t, ht⟩ := h3
      rw [← Array.getElem?_toList, ← ht, List.getElem?_append_left (by rw [cellsA_length]; omega)]
    exact ⟨hg 0 (by omega), hg 1 (by omega), hg 2 (by omega), hg 3 (by omega)⟩
set_option linter.unusedSimpArgs false in
set_option maxHeartbeats 4000000 in
set_option maxRecDepth 100000 in
theorem one61 (B p g cap : Nat) (m : List On) (id : Nat) (block : Bool) (depth : Int) (w : World) (hO : Or w B p g cap m) (hid : id < m.length) (kf kt : Bool)
    (hal : m[id].al.length ≤ 1024) (htx : ∀ s ∈ txtA m[id].al, s.size ≤ 1048576) (hd : m[id].data.size ≤ 1048576) (hdp : -1000 ≤ depth ∧ depth ≤ 1000)
    (hkf : depth ≤ 200 → ∀ W, Below w.heap.size w W → Calls Tryz.prog 33 #[.pointer (some ⟨p, 0, none⟩), .int .i64 id, .bool false, .int .i64 (depth + 1)] W fun e w' => e = .returned (.bool kf) ∧ Below W.heap.size W w')
    (hkt : depth ≤ 200 → ∀ W, Below w.heap.size w W → Calls Tryz.prog 33 #[.pointer (some ⟨p, 0, none⟩), .int .i64 id, .bool true, .int .i64 (depth + 1)] W fun e w' => e = .returned (.bool kt) ∧ Below W.heap.size W w') :
    Calls Tryz.prog 61 #[.pointer (some ⟨p, 0, none⟩), .int .i64 id, .bool block, .int .i64 depth] w fun e w' => e = .returned (.bool (bodyB m[id].kind m[id].space m[id].name m[id].data m[id].al block depth kf kt)) ∧ Below w.heap.size w w' := by
  have hc := hO.cell
  have k0 := fun j (hj : j < 10) => hO.at id j hid hj
  have hrd := (hO.at_ _ (List.getElem_mem hid)).rdA
  generalize hn : m[id] = n at *
  obtain ⟨kind, space, name, al, aa, ac, data, sys, inn, host, up, ks, ka, kc⟩ := n
  dsimp only at *
  have c0 := k0 0 (by omega)
  have c1 := k0 1 (by omega)
  have c2 := k0 2 (by omega)
  have c3 := k0 3 (by omega)
  have c4 := k0 4 (by omega)
  have c5 := k0 5 (by omega)
  have c6 := k0 6 (by omega)
  have c7 := k0 7 (by omega)
  have c8 := k0 8 (by omega)
  have c9 := k0 9 (by omega)
  simp only [On.cells, On.arr, List.getElem?_cons_zero, List.getElem?_cons_succ] at c0 c1 c2 c3 c4 c5 c6 c7 c8 c9
  clear k0 hO
  rw [Nat.add_zero] at c0
  have hbx := at_new w (.cells #[.int .i64 kind, .int .i64 space, .string name, .slice aa al.length ac, .string data, .string sys, .int .i64 inn, .int .i64 host, .int .i64 up, .slice ka ks.length kc] 59) _ rfl
  have hb1 := bal (Below.refl w.heap.size w) (.cells #[.int .i64 kind, .int .i64 space, .string name, .slice aa al.length ac, .string data, .string sys, .int .i64 inn, .int .i64 host, .int .i64 up, .slice ka ks.length kc] 59)
  have hrd1 := hrd.below hb1
  have hnb : w.heap.size = w.heap.size := rfl
  have hbt : ∀ {w1 w2 : World}, Below w.heap.size w w1 → Below w1.heap.size w1 w2 → Below w.heap.size w w2 := fun h h2 => h.trans ⟨h2.os, h2.tape, h2.output, h2.size, fun j hj => h2.block j (Nat.lt_of_lt_of_le hj h.size)⟩
  have P := rplain59 data (w.alloc (.cells #[.int .i64 kind, .int .i64 space, .string name, .slice aa al.length ac, .string data, .string sys, .int .i64 inn, .int .i64 host, .int .i64 up, .slice ka ks.length kc] 59)) hd
  have C := rcomment81 data (w.alloc (.cells #[.int .i64 kind, .int .i64 space, .string name, .slice aa al.length ac, .string data, .string sys, .int .i64 inn, .int .i64 host, .int .i64 up, .slice ka ks.length kc] 59)) hd
  have A := rattrs32 aa ac al (w.alloc (.cells #[.int .i64 kind, .int .i64 space, .string name, .slice aa al.length ac, .string data, .string sys, .int .i64 inn, .int .i64 host, .int .i64 up, .slice ka ks.length kc] 59)) hal hrd1 htx
  have hde : data.toList.isEmpty = data.toList.isEmpty := rfl
  have hl0 : (0 : Int) ≤ (id : Int) := by omega
  have hl1 : (id : Int) < (m.length : Int) := by omega
  clear hrd hrd1 hn
  by_cases hdep : 200 < depth
  · clear P C A hkf hkt
    go_enter Tryz.func61, Tryz.ntmps61
    go_wp2
    go_ret
    exact ⟨ret_bool (by rw [bodyB, if_pos hdep]), hb1⟩
  have hkf := hkf (by omega)
  have hkt := hkt (by omega)
  have HD := Go.Lib.hid (show (if 200 < depth then false else bodyB kind space name data al block depth kf kt) = bodyB kind space name data al block depth kf kt by rw [if_neg (show ¬ 200 < depth by omega)])
  cases q2 : (kind == 2)
  · cases q3 : (kind == 3)
    · cases q1 : (kind == 1)
      · clear P C A hkf hkt
        go_enter Tryz.func61, Tryz.ntmps61
        go_wp2
        go_ret
        exact ⟨ret_bool (by simp only [bodyB, if_neg (show ¬ 200 < depth by omega), q1, q2, q3, Bool.false_eq_true, if_false, if_true, Bool.not_true, Bool.not_false, Bool.true_and, Bool.false_and, Bool.and_true, Bool.and_false]), hb1⟩
      · cases qs : (space == 0)
        · have qs' : (space != 0) = true := by rw [bne, qs]; rfl
          clear P C A hkf hkt
          go_enter Tryz.func61, Tryz.ntmps61
          go_wp2
          go_ret
          exact ⟨ret_bool (by simp only [bodyB, if_neg (show ¬ 200 < depth by omega), q1, q2, q3, qs, Bool.false_eq_true, if_false, if_true, Bool.not_true, Bool.not_false, Bool.true_and, Bool.false_and, Bool.and_true, Bool.and_false]), hb1⟩
        · have qs' : (space != 0) = false := by rw [bne, qs]; rfl
          cases qa : attrsB al
          · rw [qa] at A
            clear P C hkf hkt
            go_enter Tryz.func61, Tryz.ntmps61
            go_wp2_with (go_at_call 32; refine A.mono ?_; rintro e w1 ⟨rfl, hw1⟩)
            go_ret
            exact ⟨ret_bool (by simp only [bodyB, if_neg (show ¬ 200 < depth by omega), q1, q2, q3, qs, qa, Bool.false_eq_true, if_false, if_true, Bool.not_true, Bool.not_false, Bool.true_and, Bool.false_and, Bool.and_true, Bool.and_false]), hbt hb1 hw1⟩
          · rw [qa] at A
            clear P C
            cases n0 : (name.toList == wSpan)
            · skip
              cases n1 : (name.toList == wP)
              · skip
                cases n2 : (name.toList == wDiv)
                · skip
                  cases n3 : (name.toList == wSection)
                  · skip
                    cases n4 : (name.toList == wArticle)
                    · skip
                      cases n5 : (name.toList == wMain)
                      · skip
                        cases n6 : (name.toList == wAside)
                        · skip
                          clear hkf hkt
                          go_enter Tryz.func61, Tryz.ntmps61
                          go_wp2_with (first | (go_at_call 32; refine A.mono ?_; rintro e w1 ⟨rfl, hw1⟩; have cb := blk_cells ((hw1.block w.heap.size (by simp)).trans hbx); have hbw1 := hbt hb1 hw1))
                          go_ret
                          exact ⟨ret_bool (by simp only [bodyB, if_neg (show ¬ 200 < depth by omega), q1, q2, q3, qs, qa, n0, n1, n2, n3, n4, n5, n6, blockW, Bool.false_eq_true, if_false, if_true, Bool.not_true, Bool.not_false, Bool.true_and, Bool.false_and, Bool.and_true, Bool.and_false, Bool.or_false, Bool.false_or]), hbw1⟩
                        · skip
                          cases block
                          · go_enter Tryz.func61, Tryz.ntmps61
                            go_wp2_with (first | (go_at_call 32; refine A.mono ?_; rintro e w1 ⟨rfl, hw1⟩; have cb := blk_cells ((hw1.block w.heap.size (by simp)).trans hbx); have hbw1 := hbt hb1 hw1))
                            go_ret
                            exact ⟨ret_bool (by simp only [bodyB, if_neg (show ¬ 200 < depth by omega), q1, q2, q3, qs, qa, n0, n1, n2, n3, n4, n5, n6, blockW, Bool.false_eq_true, if_false, if_true, Bool.not_true, Bool.not_false, Bool.true_and, Bool.false_and, Bool.and_true, Bool.and_false, Bool.or_true, Bool.true_or, Bool.or_false, Bool.false_or]), hbw1⟩
                          · go_enter Tryz.func61, Tryz.ntmps61
                            go_wp2_with (first | (go_at_call 32; refine A.mono ?_; rintro e w1 ⟨rfl, hw1⟩; have cb := blk_cells ((hw1.block w.heap.size (by simp)).trans hbx); have hbw1 := hbt hb1 hw1) | (go_at_call 33; refine (hkt _ hbw1).mono ?_; rintro e w2 ⟨rfl, hw2⟩))
                            go_ret
                            exact ⟨ret_bool (by simp only [bodyB, if_neg (show ¬ 200 < depth by omega), q1, q2, q3, qs, qa, n0, n1, n2, n3, n4, n5, n6, blockW, Bool.false_eq_true, if_false, if_true, Bool.not_true, Bool.not_false, Bool.true_and, Bool.false_and, Bool.and_true, Bool.and_false, Bool.or_true, Bool.true_or, Bool.or_false, Bool.false_or]), hbt hbw1 hw2⟩
                      · skip
                        cases block
                        · go_enter Tryz.func61, Tryz.ntmps61
                          go_wp2_with (first | (go_at_call 32; refine A.mono ?_; rintro e w1 ⟨rfl, hw1⟩; have cb := blk_cells ((hw1.block w.heap.size (by simp)).trans hbx); have hbw1 := hbt hb1 hw1))
                          go_ret
                          exact ⟨ret_bool (by simp only [bodyB, if_neg (show ¬ 200 < depth by omega), q1, q2, q3, qs, qa, n0, n1, n2, n3, n4, n5, blockW, Bool.false_eq_true, if_false, if_true, Bool.not_true, Bool.not_false, Bool.true_and, Bool.false_and, Bool.and_true, Bool.and_false, Bool.or_true, Bool.true_or, Bool.or_false, Bool.false_or]), hbw1⟩
                        · go_enter Tryz.func61, Tryz.ntmps61
                          go_wp2_with (first | (go_at_call 32; refine A.mono ?_; rintro e w1 ⟨rfl, hw1⟩; have cb := blk_cells ((hw1.block w.heap.size (by simp)).trans hbx); have hbw1 := hbt hb1 hw1) | (go_at_call 33; refine (hkt _ hbw1).mono ?_; rintro e w2 ⟨rfl, hw2⟩))
                          go_ret
                          exact ⟨ret_bool (by simp only [bodyB, if_neg (show ¬ 200 < depth by omega), q1, q2, q3, qs, qa, n0, n1, n2, n3, n4, n5, blockW, Bool.false_eq_true, if_false, if_true, Bool.not_true, Bool.not_false, Bool.true_and, Bool.false_and, Bool.and_true, Bool.and_false, Bool.or_true, Bool.true_or, Bool.or_false, Bool.false_or]), hbt hbw1 hw2⟩
                    · skip
                      cases block
                      · go_enter Tryz.func61, Tryz.ntmps61
                        go_wp2_with (first | (go_at_call 32; refine A.mono ?_; rintro e w1 ⟨rfl, hw1⟩; have cb := blk_cells ((hw1.block w.heap.size (by simp)).trans hbx); have hbw1 := hbt hb1 hw1))
                        go_ret
                        exact ⟨ret_bool (by simp only [bodyB, if_neg (show ¬ 200 < depth by omega), q1, q2, q3, qs, qa, n0, n1, n2, n3, n4, blockW, Bool.false_eq_true, if_false, if_true, Bool.not_true, Bool.not_false, Bool.true_and, Bool.false_and, Bool.and_true, Bool.and_false, Bool.or_true, Bool.true_or, Bool.or_false, Bool.false_or]), hbw1⟩
                      · go_enter Tryz.func61, Tryz.ntmps61
                        go_wp2_with (first | (go_at_call 32; refine A.mono ?_; rintro e w1 ⟨rfl, hw1⟩; have cb := blk_cells ((hw1.block w.heap.size (by simp)).trans hbx); have hbw1 := hbt hb1 hw1) | (go_at_call 33; refine (hkt _ hbw1).mono ?_; rintro e w2 ⟨rfl, hw2⟩))
                        go_ret
                        exact ⟨ret_bool (by simp only [bodyB, if_neg (show ¬ 200 < depth by omega), q1, q2, q3, qs, qa, n0, n1, n2, n3, n4, blockW, Bool.false_eq_true, if_false, if_true, Bool.not_true, Bool.not_false, Bool.true_and, Bool.false_and, Bool.and_true, Bool.and_false, Bool.or_true, Bool.true_or, Bool.or_false, Bool.false_or]), hbt hbw1 hw2⟩
                  · skip
                    cases block
                    · go_enter Tryz.func61, Tryz.ntmps61
                      go_wp2_with (first | (go_at_call 32; refine A.mono ?_; rintro e w1 ⟨rfl, hw1⟩; have cb := blk_cells ((hw1.block w.heap.size (by simp)).trans hbx); have hbw1 := hbt hb1 hw1))
                      go_ret
                      exact ⟨ret_bool (by simp only [bodyB, if_neg (show ¬ 200 < depth by omega), q1, q2, q3, qs, qa, n0, n1, n2, n3, blockW, Bool.false_eq_true, if_false, if_true, Bool.not_true, Bool.not_false, Bool.true_and, Bool.false_and, Bool.and_true, Bool.and_false, Bool.or_true, Bool.true_or, Bool.or_false, Bool.false_or]), hbw1⟩
                    · go_enter Tryz.func61, Tryz.ntmps61
                      go_wp2_with (first | (go_at_call 32; refine A.mono ?_; rintro e w1 ⟨rfl, hw1⟩; have cb := blk_cells ((hw1.block w.heap.size (by simp)).trans hbx); have hbw1 := hbt hb1 hw1) | (go_at_call 33; refine (hkt _ hbw1).mono ?_; rintro e w2 ⟨rfl, hw2⟩))
                      go_ret
                      exact ⟨ret_bool (by simp only [bodyB, if_neg (show ¬ 200 < depth by omega), q1, q2, q3, qs, qa, n0, n1, n2, n3, blockW, Bool.false_eq_true, if_false, if_true, Bool.not_true, Bool.not_false, Bool.true_and, Bool.false_and, Bool.and_true, Bool.and_false, Bool.or_true, Bool.true_or, Bool.or_false, Bool.false_or]), hbt hbw1 hw2⟩
                · skip
                  cases block
                  · go_enter Tryz.func61, Tryz.ntmps61
                    go_wp2_with (first | (go_at_call 32; refine A.mono ?_; rintro e w1 ⟨rfl, hw1⟩; have cb := blk_cells ((hw1.block w.heap.size (by simp)).trans hbx); have hbw1 := hbt hb1 hw1))
                    go_ret
                    exact ⟨ret_bool (by simp only [bodyB, if_neg (show ¬ 200 < depth by omega), q1, q2, q3, qs, qa, n0, n1, n2, blockW, Bool.false_eq_true, if_false, if_true, Bool.not_true, Bool.not_false, Bool.true_and, Bool.false_and, Bool.and_true, Bool.and_false, Bool.or_true, Bool.true_or, Bool.or_false, Bool.false_or]), hbw1⟩
                  · go_enter Tryz.func61, Tryz.ntmps61
                    go_wp2_with (first | (go_at_call 32; refine A.mono ?_; rintro e w1 ⟨rfl, hw1⟩; have cb := blk_cells ((hw1.block w.heap.size (by simp)).trans hbx); have hbw1 := hbt hb1 hw1) | (go_at_call 33; refine (hkt _ hbw1).mono ?_; rintro e w2 ⟨rfl, hw2⟩))
                    go_ret
                    exact ⟨ret_bool (by simp only [bodyB, if_neg (show ¬ 200 < depth by omega), q1, q2, q3, qs, qa, n0, n1, n2, blockW, Bool.false_eq_true, if_false, if_true, Bool.not_true, Bool.not_false, Bool.true_and, Bool.false_and, Bool.and_true, Bool.and_false, Bool.or_true, Bool.true_or, Bool.or_false, Bool.false_or]), hbt hbw1 hw2⟩
              · skip
                cases block
                · go_enter Tryz.func61, Tryz.ntmps61
                  go_wp2_with (first | (go_at_call 32; refine A.mono ?_; rintro e w1 ⟨rfl, hw1⟩; have cb := blk_cells ((hw1.block w.heap.size (by simp)).trans hbx); have hbw1 := hbt hb1 hw1))
                  go_ret
                  exact ⟨ret_bool (by simp only [bodyB, if_neg (show ¬ 200 < depth by omega), q1, q2, q3, qs, qa, n0, n1, blockW, Bool.false_eq_true, if_false, if_true, Bool.not_true, Bool.not_false, Bool.true_and, Bool.false_and, Bool.and_true, Bool.and_false, Bool.or_true, Bool.true_or, Bool.or_false, Bool.false_or]), hbw1⟩
                · go_enter Tryz.func61, Tryz.ntmps61
                  go_wp2_with (first | (go_at_call 32; refine A.mono ?_; rintro e w1 ⟨rfl, hw1⟩; have cb := blk_cells ((hw1.block w.heap.size (by simp)).trans hbx); have hbw1 := hbt hb1 hw1) | (go_at_call 33; refine (hkf _ hbw1).mono ?_; rintro e w2 ⟨rfl, hw2⟩))
                  go_ret
                  exact ⟨ret_bool (by simp only [bodyB, if_neg (show ¬ 200 < depth by omega), q1, q2, q3, qs, qa, n0, n1, blockW, Bool.false_eq_true, if_false, if_true, Bool.not_true, Bool.not_false, Bool.true_and, Bool.false_and, Bool.and_true, Bool.and_false, Bool.or_true, Bool.true_or, Bool.or_false, Bool.false_or]), hbt hbw1 hw2⟩
            · skip
              go_enter Tryz.func61, Tryz.ntmps61
              go_wp2_with (first | (go_at_call 32; refine A.mono ?_; rintro e w1 ⟨rfl, hw1⟩; have cb := blk_cells ((hw1.block w.heap.size (by simp)).trans hbx); have hbw1 := hbt hb1 hw1) | (go_at_call 33; refine (hkf _ hbw1).mono ?_; rintro e w2 ⟨rfl, hw2⟩))
              go_ret
              exact ⟨ret_bool (by simp only [bodyB, if_neg (show ¬ 200 < depth by omega), q1, q2, q3, qs, qa, n0, Bool.false_eq_true, if_false, if_true, Bool.not_true, Bool.not_false, Bool.true_and, Bool.false_and, Bool.and_true, Bool.and_false]), hbt hbw1 hw2⟩
    · clear P A hkf hkt
      go_enter Tryz.func61, Tryz.ntmps61
      go_wp2_with (go_at_call 81; refine C.mono ?_; rintro e w1 ⟨rfl, hw1⟩)
      go_ret
      exact ⟨ret_bool (by simp only [bodyB, if_neg (show ¬ 200 < depth by omega), q2, q3, Bool.false_eq_true, if_false, if_true, Bool.not_true, Bool.not_false, Bool.true_and, Bool.false_and, Bool.and_true, Bool.and_false]), hbt hb1 hw1⟩
  · clear C A hkf hkt
    cases qe : data.toList.isEmpty
    · go_enter Tryz.func61, Tryz.ntmps61
      go_wp2_with (go_at_call 59; refine P.mono ?_; rintro e w1 ⟨rfl, hw1⟩)
      go_ret
      exact ⟨ret_bool (by simp only [bodyB, if_neg (show ¬ 200 < depth by omega), q2, qe, Bool.false_eq_true, if_false, if_true, Bool.not_true, Bool.not_false, Bool.true_and, Bool.false_and, Bool.and_true, Bool.and_false]), hbt hb1 hw1⟩
    · go_enter Tryz.func61, Tryz.ntmps61
      go_wp2
      go_ret
      exact ⟨ret_bool (by simp only [bodyB, if_neg (show ¬ 200 < depth by omega), q2, qe, Bool.false_eq_true, if_false, if_true, Bool.not_true, Bool.not_false, Bool.true_and, Bool.false_and, Bool.and_true, Bool.and_false]), hb1⟩
end Go.Proofs.YthfdiinfeljeeaaGreatDoor
/- The program's kinds of nodes, and whether a node of a kind is right. -/
namespace Go.Proofs.YthfdiinfeljeeaaGreatDoor
open Go.RowKit
/-- The attributes of a looked at node lie in block b. -/
theorem rdA_look {w : World} {L : List A4} {b : Nat} (h : w.heap[b]? = some (.cells (cellsA L).toArray 80 (0, 0))) : RdA w (some ⟨b, 0, none⟩) L := by
  intro hne
  refine ⟨b, 0, rfl, fun k hk => ?_⟩
  have hc := blk_cells h
  have hg : ∀ j, j < 4 → w.cell? ⟨b, 0 + k * 4 + j, none⟩ = L[k].c[j]? := fun j hj => by
    rw [Nat.zero_add, hc, ← cellsA_at L k j hk hj, List.getElem?_toArray]
  exact ⟨hg 0 (by omega), hg 1 (by omega), hg 2 (by omega), hg 3 (by omega)⟩
/-- What a call leaves, where the world W turns nothing below. -/
abbrev RetB (x : Bool) (w : World) : Ending → World → Prop := fun e w' => e = .returned (.bool x) ∧ Below w.heap.size w w'
set_option maxHeartbeats 2000000 in
set_option maxRecDepth 100000 in
theorem right75 (n : Nd) (b : Nat) (w : World) (h : w.heap[b]? = some (.cells (cellsA n.al).toArray 80 (0, 0))) (hal : n.al.length ≤ 1024) (htx : ∀ s ∈ txtA n.al, s.size ≤ 1048576) (hE : Env w) :
    Calls Tryz.prog 75 #[.agg (n.look b)] w (RetB (n.space == 0 && attrsB n.al) w) := by
  have hb1 := bal (Below.refl w.heap.size w) (.cells (n.look b) 52)
  have A := attrs28 (some ⟨b, 0, none⟩) n.al.length n.al _ hal ((rdA_look h).below hb1) htx (hE.below hb1)
  have hbt : ∀ {w1 : World}, Below (w.alloc (.cells (n.look b) 52)).heap.size (w.alloc (.cells (n.look b) 52)) w1 → Below w.heap.size w w1 := fun h => hb1.trans ⟨h.os, h.tape, h.output, h.size, fun j hj => h.block j (Nat.lt_of_lt_of_le hj hb1.size)⟩
  generalize attrsB n.al = a at *
  unfold Nd.look at *
  cases q : (n.space == 0)
  · clear A
    go_enter Tryz.func75, Tryz.ntmps75
    go_wp2
    go_ret
    exact ⟨rfl, hb1⟩
  · go_enter Tryz.func75, Tryz.ntmps75
    go_wp2_with (go_at_call 28; refine A.mono ?_; rintro e w1 ⟨rfl, hw1⟩)
    go_ret
    exact ⟨by cases a <;> rfl, hbt hw1⟩
set_option maxHeartbeats 2000000 in
set_option maxRecDepth 100000 in
theorem right76 (n : Nd) (b : Nat) (w : World) (hd : n.data.size ≤ 1048576) (hE : Env w) :
    Calls Tryz.prog 76 #[.agg (n.look b)] w (RetB (!n.data.toList.isEmpty && plainB n.data) w) := by
  have hb1 := bal (Below.refl w.heap.size w) (.cells (n.look b) 52)
  have A := plain54 n.data _ hd (hE.below hb1).tabs
  have hbt : ∀ {w1 : World}, Below (w.alloc (.cells (n.look b) 52)).heap.size (w.alloc (.cells (n.look b) 52)) w1 → Below w.heap.size w w1 := fun h => hb1.trans ⟨h.os, h.tape, h.output, h.size, fun j hj => h.block j (Nat.lt_of_lt_of_le hj hb1.size)⟩
  generalize plainB n.data = a at *
  unfold Nd.look at *
  cases q : n.data.toList.isEmpty
  · go_enter Tryz.func76, Tryz.ntmps76
    go_wp2_with (go_at_call 54; refine A.mono ?_; rintro e w1 ⟨rfl, hw1⟩)
    go_ret
    exact ⟨by cases a <;> rfl, hbt hw1⟩
  · clear A
    go_enter Tryz.func76, Tryz.ntmps76
    go_wp2
    go_ret
    exact ⟨rfl, hb1⟩
set_option maxHeartbeats 2000000 in
set_option maxRecDepth 100000 in
theorem right77 (n : Nd) (b : Nat) (w : World) (hd : n.data.size ≤ 1048576) (hE : Env w) :
    Calls Tryz.prog 77 #[.agg (n.look b)] w (RetB (commB n.data) w) := by
  have hb1 := bal (Below.refl w.heap.size w) (.cells (n.look b) 52)
  have A := comment78 n.data _ hd (hE.below hb1)
  have hbt : ∀ {w1 : World}, Below (w.alloc (.cells (n.look b) 52)).heap.size (w.alloc (.cells (n.look b) 52)) w1 → Below w.heap.size w w1 := fun h => hb1.trans ⟨h.os, h.tape, h.output, h.size, fun j hj => h.block j (Nat.lt_of_lt_of_le hj hb1.size)⟩
  generalize commB n.data = a at *
  unfold Nd.look at *
  go_enter Tryz.func77, Tryz.ntmps77
  go_wp2_with (go_at_call 78; refine A.mono ?_; rintro e w1 ⟨rfl, hw1⟩)
  go_ret
  exact ⟨rfl, hbt hw1⟩
/-- The kind of a node: inline?, what it holds, whose function tells whether it is right; and whether there is one. -/
def kindV (n : Nd) : Option (Bool × Nat × Nat) :=
  if (n.kind == 2) = true then some (true, 0, 76)
  else if (n.kind == 3) = true then some (true, 0, 77)
  else if (n.kind == 1) = true then
    if (n.name.toList == wSpan) = true then some (true, 1, 75)
    else if (n.name.toList == wP) = true then some (false, 1, 75)
    else if blockW n.name = true then some (false, 2, 75)
    else none
  else none
def kindR : Option (Bool × Nat × Nat) → Value
  | some (i, h, f) => .tuple #[.agg #[.bool i, .int .i64 h, .func (.func f) #[] #[]], .bool true]
  | none => .tuple #[.agg #[.bool false, .int .i64 0, Value.nilFunc], .bool false]
set_option linter.unusedSimpArgs false in
set_option maxHeartbeats 4000000 in
set_option maxRecDepth 100000 in
theorem kinds58 (n : Nd) (b : Nat) (w : World) : Calls Tryz.prog 58 #[.agg (n.look b)] w fun e w' => e = .returned (kindR (kindV n)) ∧ Below w.heap.size w w' := by
  have hb1 := bal (Below.refl w.heap.size w) (.cells (n.look b) 52)
  unfold Nd.look at *
  have hsz : (w.alloc (.cells #[.int .i64 n.kind, .int .i64 n.space, .string n.name, .slice (some ⟨b, 0, none⟩) n.al.length n.al.length, .string n.data, .string n.sys, .int .i64 n.up, .int .i64 n.fst, .int .i64 n.lst, .int .i64 n.prv, .int .i64 n.nxt, .int .i64 n.inn] 52)).heap.size = w.heap.size + 1 := by simp
  cases q2 : (n.kind == 2)
  · cases q3 : (n.kind == 3)
    · cases q1 : (n.kind == 1)
      · skip
        go_enter Tryz.func58, Tryz.ntmps58
        go_wp2
        exact bodyPost_ret (results_cell_and rfl _ _ (w.heap.size + 1) 111 _ (0, 0) _ rfl (at_new _ _ _ (by simp)) Tryz.underlying111 rfl (by kernel_rfl)) rfl ⟨by simp only [kindV, kindR, blockW, q1, q2, q3, Bool.false_eq_true, if_false, if_true, Bool.or_true, Bool.true_or, Bool.or_false]; rfl, bal hb1 _⟩
      · skip
        cases n0 : (n.name.toList == wSpan)
        · skip
          cases n1 : (n.name.toList == wP)
          · skip
            cases n2 : (n.name.toList == wDiv)
            · skip
              cases n3 : (n.name.toList == wSection)
              · skip
                cases n4 : (n.name.toList == wArticle)
                · skip
                  cases n5 : (n.name.toList == wMain)
                  · skip
                    cases n6 : (n.name.toList == wAside)
                    · skip
                      go_enter Tryz.func58, Tryz.ntmps58
                      go_wp2
                      exact bodyPost_ret (results_cell_and rfl _ _ (w.heap.size + 1) 111 _ (0, 0) _ rfl (at_new _ _ _ (by simp)) Tryz.underlying111 rfl (by kernel_rfl)) rfl ⟨by simp only [kindV, kindR, blockW, q1, q2, q3, n0, n1, n2, n3, n4, n5, n6, Bool.false_eq_true, if_false, if_true, Bool.or_true, Bool.true_or, Bool.or_false]; rfl, bal hb1 _⟩
                    · skip
                      go_enter Tryz.func58, Tryz.ntmps58
                      go_wp2
                      exact bodyPost_ret (results_cell_and rfl _ _ (w.heap.size + 1) 111 _ (0, 0) _ rfl (at_new _ _ _ (by simp)) Tryz.underlying111 rfl (by kernel_rfl)) rfl ⟨by simp only [kindV, kindR, blockW, q1, q2, q3, n0, n1, n2, n3, n4, n5, n6, Bool.false_eq_true, if_false, if_true, Bool.or_true, Bool.true_or, Bool.or_false]; rfl, bal hb1 _⟩
                  · skip
                    go_enter Tryz.func58, Tryz.ntmps58
                    go_wp2
                    exact bodyPost_ret (results_cell_and rfl _ _ (w.heap.size + 1) 111 _ (0, 0) _ rfl (at_new _ _ _ (by simp)) Tryz.underlying111 rfl (by kernel_rfl)) rfl ⟨by simp only [kindV, kindR, blockW, q1, q2, q3, n0, n1, n2, n3, n4, n5, Bool.false_eq_true, if_false, if_true, Bool.or_true, Bool.true_or, Bool.or_false]; rfl, bal hb1 _⟩
                · skip
                  go_enter Tryz.func58, Tryz.ntmps58
                  go_wp2
                  exact bodyPost_ret (results_cell_and rfl _ _ (w.heap.size + 1) 111 _ (0, 0) _ rfl (at_new _ _ _ (by simp)) Tryz.underlying111 rfl (by kernel_rfl)) rfl ⟨by simp only [kindV, kindR, blockW, q1, q2, q3, n0, n1, n2, n3, n4, Bool.false_eq_true, if_false, if_true, Bool.or_true, Bool.true_or, Bool.or_false]; rfl, bal hb1 _⟩
              · skip
                go_enter Tryz.func58, Tryz.ntmps58
                go_wp2
                exact bodyPost_ret (results_cell_and rfl _ _ (w.heap.size + 1) 111 _ (0, 0) _ rfl (at_new _ _ _ (by simp)) Tryz.underlying111 rfl (by kernel_rfl)) rfl ⟨by simp only [kindV, kindR, blockW, q1, q2, q3, n0, n1, n2, n3, Bool.false_eq_true, if_false, if_true, Bool.or_true, Bool.true_or, Bool.or_false]; rfl, bal hb1 _⟩
            · skip
              go_enter Tryz.func58, Tryz.ntmps58
              go_wp2
              exact bodyPost_ret (results_cell_and rfl _ _ (w.heap.size + 1) 111 _ (0, 0) _ rfl (at_new _ _ _ (by simp)) Tryz.underlying111 rfl (by kernel_rfl)) rfl ⟨by simp only [kindV, kindR, blockW, q1, q2, q3, n0, n1, n2, Bool.false_eq_true, if_false, if_true, Bool.or_true, Bool.true_or, Bool.or_false]; rfl, bal hb1 _⟩
          · skip
            go_enter Tryz.func58, Tryz.ntmps58
            go_wp2
            exact bodyPost_ret (results_cell_and rfl _ _ (w.heap.size + 1) 111 _ (0, 0) _ rfl (at_new _ _ _ (by simp)) Tryz.underlying111 rfl (by kernel_rfl)) rfl ⟨by simp only [kindV, kindR, blockW, q1, q2, q3, n0, n1, Bool.false_eq_true, if_false, if_true, Bool.or_true, Bool.true_or, Bool.or_false]; rfl, bal hb1 _⟩
        · skip
          go_enter Tryz.func58, Tryz.ntmps58
          go_wp2
          exact bodyPost_ret (results_cell_and rfl _ _ (w.heap.size + 1) 111 _ (0, 0) _ rfl (at_new _ _ _ (by simp)) Tryz.underlying111 rfl (by kernel_rfl)) rfl ⟨by simp only [kindV, kindR, blockW, q1, q2, q3, n0, Bool.false_eq_true, if_false, if_true, Bool.or_true, Bool.true_or, Bool.or_false]; rfl, bal hb1 _⟩
    · skip
      go_enter Tryz.func58, Tryz.ntmps58
      go_wp2
      exact bodyPost_ret (results_cell_and rfl _ _ (w.heap.size + 1) 111 _ (0, 0) _ rfl (at_new _ _ _ (by simp)) Tryz.underlying111 rfl (by kernel_rfl)) rfl ⟨by simp only [kindV, kindR, blockW, q2, q3, Bool.false_eq_true, if_false, if_true, Bool.or_true, Bool.true_or, Bool.or_false]; rfl, bal hb1 _⟩
  · skip
    go_enter Tryz.func58, Tryz.ntmps58
    go_wp2
    exact bodyPost_ret (results_cell_and rfl _ _ (w.heap.size + 1) 111 _ (0, 0) _ rfl (at_new _ _ _ (by simp)) Tryz.underlying111 rfl (by kernel_rfl)) rfl ⟨by simp only [kindV, kindR, blockW, q2, Bool.false_eq_true, if_false, if_true, Bool.or_true, Bool.true_or, Bool.or_false]; rfl, bal hb1 _⟩
end Go.Proofs.YthfdiinfeljeeaaGreatDoor
/- The elements that the law is given; nodes of bounded texts. -/
namespace Go.Proofs.YthfdiinfeljeeaaGreatDoor
open Go.RowKit
structure El where
  what : Int
  up : Int
  text : ByteArray
  al : List A4
  aa : Option Addr
  ac : Nat
/-- The elements lie at a slice's place. -/
def RdE (w : World) (oe : Option Addr) (es : List El) : Prop :=
  es ≠ [] → ∃ b off, oe = some ⟨b, off, none⟩ ∧ ∀ k (h : k < es.length), w.cell? ⟨b, off + k * 4, none⟩ = some (.int .i64 es[k].what) ∧ w.cell? ⟨b, off + k * 4 + 1, none⟩ = some (.int .i64 es[k].up) ∧
    w.cell? ⟨b, off + k * 4 + 2, none⟩ = some (.string es[k].text) ∧ w.cell? ⟨b, off + k * 4 + 3, none⟩ = some (.slice es[k].aa es[k].al.length es[k].ac) ∧ RdA w es[k].aa es[k].al ∧ (es[k].aa = none → es[k].al = [] ∧ es[k].ac = 0) ∧ es[k].text.size ≤ 1048576 ∧ (∀ s ∈ txtA es[k].al, s.size ≤ 1048576) ∧ es[k].al.length ≤ 1048576
/-- A node's texts are of bounded length, its attributes of bounded number. -/
structure Small (n : Nd) : Prop where
  name : n.name.size ≤ 1048576
  data : n.data.size ≤ 1048576
  al : n.al.length ≤ 1024
  txt : ∀ s ∈ txtA n.al, s.size ≤ 1048576
  asp : n.sys.size ≤ 1048576
  tin : n.inn = -1 ∨ n.name.data.toList = tmplW
theorem Small.of {n n' : Nd} (h : Small n) (e1 : n'.name = n.name) (e2 : n'.data = n.data) (e3 : n'.al = n.al) (e4 : n'.sys = n.sys) (e5 : n'.inn = n.inn) : Small n' := ⟨e1 ▸ h.name, e2 ▸ h.data, e3 ▸ h.al, e3 ▸ h.txt, e4 ▸ h.asp, by rw [e1, e5]; exact h.tin⟩
theorem hs0 : (⟨#[]⟩ : ByteArray).size ≤ 1048576 := by decide
theorem small_kind0 (k : Int) (s : ByteArray) (l : List Nd) (h : ∀ n ∈ l, Small n) (hs : s.size ≤ 1048576) : ∀ n ∈ l ++ [blankN (kindN k s)], Small n := by
  intro n hn
  rcases List.mem_append.1 hn with h1 | h1
  · exact h n h1
  · obtain rfl := List.mem_singleton.1 h1
    exact ⟨by first | exact hs0 | (simp [blankN, kindN]), hs, by first | exact hs0 | (simp [blankN, kindN]), by simp [blankN, kindN, txtA], by first | exact hs0 | (simp [blankN, kindN]), .inl rfl⟩
theorem small_start0 : ∀ n ∈ [blankN (kindN 0 ⟨#[]⟩)], Small n := fun n hn => by
  refine small_kind0 0 ⟨#[]⟩ [] (by simp) (by decide) n (by simpa using hn)
theorem small_el0 (t : Bool) (name : ByteArray) (L : List A4) (b : Nat) (l : List Nd) (h : ∀ n ∈ l, Small n) (hn : name.size ≤ 1048576) (hs : ∀ s ∈ txtA L, s.size ≤ 1048576) (hL : L.length ≤ 1024) (htm : t = true → name.data.toList = tmplW) : ∀ n ∈ elemL t (elN 0 name L b) l, Small n := by
  have h1 : Small (blankN (elN 0 name L b)) := ⟨hn, by first | exact hs0 | (simp [blankN, elN]), hL, hs, by first | exact hs0 | (simp [blankN, elN]), .inl rfl⟩
  have h2 : Small (blankN (kindN 5 ⟨#[]⟩)) := ⟨by first | exact hs0 | (simp [blankN, kindN]), by first | exact hs0 | (simp [blankN, kindN]), by first | exact hs0 | (simp [blankN, kindN]), by simp [blankN, kindN, txtA], by first | exact hs0 | (simp [blankN, kindN]), .inl rfl⟩
  intro n hn
  unfold elemL at hn
  cases t with
  | false =>
    simp only [Bool.false_eq_true, if_false, List.mem_append, List.mem_singleton] at hn
    rcases hn with h3 | rfl
    · exact h n h3
    · exact h1
  | true =>
    simp only [if_true, List.mem_append, List.mem_singleton] at hn
    rcases hn with (h3 | rfl) | rfl
    · exact h n h3
    · exact ⟨h1.name, h1.data, h1.al, h1.txt, h1.asp, .inr (htm rfl)⟩
    · exact h2.of rfl rfl rfl rfl rfl
theorem small_modify {l : List Nd} (h : ∀ n ∈ l, Small n) (k : Nat) (f : Nd → Nd) (hf : ∀ n, Small n → Small (f n)) : ∀ n ∈ l.modify k f, Small n := by
  intro n hn
  obtain ⟨i, hi, e⟩ := List.mem_iff_getElem.1 hn
  rw [List.getElem_modify] at e
  have hi' : i < l.length := by simpa using hi
  split at e
  · exact e ▸ hf _ (h _ (List.getElem_mem hi'))
  · exact e ▸ h _ (List.getElem_mem hi')
theorem small_join {l : List Nd} (h : ∀ n ∈ l, Small n) (a b c : Int) : ∀ n ∈ joinL l a b c, Small n := by
  unfold joinL
  dsimp only
  split <;> split
  all_goals
    refine small_modify (small_modify h _ _ ?_) _ _ ?_
    all_goals exact fun n hn => hn.of rfl rfl rfl rfl rfl
theorem small_link0 (l : List Nd) (f : Nat) (u i : Int) (h : ∀ n ∈ l, Small n) : ∀ n ∈ (linkR l f u i).2, Small n := by
  unfold linkR
  split
  · exact h
  · split
    · exact h
    · split
      · exact h
      · dsimp only
        refine small_join (small_join (small_modify h _ _ ?_) _ _ _) _ _ _
        exact fun n hn => hn.of rfl rfl rfl rfl rfl
/-- What is kept of an arena beside its shape: bounded texts; only some kinds have children; only templates have an inside. -/
structure Ex (l : List Nd) : Prop where
  sm : ∀ n ∈ l, Small n
  par : ∀ i, i < l.length → (gN l i).fst ≠ -1 → parB (gN l i).kind = true
theorem par_push {l : List Nd} {n : Nd} (h : ∀ i, i < l.length → (gN l i).fst ≠ -1 → parB (gN l i).kind = true) (hn : n.fst = -1) : ∀ i, i < (l ++ [n]).length → (gN (l ++ [n]) i).fst ≠ -1 → parB (gN (l ++ [n]) i).kind = true := by
  intro i hi
  rw [gN_push]
  split
  · exact h i (by assumption)
  · rw [List.length_append, List.length_singleton] at hi
    rw [if_pos (by omega)]
    intro h2
    exact absurd hn h2
theorem small_start : Ex [blankN (kindN 0 ⟨#[]⟩)] := ⟨small_start0, par_push (l := []) (by simp) rfl⟩
theorem small_kind (k : Int) (s : ByteArray) (l : List Nd) (h : Ex l) (hs : s.size ≤ 1048576) : Ex (l ++ [blankN (kindN k s)]) := ⟨small_kind0 k s l h.sm hs, par_push h.par rfl⟩
theorem small_el (name : ByteArray) (L : List A4) (b : Nat) (l : List Nd) (h : Ex l) (hn : name.size ≤ 1048576) (hs : ∀ s ∈ txtA L, s.size ≤ 1048576) (hL : L.length ≤ 1024) : Ex (elemL (tmplB name) (elN 0 name L b) l) := by
  refine ⟨small_el0 (tmplB name) name L b l h.sm hn hs hL (fun h => beq_iff_eq.1 h), ?_⟩
  unfold elemL
  split
  · exact par_push (par_push h.par rfl) rfl
  · exact par_push h.par rfl
theorem join_par (l : List Nd) (a b c : Int) (j : Nat) : (gN (joinL l a b c) j).kind = (gN l j).kind ∧ ((gN (joinL l a b c) j).fst = (gN l j).fst ∨ j = a.toNat) := by
  unfold joinL
  dsimp only
  split <;> split
  all_goals
    rw [gN_modify, gN_modify]
    refine ⟨?_, ?_⟩
    · split <;> split <;> rfl
    · split <;> split
      all_goals first
        | exact .inl rfl
        | (right; omega)
theorem small_link (l : List Nd) (f : Nat) (u i : Int) (h : Ex l) : Ex (linkR l f u i).2 := by
  refine ⟨small_link0 l f u i h.sm, ?_⟩
  rcases Decidable.em ((linkR l f u i).1 = 0) with h0 | h0
  · obtain ⟨u', i', rfl, rfl, hu, hi, hp, _, _, _, _, he⟩ := linkR_ok l f u i h0
    rw [he]
    intro j hj
    rw [linkL] at hj ⊢
    rw [joinL_len, joinL_len, List.length_modify] at hj
    have k1 := join_par (joinL (l.modify i' fun n => { n with up := u', prv := (gN l u').lst, nxt := -1 }) u' (gN l u').lst i') u' i' (-1) j
    have k2 := join_par (l.modify i' fun n => { n with up := u', prv := (gN l u').lst, nxt := -1 }) u' (gN l u').lst i' j
    have k3 : (gN (l.modify i' fun n => { n with up := u', prv := (gN l u').lst, nxt := -1 }) j).kind = (gN l j).kind ∧ (gN (l.modify i' fun n => { n with up := u', prv := (gN l u').lst, nxt := -1 }) j).fst = (gN l j).fst := by
      rw [gN_modify]; split <;> exact ⟨rfl, rfl⟩
    intro hf
    rw [k1.1, k2.1, k3.1]
    rcases k1.2 with e1 | e1
    · rcases k2.2 with e2 | e2
      · rw [e1, e2, k3.2] at hf
        exact h.par j hj hf
      · obtain rfl : j = u' := by omega
        exact hp
    · obtain rfl : j = u' := by omega
      exact hp
  · rw [linkR_err l f u i h0]; exact h.par
end Go.Proofs.YthfdiinfeljeeaaGreatDoor
