/- The sniffer's bytes: a scan in memory; small letters; what is asked of a byte. -/
import Derived.Test.YtcmhfcnjfhcpdaaDoorL2
import Derived.Test.YtcmhfcnjfhcpdaaDoorKitC
import Derived.Test.YtcmhfcnjfhcpdaaDoorKitY
import Derived.Laws.MakeOwn
import Derived.Deep.Draws
namespace Go.Proofs.YtcmhfcnjfhcpdaaDoor
open Go.RowKit
def isSl (c : UInt8) : Bool := isBl c || c == 47
def isTe (c : UInt8) : Bool := isBl c || c == 62
def isNe (c : UInt8) : Bool := isSl c || c == 62 || c == 61
def isSc (c : UInt8) : Bool := isBl c || c == 59
theorem bl_fin : ∀ c : Fin 256, decide (Lib.indexByte [9, 10, 12, 13, 32] (UInt8.ofNat c.val) ≥ 0) = isBl (UInt8.ofNat c.val) := by decide +kernel
theorem bl_at (c : UInt8) : decide (Lib.indexByte [9, 10, 12, 13, 32] c ≥ 0) = isBl c := by
  have h := bl_fin ⟨c.toNat, c.toNat_lt⟩
  simpa using h
theorem beq_toNat (c d : UInt8) : ((c.toNat : Int) == (d.toNat : Int)) = (c == d) := by
  rw [Bool.eq_iff_iff]
  simp only [beq_iff_eq]
  constructor
  · intro h; exact UInt8.toNat_inj.1 (by omega)
  · intro h; rw [h]
theorem blank22 (c : UInt8) (w : World) : Calls Tryd.prog 22 #[.int .u8 c.toNat] w fun e w' => e = .returned (.bool (isBl c)) ∧ w = w' := by
  have I := fun W => Tryd.strings_IndexByte ⟨#[9, 10, 12, 13, 32]⟩ c.toNat W
  rw [show ((((c.toNat : Nat) : Int).toNat.toUInt8)) = c by simp, show (⟨#[9, 10, 12, 13, 32]⟩ : ByteArray).data.toList = [9, 10, 12, 13, 32] from rfl] at I
  have HB := Go.Lib.hid (bl_at c)
  generalize Lib.indexByte [9, 10, 12, 13, 32] c = q at *
  go_enter Tryd.func22, Tryd.ntmps22
  go_wp2_with fail
  refine (I _).mono ?_
  rintro e w1 ⟨rfl, rfl⟩
  go_wp2
  go_ret
  exact ⟨ret_bool HB.out, rfl⟩
theorem slashed29 (c : UInt8) (w : World) : Calls Tryd.prog 29 #[.int .u8 c.toNat] w fun e w' => e = .returned (.bool (isSl c)) ∧ w = w' := by
  have B := blank22 c
  have hq := beq_toNat c 47
  rw [show ((47 : UInt8).toNat : Int) = 47 from rfl] at hq
  have HS := Go.Lib.hid (show isSl c = (isBl c || c == 47) from rfl)
  generalize isBl c = b at *
  generalize (c == 47) = d at *
  rcases b with _ | _
  all_goals
    go_enter Tryd.func29, Tryd.ntmps29
    go_wp2_with fail
    refine (B _).mono ?_
    rintro e w1 ⟨rfl, rfl⟩
    go_wp2
    go_ret
    exact ⟨ret_bool (by rw [HS.out]; simp), rfl⟩
theorem tagEnd32 (c : UInt8) (w : World) : Calls Tryd.prog 32 #[.int .u8 c.toNat] w fun e w' => e = .returned (.bool (isTe c)) ∧ w = w' := by
  have B := blank22 c
  have hq := beq_toNat c 62
  rw [show ((62 : UInt8).toNat : Int) = 62 from rfl] at hq
  have HS := Go.Lib.hid (show isTe c = (isBl c || c == 62) from rfl)
  generalize isBl c = b at *
  generalize (c == 62) = d at *
  rcases b with _ | _
  all_goals
    go_enter Tryd.func32, Tryd.ntmps32
    go_wp2_with fail
    refine (B _).mono ?_
    rintro e w1 ⟨rfl, rfl⟩
    go_wp2
    go_ret
    exact ⟨ret_bool (by rw [HS.out]; simp), rfl⟩
theorem semi21 (c : UInt8) (w : World) : Calls Tryd.prog 21 #[.int .u8 c.toNat] w fun e w' => e = .returned (.bool (isSc c)) ∧ w = w' := by
  have B := blank22 c
  have hq := beq_toNat c 59
  rw [show ((59 : UInt8).toNat : Int) = 59 from rfl] at hq
  have HS := Go.Lib.hid (show isSc c = (isBl c || c == 59) from rfl)
  generalize isBl c = b at *
  generalize (c == 59) = d at *
  rcases b with _ | _
  all_goals
    go_enter Tryd.func21, Tryd.ntmps21
    go_wp2_with fail
    refine (B _).mono ?_
    rintro e w1 ⟨rfl, rfl⟩
    go_wp2
    go_ret
    exact ⟨ret_bool (by rw [HS.out]; simp), rfl⟩
theorem nameEnd46 (c : UInt8) (w : World) : Calls Tryd.prog 46 #[.int .u8 c.toNat] w fun e w' => e = .returned (.bool (isNe c)) ∧ w = w' := by
  have B := slashed29 c
  have hq := beq_toNat c 62
  have hq2 := beq_toNat c 61
  rw [show ((62 : UInt8).toNat : Int) = 62 from rfl] at hq
  rw [show ((61 : UInt8).toNat : Int) = 61 from rfl] at hq2
  have HS := Go.Lib.hid (show isNe c = (isSl c || c == 62 || c == 61) from rfl)
  generalize isSl c = b at *
  generalize (c == 62) = d at *
  generalize (c == 61) = f at *
  rcases b with _ | _ <;> rcases d with _ | _
  all_goals
    go_enter Tryd.func46, Tryd.ntmps46
    go_wp2_with fail
    refine (B _).mono ?_
    rintro e w1 ⟨rfl, rfl⟩
    go_wp2
    go_ret
    exact ⟨ret_bool (by rw [HS.out]; simp), rfl⟩
/-- A scan over the bytes L, at a place. -/
structure Sc (w : World) (sb g : Nat) (L : List UInt8) (i : Nat) : Prop where
  row : w.heap[sb]? = some (.cells #[.slice (some ⟨g, 0, none⟩) L.length L.length, .int .i64 i] 43 (0, 0))
  bytes : w.heap[g]? = some (.cells (u8s L).toArray 5 (0, 0))
  ne : g ≠ sb
  small : L.length ≤ 1048576
theorem Sc.byte {w : World} {sb g : Nat} {L : List UInt8} {i : Nat} (h : Sc w sb g L i) (j : Nat) (hj : j < L.length) : w.cell? ⟨g, j, none⟩ = some (.int .u8 (L[j].toNat)) := by
  rw [blk_cells h.bytes j]
  simp [u8s, hj]
theorem Sc.c0 {w : World} {sb g : Nat} {L : List UInt8} {i : Nat} (h : Sc w sb g L i) : w.cell? ⟨sb, 0, none⟩ = some (.slice (some ⟨g, 0, none⟩) L.length L.length) := blk_cells h.row 0
theorem Sc.c1 {w : World} {sb g : Nat} {L : List UInt8} {i : Nat} (h : Sc w sb g L i) : w.cell? ⟨sb, 1, none⟩ = some (.int .i64 i) := blk_cells h.row 1
theorem Sc.fr {w : World} {sb g : Nat} {L : List UInt8} {i : Nat} (h : Sc w sb g L i) (j : Nat) : w.frozen? ⟨sb, j, none⟩ = false := blk_free h.row j
theorem Sc.lt {w : World} {sb g : Nat} {L : List UInt8} {i : Nat} (h : Sc w sb g L i) : sb < w.heap.size := blk_lt h.row
theorem Sc.ltg {w : World} {sb g : Nat} {L : List UInt8} {i : Nat} (h : Sc w sb g L i) : g < w.heap.size := blk_lt h.bytes
/-- What a method of a scan may turn: the scan's own cells. -/
structure St (sb : Nat) (w w' : World) : Prop where
  os : w'.os = w.os
  tape : w'.tape = w.tape
  output : w'.output = w.output
  size : w.heap.size ≤ w'.heap.size
  block : ∀ k, k < w.heap.size → k ≠ sb → w'.heap[k]? = w.heap[k]?
theorem St.refl (sb : Nat) (w : World) : St sb w w := ⟨rfl, rfl, rfl, Nat.le_refl _, fun _ _ _ => rfl⟩
theorem St.trans {sb : Nat} {a b c : World} (h : St sb a b) (k : St sb b c) : St sb a c :=
  ⟨k.os.trans h.os, k.tape.trans h.tape, k.output.trans h.output, Nat.le_trans h.size k.size, fun i hi hn => (k.block i (Nat.lt_of_lt_of_le hi h.size) hn).trans (h.block i hi hn)⟩
theorem St.of_below {sb : Nat} {w w' : World} (h : Below w.heap.size w w') : St sb w w' := ⟨h.os, h.tape, h.output, h.size, fun k hk _ => h.block k hk⟩
theorem St.below {sb B : Nat} {w0 w w' : World} (h : St sb w w') (hb : Below B w0 w) (hs : B ≤ sb) (hB : B ≤ w.heap.size) : Below B w0 w' :=
  hb.trans ⟨h.os, h.tape, h.output, h.size, fun k hk => h.block k (by omega) (by omega)⟩
theorem Sc.below {w w' : World} {sb g : Nat} {L : List UInt8} {i : Nat} (h : Sc w sb g L i) (hb : Below w.heap.size w w') : Sc w' sb g L i :=
  ⟨(hb.block _ h.lt).trans h.row, (hb.block _ h.ltg).trans h.bytes, h.ne, h.small⟩
theorem Sc.set {w : World} {sb g : Nat} {L : List UInt8} {i : Nat} (h : Sc w sb g L i) (j : Nat) (v : Value) (hv : v = .int .i64 j) : Sc (w.setCell ⟨sb, 1, none⟩ v) sb g L j := by
  subst hv
  exact ⟨set_blk h.row _, set_blk_ne h.bytes h.ne _, h.ne, h.small⟩
theorem St.set {sb : Nat} {w0 w : World} (h : St sb w0 w) (v : Value) : St sb w0 (w.setCell ⟨sb, 1, none⟩ v) :=
  h.trans ⟨rfl, rfl, rfl, by simp [World.setCell], fun k _ hn => Below.heap_setCell _ _ _ _ hn⟩
theorem St.drewN {sb : Nat} {w0 w : World} (h : St sb w0 w) (n : Nat) : St sb w0 (w.drewN n) :=
  h.trans ⟨rfl, rfl, rfl, Nat.le_refl _, fun _ _ _ => rfl⟩
theorem Sc.drewN {w : World} {sb g : Nat} {L : List UInt8} {i : Nat} (h : Sc w sb g L i) (n : Nat) : Sc (w.drewN n) sb g L i :=
  ⟨h.row, h.bytes, h.ne, h.small⟩
end Go.Proofs.YtcmhfcnjfhcpdaaDoor
