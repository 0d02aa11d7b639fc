/- The law that the code points of any bytes are the reference's: every encoding, and what is none. -/
import Derived.Test.YtmfifaigphnbmaaF8
namespace Go.Proofs.Ytmfifaigphnbmaa
open Go.RowKit
theorem told8_len (L : List UInt8) : (told8 L).length ≤ 2 * L.length + 1 := by
  have h := run_len U8.step (U8.step_len) U8.zero (nums L)
  have h2 := told8_fin (run U8.step U8.zero (nums L)).1
  rw [nums_length] at h
  rw [told8, List.length_append]
  omega
theorem toldf_len (L : List UInt8) : (toldf L).length ≤ 2 * L.length + 1 := by
  have h := run_len (U16.step false) (U16.step_len false) U16.zero (nums L)
  have h2 := toldf_fin (run (U16.step false) U16.zero (nums L)).1
  rw [nums_length] at h
  rw [toldf, List.length_append]
  omega
theorem toldt_len (L : List UInt8) : (toldt L).length ≤ 2 * L.length + 1 := by
  have h := run_len (U16.step true) (U16.step_len true) U16.zero (nums L)
  have h2 := toldt_fin (run (U16.step true) U16.zero (nums L)).1
  rw [nums_length] at h
  rw [toldt, List.length_append]
  omega
theorem one_len (up : Int → Int) (L : List UInt8) : ((nums L).map (one up)).length ≤ 2 * L.length + 1 := by
  rw [List.length_map, nums_length]
  omega
theorem texts4 (k : Int) (oa : Option Addr) (n cap : Nat) (L : List UInt8) (w : World) (hn : n = L.length) (hl : L.length ≤ 1048576) (hR : RdB w oa L) :
    Calls Try.prog 4 #[.int .i64 k, .slice oa n cap] w fun e w' => e = .returned (.bool true) ∧ Below w.heap.size w w' := by
  have h2 : 2 * L.length + 2 ≤ 34359738368 := by omega
  have h4 : (2 * L.length + 2) * 4 ≤ 140737488355328 := by omega
  rcases (show (k < 0 ∨ 6 < k) ∨ k = 0 ∨ k = 1 ∨ k = 2 ∨ k = 3 ∨ k = 4 ∨ k = 5 ∨ k = 6 by omega) with h | rfl | rfl | rfl | rfl | rfl | rfl | rfl
  · exact texts4_no k h oa n cap L w hn h2 hR
  · exact texts4_any 0 oa n cap L w hn h2 hR (told8 L) (told8_len L) (fun W oa n cap hn hR => text13_8 oa n cap L W hn hR h4) (fun W oa n cap hn hR => rtext14 (by decide) (by decide) takes_0 rfl oa n cap L W hn h2 (told8_len L) hR)
  · exact texts4_any 1 oa n cap L w hn h2 hR (toldf L) (toldf_len L) (fun W oa n cap hn hR => text13_f oa n cap L W hn hR h4) (fun W oa n cap hn hR => rtext14 (by decide) (by decide) takes_1 rfl oa n cap L W hn h2 (toldf_len L) hR)
  · exact texts4_any 2 oa n cap L w hn h2 hR (toldt L) (toldt_len L) (fun W oa n cap hn hR => text13_t oa n cap L W hn hR h4) (fun W oa n cap hn hR => rtext14 (by decide) (by decide) takes_2 rfl oa n cap L W hn h2 (toldt_len L) hR)
  · exact texts4_any 3 oa n cap L w hn h2 hR _ (one_len upW L) (fun W oa n cap hn hR => text13_3 oa n cap L W hn hR h4) (fun W oa n cap hn hR => rtext14 (by decide) (by decide) takes_3 rfl oa n cap L W hn h2 (one_len upW L) hR)
  · exact texts4_any 4 oa n cap L w hn h2 hR _ (one_len upL L) (fun W oa n cap hn hR => text13_4 oa n cap L W hn hR h4) (fun W oa n cap hn hR => rtext14 (by decide) (by decide) takes_4 rfl oa n cap L W hn h2 (one_len upL L) hR)
  · exact texts4_any 5 oa n cap L w hn h2 hR _ (one_len upC L) (fun W oa n cap hn hR => text13_5 oa n cap L W hn hR h4) (fun W oa n cap hn hR => rtext14 (by decide) (by decide) takes_5 rfl oa n cap L W hn h2 (one_len upC L) hR)
  · exact texts4_any 6 oa n cap L w hn h2 hR _ (one_len upU L) (fun W oa n cap hn hR => text13_6 oa n cap L W hn hR h4) (fun W oa n cap hn hR => rtext14 (by decide) (by decide) takes_6 rfl oa n cap L W hn h2 (one_len upU L) hR)
end Go.Proofs.Ytmfifaigphnbmaa
