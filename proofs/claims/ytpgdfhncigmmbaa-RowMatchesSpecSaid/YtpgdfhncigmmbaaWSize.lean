/-
  The walk of row.Size. No condition.
-/
import Derived.Test.YtpgdfhncigmmbaaDr
namespace Go.Proofs.Ytpgdfhncigmmbaa
open Go.RowKit

set_option maxRecDepth 20000 in
set_option maxHeartbeats 4000000 in
theorem size_any {r : List Val} {a : Option Addr} {n c : Nat} {w : World} (hr : Rd w a n c 3 (recC Val.enc r)) (hn : n ≤ 20) (hok : OkR r) : Calls Try.prog 16 #[.slice a n c] w (RetV (.int .i64 ((wordsR r).length : Nat)) w) := by
  have hln := hr.rlen Val.enc_len (by omega)
  have HR := Box.mk hr
  have HOK := Box.mk hok
  clear hr hok
  go_enter Try.func16, Try.ntmps16
  go_wp2_with fail
  go_loopw [3, 8] (fun v i wr => ∃ (k z : Nat), k ≤ n ∧ i = .int .i64 k ∧ v = .int .i64 z ∧ Box (z = (wordsUp r k).length ∧ Below w.heap.size w wr)) (fun _ i _ => n - (intOf i).toNat)
  case atStart => exact ⟨0, 1, Nat.zero_le _, rfl, rfl, ⟨by rw [wordsUp_zero]; rfl, Below.refl _ _⟩⟩
  case round =>
    obtain ⟨k, z, hk, rfl, rfl, HB⟩ := hrel
    by_cases hlt : k < n
    · have hz : z ≤ 1 + 9 * k := by rw [HB.out.1]; exact wordsUp_len HOK.out k (by omega)
      obtain ⟨g, off, rfl, hgb, hc⟩ := (HR.out.below HB.out.2 (Nat.le_refl _)).recAt Val.enc_len (by omega) k hlt
      have hv := HOK.out.at (k := k) (by omega)
      generalize hy : r.getD k default = y at *
      have HY := Box.mk hy
      clear hy
      rcases okV_cases hv with rfl | ⟨x, rfl, hx⟩ | ⟨s, rfl, hs⟩ | ⟨x, rfl, hx⟩
      · have c0 := hc 0 _ rfl
        have c1 := hc 1 _ rfl
        have c2 := hc 2 _ rfl
        simp only [Nat.add_zero] at c0 c1 c2
        have HN := Box.mk (show z = (wordsUp r (k + 1)).length from by rw [wordsUp_nullLen (by omega) HY.out rfl]; exact HB.out.1)
        clear hc hgb hv
        go_wp2_with fail
        go_roundw
        case rel => exact ⟨k + 1, z, by omega, by go_num, rfl, ⟨HN.out, HB.out.2.alloc HB.out.2.size _⟩⟩
        case measure => simp [intOf]; omega
      · have c0 := hc 0 _ rfl
        have c1 := hc 1 _ rfl
        have c2 := hc 2 _ rfl
        simp only [Nat.add_zero] at c0 c1 c2
        have HN := Box.mk (show z + 1 = (wordsUp r (k + 1)).length from by rw [wordsUp_succ (by omega) HY.out (by show (1 : Int) ≠ 0; decide), List.length_append, valR_int, ← HB.out.1]; rfl)
        clear hc hgb hv hx
        go_wp2_with fail
        go_roundw
        case rel => exact ⟨k + 1, z + 1, by omega, by go_num, by go_num, ⟨HN.out, HB.out.2.alloc HB.out.2.size _⟩⟩
        case measure => simp [intOf]; omega
      · have c0 := hc 0 _ rfl
        have c1 := hc 1 _ rfl
        have c2 := hc 2 _ rfl
        simp only [Nat.add_zero] at c0 c1 c2
        have hsz : (⟨s.toArray⟩ : ByteArray).size = s.length := str_size s
        have HN := Box.mk (show z + (1 + nWords s.length) = (wordsUp r (k + 1)).length from by rw [wordsUp_succ (by omega) HY.out (by show (2 : Int) ≠ 0; decide), List.length_append, valR_text, List.length_append, textW_length, ← HB.out.1]; rfl)
        have hNW : nWords s.length ≤ 8 := by unfold nWords; omega
        have HL := Box.mk (fun w => long_any s.length (by omega) w)
        clear hc hgb hv
        go_wp2_with fail
        refine (HL.out _).mono ?_
        rintro e w1 ⟨rfl, rfl⟩
        generalize nWords s.length = N at *
        go_wp2_with fail
        go_roundw
        case rel => exact ⟨k + 1, z + (1 + N), by omega, by go_num, by go_num, ⟨HN.out, HB.out.2.alloc HB.out.2.size _⟩⟩
        case measure => simp [intOf]; omega
      · have c0 := hc 0 _ rfl
        have c1 := hc 1 _ rfl
        have c2 := hc 2 _ rfl
        simp only [Nat.add_zero] at c0 c1 c2
        have HN := Box.mk (show z + 1 = (wordsUp r (k + 1)).length from by rw [wordsUp_succ (by omega) HY.out (by show (3 : Int) ≠ 0; decide), List.length_append, valR_bool, ← HB.out.1]; rfl)
        clear hc hgb hv hx
        go_wp2_with fail
        go_roundw
        case rel => exact ⟨k + 1, z + 1, by omega, by go_num, by go_num, ⟨HN.out, HB.out.2.alloc HB.out.2.size _⟩⟩
        case measure => simp [intOf]; omega
    · obtain rfl : k = n := by omega
      have hz := HB.out.1
      rw [show (wordsUp r k).length = (wordsR r).length from by unfold wordsR; rw [hln]] at hz
      have HZ := Box.mk hz
      clear hz
      go_wp2_with fail
      go_ret
      rw [← HZ.out]
      exact ⟨rfl, HB.out.2⟩
end Go.Proofs.Ytpgdfhncigmmbaa
