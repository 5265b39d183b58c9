/-
  The walk of row.Pack. No condition.
-/
import Derived.Test.YtpgdfhncigmmbaaPk
import Derived.Test.YtpgdfhncigmmbaaE20
import Derived.Test.YtpgdfhncigmmbaaOps2
namespace Go.Proofs.Ytpgdfhncigmmbaa
open Go.RowKit

set_option maxRecDepth 20000 in
set_option maxHeartbeats 4000000 in
theorem pack_any (s : List UInt8) (w : World) (hs : s.length ≤ 1000000) : Calls Try.prog 20 #[.string ⟨s.toArray⟩] w (RetL (textW s) w) := by
  have hz : (⟨s.toArray⟩ : ByteArray).size = s.length := str_size s
  go_enter Try.func20, Try.ntmps20
  go_wp2_with fail
  refine (long_any s.length (by omega) w).mono ?_
  rintro e w1 ⟨rfl, rfl⟩
  have hN : nWords s.length ≤ 200001 := by unfold nWords; omega
  have HZ := Box.mk (show ∀ N, (List.replicate N (Value.int .i64 0)) = intVals (textUp (s.take 0) N) from fun N => by
    unfold intVals textUp
    rw [List.map_map]
    refine (List.eq_replicate_iff.2 ⟨by simp, fun x hx => ?_⟩).symm
    obtain ⟨j, _, rfl⟩ := List.mem_map.1 hx
    simp [wordAt, wordTo])
  go_wp2_with ((with_reducible show wpList _ _ _ _ _ _); refine wpList_make rfl 29 (.tmp 7) (.tmp 7) rfl sl_int rfl rfl rfl (by omega) (by omega) ?_; rw [HZ.out])
  have H0 := Box.mk (And.intro (Blk.new (w := w1) (k := w1.heap.size) (ty := 3) (arr := (intVals (textUp (s.take 0) (nWords s.length))).toArray) (cs := intVals (textUp (s.take 0) (nWords s.length))) rfl rfl) ((Below.refl w1.heap.size w1).alloc (Nat.le_refl _) (.cells (intVals (textUp (s.take 0) (nWords s.length))).toArray 3)))
  have HNW := Box.mk (show s.length ≤ 5 * nWords s.length from by unfold nWords; omega)
  generalize hNN : nWords s.length = N at *
  have HNN := Box.mk hNN
  clear hNN
  go_loopw [11] (fun i wr => ∃ k : Nat, k ≤ s.length ∧ i = .int .i64 k ∧ Box (Blk wr w1.heap.size 3 (intVals (textUp (s.take k) N)) ∧ Below w1.heap.size w1 wr)) (fun i _ => s.length - (intOf i).toNat)
  case atStart => exact ⟨0, Nat.zero_le _, rfl, H0⟩
  case round =>
    clear H0
    obtain ⟨k, hk, rfl, HB⟩ := hrel
    by_cases hlt : k < s.length
    · obtain ⟨A, hA1, hA2⟩ := wordAt_hit s k
      have HA := Box.mk (And.intro hA1 hA2)
      clear hA1 hA2
      obtain ⟨b, hb⟩ : ∃ b : Nat, (s.getD k 0).toNat = b := ⟨_, rfl⟩
      have hb256 : b < 256 := by rw [← hb]; exact (s.getD k 0).toNat_lt
      have hix := fun wx => run_index_str (P := Try.prog) (t := 9) (by kernel_rfl) s .i64 k hlt wx
      rw [hb] at hix HA
      have HIX := Box.mk hix
      clear hix hb
      have hkN : k / 5 < N := by have := HNW.out; omega
      obtain ⟨r, hr⟩ : ∃ r : Nat, k % 5 = r := ⟨_, rfl⟩
      have hr5 : r < 5 := by omega
      have hrI : (k : Int) % 5 = (r : Int) := by omega
      rw [hr] at HA
      have HR := Box.mk hrI
      clear hr hrI
      have HV1 := Box.mk (show IntKind.i64.wrap ((b : Int) * 2 ^ (8 * (4 - (r : Int))).toNat) = ((b * 256 ^ (4 - r) : Nat) : Int) from by
        rw [show (8 * (4 - (r : Int))).toNat = 8 * (4 - r) from by omega, IntKind.wrap_i64]
        have : (256 : Nat) ^ (4 - r) = 2 ^ (8 * (4 - r)) := by rw [Nat.pow_mul]
        have h4 : (256 : Nat) ^ (4 - r) ≤ 256 ^ 4 := Nat.pow_le_pow_right (by omega) (by omega)
        have h5 : b * 256 ^ (4 - r) ≤ 255 * 256 ^ 4 := Nat.mul_le_mul (by omega) h4
        have h6 : ((b : Int) * 2 ^ (8 * (4 - r))) = ((b * 256 ^ (4 - r) : Nat) : Int) := by rw [this]; push_cast; rfl
        rw [h6]
        have : (255 : Nat) * 256 ^ 4 = 1095216660480 := by decide
        omega)
      have HOR := Box.mk (show bits .or .i64 (wordAt (s.take k) (k / 5)) ((b * 256 ^ (4 - r) : Nat) : Int) = wordAt (s.take (k + 1)) (k / 5) from by
        have h1 := wordAt_lt (s.take k) (k / 5)
        have h2 := wordAt_lt (s.take (k + 1)) (k / 5)
        rw [HA.out.1] at h1
        rw [HA.out.2] at h2
        unfold lim40 at h1 h2
        rw [HA.out.1, HA.out.2, i64_or_nat _ _ (by omega) (by omega)]
        congr 1
        have e1 : (256 : Nat) ^ (5 - r) = 2 ^ (8 * (5 - r)) := by rw [Nat.pow_mul]
        have hlt2 : b * 256 ^ (4 - r) < 2 ^ (8 * (5 - r)) := by
          rw [← e1, show 5 - r = 4 - r + 1 from by omega, Nat.pow_succ, Nat.mul_comm]
          exact Nat.mul_lt_mul_of_pos_left hb256 (Nat.pow_pos (by omega))
        rw [e1, Nat.mul_comm A, ← Nat.two_pow_add_eq_or_of_lt hlt2])
      have HOR2 := Box.mk (show bits .or .i64 (wordAt (s.take k) (k / 5)) ((b : Int) * 256 ^ (4 - r)) = wordAt (s.take (k + 1)) (k / 5) from by
        have h := HOR.out
        rw [Int.natCast_mul, Int.natCast_pow] at h
        exact h)
      have HBD := Box.mk (show Blk wr.drew w1.heap.size 3 (intVals (textUp (s.take k) N)) from HB.out.1)
      have HC := Box.mk (HBD.out.cellOf (i := k / 5) (v := .int .i64 (wordAt (s.take k) (k / 5))) (by unfold intVals textUp; simp [hkN]))
      go_wp2_with fail
      refine wp_region_held_drew (S := fun _ => True) (by kernel_rfl) trivial (fun _ => ?_)
      refine wpAnyH_take (i := 0) (v := ?_) rfl (by kernel_rfl) (by kernel_rfl) (by kernel_rfl) (fun _ _ _ h => h) (yieldsIf_val (by rfl) (fun w' hS => ?_)) trivial ?_
      rotate_left
      · skip
        go_simp
        all_goals with_reducible rfl
      conv =>
        arg 8
        simp [go_sem]
      refine wpAnyH_take (i := 1) (v := ?_) rfl (by kernel_rfl) (by kernel_rfl) (by kernel_rfl) (fun _ _ _ h => h) (yieldsIf_val (by rfl) (fun w' hS => ?_)) trivial ?_
      rotate_left
      · skip
        go_simp
        all_goals with_reducible rfl
      conv =>
        arg 8
        simp [go_sem]
      refine wpAnyH_take (i := 2) (v := ?_) rfl (by kernel_rfl) (by kernel_rfl) (by kernel_rfl) (fun _ _ _ h => h) (yieldsIf_val (by rfl) (fun w' hS => ?_)) trivial ?_
      rotate_left
      · skip
        have q : IntKind.i64.wrap ((k : Int) / 5) = (k : Int) / 5 := by rw [IntKind.wrap_i64]; omega
        go_simp
        all_goals with_reducible rfl
      conv =>
        arg 8
        simp [go_sem]
      refine wpAnyH_take (i := 3) (v := ?_) rfl (by kernel_rfl) (by kernel_rfl) (by kernel_rfl) (fun _ _ _ h => h) (yieldsIf_val (by rfl) (fun w' hS => ?_)) trivial ?_
      rotate_left
      · skip
        have q0 : 0 ≤ (k : Int) / 5 := by omega
        have q1 : (k : Int) / 5 < (N : Int) := by omega
        go_simp
        all_goals with_reducible rfl
      conv =>
        arg 8
        simp [go_sem]
      refine wpAnyH_take (i := 5) (v := ?_) rfl (by kernel_rfl) (by kernel_rfl) (by kernel_rfl) (fun _ _ _ h => h) (yieldsIf_val (by rfl) (fun w' hS => ?_)) trivial ?_
      rotate_left
      · skip
        go_simp
        all_goals with_reducible rfl
      conv =>
        arg 8
        simp [go_sem]
      refine wpAnyH_take (i := 6) (v := ?_) rfl (by kernel_rfl) (by kernel_rfl) (by kernel_rfl) (fun _ _ _ h => h) (yieldsIf_val (by rfl) (fun w' hS => ?_)) trivial ?_
      rotate_left
      · skip
        go_simp
        all_goals with_reducible rfl
      conv =>
        arg 8
        simp [go_sem]
      refine wpAnyH_take (i := 7) (v := ?_) rfl (by kernel_rfl) (by kernel_rfl) (by kernel_rfl) (fun _ _ _ h => h) (yieldsIf_val (by rfl) (fun w' hS => ?_)) trivial ?_
      rotate_left
      · skip
        have q := HIX.out w'
        go_simp
        all_goals with_reducible rfl
      conv =>
        arg 8
        simp [go_sem]
      refine wpAnyH_take (i := 8) (v := ?_) rfl (by kernel_rfl) (by kernel_rfl) (by kernel_rfl) (fun _ _ _ h => h) (yieldsIf_val (by rfl) (fun w' hS => ?_)) trivial ?_
      rotate_left
      · skip
        have q : IntKind.i64.wrap (b : Int) = (b : Int) := by rw [IntKind.wrap_i64]; omega
        go_simp
        all_goals with_reducible rfl
      conv =>
        arg 8
        simp [go_sem]
      refine wpAnyH_take (i := 9) (v := ?_) rfl (by kernel_rfl) (by kernel_rfl) (by kernel_rfl) (fun _ _ _ h => h) (yieldsIf_val (by rfl) (fun w' hS => ?_)) trivial ?_
      rotate_left
      · skip
        go_simp
        all_goals with_reducible rfl
      conv =>
        arg 8
        simp [go_sem]
      refine wpAnyH_take (i := 10) (v := ?_) rfl (by kernel_rfl) (by kernel_rfl) (by kernel_rfl) (fun _ _ _ h => h) (yieldsIf_val (by rfl) (fun w' hS => ?_)) trivial ?_
      rotate_left
      · skip
        have q : (k : Int).tmod 5 = (r : Int) := by rw [Int.tmod_eq_emod_of_nonneg (by omega)]; exact HR.out
        go_simp
        all_goals with_reducible rfl
      conv =>
        arg 8
        simp [go_sem]
      refine wpAnyH_take (i := 11) (v := ?_) rfl (by kernel_rfl) (by kernel_rfl) (by kernel_rfl) (fun _ _ _ h => h) (yieldsIf_val (by rfl) (fun w' hS => ?_)) trivial ?_
      rotate_left
      · skip
        have q : IntKind.i64.wrap (4 - (r : Int)) = 4 - (r : Int) := by rw [IntKind.wrap_i64]; omega
        go_simp
        all_goals with_reducible rfl
      conv =>
        arg 8
        simp [go_sem]
      refine wpAnyH_take (i := 12) (v := ?_) rfl (by kernel_rfl) (by kernel_rfl) (by kernel_rfl) (fun _ _ _ h => h) (yieldsIf_val (by rfl) (fun w' hS => ?_)) trivial ?_
      rotate_left
      · skip
        have q : IntKind.i64.wrap (8 * (4 - (r : Int))) = 8 * (4 - (r : Int)) := by rw [IntKind.wrap_i64]; omega
        go_simp
        all_goals with_reducible rfl
      conv =>
        arg 8
        simp [go_sem]
      refine wpAnyH_take (i := 13) (v := ?_) rfl (by kernel_rfl) (by kernel_rfl) (by kernel_rfl) (fun _ _ _ h => h) (yieldsIf_val (by rfl) (fun w' hS => ?_)) trivial ?_
      rotate_left
      · skip
        have q0 : 0 ≤ 8 * (4 - (r : Int)) := by omega
        have q1 : 8 * (4 - (r : Int)) ≤ 64 := by omega
        have q := HV1.out
        go_simp
        all_goals with_reducible rfl
      conv =>
        arg 8
        simp [go_sem]
      conv =>
        arg 8
        simp [go_sem]
      refine wpAnyH_ready (rs := [4]) (by kernel_rfl) (by simp) ?_
      refine AllReadyH.cons rfl (fun K' hK' => ?_) AllReadyH.nil
      refine oper_load1 (by rfl) 3 (.tmp 17) rfl (by kernel_rfl) rfl HC.out ?_
      refine hK'.out _ _ trivial (fun _ => ?_)
      clear hK' K'
      conv =>
        arg 8
        simp [go_sem]
      refine wpAnyH_take (i := 14) (v := ?_) rfl (by kernel_rfl) (by kernel_rfl) (by kernel_rfl) (fun _ _ _ h => h) (yieldsIf_val (by rfl) (fun w' hS => ?_)) trivial ?_
      rotate_left
      · skip
        have q := HOR2.out
        go_simp
        all_goals with_reducible rfl
      conv =>
        arg 8
        simp [go_sem]
      refine wpAnyH_take (i := 15) (v := ?_) rfl (by kernel_rfl) (by kernel_rfl) (by kernel_rfl) (fun _ _ _ h => h) (yieldsIf_val (by rfl) (fun w' hS => ?_)) trivial ?_
      rotate_left
      · skip
        have q0 : 0 ≤ (k : Int) / 5 := by omega
        have q1 : (k : Int) / 5 < (N : Int) := by omega
        go_simp
        all_goals with_reducible rfl
      conv =>
        arg 8
        simp [go_sem]
      conv =>
        arg 8
        simp [go_sem]
      refine wpAnyH_ready (rs := [16]) (by kernel_rfl) (by simp) ?_
      refine AllReadyH.cons rfl (fun K' hK' => ?_) AllReadyH.nil
      refine oper_store_part (by rfl) 3 (.tmp 29) (.tmp 28) rfl rfl (size := 1) (off := k / 5) (by kernel_rfl) HBD.out (by rw [intVals_length, textUp_length]; omega) rfl (cs := [.int .i64 (wordAt (s.take (k + 1)) (k / 5))]) rfl rfl (by simp [Value.oneCell']) ?_
      refine hK'.out _ _ trivial (fun _ => ?_)
      clear hK' K'
      conv =>
        arg 8
        simp [go_sem]
      refine ⟨by kernel_rfl, ?_⟩
      conv =>
        arg 5
        simp [go_sem]
      have HB8 := Box.mk (HBD.out.row (splice (intVals (textUp (s.take k) N)) (k / 5) [.int .i64 (wordAt (s.take (k + 1)) (k / 5))]))
      rw [pack_splice s k N hkN] at HB8 ⊢
      have HW8 := Box.mk (below_setRow (show Below w1.heap.size w1 wr.drew from HB.out.2.drew) (Nat.le_refl w1.heap.size) (intVals (textUp (s.take (k + 1)) N)).toArray)
      generalize (wr.drew.setRow w1.heap.size (intVals (textUp (s.take (k + 1)) N)).toArray) = w8 at *
      go_wp2_with fail
      exact ⟨⟨k + 1, by omega, by first | omega | go_num, ⟨And.intro HB8.out HW8.out⟩⟩, by simp [intOf]; omega⟩
      done
    · obtain rfl : k = s.length := by omega
      go_wp2_with fail
      go_ret
      have hfin : textW s = textUp (s.take s.length) N := by unfold textW; rw [HNN.out, List.take_length]
      have hlen : (textW s).length = N := by rw [textW_length, HNN.out]
      refine ⟨HB.out.2, some ⟨w1.heap.size, 0, none⟩, N, by rw [hlen]; rfl, ?_⟩
      rw [hlen, hfin]
      exact own_new HB.out.1 (Nat.le_refl _) (by rw [intVals_length, textUp_length, Nat.mul_one]) (by unfold maxLen; omega)
end Go.Proofs.Ytpgdfhncigmmbaa
