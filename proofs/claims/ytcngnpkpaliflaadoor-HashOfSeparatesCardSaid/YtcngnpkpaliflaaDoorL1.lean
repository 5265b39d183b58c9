/-
  The walks of HashCrcMatchesSpec and HashJoinMatchesSpec: each returns true and keeps what was there. No condition.
-/
import Derived.Test.YtcngnpkpaliflaaDoorWSane
namespace Go.Proofs.YtcngnpkpaliflaaDoor
open Go.RowKit

set_option maxRecDepth 20000 in
set_option maxHeartbeats 1000000 in
theorem crcSpec_walk (a : Option Addr) (n cap : Nat) (l : List UInt8) (w : World) (hrd : Rd w a n cap 1 (byteVals l)) (hM : Mem w) : Calls Tryd.prog 3 #[.slice a n cap] w (RetBool true w) := by
  have hmax := hrd.lenMax
  have Hl := Box.mk hrd.blen
  have hr0 := Box.mk hrd; clear hrd
  by_cases hn : n ≤ 600
  · have hst0 := run_string_rd (P := Tryd.prog) (src := 22) (dst := 9) (e := 5) (by kernel_rfl) (by kernel_rfl) (by kernel_rfl) hr0.out
    have hc := crc_lt l
    go_enter Tryd.func3, Tryd.ntmps3
    go_wp2_with fail
    refine (sanity_any w hM).mono ?_
    rintro e w1 ⟨rfl, hb1⟩
    have M1 := hM.call0 hb1
    have r1 := hr0.out.call0 hb1
    have hst1 := run_string_rd (P := Tryd.prog) (src := 22) (dst := 9) (e := 5) (by kernel_rfl) (by kernel_rfl) (by kernel_rfl) r1
    have R1 := Box.mk r1; clear r1 hst0
    go_wp2_with fail
    refine (crc40_any l a n cap w1 R1.out (by omega) M1.tabs).mono ?_
    rintro e w2 ⟨rfl, hb2⟩
    have hcc := refCrc_any l
    generalize crc l = c at *
    have hc1 : decide ((c : Int) < 1099511627776) = true := by simp; omega
    have hc2 : decide ((c : Int) ≥ 0) = true := by simp
    clear hc
    have M2 := M1.call0 hb2
    have B2 := hb1.call0 (Nat.le_refl _) hb2
    have r2 := R1.out.call0 hb2
    clear R1 M1 hb1 hb2 hst1
    go_wp2_with ((with_reducible show wpList _ _ _ _ _ _); refine wpList_str_bytes (o := ⟨some 19, _, _, _, _, _⟩) rfl 9 22 (.tmp 18) rfl u9 sl22.ht u5 (l := l) (by rw [Hl.out]; unfold maxLen; omega) rfl ?_; intro a3 cap3 w3 R3 hb3; rw [Hl.out] at R3 ⊢)
    refine (hcc a3 n cap3 w3 R3).mono ?_
    clear hcc
    rintro e w4 ⟨rfl, rfl⟩
    have B3 := B2.call0 (Nat.le_refl _) hb3
    have r3 := r2.call0 hb3
    have hst3 := run_string_rd (P := Tryd.prog) (src := 22) (dst := 9) (e := 5) (by kernel_rfl) (by kernel_rfl) (by kernel_rfl) r3
    clear r2 r3 R3 B2 hb3
    go_wp2_with fail
    go_ret
    exact ⟨rfl, B3⟩
  · go_enter Tryd.func3, Tryd.ntmps3
    go_wp2_with (go_at_call 15; refine (sanity_any w hM).mono ?_; rintro e w1 ⟨rfl, hb1⟩)
    go_ret
    exact ⟨rfl, hb1⟩

theorem joinN (a b : Int) (n : Int) (h0 : 0 ≤ n) (hn : n ≤ 9223372036854775807) (w : World) (hT : Tabs w) : Calls Tryd.prog 26 #[.int .i64 a, .int .i64 b, .int .i64 n] w fun e w' => e = .returned (.int .i64 (join a b n.toNat : Int)) ∧ w = w' := by
  obtain ⟨k, rfl⟩ := Int.eq_ofNat_of_zero_le h0
  exact join_any a b k (by omega) w hT
theorem refJoinN (a b : Int) (n : Int) (h0 : 0 ≤ n) (hn : n ≤ 300) (w : World) : Calls Tryd.prog 27 #[.int .i64 a, .int .i64 b, .int .i64 n] w fun e w' => e = .returned (.int .i64 (join a b n.toNat : Int)) ∧ w = w' := by
  obtain ⟨k, rfl⟩ := Int.eq_ofNat_of_zero_le h0
  exact refJoin_any a b k (by omega) w

set_option maxRecDepth 20000 in
set_option maxHeartbeats 1000000 in
theorem joinSpec_walk (a b n : Int) (h1 : -9223372036854775808 ≤ n) (h2 : n ≤ 9223372036854775807) (w : World) (hM : Mem w) : Calls Tryd.prog 6 #[.int .i64 a, .int .i64 b, .int .i64 n] w (RetBool true w) := by
  by_cases hn : n ≤ 300
  · by_cases h0 : 0 ≤ n
    · go_enter Tryd.func6, Tryd.ntmps6
      go_wp2_with fail
      refine (sanity_any w hM).mono ?_
      rintro e w1 ⟨rfl, hb1⟩
      have M1 := hM.call0 hb1
      go_wp2_with fail
      refine (joinN a b n h0 h2 w1 M1.tabs).mono ?_
      rintro e w2 ⟨rfl, rfl⟩
      go_wp2_with fail
      refine (refJoinN a b n h0 hn w1).mono ?_
      rintro e w2 ⟨rfl, rfl⟩
      go_wp2_with fail
      go_ret
      exact ⟨rfl, hb1⟩
    · go_enter Tryd.func6, Tryd.ntmps6
      go_wp2_with fail
      refine (sanity_any w hM).mono ?_
      rintro e w1 ⟨rfl, hb1⟩
      go_wp2_with fail
      refine (join_neg a b n (by omega) w1).mono ?_
      rintro e w2 ⟨rfl, rfl⟩
      go_wp2_with fail
      refine (refJoin_neg a b n (by omega) w1).mono ?_
      rintro e w2 ⟨rfl, rfl⟩
      go_wp2_with fail
      go_ret
      exact ⟨rfl, hb1⟩
  · go_enter Tryd.func6, Tryd.ntmps6
    go_wp2_with (go_at_call 15; refine (sanity_any w hM).mono ?_; rintro e w1 ⟨rfl, hb1⟩)
    go_ret
    exact ⟨rfl, hb1⟩
end Go.Proofs.YtcngnpkpaliflaaDoor
