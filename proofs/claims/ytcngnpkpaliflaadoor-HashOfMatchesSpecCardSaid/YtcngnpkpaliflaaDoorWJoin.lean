/-
  The walks of Join, program and reference, and of Crc40. No condition.
-/
import Derived.Test.YtcngnpkpaliflaaDoorWStep
import Derived.Test.YtcngnpkpaliflaaDoorMask
namespace Go.Proofs.YtcngnpkpaliflaaDoor
open Go.RowKit

/-- The lowest 40 bits of an integer. -/
def lo40 (a : Int) : BitVec 40 := BitVec.ofInt 40 a
theorem lo40_nat (a : Int) : ((lo40 a).toNat : Int) = a % 1099511627776 := by
  unfold lo40; rw [BitVec.toNat_ofInt]; omega
theorem lo40_word (a : Int) : bits .and .u64 (IntKind.u64.wrap a) 1099511627775 = ((lo40 a).toNat : Int) := by
  rw [u64wrap]
  obtain ⟨k, hk⟩ : ∃ k : Nat, a % 18446744073709551616 = (k : Int) := ⟨(a % 18446744073709551616).toNat, by omega⟩
  rw [lo40_nat, hk, show (1099511627775 : Int) = ((1099511627775 : Nat) : Int) from rfl, u64_and_nat _ _ (by omega) (by omega), show k &&& 1099511627775 = k % 1099511627776 from Nat.and_two_pow_sub_one_eq_mod _ 40]
  omega

/-- The check of two messages, of which the second one has n bytes. -/
def join (a b : Int) (n : Nat) : Nat := (mulX (8 * n) (lo40 a) ^^^ lo40 b).toNat

theorem mulX_sq (s t : Nat) : mul (mulX s 1#40) (mulX t 1#40) = mulX (s + t) 1#40 := by rw [mul_mulX, one_mul', ← mulX_add, Nat.add_comm]
theorem mul_pow (o : BitVec 40) (t : Nat) : mul o (mulX t 1#40) = mulX t o := (mulX_mul t o).symm

theorem dbl (q x : Nat) : 8 * (2 * q) * x = 16 * (q * x) := by rw [show 8 * (2 * q) = 16 * q from by omega, Nat.mul_assoc]
theorem join_odd (q m : Nat) (o : BitVec 40) (h : m % 2 = 1) : mulX (8 * (2 * q) * (m / 2)) (mul o (mulX (8 * q) 1#40)) = mulX (8 * q * m) o := by
  rw [mul_pow, ← mulX_add, dbl]
  congr 1
  generalize hx : m / 2 = x
  have : m = 2 * x + 1 := by omega
  rw [this, Nat.mul_assoc 8 q, Nat.mul_add, Nat.mul_left_comm q 2 x]; omega
theorem join_even (q m : Nat) (o : BitVec 40) (h : m % 2 = 0) : mulX (8 * (2 * q) * (m / 2)) o = mulX (8 * q * m) o := by
  rw [dbl]
  congr 1
  generalize hx : m / 2 = x
  have : m = 2 * x := by omega
  rw [this, Nat.mul_assoc 8 q, Nat.mul_left_comm q 2 x]; omega

set_option maxRecDepth 20000 in
set_option maxHeartbeats 4000000 in
theorem join_any (a b : Int) (n : Nat) (hn : n ≤ 9223372036854775807) (w : World) (hT : Tabs w) :
    Calls Tryd.prog 26 #[.int .i64 a, .int .i64 b, .int .i64 (n : Int)] w fun e w' => e = .returned (.int .i64 (join a b n : Int)) ∧ w = w' := by
  have hA := lo40_word a
  have hB := lo40_word b
  have hlb : (lo40 b).toNat < 1099511627776 := (lo40 b).isLt
  go_enter Tryd.func26, Tryd.ntmps26
  go_wp2_with fail
  have HA := Lib.hid hA; have HB := Lib.hid hB; clear hA hB
  go_loop [2, 7, 8] (fun m o p => ∃ (m' q : Nat) (o' : BitVec 40), m' ≤ 9223372036854775807 ∧ m = .int .i64 m' ∧ o = .int .u64 (o'.toNat : Int) ∧ p = .int .u64 ((mulX (8 * q) 1#40).toNat : Int) ∧ Hid (mulX (8 * q * m') o' = mulX (8 * n) (lo40 a))) (fun m _ _ => (intOf m).toNat)
  case atStart => exact ⟨n, 1, lo40 a, hn, rfl, rfl, by rfl, by show _ = _; rw [Nat.mul_one]⟩
  case round =>
    obtain ⟨m, q, o, hm, rfl, rfl, rfl, HE⟩ := hrel
    have ho := o.isLt
    have hsq := Lib.hid (show mul (mulX (8 * q) 1#40) (mulX (8 * q) 1#40) = mulX (8 * (2 * q)) 1#40 from by rw [mulX_sq]; congr 1; omega)
    by_cases h0 : 0 < m
    · rcases (show m % 2 = 0 ∨ m % 2 = 1 by omega) with h2 | h2
      · have hj := Lib.hid (join_even q m o h2)
        have hbit : (bits .and .i64 (m : Int) 1 == 1) = false := by rw [i64_and1, beq_eq_false_iff_ne]; omega
        generalize mulX (8 * q) 1#40 = p at *
        go_wp2_with fail
        refine (times_any p p _ hT).mono ?_
        rintro e w1 ⟨rfl, rfl⟩
        rw [hsq.out]
        go_wp2_with fail
        go_round
        case rel => exact ⟨m / 2, 2 * q, o, by omega, by go_num, rfl, rfl, by show _ = _; rw [hj.out]; exact HE.out⟩
        case measure => simp [intOf]; omega
      · have hj := Lib.hid (join_odd q m o h2)
        have hbit : (bits .and .i64 (m : Int) 1 == 1) = true := by rw [i64_and1, beq_iff_eq]; omega
        generalize mulX (8 * q) 1#40 = p at *
        go_wp2_with fail
        refine (times_any o p _ hT).mono ?_
        rintro e w1 ⟨rfl, rfl⟩
        go_wp2_with fail
        refine (times_any p p _ hT).mono ?_
        rintro e w1 ⟨rfl, rfl⟩
        rw [hsq.out]
        go_wp2_with fail
        go_round
        case rel => exact ⟨m / 2, 2 * q, mul o p, by omega, by go_num, rfl, rfl, by show _ = _; rw [hj.out]; exact HE.out⟩
        case measure => simp [intOf]; omega
    · have h00 : m = 0 := by omega
      subst h00
      have hO : Hid (o = mulX (8 * n) (lo40 a)) := by have := HE.out; rw [Nat.mul_zero] at this; exact this
      have hX : bits .xor .u64 (o.toNat : Int) ((lo40 b).toNat : Int) = ((join a b n : Nat) : Int) := by
        rw [u64_xor_nat _ _ (by omega) (by omega)]; unfold join; rw [hO.out, BitVec.toNat_xor]
      have hJ : join a b n < 1099511627776 := (mulX (8 * n) (lo40 a) ^^^ lo40 b).isLt
      generalize hz : join a b n = z at *
      have HZ := Lib.hid hz; clear hz
      have hB := HB.out
      go_wp2_with fail
      go_ret
      refine ⟨?_, rfl⟩
      show Ending.returned (Value.int .i64 (z : Int)) = _
      rw [HZ.out]

theorem join_neg (a b n : Int) (hn : n < 0) (w : World) : Calls Tryd.prog 26 #[.int .i64 a, .int .i64 b, .int .i64 n] w fun e w' => e = .returned (.int .i64 0) ∧ w = w' := by
  go_enter Tryd.func26, Tryd.ntmps26
  go_wp2_with fail
  go_ret
  exact ⟨rfl, rfl⟩
theorem refJoin_neg (a b n : Int) (hn : n < 0) (w : World) : Calls Tryd.prog 27 #[.int .i64 a, .int .i64 b, .int .i64 n] w fun e w' => e = .returned (.int .i64 0) ∧ w = w' := by
  go_enter Tryd.func27, Tryd.ntmps27
  go_wp2_with fail
  go_ret
  exact ⟨rfl, rfl⟩

theorem step0_any (r : BitVec 40) (w : World) : Calls Tryd.prog 40 #[.int .u64 (r.toNat : Int), .int .u64 0] w fun e w' => e = .returned (.int .u64 ((stp r false).toNat : Int)) ∧ w = w' := step_any r false w

set_option maxRecDepth 20000 in
set_option maxHeartbeats 2000000 in
theorem refJoin_any (a b : Int) (n : Nat) (hn : n ≤ 300) (w : World) :
    Calls Tryd.prog 27 #[.int .i64 a, .int .i64 b, .int .i64 (n : Int)] w fun e w' => e = .returned (.int .i64 (join a b n : Int)) ∧ w = w' := by
  have hA := lo40_word a
  have hB := lo40_word b
  have hlb : (lo40 b).toNat < 1099511627776 := (lo40 b).isLt
  go_enter Tryd.func27, Tryd.ntmps27
  go_wp2_with fail
  have HA := Lib.hid hA; have HB := Lib.hid hB; clear hA hB
  go_loop [7, 8] (fun o i => ∃ k : Nat, k ≤ 8 * n ∧ i = .int .i64 k ∧ o = .int .u64 ((mulX k (lo40 a)).toNat : Int)) (fun _ i => 8 * n - (intOf i).toNat)
  case atStart => exact ⟨0, by omega, rfl, rfl⟩
  case round =>
    obtain ⟨k, hk, rfl, rfl⟩ := hrel
    by_cases hlt : k < 8 * n
    · have hS := Lib.hid (show stp (mulX k (lo40 a)) false = mulX (k + 1) (lo40 a) from by rw [mulX_add]; rfl)
      go_wp2_with fail
      refine (step0_any _ _).mono ?_
      rintro e w1 ⟨rfl, rfl⟩
      rw [hS.out]
      go_wp2_with fail
      go_round
      case rel => exact ⟨k + 1, by omega, by go_num, rfl⟩
      case measure => simp [intOf]; omega
    · have h00 : k = 8 * n := by omega
      subst h00
      have ho := (mulX (8 * n) (lo40 a)).isLt
      have hX : bits .xor .u64 ((mulX (8 * n) (lo40 a)).toNat : Int) ((lo40 b).toNat : Int) = ((join a b n : Nat) : Int) := by
        rw [u64_xor_nat _ _ (by omega) (by omega)]; unfold join; rw [BitVec.toNat_xor]
      have hJ : join a b n < 1099511627776 := (mulX (8 * n) (lo40 a) ^^^ lo40 b).isLt
      generalize hz : join a b n = z at *
      have HZ := Lib.hid hz; clear hz
      have hB := HB.out
      go_wp2_with fail
      go_ret
      refine ⟨?_, rfl⟩
      show Ending.returned (Value.int .i64 (z : Int)) = _
      rw [HZ.out]
end Go.Proofs.YtcngnpkpaliflaaDoor
