/-
  The walks of rotations. No condition.
-/
import Derived.Test.YtcngnpkpaliflaaDoorRows
import Derived.Test.YtcngnpkpaliflaaDoorBlk
import Derived.Deep.QuietTactic
import Derived.Test.YtcngnpkpaliflaaDoorMask
import Derived.Test.YtcngnpkpaliflaaDoorSha
namespace Go.Proofs.YtcngnpkpaliflaaDoor
open Go.RowKit

theorem rot_word (x : UInt32) (n : Nat) : bits .or .u32 ((x.toNat * 2 ^ (32 - n) % 4294967296 : Nat) : Int) ((x.toNat / 2 ^ n : Nat) : Int) = ((rot x n).toNat : Int) := by
  have hx := x.toNat_lt
  have h1 : x.toNat / 2 ^ n ≤ x.toNat := Nat.div_le_self _ _
  have h2 : x.toNat * 2 ^ (32 - n) % 4294967296 < 4294967296 := Nat.mod_lt _ (by omega)
  rw [u32_or_nat _ _ h2 (by omega)]
  unfold rot
  have h3 : x.toNat / 2 ^ n ||| x.toNat * 2 ^ (32 - n) % 4294967296 < 4294967296 := Nat.or_lt_two_pow (n := 32) (by omega) h2
  rw [Nat.or_comm, show (UInt32.ofNat (x.toNat / 2 ^ n ||| x.toNat * 2 ^ (32 - n) % 4294967296)).toNat = x.toNat / 2 ^ n ||| x.toNat * 2 ^ (32 - n) % 4294967296 from by rw [UInt32.toNat_ofNat']; exact Nat.mod_eq_of_lt h3]

theorem rot_int (x : UInt32) (n : Nat) : bits .or .u32 ((x.toNat : Int) * 2 ^ (32 - n) % 4294967296) ((x.toNat : Int) / 2 ^ n) = ((rot x n).toNat : Int) := by
  rw [← rot_word]; simp
theorem rot_int' (x : UInt32) (n : Nat) : bits .or .u32 ((x.toNat : Int) / 2 ^ n) ((x.toNat : Int) * 2 ^ (32 - n) % 4294967296) = ((rot x n).toNat : Int) := by
  rw [← rot_int]; simp only [bits, BitVec.or_comm]

set_option maxRecDepth 20000 in
set_option maxHeartbeats 1000000 in
theorem rotl_any (x : UInt32) (n : Nat) (h0 : 0 < n) (hn : n < 32) (w : World) :
    Calls Tryd.prog 55 #[.int .u32 (x.toNat : Int), .int .i64 (-(n : Int))] w fun e w' => e = .returned (.int .u32 ((rot x n).toNat : Int)) ∧ w = w' := by
  have hx := x.toNat_lt
  have h3 : 32 - (32 - n) = n := by omega
  have H3 := Lib.hid h3; clear h3
  have hs : bits .and .u64 (IntKind.u64.wrap (-(n : Int))) 31 = 32 - (n : Int) := by
    rw [u64wrap, show (-(n : Int)) % 18446744073709551616 = ((18446744073709551616 - n : Nat) : Int) from by omega, show (31 : Int) = ((31 : Nat) : Int) from rfl, u64_and_nat _ _ (by omega) (by omega),
      show (18446744073709551616 - n) &&& 31 = (18446744073709551616 - n) % 32 from Nat.and_two_pow_sub_one_eq_mod _ 5]
    omega
  go_enter Tryd.func55, Tryd.ntmps55
  go_wp2_with fail
  go_ret
  exact ⟨congrArg (fun v => Ending.returned (Value.int .u32 v)) (by rw [H3.out]; exact rot_int x n), rfl⟩

set_option maxRecDepth 20000 in
set_option maxHeartbeats 1000000 in
theorem rotr_any (x : UInt32) (n : Nat) (h0 : 0 < n) (hn : n < 32) (w : World) :
    Calls Tryd.prog 46 #[.int .u32 (x.toNat : Int), .int .i64 (n : Int)] w fun e w' => e = .returned (.int .u32 ((rot x n).toNat : Int)) ∧ ∃ m, w' = w.drewN m := by
  have hx := x.toNat_lt
  have h32 : IntKind.i64.wrap (32 - (n : Int)) = 32 - (n : Int) := IntWalk.i64_in _ (by omega)
  go_enter Tryd.func46, Tryd.ntmps46
  go_wp2_with fail
  go_quiet (fail)
  go_wp2_with fail
  go_ret
  exact ⟨congrArg (fun v => Ending.returned (Value.int .u32 v)) (rot_int' x n), _, rfl⟩

theorem u32_xor_word (x y : UInt32) : bits .xor .u32 (x.toNat : Int) (y.toNat : Int) = ((x ^^^ y).toNat : Int) := by
  have hx := x.toNat_lt; have hy := y.toNat_lt
  rw [u32_xor_nat _ _ (by omega) (by omega), UInt32.toNat_xor]
theorem u32_and_word (x y : UInt32) : bits .and .u32 (x.toNat : Int) (y.toNat : Int) = ((x &&& y).toNat : Int) := by
  have hx := x.toNat_lt; have hy := y.toNat_lt
  rw [u32_and_nat _ _ (by omega) (by omega), UInt32.toNat_and]
theorem u32_add_word (x y : UInt32) : ((x.toNat : Int) + (y.toNat : Int)) % 4294967296 = ((x + y).toNat : Int) := by
  rw [UInt32.toNat_add]; omega

set_option maxRecDepth 20000 in
set_option maxHeartbeats 1000000 in
theorem mix_any (x : UInt32) (i j k : Nat) (hi0 : 0 < i) (hi : i < 32) (hj0 : 0 < j) (hj : j < 32) (hk0 : 0 < k) (hk : k < 32) (w : World) :
    Calls Tryd.prog 52 #[.int .u32 (x.toNat : Int), .int .i64 (i : Int), .int .i64 (j : Int), .int .i64 (k : Int)] w fun e w' => e = .returned (.int .u32 ((rot x i ^^^ rot x j ^^^ rot x k).toNat : Int)) ∧ w = w' := by
  have C1 := Lib.hid (rotl_any x i hi0 hi)
  have C2 := Lib.hid (rotl_any x j hj0 hj)
  have C3 := Lib.hid (rotl_any x k hk0 hk)
  generalize rot x i = a at *
  generalize rot x j = b at *
  generalize rot x k = c at *
  have h1 := u32_xor_word a b
  have h2 := u32_xor_word (a ^^^ b) c
  generalize hz : a ^^^ b ^^^ c = z at *
  have HZ := Lib.hid hz; clear hz
  generalize a ^^^ b = y at *
  go_enter Tryd.func52, Tryd.ntmps52
  go_wp2_with fail
  refine (C1.out _).mono ?_
  rintro e w1 ⟨rfl, rfl⟩
  go_wp2_with fail
  refine (C2.out _).mono ?_
  rintro e w1 ⟨rfl, rfl⟩
  go_wp2_with fail
  refine (C3.out _).mono ?_
  rintro e w1 ⟨rfl, rfl⟩
  go_wp2_with fail
  go_ret
  refine ⟨?_, rfl⟩
  show Ending.returned (Value.int .u32 (z.toNat : Int)) = _
  rw [← HZ.out]
end Go.Proofs.YtcngnpkpaliflaaDoor
