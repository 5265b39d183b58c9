/-
  The machine's words at the decoding of an integer. No condition.
-/
import Derived.Test.YtppmlhjpdmndoaaDec
import Derived.Laws.DeepNot64
namespace Go.Proofs.Ytppmlhjpdmndoaa

theorem u64wrap (k : Int) : IntKind.u64.wrap k = k % 18446744073709551616 := by simp [IntKind.wrap, IntKind.bits, IntKind.signed]

theorem pow128 (k : Nat) : 128 ^ k = 2 ^ (7 * k) := by rw [Nat.pow_mul]

theorem or_digit {k c z : Nat} (hk : k ≤ 9) (hc : c < 256) (hk9 : k = 9 → c ≤ 1) (hz : z < 128 ^ k) :
    ∃ z' : Nat, z' = z + (c % 128) * 128 ^ k ∧ z' < 18446744073709551616 ∧
      bits .or .u64 (z : Int) (IntKind.u64.wrap (IntKind.u64.wrap (bits .and .u8 (c : Int) 127) * 2 ^ (7 * k))) = (z' : Int) := by
  have hp : 0 < 128 ^ k := Nat.pos_of_ne_zero (by simp)
  have hb : (c % 128 + 1) * 128 ^ k ≤ 18446744073709551616 := by
    by_cases h : k = 9
    · subst h; have := hk9 rfl; have h2 : c % 128 + 1 ≤ 2 := by omega
      exact Nat.le_trans (Nat.mul_le_mul_right _ h2) (by decide)
    · have h2 : 128 ^ k ≤ 128 ^ 8 := Nat.pow_le_pow_right (by omega) (by omega)
      exact Nat.le_trans (Nat.mul_le_mul (show c % 128 + 1 ≤ 128 by omega) h2) (by decide)
  have hz' : z + (c % 128) * 128 ^ k < 18446744073709551616 := by rw [Nat.add_mul, Nat.one_mul] at hb; omega
  refine ⟨_, rfl, hz', ?_⟩
  rw [show (127 : Int) = ((127 : Nat) : Int) from rfl, u8_and_nat _ _ hc (by omega), nat_mask7, u64wrap, u64wrap]
  have e1 : (((c % 128 : Nat) : Int) % 18446744073709551616 * 2 ^ (7 * k)) % 18446744073709551616 = (((c % 128) * 128 ^ k : Nat) : Int) := by
    have e2 : (((c % 128 : Nat) : Int) % 18446744073709551616) = ((c % 128 : Nat) : Int) := by omega
    have e3 : ((2 : Int) ^ (7 * k)) = ((128 ^ k : Nat) : Int) := by rw [pow128]; simp
    rw [e2, e3, ← Int.natCast_mul]
    generalize (c % 128) * 128 ^ k = y at *
    omega
  rw [e1, u64_or_nat _ _ (by generalize (c % 128) * 128 ^ k = y at *; omega) (by generalize (c % 128) * 128 ^ k = y at *; omega), Nat.or_comm,
    nat_join (7 * k) _ _ (by rw [pow128]; exact Nat.mul_mod_left _ _) (by rw [← pow128]; exact hz), Nat.add_comm]

theorem i64_not' (a : Nat) (ha : a < 9223372036854775808) : bits .xor .i64 (a : Int) (-1) = -1 - (a : Int) := by
  rw [← i64_not a ha]
  simp [bits, BitVec.xor_comm]

theorem i64_xor0 (a : Nat) (ha : a < 9223372036854775808) : bits .xor .i64 (a : Int) (-((0 : Nat) : Int)) = (a : Int) := by
  have h : bits .xor .i64 (a : Int) (-((0 : Nat) : Int)) = IntKind.i64.wrap ((a : Int) % 18446744073709551616) := by
    simp [bits, IntKind.bits]
    have e : (BitVec.ofNat 64 a ^^^ 0#64).toNat = a % 18446744073709551616 := by rw [BitVec.xor_zero, BitVec.toNat_ofNat]
    exact congrArg (fun t : Nat => IntKind.i64.wrap (t : Int)) e
  rw [h, show ((a : Int) % 18446744073709551616) = (a : Int) from by omega]
  exact IntWalk.i64_in _ (by omega)

theorem unzig_word {z : Nat} (hz : z < 18446744073709551616) : bits .xor .i64 ((z : Int) / 2) (-(bits .and .u64 (z : Int) 1)) = unzig z := by
  rw [show (1 : Int) = ((1 : Nat) : Int) from rfl, u64_and_nat _ _ hz (by omega), nat_mask1]
  unfold unzig
  by_cases h : z % 2 = 1
  · rw [if_pos h, h, show ((z : Int) / 2) = ((z / 2 : Nat) : Int) from by omega, show (-((1 : Nat) : Int)) = (-1 : Int) from rfl, i64_not' _ (by omega)]
  · have h0 : z % 2 = 0 := by omega
    rw [if_neg h, h0, show ((z : Int) / 2) = ((z / 2 : Nat) : Int) from by omega]
    have hy : (z / 2) < 9223372036854775808 := by omega
    generalize z / 2 = y at *
    exact i64_xor0 y hy
theorem and1_word {z : Nat} (hz : z < 18446744073709551616) : bits .and .u64 (z : Int) 1 = ((z % 2 : Nat) : Int) := by
  rw [show (1 : Int) = ((1 : Nat) : Int) from rfl, u64_and_nat _ _ hz (by omega), nat_mask1]
theorem unzig_word2 {z : Nat} (hz : z < 18446744073709551616) : bits .xor .i64 ((z : Int) / 2) (-((z : Int) % 2)) = unzig z := by
  rw [← unzig_word hz, and1_word hz]; congr 1
end Go.Proofs.Ytppmlhjpdmndoaa
