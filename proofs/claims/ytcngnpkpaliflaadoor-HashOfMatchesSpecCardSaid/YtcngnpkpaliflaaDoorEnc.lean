/-
  Plain mathematics of chapter 1: encodings of integers as lists of bytes. No condition.
-/
import Derived.WalkKit
namespace Go.Proofs.YtcngnpkpaliflaaDoor

/-- The digits of a natural number to the base 128, the lowest first, all but the last one with their highest bit set. -/
def encN (z : Nat) : List UInt8 := if z < 128 then [UInt8.ofNat z] else UInt8.ofNat (z % 128 + 128) :: encN (z / 128)
  termination_by z

theorem encN_small {z : Nat} (h : z < 128) : encN z = [UInt8.ofNat z] := by rw [encN, if_pos h]
theorem encN_big {z : Nat} (h : ¬ z < 128) : encN z = UInt8.ofNat (z % 128 + 128) :: encN (z / 128) := by rw [encN, if_neg h]

/-- The number that stands for an integer. -/
def zig (n : Int) : Nat := if n < 0 then (2 * (-1 - n) + 1).toNat else (2 * n).toNat

/-- The encoding of an integer. -/
def enc (n : Int) : List UInt8 := encN (zig n)

theorem zig_lt {n : Int} (h1 : -9223372036854775808 ≤ n) (h2 : n ≤ 9223372036854775807) : zig n < 18446744073709551616 := by
  unfold zig; split <;> omega

theorem encN_length (z : Nat) (k : Nat) (h : z < 128 ^ (k + 1)) : (encN z).length ≤ k + 1 ∧ 0 < (encN z).length := by
  induction k generalizing z with
  | zero => rw [encN_small (by simpa using h)]; simp
  | succ k ih =>
    by_cases hz : z < 128
    · rw [encN_small hz]; simp
    · rw [encN_big hz]
      have := ih (z / 128) (by rw [Nat.div_lt_iff_lt_mul (by omega)]; rw [Nat.pow_succ] at h; exact h)
      simp only [List.length_cons]; omega

theorem encN_len10 {z : Nat} (h : z < 18446744073709551616) : (encN z).length ≤ 10 ∧ 0 < (encN z).length :=
  encN_length z 9 (Nat.lt_of_lt_of_le h (by decide))

theorem zig_xor {n : Int} (h1 : -9223372036854775808 ≤ n) (h2 : n ≤ 9223372036854775807) :
    bits .xor .u64 (IntKind.u64.wrap (IntKind.u64.wrap n * 2)) (IntKind.u64.wrap (n / 9223372036854775808)) = (zig n : Int) := by
  have e : ∀ k : Int, IntKind.u64.wrap k = k % 18446744073709551616 := fun k => by simp [IntKind.wrap, IntKind.bits, IntKind.signed]
  simp only [e]
  unfold zig
  by_cases h : n < 0
  · rw [if_pos h, show (n / 9223372036854775808) % 18446744073709551616 = ((18446744073709551615 : Nat) : Int) from by omega,
      show (n % 18446744073709551616 * 2) % 18446744073709551616 = (((18446744073709551616 + 2 * n).toNat : Nat) : Int) from by omega,
      u64_xor_nat _ _ (by omega) (by omega)]
    have hx : ∀ m : Nat, m < 2 ^ 64 → m ^^^ 18446744073709551615 = 18446744073709551615 - m := by
      intro m hm
      have := congrArg BitVec.toNat (BitVec.xor_allOnes (x := BitVec.ofNat 64 m))
      simp only [BitVec.toNat_xor, BitVec.toNat_ofNat, BitVec.toNat_allOnes, BitVec.toNat_not, Nat.mod_eq_of_lt hm] at this
      simpa using this
    rw [hx _ (by omega)]
    omega
  · rw [if_neg h, show (n / 9223372036854775808) % 18446744073709551616 = ((0 : Nat) : Int) from by omega,
      show (n % 18446744073709551616 * 2) % 18446744073709551616 = (((2 * n).toNat : Nat) : Int) from by omega,
      u64_xor_nat _ _ (by omega) (by omega), Nat.xor_zero]

theorem or128 {a : Nat} (h : a < 128) : a ||| 128 = a + 128 := by
  rw [Nat.or_comm, nat_join 7 128 a (by decide) (by omega)]; omega

theorem byte_or {z : Nat} : bits .or .u8 ((z : Int) % 256) 128 = (((UInt8.ofNat (z % 128 + 128)).toNat : Nat) : Int) := by
  rw [show ((z : Int) % 256) = ((z % 256 : Nat) : Int) from by omega, show (128 : Int) = ((128 : Nat) : Int) from rfl, u8_or_nat _ _ (by omega) (by omega)]
  have hm : (UInt8.ofNat (z % 128 + 128)).toNat = z % 128 + 128 := by simp; omega
  rw [hm]
  by_cases h : z % 256 < 128
  · rw [or128 h]; omega
  · have h2 : z % 256 = 128 ||| (z % 128) := by rw [nat_join 7 128 (z % 128) (by decide) (by omega)]; omega
    have h3 : (128 ||| (z % 128)) ||| 128 = 128 ||| (z % 128) := by rw [Nat.or_comm, ← Nat.or_assoc, Nat.or_self]
    rw [h2, h3, nat_join 7 128 (z % 128) (by decide) (by omega)]; omega
theorem byte_small {z : Nat} (h : z < 128) : ((UInt8.ofNat z).toNat : Int) = (z : Int) := by
  have : (UInt8.ofNat z).toNat = z := by simp; omega
  rw [this]
end Go.Proofs.YtcngnpkpaliflaaDoor
