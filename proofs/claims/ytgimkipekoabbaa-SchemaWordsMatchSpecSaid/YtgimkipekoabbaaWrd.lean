/-
  Plain mathematics of chapter 20: the words of a text. No condition.
-/
import Derived.Test.YtgimkipekoabbaaWAdd
namespace Go.Proofs.Ytgimkipekoabbaa
open Go.RowKit

/-- The word of the first i bytes from 5 k on. -/
def wordTo (l : List UInt8) (k : Nat) : Nat → Nat
  | 0 => 0
  | i + 1 => wordTo l k i * 256 + (l.getD (5 * k + i) 0).toNat
def wordAt (l : List UInt8) (k : Nat) : Int := (wordTo l k 5 : Nat)
/-- How many words a text has. -/
def nWords (n : Nat) : Nat := (n + 4) / 5
def textUp (l : List UInt8) (k : Nat) : List Int := (List.range k).map (wordAt l)
def textW (l : List UInt8) : List Int := textUp l (nWords l.length)
theorem textUp_succ (l : List UInt8) (k : Nat) : textUp l (k + 1) = textUp l k ++ [wordAt l k] := by simp [textUp, List.range_succ]
theorem textUp_length (l : List UInt8) (k : Nat) : (textUp l k).length = k := by simp [textUp]
theorem wordTo_lt (l : List UInt8) (k i : Nat) : wordTo l k i < 256 ^ i := by
  induction i with
  | zero => simp [wordTo]
  | succ i ih =>
    have := (l.getD (5 * k + i) 0).toNat_lt
    unfold wordTo
    rw [Nat.pow_succ]
    omega
theorem wordTo_lt5 (l : List UInt8) (k i : Nat) (hi : i < 5) : wordTo l k i < 4294967296 := by
  have h := wordTo_lt l k i
  have h2 : 256 ^ i ≤ 256 ^ 4 := Nat.pow_le_pow_right (by omega) (by omega)
  omega
theorem nWords_lt {n k : Nat} (h : k < nWords n) : 5 * k < n := by unfold nWords at h; omega
theorem nWords_le {n k : Nat} (h : ¬ 5 * k < n) (h2 : k ≤ nWords n) : k = nWords n := by unfold nWords at h2 ⊢; omega
theorem lt_nWords {n k : Nat} (h : 5 * k < n) : k < nWords n := by unfold nWords; omega

theorem i64_or_nat (p x : Nat) (hp : p < 9223372036854775808) (hx : x < 9223372036854775808) : bits .or .i64 (p : Int) (x : Int) = ((p ||| x : Nat) : Int) := by
  show IntKind.i64.wrap ((BitVec.ofInt 64 (p : Int) ||| BitVec.ofInt 64 (x : Int)).toNat : Int) = _
  have h1 : (BitVec.ofInt 64 (p : Int)).toNat = p := by rw [BitVec.toNat_ofInt]; omega
  have h2 : (BitVec.ofInt 64 (x : Int)).toNat = x := by rw [BitVec.toNat_ofInt]; omega
  have h3 : p ||| x < 2 ^ 63 := Nat.or_lt_two_pow hp hx
  rw [BitVec.toNat_or, h1, h2, IntKind.wrap_i64]
  omega
theorem or_low (p x k : Nat) (hx : x < 2 ^ k) : p * 2 ^ k ||| x = p * 2 ^ k + x := by
  have := Nat.two_pow_add_eq_or_of_lt hx p
  rw [Nat.mul_comm] at this
  exact this.symm
/-- 'n << 8 | b'. -/
theorem i64_or_byte (p x : Nat) (hp : p < 4294967296) (hx : x < 256) : bits .or .i64 ((p * 256 : Nat) : Int) (x : Int) = ((p * 256 + x : Nat) : Int) := by
  rw [i64_or_nat _ _ (by omega) (by omega), or_low p x 8 hx]
end Go.Proofs.Ytgimkipekoabbaa
