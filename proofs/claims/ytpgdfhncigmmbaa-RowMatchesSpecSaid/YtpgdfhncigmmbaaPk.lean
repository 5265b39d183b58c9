/-
  Plain mathematics of chapter 21: how Pack fills its words. No condition.
-/
import Derived.Test.YtpgdfhncigmmbaaWLong
namespace Go.Proofs.Ytpgdfhncigmmbaa
open Go.RowKit

theorem take_getD (s : List UInt8) (k i : Nat) : (s.take k).getD i 0 = if i < k then s.getD i 0 else 0 := by
  by_cases h : i < k
  · rw [if_pos h, List.getD_eq_getElem?_getD, List.getD_eq_getElem?_getD, List.getElem?_take_of_lt h]
  · rw [if_neg h, List.getD_eq_getElem?_getD, List.getElem?_eq_none (by rw [List.length_take]; omega)]; rfl
/-- A word of which no byte is turned. -/
theorem wordAt_other (s : List UInt8) (k j : Nat) (h : k / 5 ≠ j) : wordAt (s.take (k + 1)) j = wordAt (s.take k) j := by
  have key : ∀ i, i ≤ 5 → wordTo (s.take (k + 1)) j i = wordTo (s.take k) j i := by
    intro i hi
    induction i with
    | zero => rfl
    | succ i ih =>
      unfold wordTo
      rw [ih (by omega), take_getD, take_getD]
      have h1 : (5 * j + i < k + 1) = (5 * j + i < k) := by
        have : 5 * j + i ≠ k := by omega
        simp only [eq_iff_iff]; omega
      simp only [h1]
  unfold wordAt; rw [key 5 (Nat.le_refl _)]
theorem wordTo_in (s : List UInt8) (j r : Nat) : ∀ i, i ≤ r → wordTo (s.take (5 * j + r)) j i = wordTo s j i := by
  intro i hi
  induction i with
  | zero => rfl
  | succ i ih =>
    unfold wordTo
    rw [ih (by omega), take_getD, if_pos (by omega)]
theorem wordTo_pad (s : List UInt8) (j r : Nat) : ∀ d, wordTo (s.take (5 * j + r)) j (r + d) = wordTo s j r * 256 ^ d := by
  intro d
  induction d with
  | zero => rw [Nat.add_zero, wordTo_in s j r r (Nat.le_refl _), Nat.pow_zero, Nat.mul_one]
  | succ d ih =>
    show wordTo (s.take (5 * j + r)) j (r + d) * 256 + ((s.take (5 * j + r)).getD (5 * j + (r + d)) 0).toNat = _
    rw [ih, take_getD, if_neg (by omega), show (0 : UInt8).toNat = 0 from rfl, Nat.add_zero, Nat.pow_succ, Nat.mul_assoc]
/-- The word whose byte is laid. -/
theorem wordAt_hit (s : List UInt8) (k : Nat) : ∃ A : Nat, wordAt (s.take k) (k / 5) = ((A * 256 ^ (5 - k % 5) : Nat) : Int) ∧ wordAt (s.take (k + 1)) (k / 5) = ((A * 256 ^ (5 - k % 5) + (s.getD k 0).toNat * 256 ^ (4 - k % 5) : Nat) : Int) := by
  have hk : k = 5 * (k / 5) + k % 5 := by omega
  have hr : k % 5 < 5 := by omega
  generalize k / 5 = j at *
  generalize k % 5 = r at *
  subst hk
  refine ⟨wordTo s j r, ?_, ?_⟩
  · unfold wordAt
    rw [← wordTo_pad s j r (5 - r), show r + (5 - r) = 5 from by omega]
  · unfold wordAt
    have h := wordTo_pad s j (r + 1) (4 - r)
    rw [show r + 1 + (4 - r) = 5 from by omega] at h
    rw [show 5 * j + r + 1 = 5 * j + (r + 1) from by omega, h]
    congr 1
    show (wordTo s j r * 256 + (s.getD (5 * j + r) 0).toNat) * 256 ^ (4 - r) = _
    rw [Nat.add_mul, Nat.mul_assoc, show 5 - r = 4 - r + 1 from by omega, Nat.pow_succ, Nat.mul_comm (256 ^ (4 - r)) 256]
theorem pack_splice (s : List UInt8) (k N : Nat) (hk : k / 5 < N) : splice (intVals (textUp (s.take k) N)) (k / 5) [Value.int .i64 (wordAt (s.take (k + 1)) (k / 5))] = intVals (textUp (s.take (k + 1)) N) := by
  have hl : (intVals (textUp (s.take k) N)).length = N := by rw [intVals_length, textUp_length]
  have hs : splice (intVals (textUp (s.take k) N)) (k / 5) [Value.int .i64 (wordAt (s.take (k + 1)) (k / 5))] = (intVals (textUp (s.take k) N)).set (k / 5) (Value.int .i64 (wordAt (s.take (k + 1)) (k / 5))) := by
    unfold splice
    rw [List.set_eq_take_append_cons_drop, if_pos (by rw [hl]; exact hk)]; simp
  rw [hs]
  refine List.ext_getElem? fun i => ?_
  rw [List.getElem?_set]
  by_cases hi : k / 5 = i
  · subst hi
    rw [if_pos rfl, if_pos (by rw [hl]; exact hk)]
    simp [intVals, textUp, hk]
  · rw [if_neg hi]
    simp only [intVals, textUp, List.getElem?_map]
    by_cases hiN : i < N
    · rw [List.getElem?_range hiN]
      simp only [Option.map_some]
      rw [wordAt_other s k i hi]
    · rw [List.getElem?_eq_none (by simp; omega)]; simp only [Option.map_none]
end Go.Proofs.Ytpgdfhncigmmbaa
