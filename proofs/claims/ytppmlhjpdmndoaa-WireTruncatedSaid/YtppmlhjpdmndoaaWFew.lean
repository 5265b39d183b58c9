/-
  The walk of few. No condition.
-/
import Derived.Test.YtppmlhjpdmndoaaWSame2
namespace Go.Proofs.Ytppmlhjpdmndoaa
open Go.RowKit

/-- The total of the lengths of byte strings. -/
def totLen (ss : List (List UInt8)) : Nat := (ss.map List.length).sum

theorem totLen_take (xs : List (List UInt8)) (k : Nat) (hk : k < xs.length) : totLen (xs.take (k + 1)) = totLen (xs.take k) + (xs[k]).length := by
  unfold totLen; rw [List.take_succ_eq_append_getElem hk]; simp only [List.map_append, List.map_cons, List.map_nil, List.sum_append_nat, List.sum_cons, List.sum_nil, Nat.add_zero]
theorem totLen_take_le (xs : List (List UInt8)) (k : Nat) : totLen (xs.take k) ≤ totLen xs := by
  have : totLen xs = totLen (xs.take k) + totLen (xs.drop k) := by
    unfold totLen; rw [← List.sum_append_nat, ← List.map_append, List.take_append_drop]
  omega

set_option maxRecDepth 20000 in
set_option maxHeartbeats 1000000 in
theorem few_any (xs : List (List UInt8)) (a : Option Addr) (n cap : Nat) (w : World) (hrd : Rd w a n cap 1 (bstrVals xs)) (hs : n + totLen xs ≤ 4611686018427387904) :
    Calls Try.prog 11 #[.slice a n cap] w fun e w' => e = .returned (.bool (decide (n + totLen xs ≤ 2000))) ∧ w = w' := by
  have Hl := Lib.hid (show n = xs.length from by have := hrd.hlen; rw [bstrVals_length] at this; omega)
  go_enter Try.func11, Try.ntmps11
  go_wp2_with fail
  go_loop [3, 10] (fun s i => ∃ k : Nat, k ≤ n ∧ i = .int .i64 k ∧ s = .int .i64 ((n + totLen (xs.take k) : Nat) : Int))
    (fun _ i => n - (intOf i).toNat)
  case atStart => exact ⟨0, Nat.zero_le _, rfl, by simp [totLen]⟩
  case round =>
    obtain ⟨k, hk, rfl, rfl⟩ := hrel
    by_cases hlt : k < n
    · obtain ⟨b, off, rfl, hc⟩ := hrd.bstrAt k (by have := Hl.out; omega)
      have Ht := Lib.hid (totLen_take xs k (by have := Hl.out; omega))
      have hle := totLen_take_le xs (k + 1)
      rw [Ht.out] at hle
      generalize (xs[k]'(by have := Hl.out; omega)) = x at *
      generalize hT : totLen (xs.take k) = T at *
      have HT := Lib.hid hT; clear hT
      go_wp2_with fail
      go_round
      case rel => exact ⟨k + 1, by omega, by go_num, by rw [Ht.out]; go_num⟩
      case measure => simp [intOf]; omega
    · have hkn : k = n := by omega
      subst hkn
      have HE := Lib.hid (show xs.take k = xs from List.take_of_length_le (by have := Hl.out; omega))
      rw [HE.out]
      go_wp2_with fail
      go_ret
      refine ⟨?_, rfl⟩
      show Ending.returned (Value.bool (decide _)) = _
      congr 2
      simp
      omega
end Go.Proofs.Ytppmlhjpdmndoaa
