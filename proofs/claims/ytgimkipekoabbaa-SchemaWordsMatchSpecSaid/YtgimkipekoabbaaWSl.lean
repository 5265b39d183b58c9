/-
  The walks of slices.Index, Contains at lists of integers. No condition.
-/
import Derived.Test.YtgimkipekoabbaaWIdxI
import Derived.Lib.SliceRun
namespace Go.Proofs.Ytgimkipekoabbaa
open Go.RowKit

/-- The place of a number, or -1. -/
def idx (l : List Int) (x : Int) : Int := if x ∈ l then (l.idxOf x : Int) else -1

set_option maxRecDepth 20000 in
set_option maxHeartbeats 1000000 in
theorem index_any (l : List Int) (x : Int) (a : Option Addr) (n cap : Nat) (w : World) (hrd : Rd w a n cap 1 (intVals l)) :
    Calls Try.prog 82 #[.slice a n cap, .int .i64 x] w fun e w' => e = .returned (.int .i64 (idx l x)) ∧ w' = w := by
  have hln := hrd.ilen
  have hmax := hrd.lenMax
  have R := Box.mk hrd; clear hrd
  go_enter Try.func82, Try.ntmps82
  go_wp2_with fail
  go_loopw [8] (fun i wr => ∃ k : Nat, k ≤ n ∧ i = .int .i64 k ∧ (∀ j, j < k → l.getD j 0 ≠ x) ∧ wr = w) (fun i _ => n - (intOf i).toNat)
  case atStart => exact ⟨0, Nat.zero_le _, rfl, fun j h => by omega, rfl⟩
  case round =>
    obtain ⟨k, hk, rfl, hne, rfl⟩ := hrel
    have HNE := Box.mk hne; clear hne
    by_cases hl : k < n
    · obtain ⟨g, off, rfl, hc⟩ := R.out.intAtD k hl
      by_cases hx : x = l.getD k 0
      · have hxx : (x == l.getD k 0) = true := by simp only [beq_iff_eq]; exact hx
        have hidx : idx l x = (k : Int) := by
          have hkl : k < l.length := by omega
          have e : l.getD k 0 = l[k] := by rw [List.getD_eq_getElem?_getD, List.getElem?_eq_getElem hkl]; rfl
          have hm : x ∈ l := by rw [hx, e]; exact List.getElem_mem hkl
          unfold idx
          rw [if_pos hm]
          have h2 : l.idxOf x = k := by
            have h3 : l.idxOf x < l.length := List.idxOf_lt_length_iff.2 hm
            have h4 : l[l.idxOf x] = x := List.getElem_idxOf h3
            rcases Nat.lt_trichotomy (l.idxOf x) k with h5 | h5 | h5
            · exact absurd (by rw [List.getD_eq_getElem?_getD, List.getElem?_eq_getElem h3]; exact h4) (HNE.out _ h5)
            · exact h5
            · have h6 := List.not_of_lt_findIdx (p := (· == x)) (xs := l) (i := k) h5
              simp only [beq_eq_false_iff_ne] at h6
              exact absurd (hx.trans e).symm h6
          rw [h2]
        have HI := Box.mk hidx; clear hidx
        generalize l.getD k 0 = y at *
        subst hx
        go_wp2_with fail
        go_ret
        exact ⟨by rw [HI.out]; rfl, rfl⟩
      · have hxx : (x == l.getD k 0) = false := by simp only [beq_eq_false_iff_ne]; exact hx
        have hnx := Box.mk hx; clear hx
        generalize hy : l.getD k 0 = y at *
        have HY := Box.mk hy; clear hy
        go_wp2_with fail
        go_roundw
        case rel => exact ⟨k + 1, by omega, by go_num, fun j hj => by
          by_cases e : j = k
          · subst e; rw [HY.out]; exact fun h => hnx.out h.symm
          · exact HNE.out j (by omega), trivial⟩
        case measure => simp [intOf]; omega
    · have hidx : idx l x = -1 := by
        unfold idx
        rw [if_neg]
        intro hm
        obtain ⟨j, hj, he⟩ := List.getElem_of_mem hm
        exact HNE.out j (by omega) (by rw [List.getD_eq_getElem?_getD, List.getElem?_eq_getElem hj]; exact he)
      have HI := Box.mk hidx; clear hidx
      go_wp2_with fail
      go_ret
      exact ⟨by rw [HI.out]; rfl, rfl⟩

set_option maxRecDepth 20000 in
theorem contains_any (l : List Int) (x : Int) (a : Option Addr) (n cap : Nat) (w : World) (hrd : Rd w a n cap 1 (intVals l)) :
    Calls Try.prog 48 #[.slice a n cap, .int .i64 x] w fun e w' => e = .returned (.bool (decide (x ∈ l))) ∧ w' = w := by
  have HC := Box.mk (index_any l x a n cap w hrd)
  have hd : decide ((0 : Int) ≤ idx l x) = decide (x ∈ l) := by
    unfold idx
    by_cases hm : x ∈ l
    · rw [if_pos hm]; simp [hm]
    · rw [if_neg hm]; simp [hm]
  generalize idx l x = i at *
  generalize decide (x ∈ l) = d at *
  go_enter Try.func48, Try.ntmps48
  go_wp2_with fail
  refine HC.out.mono ?_
  rintro e w1 ⟨rfl, rfl⟩
  go_wp2_with fail
  go_ret
  exact ⟨by first | rfl | rw [hd], rfl⟩

end Go.Proofs.Ytgimkipekoabbaa
