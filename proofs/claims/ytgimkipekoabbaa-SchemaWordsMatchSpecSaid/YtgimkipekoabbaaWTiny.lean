/-
  The walks of holds, bit, truth. No condition.
-/
import Derived.Test.YtgimkipekoabbaaWValid
namespace Go.Proofs.Ytgimkipekoabbaa
open Go.RowKit

/-- Whether a comparison with the answer c holds. -/
def holdsB (op c : Int) : Bool :=
  if op = 6 then decide (c = 0) else if op = 7 then decide (c ≠ 0) else if op = 8 then decide (c < 0) else if op = 9 then decide (c ≤ 0) else if op = 10 then decide (0 < c) else decide (0 ≤ c)

set_option maxRecDepth 20000 in
set_option maxHeartbeats 2000000 in
theorem holds_any (op c : Int) (w : World) : Calls Try.prog 59 #[.int .i64 op, .int .i64 c] w fun e w' => e = .returned (.bool (holdsB op c)) ∧ w' = w := by
  go_enter Try.func59, Try.ntmps59
  go_wp2_with fail
  all_goals
    go_ret
    refine ⟨?_, rfl⟩
    simp_all [holdsB] <;> (try rw [Bool.eq_iff_iff]) <;> (try simp) <;> omega

set_option maxRecDepth 20000 in
set_option maxHeartbeats 2000000 in
theorem bit_any (b : Bool) (w : World) : Calls Try.prog 55 #[.bool b] w fun e w' => e = .returned (.int .i64 (if b then 1 else 0)) ∧ w' = w := by
  go_enter Try.func55, Try.ntmps55
  cases b <;> (go_wp2_with fail; go_ret; exact ⟨rfl, rfl⟩)

set_option maxRecDepth 20000 in
set_option maxHeartbeats 2000000 in
theorem truth_any (b : Bool) (w : World) : Calls Try.prog 57 #[.bool b] w fun e w' => e = .returned (.int .i64 (if b then 1 else 0)) ∧ w' = w := by
  go_enter Try.func57, Try.ntmps57
  cases b <;> (go_wp2_with fail; go_ret; exact ⟨rfl, rfl⟩)
end Go.Proofs.Ytgimkipekoabbaa
