/-
  The walk of row.long. No condition.
-/
import Derived.Test.YtpgdfhncigmmbaaPrs3
namespace Go.Proofs.Ytpgdfhncigmmbaa
open Go.RowKit

theorem long_any (n : Nat) (hn : n ≤ 4611686018427387904) (w : World) : Calls Try.prog 44 #[.int .i64 n] w fun e w' => e = .returned (.int .i64 (nWords n : Nat)) ∧ w' = w := by
  have HN := Box.mk (show ((n : Int) + 5 - 1) / 5 = ((nWords n : Nat) : Int) from by unfold nWords; omega)
  go_enter Try.func44, Try.ntmps44
  go_wp2_with fail
  go_ret
  rw [← HN.out]
  exact ⟨rfl, rfl⟩
end Go.Proofs.Ytpgdfhncigmmbaa
