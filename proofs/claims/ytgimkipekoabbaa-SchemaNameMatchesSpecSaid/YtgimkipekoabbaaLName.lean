/-
  The walk of SchemaNameMatchesSpec. No condition.
-/
import Derived.Test.YtgimkipekoabbaaSan
namespace Go.Proofs.Ytgimkipekoabbaa
open Go.RowKit

set_option maxRecDepth 20000 in
set_option maxHeartbeats 2000000 in
theorem name_law (s : List UInt8) (w : World) : Calls Try.prog 3 #[.string ⟨s.toArray⟩] w (RetV (.bool true) w) := by
  have HN := Box.mk (fun w => name_any s w)
  have HR := Box.mk (fun w => rname_any s w)
  generalize nameB s = b at *
  go_enter Try.func3, Try.ntmps3
  go_wp2_with fail
  refine (sanity_any w).mono ?_
  rintro e w1 ⟨rfl, hb⟩
  have B1 := Box.mk hb
  clear hb
  go_wp2_with fail
  refine (HN.out w1).mono ?_
  rintro e w2 ⟨rfl, hb⟩
  have B2 := Box.mk (B1.out.trans (hb.mono B1.out.size))
  clear hb
  go_wp2_with fail
  refine (HR.out w2).mono ?_
  rintro e w3 ⟨rfl, hb⟩
  have B3 := Box.mk (B2.out.trans (hb.mono B2.out.size))
  clear hb
  go_wp2_with fail
  go_ret
  exact ⟨by simp, B3.out⟩
theorem name_walk (s : ByteArray) (w : World) : Calls Try.prog 3 #[.string s] w (RetV (.bool true) w) := by
  have := name_law s.data.toList w
  simpa using this
end Go.Proofs.Ytgimkipekoabbaa
