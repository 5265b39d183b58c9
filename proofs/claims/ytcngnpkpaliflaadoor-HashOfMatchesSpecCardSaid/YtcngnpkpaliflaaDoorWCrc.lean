/-
  The walks of Crc40 and of the check of words. No condition.
-/
import Derived.Test.YtcngnpkpaliflaaDoorWJoin
namespace Go.Proofs.YtcngnpkpaliflaaDoor
open Go.RowKit

theorem u22 : Tryd.prog.underlying 22 = some (.slice 5) := by kernel_rfl
theorem u5 : Tryd.prog.underlying 5 = some (.int .u8) := by kernel_rfl
theorem u9 : Tryd.prog.underlying 9 = some .string := by kernel_rfl
theorem sl22 : SlT Tryd.prog 22 5 (.int .u8 0) 1 1 := ⟨by kernel_rfl, by kernel_rfl, rfl⟩

set_option maxRecDepth 20000 in
set_option maxHeartbeats 2000000 in
theorem crc40_any (l : List UInt8) (a : Option Addr) (n cap : Nat) (w : World) (hrd : Rd w a n cap 1 (byteVals l)) (hn : n ≤ 1099511627776) (hT : Tabs w) :
    Calls Tryd.prog 16 #[.slice a n cap] w (RetV (.int .i64 (crc l : Int)) w) := by
  have Hl := Lib.hid hrd.blen
  have hsz : (⟨l.toArray⟩ : ByteArray).size ≤ 1099511627776 := by rw [str_size, Hl.out]; exact hn
  have hconv0 := run_string_rd (P := Tryd.prog) (dst := 9) u22 u5 u9 hrd.drew
  have hfe := Lib.hid (show (feed ones40 (⟨l.toArray⟩ : ByteArray).data.toList ^^^ ones40).toNat = crc l from by rw [str_to]; rfl)
  go_enter Tryd.func16, Tryd.ntmps16
  go_wp2_with fail
  go_region_with (first
    | (go_at_call 19; refine (begin_any _).mono ?_; rintro e w1 ⟨rfl, hb1⟩; have hconv1 := run_string_rd (P := Tryd.prog) (dst := 9) u22 u5 u9 (hrd.drew.call0 hb1))
    | (go_at_call 20; refine (add_any _ _ _ hsz (hT.drew.call0 hb1)).mono ?_; rintro e w2 ⟨rfl, hb2⟩)
    | (go_at_call 22; refine (value_any _ _).mono ?_; rintro e w3 ⟨rfl, hb3⟩; rw [hfe.out]))
  all_goals
    go_wp2_with fail
    go_ret
    exact ⟨rfl, ((((Below.refl _ _).drew).call0 (Nat.le_refl _) hb1).call0 (Nat.le_refl _) hb2).call0 (Nat.le_refl _) hb3⟩
end Go.Proofs.YtcngnpkpaliflaaDoor
