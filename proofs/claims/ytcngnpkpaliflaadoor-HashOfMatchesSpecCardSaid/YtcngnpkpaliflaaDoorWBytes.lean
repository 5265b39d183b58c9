/-
  The walks of Bytes, wire's and the reference's: length ahead of the bytes. No condition.
-/
import Derived.Test.YtcngnpkpaliflaaDoorWWire
namespace Go.Proofs.YtcngnpkpaliflaaDoor
open Go.RowKit

/-- The encoding of a byte string. -/
def encB (s : List UInt8) : List UInt8 := enc s.length ++ s

theorem enc_len (n : Int) (h1 : -9223372036854775808 ≤ n) (h2 : n ≤ 9223372036854775807) : (enc n).length ≤ 10 ∧ 0 < (enc n).length := encN_len10 (zig_lt h1 h2)

set_option maxRecDepth 20000 in
set_option maxHeartbeats 400000 in
theorem wBytes_any (s : ByteArray) (w : World) (hs : s.size ≤ 1099511627776) :
    Calls Tryd.prog 48 #[.string s] w (RetB (encB s.data.toList) w) := by
  have hl := enc_len (s.size : Int) (by omega) (by omega)
  have hsl : s.data.toList.length = s.size := by simp
  go_enter Tryd.func48, Tryd.ntmps48
  go_wp2_with (first
    | (go_at_call 53; refine (wInt_any _ _ (by omega) (by omega)).mono ?_; rintro e w1 ⟨a2, cap2, rfl, hown2, hb2⟩)
    | (at_builtin; refine wpList_append_src rfl _ _ 22 9 rfl sl22 (.inr (by kernel_rfl)) rfl hown2 rfl (Src.ofString _ _) (by omega) (by unfold maxLen; omega) (by have := hb2.size; omega) ?_; intro a3 cap3 w3 hown3 hgr3 _))
  have hb3 := below_grown hb2 hgr3 hown2 (Nat.le_refl _) hb2.size
  go_ret
  exact retB_mk (l := enc s.size ++ s.data.toList) rfl hown3 hb3 (Nat.le_refl _) (by simp) (by rw [byteVals_append]) (by unfold encB; rw [hsl])

set_option maxRecDepth 20000 in
set_option maxHeartbeats 400000 in
theorem wRefBytes_any (s : ByteArray) (w : World) (hs : s.size ≤ 1099511627776) :
    Calls Tryd.prog 50 #[.string s] w (RetB (encB s.data.toList) w) := by
  have hl := enc_len (s.size : Int) (by omega) (by omega)
  have hsl : s.data.toList.length = s.size := by simp
  go_enter Tryd.func50, Tryd.ntmps50
  go_wp2_with (first
    | (go_at_call 54; refine (wRefInt_any _ _ (by omega) (by omega)).mono ?_; rintro e w1 ⟨a2, cap2, rfl, hown2, hb2⟩)
    | (at_builtin; refine wpList_append_src rfl _ _ 22 9 rfl sl22 (.inr (by kernel_rfl)) rfl hown2 rfl (Src.ofString _ _) (by omega) (by unfold maxLen; omega) (by have := hb2.size; omega) ?_; intro a3 cap3 w3 hown3 hgr3 _))
  have hb3 := below_grown hb2 hgr3 hown2 (Nat.le_refl _) hb2.size
  go_ret
  exact retB_mk (l := enc s.size ++ s.data.toList) rfl hown3 hb3 (Nat.le_refl _) (by simp) (by rw [byteVals_append]) (by unfold encB; rw [hsl])
end Go.Proofs.YtcngnpkpaliflaaDoor
