/-
  The walks of the reference's Same, of Bytes (program and reference). No condition.
-/
import Derived.Test.YtppmlhjpdmndoaaWRefInt
namespace Go.Proofs.Ytppmlhjpdmndoaa
open Go.RowKit

set_option maxRecDepth 20000 in
set_option maxHeartbeats 400000 in
theorem same_any (l m : List UInt8) (a b : Option Addr) (n1 c1 n2 c2 : Nat) (w : World) (h1 : Rd w a n1 c1 1 (byteVals l)) (h2 : Rd w b n2 c2 1 (byteVals m)) :
    Calls Try.prog 13 #[.slice a n1 c1, .slice b n2 c2] w fun e w' => e = .returned (.bool (l == m)) ∧ w = w' := by
  have hs1 := run_string_rd (P := Try.prog) (src := 28) (dst := 9) (e := 5) (by kernel_rfl) (by kernel_rfl) (by kernel_rfl) h1
  have hs2 := run_string_rd (P := Try.prog) (src := 28) (dst := 9) (e := 5) (by kernel_rfl) (by kernel_rfl) (by kernel_rfl) h2
  go_enter Try.func13, Try.ntmps13
  go_wp2_with fail
  go_ret
  exact ⟨rfl, rfl⟩

/-- The encoding of a byte string. -/
def encB (s : List UInt8) : List UInt8 := enc s.length ++ s

theorem enc_len (n : Int) (h1 : -9223372036854775808 ≤ n) (h2 : n ≤ 9223372036854775807) : (enc n).length ≤ 10 ∧ 0 < (enc n).length := encN_len10 (zig_lt h1 h2)

set_option maxRecDepth 20000 in
set_option maxHeartbeats 400000 in
theorem bytes_any (s : ByteArray) (w : World) (hs : s.size ≤ 1099511627776) :
    Calls Try.prog 16 #[.string s] w (RetB (encB s.data.toList) w) := by
  have hl := enc_len (s.size : Int) (by omega) (by omega)
  have hsl : s.data.toList.length = s.size := by simp
  go_enter Try.func16, Try.ntmps16
  go_wp2_with (first
    | (go_at_call 14; refine (int_any _ _ (by omega) (by omega)).mono ?_; rintro e w1 ⟨a2, cap2, rfl, hown2, hb2⟩)
    | (at_builtin; refine wpList_append_src rfl _ _ 28 9 rfl sl28 (.inr (by kernel_rfl)) rfl hown2 rfl (Src.ofString _ _) (by omega) (by unfold maxLen; omega) (by have := hb2.size; omega) ?_; intro a3 cap3 w3 hown3 hgr3 _))
  have hb3 := below_grown hb2 hgr3 hown2 (Nat.le_refl _) hb2.size
  go_ret
  exact retB_mk (l := enc s.size ++ s.data.toList) rfl hown3 hb3 (Nat.le_refl _) (by simp) (by rw [byteVals_append]) (by unfold encB; rw [hsl])

set_option maxRecDepth 20000 in
set_option maxHeartbeats 400000 in
theorem refBytes_any (s : ByteArray) (w : World) (hs : s.size ≤ 1099511627776) :
    Calls Try.prog 17 #[.string s] w (RetB (encB s.data.toList) w) := by
  have hl := enc_len (s.size : Int) (by omega) (by omega)
  have hsl : s.data.toList.length = s.size := by simp
  go_enter Try.func17, Try.ntmps17
  go_wp2_with (first
    | (go_at_call 15; refine (refInt_any _ _ (by omega) (by omega)).mono ?_; rintro e w1 ⟨a2, cap2, rfl, hown2, hb2⟩)
    | (at_builtin; refine wpList_append_src rfl _ _ 28 9 rfl sl28 (.inr (by kernel_rfl)) rfl hown2 rfl (Src.ofString _ _) (by omega) (by unfold maxLen; omega) (by have := hb2.size; omega) ?_; intro a3 cap3 w3 hown3 hgr3 _))
  have hb3 := below_grown hb2 hgr3 hown2 (Nat.le_refl _) hb2.size
  go_ret
  exact retB_mk (l := enc s.size ++ s.data.toList) rfl hown3 hb3 (Nat.le_refl _) (by simp) (by rw [byteVals_append]) (by unfold encB; rw [hsl])
end Go.Proofs.Ytppmlhjpdmndoaa
