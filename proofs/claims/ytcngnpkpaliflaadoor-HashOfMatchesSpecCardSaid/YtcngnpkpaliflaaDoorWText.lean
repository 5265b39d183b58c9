/-
  The walks of the reference's Text and Bytes32: the digest's bytes as a string. No condition.
-/
import Derived.Test.YtcngnpkpaliflaaDoorWSmall
import Derived.Test.YtcngnpkpaliflaaDoorBlk
namespace Go.Proofs.YtcngnpkpaliflaaDoor
open Go.RowKit

set_option maxRecDepth 20000 in
theorem refText_any (d : List UInt8) (hd : d.length = 16) (w : World) :
    Calls Tryd.prog 39 #[.agg (byteVals d).toArray] w fun e w' => e = .returned (.string ⟨d.toArray⟩) ∧ Below w.heap.size w w' := by
  have Hd := Lib.hid hd
  have hB0 := Blk.new (w := w) (ty := 58) (cs := byteVals d) rfl rfl
  have hW0 := (Below.refl w.heap.size w).alloc (Nat.le_refl _) (.cells (byteVals d).toArray 58)
  have hs0 : (w.alloc (.cells (byteVals d).toArray 58)).heap.size = w.heap.size + 1 := by simp
  go_enter Tryd.func39, Tryd.ntmps39
  go_wp2_with fail
  go_loopw [3, 4] (fun v i wr => ∃ (k : Nat) (a : Option Addr) (cap : Nat), k ≤ 16 ∧ i = .int .i64 k ∧ v = .slice a k cap ∧ wr.ownsRow (w.heap.size + 1) 5 1 (.slice a k cap) k (byteVals (d.take k)) ∧ Below (w.heap.size + 1) (w.alloc (.cells (byteVals d).toArray 58)) wr)
    (fun _ i _ => (16 - intOf i).toNat)
  case atStart => exact ⟨0, none, 0, by omega, rfl, rfl, World.ownsRow_nil _ _ _ _, by rw [← hs0]; exact Below.refl _ _⟩
  case round =>
    obtain ⟨k, a, cap, hk, rfl, rfl, hown, hbel⟩ := hrel
    have hsz := hbel.size
    have hbk := hB0.below hbel (by rw [hs0]; exact Nat.le_refl _)
    by_cases hlt : k < 16
    · have hS := Lib.hid (show d.take (k + 1) = d.take k ++ [d.getD k 0] from by
        rw [List.take_succ_eq_append_getElem (by rw [Hd.out]; exact hlt)]; simp [List.getD, List.getElem?_eq_getElem (show k < d.length by rw [Hd.out]; exact hlt)])
      have hc := hbk.cellOf (i := k) (v := .int .u8 ((d.getD k 0).toNat : Int)) (by simp [byteVals, List.getD, List.getElem?_eq_getElem (show k < d.length by rw [Hd.out]; exact hlt)])
      generalize d.getD k 0 = z at *
      go_wp2_with (at_builtin; refine wpList_append_src rfl _ _ 22 22 rfl sl22 (.inl sl22.ht) rfl (hown.alloc _) rfl (Src.oneNew _ _ _ rfl) (by omega) (by unfold maxLen; omega) (by simp; omega) ?_; intro a1 cap1 w1 hown1 hgr1 _)
      have hb2 := below_grown (hbel.alloc (by omega) _) hgr1 (hown.alloc _) (Nat.le_refl _) (by simp; omega)
      go_roundw
      case rel => exact ⟨k + 1, a1, cap1, by omega, by go_num, rfl, by rw [hS.out, byteVals_snoc]; exact hown1, hb2⟩
      case measure => simp [intOf]; omega
    · have hk16 : k = 16 := by omega
      subst hk16
      have hA := Lib.hid (show d.take 16 = d from List.take_of_length_le (by rw [Hd.out]; exact Nat.le_refl _))
      rw [hA.out] at hown
      have hst := run_string_rd (P := Tryd.prog) (src := 22) (dst := 9) (e := 5) (by kernel_rfl) (by kernel_rfl) (by kernel_rfl) (Rd.ofOwn hown)
      go_wp2_with fail
      go_ret
      exact ⟨rfl, hW0.trans (hbel.mono (by omega))⟩

set_option maxRecDepth 20000 in
theorem refBytes32_any (d : List UInt8) (hd : d.length = 32) (w : World) :
    Calls Tryd.prog 38 #[.agg (byteVals d).toArray] w fun e w' => e = .returned (.string ⟨d.toArray⟩) ∧ Below w.heap.size w w' := by
  have Hd := Lib.hid hd
  have hB0 := Blk.new (w := w) (ty := 47) (cs := byteVals d) rfl rfl
  have hW0 := (Below.refl w.heap.size w).alloc (Nat.le_refl _) (.cells (byteVals d).toArray 47)
  have hs0 : (w.alloc (.cells (byteVals d).toArray 47)).heap.size = w.heap.size + 1 := by simp
  go_enter Tryd.func38, Tryd.ntmps38
  go_wp2_with fail
  go_loopw [3, 4] (fun v i wr => ∃ (k : Nat) (a : Option Addr) (cap : Nat), k ≤ 32 ∧ i = .int .i64 k ∧ v = .slice a k cap ∧ wr.ownsRow (w.heap.size + 1) 5 1 (.slice a k cap) k (byteVals (d.take k)) ∧ Below (w.heap.size + 1) (w.alloc (.cells (byteVals d).toArray 47)) wr)
    (fun _ i _ => (32 - intOf i).toNat)
  case atStart => exact ⟨0, none, 0, by omega, rfl, rfl, World.ownsRow_nil _ _ _ _, by rw [← hs0]; exact Below.refl _ _⟩
  case round =>
    obtain ⟨k, a, cap, hk, rfl, rfl, hown, hbel⟩ := hrel
    have hsz := hbel.size
    have hbk := hB0.below hbel (by rw [hs0]; exact Nat.le_refl _)
    by_cases hlt : k < 32
    · have hS := Lib.hid (show d.take (k + 1) = d.take k ++ [d.getD k 0] from by
        rw [List.take_succ_eq_append_getElem (by rw [Hd.out]; exact hlt)]; simp [List.getD, List.getElem?_eq_getElem (show k < d.length by rw [Hd.out]; exact hlt)])
      have hc := hbk.cellOf (i := k) (v := .int .u8 ((d.getD k 0).toNat : Int)) (by simp [byteVals, List.getD, List.getElem?_eq_getElem (show k < d.length by rw [Hd.out]; exact hlt)])
      generalize d.getD k 0 = z at *
      go_wp2_with (at_builtin; refine wpList_append_src rfl _ _ 22 22 rfl sl22 (.inl sl22.ht) rfl (hown.alloc _) rfl (Src.oneNew _ _ _ rfl) (by omega) (by unfold maxLen; omega) (by simp; omega) ?_; intro a1 cap1 w1 hown1 hgr1 _)
      have hb2 := below_grown (hbel.alloc (by omega) _) hgr1 (hown.alloc _) (Nat.le_refl _) (by simp; omega)
      go_roundw
      case rel => exact ⟨k + 1, a1, cap1, by omega, by go_num, rfl, by rw [hS.out, byteVals_snoc]; exact hown1, hb2⟩
      case measure => simp [intOf]; omega
    · have hk32 : k = 32 := by omega
      subst hk32
      have hA := Lib.hid (show d.take 32 = d from List.take_of_length_le (by rw [Hd.out]; exact Nat.le_refl _))
      rw [hA.out] at hown
      have hst := run_string_rd (P := Tryd.prog) (src := 22) (dst := 9) (e := 5) (by kernel_rfl) (by kernel_rfl) (by kernel_rfl) (Rd.ofOwn hown)
      go_wp2_with fail
      go_ret
      exact ⟨rfl, hW0.trans (hbel.mono (by omega))⟩
end Go.Proofs.YtcngnpkpaliflaaDoor
