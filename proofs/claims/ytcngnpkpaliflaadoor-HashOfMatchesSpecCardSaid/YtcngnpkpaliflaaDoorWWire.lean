/-
  The walks of wire.Int and of the reference's Int: each returns the encoding of its argument in new memory. No condition.
-/
import Derived.Test.YtcngnpkpaliflaaDoorWSmall
import Derived.Test.YtcngnpkpaliflaaDoorEnc
namespace Go.Proofs.YtcngnpkpaliflaaDoor
open Go.RowKit

set_option maxHeartbeats 400000 in
theorem wInt_any (n : Int) (w : World) (h1 : -9223372036854775808 ≤ n) (h2 : n ≤ 9223372036854775807) :
    Calls Tryd.prog 53 #[.int .i64 n] w (RetB (enc n) w) := by
  have hz := zig_xor h1 h2
  have hb := zig_lt h1 h2
  go_enter Tryd.func53, Tryd.ntmps53
  go_wp2_with fail
  have Hz := Lib.hid hz; clear hz
  go_loopw [3, 4] (fun z v wr => ∃ (z' : Nat) (l : List UInt8) (a : Option Addr) (cap : Nat), z = .int .u64 z' ∧ z' < 18446744073709551616 ∧ v = .slice a l.length cap ∧ wr.ownsRow w.heap.size 5 1 (.slice a l.length cap) l.length (byteVals l) ∧ Below w.heap.size w wr ∧ Hid (l ++ encN z' = enc n))
    (fun z _ _ => (intOf z).toNat)
  case atStart => exact ⟨zig n, [], none, 0, rfl, hb, rfl, World.ownsRow_nil _ _ _ _, Below.refl _ _, rfl⟩
  case round =>
    obtain ⟨z, l, a, cap, rfl, hzb, rfl, hown, hbel, HE⟩ := hrel
    have hll : l.length + (encN z).length ≤ 10 := by
      have := congrArg List.length HE.out; simp only [List.length_append] at this
      have h10 := (encN_len10 hb).1; unfold enc at this; omega
    have hln := (encN_len10 hzb).2
    have hsz := hbel.size
    have hb1 : (byteVals l).length = l.length := byteVals_length l
    by_cases hlt : z < 128
    · go_wp2_with (at_builtin; refine wpList_append_src rfl _ _ 22 22 rfl sl22 (.inl sl22.ht) rfl (hown.alloc _) rfl (Src.oneNew _ _ _ rfl) (by omega) (by unfold maxLen; omega) (by simp; omega) ?_; intro a1 cap1 w1 hown1 hgr1 _)
      have hb2 := below_grown (hbel.alloc hsz _) hgr1 (hown.alloc _) (Nat.le_refl _) (by simp; omega)
      go_ret
      exact retB_mk (l := l ++ [UInt8.ofNat z]) rfl hown1 hb2 (Nat.le_refl _) (by simp) (by rw [byteVals_snoc, byte_small hlt]) (by rw [← HE.out, encN_small hlt])
    · have hor := byte_or (z := z)
      go_wp2_with (at_builtin; refine wpList_append_src rfl _ _ 22 22 rfl sl22 (.inl sl22.ht) rfl (hown.alloc _) rfl (Src.oneNew _ _ _ rfl) (by omega) (by unfold maxLen; omega) (by simp; omega) ?_; intro a1 cap1 w1 hown1 hgr1 _)
      have hb2 := below_grown (hbel.alloc hsz _) hgr1 (hown.alloc _) (Nat.le_refl _) (by simp; omega)
      have hx : byteVals l ++ [Value.int .u8 (((z : Int) % 128 + 128) % 256)] = byteVals (l ++ [UInt8.ofNat (z % 128 + 128)]) := by
        rw [byteVals_snoc]; simp
      rw [hx] at hown1
      go_roundw
      case rel => exact ⟨z / 128, l ++ [UInt8.ofNat (z % 128 + 128)], a1, cap1, by go_num, by omega, by simp, by simpa using hown1, hb2, by have := HE.out; rw [encN_big hlt] at this; rw [← this]; simp [Hid]⟩
      case measure => simp [intOf]; omega

theorem zig_pos {n : Int} (h : 0 ≤ n) : n * 2 = (zig n : Int) := by unfold zig; rw [if_neg (by omega)]; omega
theorem zig_neg {n : Int} (h : n < 0) : (-1 - n) * 2 + 1 = (zig n : Int) := by unfold zig; rw [if_pos h]; omega

set_option maxRecDepth 20000 in
set_option maxHeartbeats 400000 in
theorem wRefInt_any (n : Int) (w : World) (h1 : -9223372036854775808 ≤ n) (h2 : n ≤ 9223372036854775807) :
    Calls Tryd.prog 54 #[.int .i64 n] w (RetB (enc n) w) := by
  have hb := zig_lt h1 h2
  by_cases hn : n < 0
  all_goals
    go_enter Tryd.func54, Tryd.ntmps54
    go_wp2_with fail
    go_loopw [3, 4] (fun z v wr => ∃ (z' : Nat) (l : List UInt8) (a : Option Addr) (cap : Nat), z = .int .u64 z' ∧ z' < 18446744073709551616 ∧ v = .slice a l.length cap ∧ wr.ownsRow w.heap.size 5 1 (.slice a l.length cap) l.length (byteVals l) ∧ Below w.heap.size w wr ∧ Hid (l ++ encN z' = enc n))
      (fun z _ _ => (intOf z).toNat)
    case atStart => exact ⟨zig n, [], none, 0, by first | rw [← zig_pos (by omega)] | rw [← zig_neg (by omega)], hb, rfl, World.ownsRow_nil _ _ _ _, Below.refl _ _, rfl⟩
    case round =>
      obtain ⟨z, l, a, cap, rfl, hzb, rfl, hown, hbel, HE⟩ := hrel
      have hll : l.length + (encN z).length ≤ 10 := by
        have := congrArg List.length HE.out; simp only [List.length_append] at this
        have h10 := (encN_len10 hb).1; unfold enc at this; omega
      have hln := (encN_len10 hzb).2
      have hsz := hbel.size
      have hb1 : (byteVals l).length = l.length := byteVals_length l
      by_cases hlt : z < 128
      · go_wp2_with (at_builtin; refine wpList_append_src rfl _ _ 22 22 rfl sl22 (.inl sl22.ht) rfl (hown.alloc _) rfl (Src.oneNew _ _ _ rfl) (by omega) (by unfold maxLen; omega) (by simp; omega) ?_; intro a1 cap1 w1 hown1 hgr1 _)
        have hb2 := below_grown (hbel.alloc hsz _) hgr1 (hown.alloc _) (Nat.le_refl _) (by simp; omega)
        go_ret
        exact retB_mk (l := l ++ [UInt8.ofNat z]) rfl hown1 hb2 (Nat.le_refl _) (by simp) (by rw [byteVals_snoc, byte_small hlt]) (by rw [← HE.out, encN_small hlt])
      · go_wp2_with (at_builtin; refine wpList_append_src rfl _ _ 22 22 rfl sl22 (.inl sl22.ht) rfl (hown.alloc _) rfl (Src.oneNew _ _ _ rfl) (by omega) (by unfold maxLen; omega) (by simp; omega) ?_; intro a1 cap1 w1 hown1 hgr1 _)
        have hb2 := below_grown (hbel.alloc hsz _) hgr1 (hown.alloc _) (Nat.le_refl _) (by simp; omega)
        have hx : byteVals l ++ [Value.int .u8 ((z : Int) % 128 + 128)] = byteVals (l ++ [UInt8.ofNat (z % 128 + 128)]) := by
          rw [byteVals_snoc]; simp; omega
        rw [hx] at hown1
        go_roundw
        case rel => exact ⟨z / 128, l ++ [UInt8.ofNat (z % 128 + 128)], a1, cap1, by go_num, by omega, by simp, by simpa using hown1, hb2, by have := HE.out; rw [encN_big hlt] at this; rw [← this]; simp [Hid]⟩
        case measure => simp [intOf]; omega
end Go.Proofs.YtcngnpkpaliflaaDoor
