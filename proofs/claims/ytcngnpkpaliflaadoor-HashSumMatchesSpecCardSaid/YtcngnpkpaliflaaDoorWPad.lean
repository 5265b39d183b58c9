/-
  The walk of the reference's padded. No condition.
-/
import Derived.Test.YtcngnpkpaliflaaDoorWInput
namespace Go.Proofs.YtcngnpkpaliflaaDoor
open Go.RowKit

set_option maxRecDepth 20000 in
set_option maxHeartbeats 1000000 in
theorem padded_any (l : List UInt8) (a : Option Addr) (n cap : Nat) (w : World) (hrd : Rd w a n cap 1 (byteVals l)) (hn : n ≤ 1000000000) :
    Calls Tryd.prog 44 #[.slice a n cap] w (RetB (padded l) w) := by
  have hln : l.length = n := hrd.blen
  have hown0 := own_new (w := w.alloc (.cells #[] 5)) (g := w.heap.size) (base := w.heap.size) (e := 5) (size := 1) (n := 0) (cs := []) (Blk.new rfl rfl) (Nat.le_refl _) rfl (by unfold maxLen; omega)
  have R0 := Box.mk (hrd.alloc (.cells #[] 5))
  have hz64 : zeros n ≤ 63 := by unfold zeros; omega
  have hzz : zeros n = (119 - n % 64) % 64 := rfl
  have HPAD := Box.mk (show padded l = l ++ (128 :: List.replicate (zeros n) 0) ++ be8 (8 * n) from by unfold padded padding; rw [hln]; simp)
  have HZ := Box.mk hzz; clear hzz
  have HLN := Box.mk hln; clear hln hrd
  generalize zeros n = zn at *
  go_enter Tryd.func44, Tryd.ntmps44
  go_wp2_with (first
    | ((with_reducible show wpList _ _ _ _ _ _); refine wpList_append_src (o := ⟨some 8, _, _, _, _, _⟩) rfl (.tmp 6) (.tmp 7) 22 22 rfl sl22 (.inl sl22.ht) rfl hown0 rfl (Src.ofRd R0.out (byteVals_one _)) (by omega) (by unfold maxLen; omega) (by simp) ?_; intro a2 c2 w2 hown2 hgr2 _; have B2 := below_grown ((Below.refl w.heap.size w).alloc (Nat.le_refl _) (.cells #[] 5)) hgr2 hown0 (Nat.le_refl _) (by simp); rw [Nat.zero_add, List.nil_append] at hown2; rw [Nat.zero_add]; clear hgr2)
    | ((with_reducible show wpList _ _ _ _ _ _); refine wpList_append_src (o := ⟨some 11, _, _, _, _, _⟩) rfl (.tmp 9) (.tmp 10) 22 22 rfl sl22 (.inl sl22.ht) rfl (hown2.alloc _) rfl (Src.oneNew _ _ _ rfl) (by omega) (by unfold maxLen; omega) (by have := B2.size; simp; omega) ?_; intro a3 c3 w3 hown3 hgr3 _; have B3 := below_grown (B2.alloc (by have := B2.size; omega) _) hgr3 (hown2.alloc _) (Nat.le_refl _) (by have := B2.size; simp; omega); clear hgr3))
  have h128 : byteVals l ++ [Value.int .u8 128] = byteVals (l ++ (128 :: List.replicate 0 0)) := by simp [byteVals]
  rw [h128] at hown3
  clear hown2 B2 h128 hown0 R0
  obtain ⟨M, hM⟩ : ∃ M, n + 1 = M := ⟨_, rfl⟩
  rw [hM] at hown3 ⊢
  go_loopw [3] (fun v wr => ∃ (j L : Nat) (a : Option Addr) (cap : Nat), j ≤ zn ∧ L = n + 1 + j ∧ v = .slice a L cap ∧ wr.ownsRow w.heap.size 5 1 (.slice a L cap) L (byteVals (l ++ (128 :: List.replicate j 0))) ∧ Below w.heap.size w wr)
    (fun v _ => match v with | .slice _ k _ => n + 65 - k | _ => 0)
  case atStart => exact ⟨0, M, _, _, Nat.zero_le _, by omega, rfl, hown3, B3⟩
  case round =>
    clear hown3 B3
    obtain ⟨j, L, a4, c4, hj, hL, rfl, hown, B⟩ := hrel
    have hsz := B.size
    by_cases hlt : j < zn
    · have htest : ((L : Int) % 64 != 56) = true := by
        have := HZ.out; simp; omega
      have hS := Lib.hid (show l ++ (128 :: List.replicate (j + 1) 0) = (l ++ (128 :: List.replicate j 0)) ++ [0] from by rw [List.replicate_succ']; simp)
      have hL2 : L ≤ n + 64 := by omega
      have HL := Box.mk hL; clear hL
      go_wp2_with (at_builtin; refine wpList_append_src rfl _ _ 22 22 rfl sl22 (.inl sl22.ht) rfl (hown.alloc _) rfl (Src.oneNew _ _ _ rfl) (by omega) (by unfold maxLen; omega) (by simp; omega) ?_; intro a1 cap1 w1 hown1 hgr1 _)
      have hb2 := below_grown (B.alloc (by omega) _) hgr1 (hown.alloc _) (Nat.le_refl _) (by simp; omega)
      go_roundw
      case rel => exact ⟨j + 1, L + 1, a1, cap1, by omega, by have := HL.out; omega, rfl, by rw [hS.out, byteVals_snoc]; exact hown1, hb2⟩
      case measure => have := HL.out; simp; omega
    · have hjz : j = zn := by omega
      subst hjz
      have htest : ((L : Int) % 64 != 56) = false := by
        have := HZ.out; simp; omega
      have hL2 : L ≤ n + 64 := by omega
      have HL := Box.mk hL; clear hL hlt hj
      rw [show ∀ x : List UInt8, byteVals x = byteVals (x ++ (be8 (8 * n)).take 0) from fun x => by simp] at hown
      generalize (l ++ (128 :: List.replicate j 0)) = pz at *
      go_wp2_with fail
      go_loopw [3, 5] (fun v i wr => ∃ (k : Nat) (a : Option Addr) (cap : Nat), k ≤ 8 ∧ i = .int .i64 k ∧ v = .slice a (L + k) cap ∧ wr.ownsRow w.heap.size 5 1 (.slice a (L + k) cap) (L + k) (byteVals (pz ++ (be8 (8 * n)).take k)) ∧ Below w.heap.size w wr)
        (fun _ i _ => 8 - (intOf i).toNat)
      case atStart => exact ⟨0, a4, c4, by omega, rfl, rfl, hown, B⟩
      case round =>
        clear hown B
        obtain ⟨k, a5, c5, hk8, rfl, rfl, hown, B⟩ := hrel
        have hsz := B.size
        by_cases hlt : k < 8
        · have hbyte := be8_byte n k
          have hS := Lib.hid (be8_take (8 * n) k hlt)
          generalize UInt8.ofNat (8 * n / 2 ^ (56 - 8 * k)) = c at *
          go_wp2_with (at_builtin; refine wpList_append_src rfl _ _ 22 22 rfl sl22 (.inl sl22.ht) rfl (hown.alloc _) rfl (Src.oneNew _ _ _ rfl) (by omega) (by unfold maxLen; omega) (by simp; omega) ?_; intro a1 cap1 w1 hown1 hgr1 _)
          have hb2 := below_grown (B.alloc (by omega) _) hgr1 (hown.alloc _) (Nat.le_refl _) (by simp; omega)
          go_roundw
          case rel => exact ⟨k + 1, a1, cap1, by omega, by go_num, rfl, by rw [hS.out, ← List.append_assoc, byteVals_snoc]; exact hown1, hb2⟩
          case measure => simp [intOf]; omega
        · have h8 : k = 8 := by omega
          subst h8
          have hp8 : pz ++ (be8 (8 * n)).take 8 = padded l := by rw [HPAD.out, List.take_of_length_le (by rw [be8_length]; exact Nat.le_refl _)]
          rw [hp8] at hown
          have hlen : L + 8 = (padded l).length := by have h := hown.1; rw [byteVals_length] at h; omega
          have HLEN := Box.mk hlen; clear hp8 hlt hlen
          go_wp2_with fail
          go_ret
          exact retB_mk (l := padded l) rfl hown B (Nat.le_refl _) HLEN.out rfl rfl
end Go.Proofs.YtcngnpkpaliflaaDoor
