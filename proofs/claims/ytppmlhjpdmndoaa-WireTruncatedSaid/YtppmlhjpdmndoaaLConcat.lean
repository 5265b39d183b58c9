/-
  The walk of WireConcat: it returns true and keeps what was there. No condition.
-/
import Derived.Test.YtppmlhjpdmndoaaWSanity
import Derived.Test.YtppmlhjpdmndoaaMemF
import Derived.Test.YtppmlhjpdmndoaaRound
import Derived.Test.YtppmlhjpdmndoaaOpen1
namespace Go.Proofs.Ytppmlhjpdmndoaa
open Go.RowKit

theorem str_back (s : ByteArray) : (⟨s.data.toList.toArray⟩ : ByteArray) = s := by cases s; simp

theorem encB_len (s : List UInt8) (hs : s.length ≤ 1099511627776) : (encB s).length ≤ 10 + s.length ∧ s.length < (encB s).length := by
  have := enc_len (s.length : Int) (by omega) (by omega)
  unfold encB; rw [List.length_append]; omega
theorem encLI_len (xs : List Int) (hx : ∀ x ∈ xs, -9223372036854775808 ≤ x ∧ x ≤ 9223372036854775807) (hn : xs.length ≤ 1099511627776) : (encL enc xs).length ≤ 10 + 10 * xs.length ∧ 0 < (encL enc xs).length := by
  have h := encTo_int_len xs hx hn xs.length (Nat.le_refl _)
  rw [encTo_all] at h
  refine ⟨h, ?_⟩
  have := enc_len (xs.length : Int) (by omega) (by omega)
  unfold encL; rw [List.length_append]; omega

set_option maxRecDepth 20000 in
set_option maxHeartbeats 4000000 in
theorem concat_walk (s : ByteArray) (hs : s.size ≤ 140737488351232) (a : Option Addr) (n cap : Nat) (xs : List Int) (w : World) (hn : n ≤ 140737488351232) (hrd : Rd w a n cap 1 (intVals xs)) (hx : Hid (∀ x ∈ xs, -9223372036854775808 ≤ x ∧ x ≤ 9223372036854775807)) :
    Calls Try.prog 10 #[.string s, .slice a n cap] w fun e w' => e = .returned (.bool true) ∧ Below w.heap.size w w' := by
  have Hl : Hid (xs.length = n) := by have := hrd.hlen; rw [intVals_length] at this; show _ = _; omega
  have hsl := Lib.hid (show s.data.toList.length = s.size from by simp)
  by_cases hle : s.size + n ≤ 2000
  · have hB := encB_len s.data.toList (by rw [hsl.out]; omega)
    have hI := encLI_len xs hx.out (by rw [Hl.out]; omega)
    rw [hsl.out] at hB
    rw [Hl.out] at hI
    have G1 := Lib.hid (getB_round s.data.toList (encL enc xs) (by rw [hsl.out]; omega))
    have G2 := Lib.hid (getL_round codecI (Nat.le_refl _) xs [] hx.out (by rw [Hl.out]; omega))
    rw [List.append_nil] at G2
    go_enter Try.func10, Try.ntmps10
    go_wp2_with fail
    refine (bytes_any _ _ (by omega)).mono ?_
    rintro e w1 ⟨a1, c1, rfl, hown1, hb1⟩
    go_wp2_with fail
    refine (ints_v (r := encL enc xs) rfl (hrd.call0 hb1) hx (by omega)).mono ?_
    rintro e w2 ⟨a2, c2, rfl, R2, hb2⟩
    have B2 := hb1.call0 (Nat.le_refl _) hb2
    have hown2 := own_below hown1 hb2 (Nat.le_refl _)
    have hz1 := hb1.size
    have hz2 := hb2.size
    go_wp2_with (at_builtin; refine wpList_append_src rfl _ _ 28 28 rfl sl28 (.inl sl28.ht) rfl hown2 rfl (Src.ofRd R2 (byteVals_one _)) (by omega) (by unfold maxLen; omega) (by omega) ?_; intro a3 c3 w3 hown3 hgr3 _)
    have B3 := below_grown B2 hgr3 hown2 (Nat.le_refl _) (by omega)
    rw [← byteVals_append] at hown3
    have R3 := Rd.ofOwn hown3
    have hrd3 := hrd.below B3 (Nat.le_refl _)
    clear hown1 hown2 hown3 hb1 hb2 R2 hgr3 B2 hrd
    refine (getBytes_n G1.out R3).mono ?_
    rintro e w4 ⟨rfl, rfl⟩
    rw [str_back]
    obtain ⟨p, hp⟩ : ∃ p, p = (encB s.data.toList).length := ⟨_, rfl⟩
    obtain ⟨q, hq⟩ : ∃ q, q = (encL enc xs).length := ⟨_, rfl⟩
    rw [← hp] at hB R3 ⊢
    rw [← hq] at hI R3 ⊢
    obtain ⟨a5, h5, R5⟩ := R3.subAt p (p + q) (by omega) (by omega)
    have hx5 : ((byteVals (encB s.data.toList ++ encL enc xs)).drop p).take (p + q - p) = byteVals (encL enc xs) := by
      rw [byteVals_append, hp, List.drop_left' (byteVals_length _), List.take_of_length_le (by rw [byteVals_length]; omega)]
    rw [hx5, show p + q - p = q from by omega] at R5
    have hmax := R3.hcap
    have hmax2 := R3.hmax
    have hp' := Lib.hid hp
    have hq' := Lib.hid hq
    clear hp hq
    rw [if_neg (by omega)] at h5
    subst h5
    go_wp2_with fail
    refine (getInts_v G2.out R5 (by omega)).mono ?_
    rintro e w5 ⟨a6, c6, rfl, R6, hb5⟩
    have hrd5 := hrd3.call0 hb5
    have B5 := B3.call0 (Nat.le_refl _) hb5
    rw [← hq'.out]
    clear R5 R3 hb5 hrd3 B3
    go_wp2_with fail
    refine (sanity_any _).mono ?_
    rintro e w6 ⟨rfl, hb6⟩
    have hrd6 := hrd5.call0 hb6
    have R6b := R6.call0 hb6
    have B6 := B5.call0 (Nat.le_refl _) hb6
    clear hrd5 hb6 R6 B5
    go_wp2_with fail
    refine (sameInts_v R6b hrd6 (r := true) (by simp)).mono ?_
    rintro e w7 ⟨rfl, hb7⟩
    have B7 := B6.call0 (Nat.le_refl _) hb7
    go_wp2_with fail
    go_ret
    exact ⟨rfl, B7⟩
  · go_enter Try.func10, Try.ntmps10
    go_wp2_with (go_at_call 12; refine (sanity_any _).mono ?_; rintro e w9 ⟨rfl, hb9⟩)
    go_ret
    exact ⟨rfl, hb9⟩
end Go.Proofs.Ytppmlhjpdmndoaa
