/-
  The walk of WireDecodeMatchesSpec: it returns true and keeps what was there. No condition.
-/
import Derived.Test.YtppmlhjpdmndoaaWSanity
import Derived.Test.YtppmlhjpdmndoaaArg
namespace Go.Proofs.Ytppmlhjpdmndoaa
open Go.RowKit

theorem getEls_dig (l : List UInt8) : ∀ (n at_ : Nat) (acc : List (List UInt8)), at_ + n * 16 ≤ l.length → (∀ d ∈ acc, d.length = 16) → ∀ d ∈ (getEls getD16 l n at_ acc).1, d.length = 16
  | 0, at_, acc, _, h => by simpa [getEls] using h
  | n + 1, at_, acc, hl, h => by
    rw [getEls, if_neg (by simp [getD16])]
    refine getEls_dig l n _ _ (by simp [getD16]; omega) ?_
    intro d hd
    rw [List.mem_append] at hd
    rcases hd with hd | hd
    · exact h d hd
    · simp [getD16] at hd; subst hd; rw [List.length_take, List.length_drop]; omega

theorem getL_dig (l : List UInt8) : ∀ d ∈ (getL getD16 16 l).1, d.length = 16 := by
  unfold getL
  split
  · simp
  · rename_i h
    have h' : (getLen l 16).2.2 = 0 := Decidable.not_not.1 h
    obtain ⟨e, h0, h1, h2⟩ := getLen_ok (by omega) h'
    have hu := getI_used l
    rw [e]
    exact getEls_dig l _ _ _ (by omega) (by simp)

set_option maxRecDepth 20000 in
set_option maxHeartbeats 4000000 in
theorem decode_walk (a0 : Option Addr) (len0 cap0 : Nat) (l : List UInt8) (w : World) (hrd : Rd w a0 len0 cap0 1 (byteVals l)) :
    Calls Try.prog 4 #[.slice a0 len0 cap0] w fun e w' => e = .returned (.bool true) ∧ Below w.heap.size w w' := by
  have hmax := hrd.lenMax
  by_cases hlen : len0 ≤ 2000
  · obtain ⟨x1, u1, e1, hx1⟩ : ∃ x u e, getI l = (x, u, e) := ⟨_, _, _, rfl⟩
    obtain ⟨x2, u2, e2, hx2⟩ : ∃ x u e, getB l = (x, u, e) := ⟨_, _, _, rfl⟩
    obtain ⟨x3, u3, e3, hx3⟩ : ∃ x u e, getL getI 1 l = (x, u, e) := ⟨_, _, _, rfl⟩
    obtain ⟨x4, u4, e4, hx4⟩ : ∃ x u e, getL getB 1 l = (x, u, e) := ⟨_, _, _, rfl⟩
    obtain ⟨x5, u5, e5, hx5⟩ : ∃ x u e, getL getD16 16 l = (x, u, e) := ⟨_, _, _, rfl⟩
    have hd := getL_dig l
    rw [hx5] at hd
    have Hd := Lib.hid hd; clear hd
    have Hx1 := Lib.hid hx1; have Hx2 := Lib.hid hx2; have Hx3 := Lib.hid hx3; have Hx4 := Lib.hid hx4; have Hx5 := Lib.hid hx5
    clear hx1 hx2 hx3 hx4 hx5
    go_enter Try.func4, Try.ntmps4
    go_wp2_with fail
    refine (getInt_n Hx1.out hrd).mono ?_
    rintro e w1 ⟨rfl, rfl⟩
    go_wp2_with fail
    refine (refGetInt_n Hx1.out hrd).mono ?_
    rintro e w1 ⟨rfl, rfl⟩
    go_wp2_with fail
    refine (getBytes_n Hx2.out hrd).mono ?_
    rintro e w1 ⟨rfl, rfl⟩
    go_wp2_with fail
    refine (refGetBytes_n Hx2.out hrd).mono ?_
    rintro e w1 ⟨rfl, rfl⟩
    go_wp2_with fail
    refine (getInts_v Hx3.out hrd (by omega)).mono ?_
    rintro e w1 ⟨a1, c1, rfl, R1, hb1⟩
    have hrd1 := hrd.call0 hb1
    go_wp2_with fail
    refine (refGetInts_v Hx3.out hrd1 (by omega)).mono ?_
    rintro e w2 ⟨a2, c2, rfl, R2, hb2⟩
    have B2 := hb1.call0 (Nat.le_refl _) hb2
    have hrd2 := hrd1.call0 hb2
    go_wp2_with fail
    refine (sameInts_v (R1.call0 hb2) R2 (r := true) (by simp)).mono ?_
    rintro e w3 ⟨rfl, hb3⟩
    have B3 := B2.call0 (Nat.le_refl _) hb3
    have hrd3 := hrd2.call0 hb3
    clear hb1 hb2 hb3 B2 hrd1 hrd2 R1 R2
    go_wp2_with fail
    refine (getStrings_v Hx4.out hrd3 (by omega)).mono ?_
    rintro e w4 ⟨a4, c4, rfl, R4, hb4⟩
    have B4 := B3.call0 (Nat.le_refl _) hb4
    have hrd4 := hrd3.call0 hb4
    go_wp2_with fail
    refine (refGetStrings_v Hx4.out hrd4 (by omega)).mono ?_
    rintro e w5 ⟨a5, c5, rfl, R5, hb5⟩
    have B5 := B4.call0 (Nat.le_refl _) hb5
    have hrd5 := hrd4.call0 hb5
    go_wp2_with fail
    refine (sameTexts_v (R4.call0 hb5) R5 (r := true) (by simp)).mono ?_
    rintro e w6 ⟨rfl, hb6⟩
    have B6 := B5.call0 (Nat.le_refl _) hb6
    have hrd6 := hrd5.call0 hb6
    clear hb4 hb5 hb6 B3 B4 B5 hrd3 hrd4 hrd5 R4 R5
    go_wp2_with fail
    refine (getDigests_v Hx5.out hrd6 (by omega)).mono ?_
    rintro e w7 ⟨a7, c7, rfl, R7, hb7⟩
    have B7 := B6.call0 (Nat.le_refl _) hb7
    have hrd7 := hrd6.call0 hb7
    go_wp2_with fail
    refine (refGetDigests_v Hx5.out hrd7 (by omega)).mono ?_
    rintro e w8 ⟨a8, c8, rfl, R8, hb8⟩
    have B8 := B7.call0 (Nat.le_refl _) hb8
    have R7' := R7.call0 hb8
    go_wp2_with fail
    refine (sanity_any _).mono ?_
    rintro e w9 ⟨rfl, hb9⟩
    have B9 := B8.call0 (Nat.le_refl _) hb9
    go_wp2_with fail
    refine (sameDigests_v (R7'.call0 hb9) (R8.call0 hb9) Hd Hd (r := true) (by simp)).mono ?_
    rintro e w10 ⟨rfl, hb10⟩
    have B10 := B9.call0 (Nat.le_refl _) hb10
    go_wp2_with fail
    go_ret
    exact ⟨rfl, B10⟩
  · go_enter Try.func4, Try.ntmps4
    go_wp2_with (go_at_call 12; refine (sanity_any _).mono ?_; rintro e w9 ⟨rfl, hb9⟩)
    go_ret
    exact ⟨rfl, hb9⟩
end Go.Proofs.Ytppmlhjpdmndoaa
