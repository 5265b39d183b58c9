/-
  The walk of WireEncodeMatchesSpec: it returns true and keeps what was there. No condition.
-/
import Derived.Test.YtppmlhjpdmndoaaWSanity
import Derived.Test.YtppmlhjpdmndoaaOpen1
namespace Go.Proofs.Ytppmlhjpdmndoaa
open Go.RowKit

set_option maxRecDepth 20000 in
set_option maxHeartbeats 8000000 in
theorem encode_walk (n : Int) (h1 : -9223372036854775808 ≤ n) (h2 : n ≤ 9223372036854775807) (s : ByteArray) (hs : s.size ≤ 140737488351232)
    (a2 : Option Addr) (n2 k2 : Nat) (xs : List Int) (a3 : Option Addr) (n3 k3 : Nat) (ss : List (List UInt8)) (a4 : Option Addr) (n4 k4 : Nat) (ds : List (List UInt8)) (w : World)
    (hn2 : n2 ≤ 140737488351232) (R2 : Rd w a2 n2 k2 1 (intVals xs)) (hx : Hid (∀ x ∈ xs, -9223372036854775808 ≤ x ∧ x ≤ 9223372036854775807))
    (hn3 : n3 ≤ 140737488351232) (R3 : Rd w a3 n3 k3 1 (bstrVals ss)) (hss : totLen ss ≤ 140737488351232)
    (hn4 : n4 ≤ 140737488351232) (R4 : Rd w a4 n4 k4 16 (digVals ds)) (hd : Hid (∀ d ∈ ds, d.length = 16)) :
    Calls Try.prog 3 #[.int .i64 n, .string s, .slice a2 n2 k2, .slice a3 n3 k3, .slice a4 n4 k4] w fun e w' => e = .returned (.bool true) ∧ Below w.heap.size w w' := by
  by_cases hle : s.size + n2 + n4 ≤ 2000
  · by_cases hf : n3 + totLen ss ≤ 2000
    · go_enter Try.func3, Try.ntmps3
      go_wp2_with fail
      refine (few_any ss _ _ _ _ R3 (by omega)).mono ?_
      rintro e w1 ⟨rfl, rfl⟩
      rw [decide_eq_true hf]
      go_wp2_with fail
      refine (sanity_any _).mono ?_
      rintro e w1 ⟨rfl, hb1⟩
      have R2_1 := R2.call0 hb1
      have R3_1 := R3.call0 hb1
      have R4_1 := R4.call0 hb1
      have B_1 := (Below.refl _ _).call0 (Nat.le_refl _) hb1
      clear hb1 R2 R3 R4
      go_wp2_with fail
      refine (int_v rfl h1 h2).mono ?_
      rintro e w2 ⟨a2_P, c2_P, rfl, P_2, hb2⟩
      have R2_2 := R2_1.call0 hb2
      have R3_2 := R3_1.call0 hb2
      have R4_2 := R4_1.call0 hb2
      have B_2 := B_1.call0 (Nat.le_refl _) hb2
      clear hb2 R2_1 R3_1 R4_1 B_1
      go_wp2_with fail
      refine (refInt_v rfl h1 h2).mono ?_
      rintro e w3 ⟨a3_Q, c3_Q, rfl, Q_3, hb3⟩
      have R2_3 := R2_2.call0 hb3
      have R3_3 := R3_2.call0 hb3
      have R4_3 := R4_2.call0 hb3
      have P_3 := P_2.call0 hb3
      have B_3 := B_2.call0 (Nat.le_refl _) hb3
      clear hb3 R2_2 R3_2 R4_2 P_2 B_2
      go_wp2_with fail
      refine (same_v P_3 Q_3 (r := true) (by simp)).mono ?_
      rintro e w4 ⟨rfl, hb4⟩
      have R2_4 := R2_3.call0 hb4
      have R3_4 := R3_3.call0 hb4
      have R4_4 := R4_3.call0 hb4
      have B_4 := B_3.call0 (Nat.le_refl _) hb4
      clear hb4 P_3 Q_3 R2_3 R3_3 R4_3 B_3
      go_wp2_with fail
      refine (bytes_v rfl (by omega)).mono ?_
      rintro e w5 ⟨a5_P, c5_P, rfl, P_5, hb5⟩
      have R2_5 := R2_4.call0 hb5
      have R3_5 := R3_4.call0 hb5
      have R4_5 := R4_4.call0 hb5
      have B_5 := B_4.call0 (Nat.le_refl _) hb5
      clear hb5 R2_4 R3_4 R4_4 B_4
      go_wp2_with fail
      refine (refBytes_v rfl (by omega)).mono ?_
      rintro e w6 ⟨a6_Q, c6_Q, rfl, Q_6, hb6⟩
      have R2_6 := R2_5.call0 hb6
      have R3_6 := R3_5.call0 hb6
      have R4_6 := R4_5.call0 hb6
      have P_6 := P_5.call0 hb6
      have B_6 := B_5.call0 (Nat.le_refl _) hb6
      clear hb6 R2_5 R3_5 R4_5 P_5 B_5
      go_wp2_with fail
      refine (same_v P_6 Q_6 (r := true) (by simp)).mono ?_
      rintro e w7 ⟨rfl, hb7⟩
      have R2_7 := R2_6.call0 hb7
      have R3_7 := R3_6.call0 hb7
      have R4_7 := R4_6.call0 hb7
      have B_7 := B_6.call0 (Nat.le_refl _) hb7
      clear hb7 P_6 Q_6 R2_6 R3_6 R4_6 B_6
      go_wp2_with fail
      refine (ints_v rfl R2_7 hx (by omega)).mono ?_
      rintro e w8 ⟨a8_P, c8_P, rfl, P_8, hb8⟩
      have R2_8 := R2_7.call0 hb8
      have R3_8 := R3_7.call0 hb8
      have R4_8 := R4_7.call0 hb8
      have B_8 := B_7.call0 (Nat.le_refl _) hb8
      clear hb8 R2_7 R3_7 R4_7 B_7
      go_wp2_with fail
      refine (refInts_v rfl R2_8 hx (by omega)).mono ?_
      rintro e w9 ⟨a9_Q, c9_Q, rfl, Q_9, hb9⟩
      have R3_9 := R3_8.call0 hb9
      have R4_9 := R4_8.call0 hb9
      have P_9 := P_8.call0 hb9
      have B_9 := B_8.call0 (Nat.le_refl _) hb9
      clear hb9 R2_8 R3_8 R4_8 P_8 B_8
      go_wp2_with fail
      refine (same_v P_9 Q_9 (r := true) (by simp)).mono ?_
      rintro e w10 ⟨rfl, hb10⟩
      have R3_10 := R3_9.call0 hb10
      have R4_10 := R4_9.call0 hb10
      have B_10 := B_9.call0 (Nat.le_refl _) hb10
      clear hb10 P_9 Q_9 R3_9 R4_9 B_9
      go_wp2_with fail
      refine (strings_v rfl R3_10 (by omega) (by omega)).mono ?_
      rintro e w11 ⟨a11_P, c11_P, rfl, P_11, hb11⟩
      have R3_11 := R3_10.call0 hb11
      have R4_11 := R4_10.call0 hb11
      have B_11 := B_10.call0 (Nat.le_refl _) hb11
      clear hb11 R3_10 R4_10 B_10
      go_wp2_with fail
      refine (refStrings_v rfl R3_11 (by omega) (by omega)).mono ?_
      rintro e w12 ⟨a12_Q, c12_Q, rfl, Q_12, hb12⟩
      have R4_12 := R4_11.call0 hb12
      have P_12 := P_11.call0 hb12
      have B_12 := B_11.call0 (Nat.le_refl _) hb12
      clear hb12 R3_11 R4_11 P_11 B_11
      go_wp2_with fail
      refine (same_v P_12 Q_12 (r := true) (by simp)).mono ?_
      rintro e w13 ⟨rfl, hb13⟩
      have R4_13 := R4_12.call0 hb13
      have B_13 := B_12.call0 (Nat.le_refl _) hb13
      clear hb13 P_12 Q_12 R4_12 B_12
      go_wp2_with fail
      refine (digests_v rfl hd R4_13 (by omega)).mono ?_
      rintro e w14 ⟨a14_P, c14_P, rfl, P_14, hb14⟩
      have R4_14 := R4_13.call0 hb14
      have B_14 := B_13.call0 (Nat.le_refl _) hb14
      clear hb14 R4_13 B_13
      go_wp2_with fail
      refine (refDigests_v rfl hd R4_14 (by omega)).mono ?_
      rintro e w15 ⟨a15_Q, c15_Q, rfl, Q_15, hb15⟩
      have P_15 := P_14.call0 hb15
      have B_15 := B_14.call0 (Nat.le_refl _) hb15
      clear hb15 R4_14 P_14 B_14
      go_wp2_with fail
      refine (same_v P_15 Q_15 (r := true) (by simp)).mono ?_
      rintro e w16 ⟨rfl, hb16⟩
      have B_16 := B_15.call0 (Nat.le_refl _) hb16
      clear hb16 P_15 Q_15 B_15
      go_wp2_with fail
      go_ret
      exact ⟨rfl, B_16⟩
    · go_enter Try.func3, Try.ntmps3
      go_wp2_with fail
      refine (few_any ss _ _ _ _ R3 (by omega)).mono ?_
      rintro e w1 ⟨rfl, rfl⟩
      rw [decide_eq_false hf]
      go_wp2_with (go_at_call 12; refine (sanity_any _).mono ?_; rintro e w9 ⟨rfl, hb9⟩)
      go_ret
      exact ⟨rfl, hb9⟩
  · go_enter Try.func3, Try.ntmps3
    go_wp2_with (go_at_call 12; refine (sanity_any _).mono ?_; rintro e w9 ⟨rfl, hb9⟩)
    go_ret
    exact ⟨rfl, hb9⟩
end Go.Proofs.Ytppmlhjpdmndoaa
