/-
  The walk of WireListRoundTrip: it returns true and keeps what was there. No condition.
-/
import Derived.Test.YtppmlhjpdmndoaaLConcat
import Derived.Test.YtppmlhjpdmndoaaLInt
namespace Go.Proofs.Ytppmlhjpdmndoaa
open Go.RowKit

theorem encLB_len (ss : List (List UInt8)) (hs : totLen ss ≤ 1099511627776) (hn : ss.length ≤ 1099511627776) : (encL encB ss).length ≤ 10 + 10 * ss.length + totLen ss := by
  have h := encTo_str_len (ss.map fun s => (⟨s.toArray⟩ : ByteArray)) (by rw [sumLen_tot]; exact hs) (by rw [List.length_map]; exact hn) ss.length (by rw [List.length_map]; exact Nat.le_refl _)
  have e : encTo (fun s : ByteArray => encB s.data.toList) (ss.map fun s => (⟨s.toArray⟩ : ByteArray)) ss.length = encL encB ss := by
    have := encTo_all (fun s : ByteArray => encB s.data.toList) (ss.map fun s => (⟨s.toArray⟩ : ByteArray))
    rw [List.length_map, encL_str] at this; exact this
  rw [e, List.take_of_length_le (by rw [List.length_map]; exact Nat.le_refl _), sumLen_tot] at h; exact h
theorem encLD_len (ds : List (List UInt8)) (hd : ∀ d ∈ ds, d.length = 16) (hn : ds.length ≤ 1099511627776) : (encL (fun d => d) ds).length ≤ 10 + 16 * ds.length := by
  have := enc_len (ds.length : Int) (by omega) (by omega)
  have h2 : ∀ ds : List (List UInt8), (∀ d ∈ ds, d.length = 16) → (ds.flatMap fun d => d).length = 16 * ds.length := by
    intro ds
    induction ds with
    | nil => intro _; rfl
    | cons d ds ih => intro h; rw [List.flatMap_cons, List.length_append, ih (fun y hy => h y (by simp [hy])), h d (by simp), List.length_cons]; omega
  unfold encL; rw [List.length_append, h2 ds hd]; omega
theorem tot_each (ss : List (List UInt8)) : ∀ s ∈ ss, s.length ≤ totLen ss := by
  intro s hs
  induction ss with
  | nil => cases hs
  | cons x ss ih =>
    have h : totLen (x :: ss) = x.length + totLen ss := by simp [totLen]
    rw [h]
    rcases List.mem_cons.1 hs with rfl | hs
    · omega
    · have := ih hs; omega

set_option maxRecDepth 20000 in
set_option maxHeartbeats 8000000 in
theorem list_walk (s : ByteArray) (hs : s.size ≤ 140737488351232)
    (a1 : Option Addr) (n1 k1 : Nat) (xs : List Int) (a2 : Option Addr) (n2 k2 : Nat) (ss : List (List UInt8)) (a3 : Option Addr) (n3 k3 : Nat) (ds : List (List UInt8)) (a4 : Option Addr) (n4 k4 : Nat) (tl : List UInt8) (w : World)
    (hn1 : n1 ≤ 140737488351232) (R1 : Rd w a1 n1 k1 1 (intVals xs)) (hx : Hid (∀ x ∈ xs, -9223372036854775808 ≤ x ∧ x ≤ 9223372036854775807))
    (hn2 : n2 ≤ 140737488351232) (R2 : Rd w a2 n2 k2 1 (bstrVals ss)) (hss : totLen ss ≤ 140737488351232)
    (hn3 : n3 ≤ 140737488351232) (R3 : Rd w a3 n3 k3 16 (digVals ds)) (hd : Hid (∀ d ∈ ds, d.length = 16))
    (hn4 : n4 ≤ 140737488351232) (R4 : Rd w a4 n4 k4 1 (byteVals tl)) :
    Calls Try.prog 8 #[.string s, .slice a1 n1 k1, .slice a2 n2 k2, .slice a3 n3 k3, .slice a4 n4 k4] w fun e w' => e = .returned (.bool true) ∧ Below w.heap.size w w' := by
  by_cases hle : s.size + n1 + n3 + n4 ≤ 2000
  · by_cases hf : n2 + totLen ss ≤ 2000
    · have hsl := Lib.hid (show s.data.toList.length = s.size from by simp)
      have L1 : Hid (xs.length = n1) := by have := R1.hlen; rw [intVals_length] at this; show _ = _; omega
      have L2 : Hid (ss.length = n2) := by have := R2.hlen; rw [bstrVals_length] at this; show _ = _; omega
      have L3 : Hid (n3 = ds.length) := dig_n hd R3
      have M1 := encB_len s.data.toList (by rw [hsl.out]; omega)
      have M2 := encLI_len xs hx.out (by rw [L1.out]; omega)
      have M3 := encLD_len ds hd.out (by rw [← L3.out]; omega)
      have M4 := encLB_len ss (by omega) (by rw [L2.out]; omega)
      rw [hsl.out] at M1; rw [L1.out] at M2; rw [← L3.out] at M3; rw [L2.out] at M4
      have G1 := Lib.hid (getB_round s.data.toList tl (by rw [hsl.out]; omega))
      have G2 := Lib.hid (getL_round codecI (Nat.le_refl _) xs tl hx.out (by rw [L1.out]; omega))
      have G3 := Lib.hid (getL_round codecD (by omega) ds tl hd.out (by rw [← L3.out]; omega))
      have G4 := Lib.hid (getL_round codecB (Nat.le_refl _) ss tl (fun x hx => by have := tot_each ss x hx; omega) (by rw [L2.out]; omega))
      go_enter Try.func8, Try.ntmps8
      go_wp2_with fail
      refine (few_any ss _ _ _ _ R2 (by omega)).mono ?_
      rintro e w1 ⟨rfl, rfl⟩
      rw [decide_eq_true hf]
      go_wp2_with fail
      refine (bytes_v rfl (by omega)).mono ?_
      rintro e w1 ⟨a_1, c_1, rfl, A, hb1⟩
      have R1_1 := R1.call0 hb1
      have R2_1 := R2.call0 hb1
      have R3_1 := R3.call0 hb1
      have R4_1 := R4.call0 hb1
      have BEL_1 := (Below.refl _ _).call0 (Nat.le_refl _) hb1
      clear hb1 R1 R2 R3 R4
      go_wp2_with fail
      refine (ints_v rfl R1_1 hx (by omega)).mono ?_
      rintro e w2 ⟨a_2, c_2, rfl, B, hb2⟩
      have R1_2 := R1_1.call0 hb2
      have R2_2 := R2_1.call0 hb2
      have R3_2 := R3_1.call0 hb2
      have R4_2 := R4_1.call0 hb2
      have A_2 := A.call0 hb2
      have BEL_2 := BEL_1.call0 (Nat.le_refl _) hb2
      clear hb2 R1_1 R2_1 R3_1 R4_1 A BEL_1
      go_wp2_with fail
      refine (digests_v rfl hd R3_2 (by omega)).mono ?_
      rintro e w3 ⟨a_3, c_3, rfl, C, hb3⟩
      have R1_3 := R1_2.call0 hb3
      have R2_3 := R2_2.call0 hb3
      have R3_3 := R3_2.call0 hb3
      have R4_3 := R4_2.call0 hb3
      have A_3 := A_2.call0 hb3
      have B_3 := B.call0 hb3
      have BEL_3 := BEL_2.call0 (Nat.le_refl _) hb3
      clear hb3 R1_2 R2_2 R3_2 R4_2 A_2 B BEL_2
      go_wp2_with fail
      refine (strings_v rfl R2_3 (by omega) (by omega)).mono ?_
      rintro e w4 ⟨a_4, c_4, rfl, D, hb4⟩
      have R1_4 := R1_3.call0 hb4
      have R2_4 := R2_3.call0 hb4
      have R3_4 := R3_3.call0 hb4
      have R4_4 := R4_3.call0 hb4
      have A_4 := A_3.call0 hb4
      have B_4 := B_3.call0 hb4
      have C_4 := C.call0 hb4
      have BEL_4 := BEL_3.call0 (Nat.le_refl _) hb4
      clear hb4 R1_3 R2_3 R3_3 R4_3 A_3 B_3 C BEL_3
      have Ff5 := A_4.full
      have Sf5 := Src.ofRd (P := Try.prog) R4_4 (byteVals_one _)
      have Pf5 := A_4.hcap
      go_wp2_with (at_builtin; refine wpList_append_full rfl _ _ 28 28 rfl sl28 (.inl sl28.ht) rfl Ff5 rfl Sf5 (by omega) (by unfold maxLen; omega) ?_; intro a_f5 c_f5 w_f5 A2 hbf5)
      rw [byteVals_app] at A2
      clear Ff5 Sf5 Pf5
      have R1_f5 := R1_4.call0 hbf5
      have R2_f5 := R2_4.call0 hbf5
      have R3_f5 := R3_4.call0 hbf5
      have R4_f5 := R4_4.call0 hbf5
      have B_f5 := B_4.call0 hbf5
      have C_f5 := C_4.call0 hbf5
      have D_f5 := D.call0 hbf5
      have BEL_f5 := BEL_4.call0 (Nat.le_refl _) hbf5
      clear hbf5 A_4 R1_4 R2_4 R3_4 R4_4 B_4 C_4 D BEL_4
      refine (getBytes_n G1.out A2).mono ?_
      rintro e wq6 ⟨rfl, rfl⟩
      rw [str_back]
      have Ff7 := B_f5.full
      have Sf7 := Src.ofRd (P := Try.prog) R4_f5 (byteVals_one _)
      have Pf7 := B_f5.hcap
      go_wp2_with (at_builtin; refine wpList_append_full rfl _ _ 28 28 rfl sl28 (.inl sl28.ht) rfl Ff7 rfl Sf7 (by omega) (by unfold maxLen; omega) ?_; intro a_f7 c_f7 w_f7 B2 hbf7)
      rw [byteVals_app] at B2
      clear Ff7 Sf7 Pf7
      have R1_f7 := R1_f5.call0 hbf7
      have R2_f7 := R2_f5.call0 hbf7
      have R3_f7 := R3_f5.call0 hbf7
      have R4_f7 := R4_f5.call0 hbf7
      have C_f7 := C_f5.call0 hbf7
      have D_f7 := D_f5.call0 hbf7
      have A2_f7 := A2.call0 hbf7
      have BEL_f7 := BEL_f5.call0 (Nat.le_refl _) hbf7
      clear hbf7 B_f5 R1_f5 R2_f5 R3_f5 R4_f5 C_f5 D_f5 A2 BEL_f5
      refine (getInts_v G2.out B2 (by omega)).mono ?_
      rintro e w8 ⟨a_8, c_8, rfl, K, hb8⟩
      have R1_8 := R1_f7.call0 hb8
      have R2_8 := R2_f7.call0 hb8
      have R3_8 := R3_f7.call0 hb8
      have R4_8 := R4_f7.call0 hb8
      have C_8 := C_f7.call0 hb8
      have D_8 := D_f7.call0 hb8
      have BEL_8 := BEL_f7.call0 (Nat.le_refl _) hb8
      clear hb8 A2_f7 B2 R1_f7 R2_f7 R3_f7 R4_f7 C_f7 D_f7 BEL_f7
      have Ff9 := C_8.full
      have Sf9 := Src.ofRd (P := Try.prog) R4_8 (byteVals_one _)
      have Pf9 := C_8.hcap
      go_wp2_with (at_builtin; refine wpList_append_full rfl _ _ 28 28 rfl sl28 (.inl sl28.ht) rfl Ff9 rfl Sf9 (by omega) (by unfold maxLen; omega) ?_; intro a_f9 c_f9 w_f9 C2 hbf9)
      rw [byteVals_app] at C2
      clear Ff9 Sf9 Pf9
      have R1_f9 := R1_8.call0 hbf9
      have R2_f9 := R2_8.call0 hbf9
      have R3_f9 := R3_8.call0 hbf9
      have R4_f9 := R4_8.call0 hbf9
      have D_f9 := D_8.call0 hbf9
      have K_f9 := K.call0 hbf9
      have BEL_f9 := BEL_8.call0 (Nat.le_refl _) hbf9
      clear hbf9 C_8 R1_8 R2_8 R3_8 R4_8 D_8 K BEL_8
      refine (getDigests_v G3.out C2 (by omega)).mono ?_
      rintro e w10 ⟨a_10, c_10, rfl, Y, hb10⟩
      have R1_10 := R1_f9.call0 hb10
      have R2_10 := R2_f9.call0 hb10
      have R3_10 := R3_f9.call0 hb10
      have R4_10 := R4_f9.call0 hb10
      have D_10 := D_f9.call0 hb10
      have K_10 := K_f9.call0 hb10
      have BEL_10 := BEL_f9.call0 (Nat.le_refl _) hb10
      clear hb10 C2 R1_f9 R2_f9 R3_f9 R4_f9 D_f9 K_f9 BEL_f9
      have Ff11 := D_10.full
      have Sf11 := Src.ofRd (P := Try.prog) R4_10 (byteVals_one _)
      have Pf11 := D_10.hcap
      go_wp2_with (at_builtin; refine wpList_append_full rfl _ _ 28 28 rfl sl28 (.inl sl28.ht) rfl Ff11 rfl Sf11 (by omega) (by unfold maxLen; omega) ?_; intro a_f11 c_f11 w_f11 D2 hbf11)
      rw [byteVals_app] at D2
      clear Ff11 Sf11 Pf11
      have R1_f11 := R1_10.call0 hbf11
      have R2_f11 := R2_10.call0 hbf11
      have R3_f11 := R3_10.call0 hbf11
      have R4_f11 := R4_10.call0 hbf11
      have K_f11 := K_10.call0 hbf11
      have Y_f11 := Y.call0 hbf11
      have BEL_f11 := BEL_10.call0 (Nat.le_refl _) hbf11
      clear hbf11 D_10 R1_10 R2_10 R3_10 R4_10 K_10 Y BEL_10
      refine (getStrings_v G4.out D2 (by omega)).mono ?_
      rintro e w12 ⟨a_12, c_12, rfl, Z, hb12⟩
      have R1_12 := R1_f11.call0 hb12
      have R2_12 := R2_f11.call0 hb12
      have R3_12 := R3_f11.call0 hb12
      have K_12 := K_f11.call0 hb12
      have Y_12 := Y_f11.call0 hb12
      have BEL_12 := BEL_f11.call0 (Nat.le_refl _) hb12
      clear hb12 D2 R4_f11 R1_f11 R2_f11 R3_f11 K_f11 Y_f11 BEL_f11
      go_wp2_with fail
      refine (sanity_any _).mono ?_
      rintro e w13 ⟨rfl, hb13⟩
      have R1_13 := R1_12.call0 hb13
      have R2_13 := R2_12.call0 hb13
      have R3_13 := R3_12.call0 hb13
      have K_13 := K_12.call0 hb13
      have Y_13 := Y_12.call0 hb13
      have Z_13 := Z.call0 hb13
      have BEL_13 := BEL_12.call0 (Nat.le_refl _) hb13
      clear hb13 R1_12 R2_12 R3_12 K_12 Y_12 Z BEL_12
      go_wp2_with fail
      refine (sameTexts_v Z_13 R2_13 (r := true) (by simp)).mono ?_
      rintro e w14 ⟨rfl, hb14⟩
      have R1_14 := R1_13.call0 hb14
      have R3_14 := R3_13.call0 hb14
      have K_14 := K_13.call0 hb14
      have Y_14 := Y_13.call0 hb14
      have BEL_14 := BEL_13.call0 (Nat.le_refl _) hb14
      clear hb14 Z_13 R2_13 R1_13 R3_13 K_13 Y_13 BEL_13
      go_wp2_with fail
      refine (sameInts_v K_14 R1_14 (r := true) (by simp)).mono ?_
      rintro e w15 ⟨rfl, hb15⟩
      have R3_15 := R3_14.call0 hb15
      have Y_15 := Y_14.call0 hb15
      have BEL_15 := BEL_14.call0 (Nat.le_refl _) hb15
      clear hb15 K_14 R1_14 R3_14 Y_14 BEL_14
      go_wp2_with fail
      refine (sameDigests_v Y_15 R3_15 hd hd (r := true) (by simp)).mono ?_
      rintro e w16 ⟨rfl, hb16⟩
      have BEL_16 := BEL_15.call0 (Nat.le_refl _) hb16
      clear hb16 Y_15 R3_15 BEL_15
      go_wp2_with fail
      go_ret
      exact ⟨rfl, BEL_16⟩
    · go_enter Try.func8, Try.ntmps8
      go_wp2_with fail
      refine (few_any ss _ _ _ _ R2 (by omega)).mono ?_
      rintro e w1 ⟨rfl, rfl⟩
      rw [decide_eq_false hf]
      go_wp2_with (go_at_call 12; refine (sanity_any _).mono ?_; rintro e w9 ⟨rfl, hb9⟩)
      go_ret
      exact ⟨rfl, hb9⟩
  · go_enter Try.func8, Try.ntmps8
    go_wp2_with (go_at_call 12; refine (sanity_any _).mono ?_; rintro e w9 ⟨rfl, hb9⟩)
    go_ret
    exact ⟨rfl, hb9⟩
end Go.Proofs.Ytppmlhjpdmndoaa
