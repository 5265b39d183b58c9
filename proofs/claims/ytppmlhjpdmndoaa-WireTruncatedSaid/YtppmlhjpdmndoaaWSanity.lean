/-
  The walk of sanity. No condition.
-/
import Derived.Test.YtppmlhjpdmndoaaWVals
namespace Go.Proofs.Ytppmlhjpdmndoaa
open Go.RowKit

def dg : List UInt8 := [1, 2, 0, 0, 0, 0, 0, 0, 0, 0, 0, 0, 0, 0, 0, 0]
theorem dg_len : Hid (∀ d ∈ [dg], d.length = 16) := by intro d hd; simp at hd; subst hd; rfl

theorem enc_byte (n : Int) (b : UInt8) (h1 : -64 ≤ n) (h2 : n ≤ 63) (hb : UInt8.ofNat (zig n) = b) : enc n = [b] := by
  unfold enc; rw [encN_small (by unfold zig; split <;> omega), hb]
theorem enc_m65 : enc (-65) = [129, 1] := by
  unfold enc; rw [show zig (-65) = 129 from rfl, encN_big (by omega), encN_small (by omega)]; rfl
theorem encB_ab : encB [97, 98] = [4, 97, 98] := by
  unfold encB; rw [enc_byte _ 4 (by simp) (by simp) rfl]; rfl
theorem encL_ints : encL enc [1, -1] = [4, 2, 1] := by
  unfold encL; rw [enc_byte _ 4 (by simp) (by simp) rfl]; simp [enc_byte 1 2 (by omega) (by omega) rfl, enc_byte (-1) 1 (by omega) (by omega) rfl]
theorem encL_strs : encL encB [[], [97]] = [4, 0, 2, 97] := by
  unfold encL; rw [enc_byte _ 4 (by simp) (by simp) rfl]; simp [encB, enc_byte 0 0 (by omega) (by omega) rfl, enc_byte 1 2 (by omega) (by omega) rfl]
theorem encL_dg : encL (fun d => d) [dg] = 2 :: dg := by
  unfold encL; rw [enc_byte _ 2 (by simp) (by simp) rfl]; simp

set_option maxRecDepth 20000 in
set_option maxHeartbeats 8000000 in
theorem sanity_any (w : World) : Calls Try.prog 12 #[] w (RetBool true w) := by
  go_enter Try.func12, Try.ntmps12
  go_wp2_with fail
  refine (getInt_b (l := [128, 1, 9]) (x := 64) (u := 2) (e := 0) (by decide) (rd_newAt rfl rfl rfl (by decide))).mono ?_
  rintro e w1 ⟨rfl, hb1⟩
  have B1 := (Below.refl w.heap.size w).call (Nat.le_refl _) hb1
  clear hb1
  go_wp2_with fail
  refine (getInt_b (l := [128]) (x := 0) (u := 0) (e := 10) (by decide) (rd_newAt rfl rfl rfl (by decide))).mono ?_
  rintro e w2 ⟨rfl, hb2⟩
  have B2 := B1.call (Nat.le_refl _) hb2
  clear hb2 B1
  go_wp2_with fail
  refine (getInt_b (l := [128, 0]) (x := 0) (u := 0) (e := 11) (by decide) (rd_newAt rfl rfl rfl (by decide))).mono ?_
  rintro e w3 ⟨rfl, hb3⟩
  have B3 := B2.call (Nat.le_refl _) hb3
  clear hb3 B2
  go_wp2_with fail
  refine (getBytes_b (l := [4, 97, 98, 7]) (x := [97, 98]) (u := 3) (e := 0) (by decide) (rd_newAt rfl rfl rfl (by decide))).mono ?_
  rintro e w4 ⟨rfl, hb4⟩
  have B4 := B3.call (Nat.le_refl _) hb4
  clear hb4 B3
  go_wp2_with fail
  refine (getInts_v (l := [4, 2, 1]) (xs := [1, -1]) (u := 3) (e := 0) (by decide) (rd_newAt rfl rfl rfl (by decide)) (by omega)).mono ?_
  rintro e w5 ⟨ai, ci, rfl, Ri, hb5⟩
  have B5 := B4.call (Nat.le_refl _) hb5
  clear hb5 B4
  go_wp2_with (first
    | ((with_reducible show wpList _ _ _ _ _ _); refine wpList_store_fresh (o := ⟨none, .store 57 (.tmp 16) (.tmp 54), _, _, _, _⟩) (cs := byteVals dg) rfl 57 _ _ rfl rfl agg57.info rfl rfl rfl rfl (byteVals_one _) ?_)
    | ((with_reducible show wpList _ _ _ _ _ _); refine wpList_load_agg (o := ⟨some 56, _, _, _, _, _⟩) rfl 57 _ rfl agg57 rfl (cs := byteVals dg) rfl (block_cells (heap_alloc_new _ _) 0 _ (fun j hj => by simp)) ?_)
    | ((with_reducible show wpList _ _ _ _ _ _); refine wpList_lit_one (o := ⟨some 57, _, _, _, _, _⟩) (cs := byteVals dg) rfl 24 _ rfl sl24 rfl rfl (by omega) (by omega) ?_))
  have Rd0 := rd_newAt (w := w5) (arr := (byteVals dg).toArray) (cs := byteVals dg) (e := 57) (n := 16) (size := 1) rfl rfl rfl (by decide)
  have B5' := B5.alloc (o := Obj.cells (byteVals dg).toArray 57) B5.size
  clear B5
  refine (digests_v (ds := [dg]) encL_dg dg_len (rd_newAt (by simp) rfl rfl (by decide)) (by omega)).mono ?_
  rintro e w6 ⟨a6, c6, rfl, R6, hb6⟩
  have Rd1 := Rd0.call hb6
  have Ri1 := (Ri.alloc _).call hb6
  have B6 := B5'.call (Nat.le_refl _) hb6
  clear Rd0 Ri B5' hb6
  go_wp2_with fail
  refine (getDigests_v (l := 2 :: dg) (xs := [dg]) (u := 17) (e := 0) (by decide) R6 (by decide)).mono ?_
  rintro e w7 ⟨ax, cx, rfl, Rx, hb7⟩
  have Rd2 := Rd1.call0 hb7
  have Ri2 := Ri1.call0 hb7
  have B7 := B6.call0 (Nat.le_refl _) hb7
  clear Rd1 Ri1 B6 hb7 R6
  go_wp2_with fail
  refine (getStrings_v (l := [4, 0, 2, 97, 5]) (xs := [[], [97]]) (u := 4) (e := 0) (by decide) (rd_newAt rfl rfl rfl (by decide)) (by omega)).mono ?_
  rintro e w8 ⟨ay, cy, rfl, Ry, hb8⟩
  have Rd3 := Rd2.call hb8
  have Ri3 := Ri2.call hb8
  have Rx3 := Rx.call hb8
  have B8 := B7.call (Nat.le_refl _) hb8
  clear Rd2 Ri2 Rx B7 hb8
  go_wp2_with fail
  refine (sameTexts_v (m := [[], [97]]) (r := true) (Ry.alloc _) (rd_newAt rfl rfl rfl (by decide)) (by decide)).mono ?_
  rintro e w9 ⟨rfl, hb9⟩
  have Rd4 := Rd3.call hb9
  have Ri4 := Ri3.call hb9
  have Rx4 := Rx3.call hb9
  have B9 := B8.call (Nat.le_refl _) hb9
  clear Rd3 Ri3 Rx3 B8 hb9 Ry
  go_wp2_with fail
  refine (strings_v (ss := [[], [97]]) encL_strs (rd_newAt rfl rfl rfl (by decide)) (by decide) (by omega)).mono ?_
  rintro e w10 ⟨a10, c10, rfl, R10, hb10⟩
  have Rd5 := Rd4.call hb10
  have Ri5 := Ri4.call hb10
  have Rx5 := Rx4.call hb10
  have B10 := B9.call (Nat.le_refl _) hb10
  clear Rd4 Ri4 Rx4 B9 hb10
  go_wp2_with fail
  refine (same_v (m := [4, 0, 2, 97]) (r := true) (R10.alloc _) (rd_newAt rfl rfl rfl (by decide)) (by decide)).mono ?_
  rintro e w11 ⟨rfl, hb11⟩
  have Rd6 := Rd5.call hb11
  have Ri6 := Ri5.call hb11
  have Rx6 := Rx5.call hb11
  have B11 := B10.call (Nat.le_refl _) hb11
  clear Rd5 Ri5 Rx5 B10 hb11 R10
  go_wp2_with fail
  refine (int_v enc_m65 (by omega) (by omega)).mono ?_
  rintro e w12 ⟨a12, c12, rfl, R12, hb12⟩
  have Rd7 := Rd6.call0 hb12
  have Ri7 := Ri6.call0 hb12
  have Rx7 := Rx6.call0 hb12
  have B12 := B11.call0 (Nat.le_refl _) hb12
  clear Rd6 Ri6 Rx6 B11 hb12
  go_wp2_with fail
  refine (same_v (m := [129, 1]) (r := true) (R12.alloc _) (rd_newAt rfl rfl rfl (by decide)) (by decide)).mono ?_
  rintro e w13 ⟨rfl, hb13⟩
  have Rd8 := Rd7.call hb13
  have Ri8 := Ri7.call hb13
  have Rx8 := Rx7.call hb13
  have B13 := B12.call (Nat.le_refl _) hb13
  clear Rd7 Ri7 Rx7 B12 hb13 R12
  go_wp2_with fail
  refine (sameInts_v (m := [1, -1]) (r := true) (Ri8.alloc _) (rd_newAt rfl rfl rfl (by decide)) (by decide)).mono ?_
  rintro e w14 ⟨rfl, hb14⟩
  have Rd9 := Rd8.call hb14
  have Rx9 := Rx8.call hb14
  have B14 := B13.call (Nat.le_refl _) hb14
  clear Rd8 Ri8 Rx8 B13 hb14
  go_wp2_with fail
  refine (bytes_v (s := ⟨#[97, 98]⟩) encB_ab (by decide)).mono ?_
  rintro e w15 ⟨a15, c15, rfl, R15, hb15⟩
  have Rd10 := Rd9.call0 hb15
  have Rx10 := Rx9.call0 hb15
  have B15 := B14.call0 (Nat.le_refl _) hb15
  clear Rd9 Rx9 B14 hb15
  go_wp2_with fail
  refine (same_v (m := [4, 97, 98]) (r := true) (R15.alloc _) (rd_newAt rfl rfl rfl (by decide)) (by decide)).mono ?_
  rintro e w16 ⟨rfl, hb16⟩
  have Rd11 := Rd10.call hb16
  have Rx11 := Rx10.call hb16
  have B16 := B15.call (Nat.le_refl _) hb16
  clear Rd10 Rx10 B15 hb16 R15
  go_wp2_with fail
  refine (ints_v (xs := [1, -1]) encL_ints (rd_newAt rfl rfl rfl (by decide)) (by show ∀ x ∈ ([1, -1] : List Int), _; decide) (by omega)).mono ?_
  rintro e w17 ⟨a17, c17, rfl, R17, hb17⟩
  have Rd12 := Rd11.call hb17
  have Rx12 := Rx11.call hb17
  have B17 := B16.call (Nat.le_refl _) hb17
  clear Rd11 Rx11 B16 hb17
  go_wp2_with fail
  refine (same_v (m := [4, 2, 1]) (r := true) (R17.alloc _) (rd_newAt rfl rfl rfl (by decide)) (by decide)).mono ?_
  rintro e w18 ⟨rfl, hb18⟩
  have Rd13 := Rd12.call hb18
  have Rx13 := Rx12.call hb18
  have B18 := B17.call (Nat.le_refl _) hb18
  clear Rd12 Rx12 B17 hb18 R17
  go_wp2_with (first
    | ((with_reducible show wpList _ _ _ _ _ _); refine wpList_load_agg (o := ⟨some 150, _, _, _, _, _⟩) rfl 57 _ rfl agg57 rfl (cs := byteVals dg) rfl (Rd13.hcell _ rfl) ?_)
    | ((with_reducible show wpList _ _ _ _ _ _); refine wpList_lit_one (o := ⟨some 151, _, _, _, _, _⟩) (cs := byteVals dg) rfl 24 _ rfl sl24 rfl rfl (by omega) (by omega) ?_))
  go_outline
  trace_state
  refine (sameDigests_v (m := [dg]) (r := true) (Rx13.alloc _) (rd_newAt rfl rfl rfl (by decide)) dg_len dg_len (by decide)).mono ?_
  rintro e w19 ⟨rfl, hb19⟩
  have B19 := B18.call (Nat.le_refl _) hb19
  go_wp2_with fail
  go_ret
  exact ⟨rfl, B19⟩
end Go.Proofs.Ytppmlhjpdmndoaa
