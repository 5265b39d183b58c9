/-
  The walk of sanity: it returns true. No condition.
-/
import Derived.Test.YtcngnpkpaliflaaDoorWHex
import Derived.Test.YtcngnpkpaliflaaDoorWText
import Derived.Lib.SlBytesConst
namespace Go.Proofs.YtcngnpkpaliflaaDoor
open Go.RowKit

/-- What the walks ask of memory: the tables of package hash. -/
structure Mem (w : World) : Prop where
  tabs : Tabs w
  kons : Kons w
theorem Mem.call0 {w w' : World} (h : Mem w) (hb : Below w.heap.size w w') : Mem w' := ⟨h.tabs.call0 hb, Kons.call0 h.kons hb⟩
theorem Mem.alloc {w : World} (h : Mem w) (o : Obj) : Mem (w.alloc o) := h.call0 ((Below.refl _ _).alloc (Nat.le_refl _) o)
theorem Mem.big {w : World} (h : Mem w) : 2 < w.heap.size := by have := h.tabs.big; omega

theorem rd_marked {w : World} {cs : List Value} {e : TypeId} {n : Nat} {fr : Nat × Nat} (hn : cs.length = n) (hm : n ≤ maxLen) : Rd (w.alloc (.cells cs.toArray e fr)) (some ⟨w.heap.size, 0, none⟩) n n 1 cs :=
  ⟨by rw [hn, Nat.mul_one], Nat.le_refl _, hm, fun h => (by cases h), fun ad ha j u hu => by
    simp only [Option.some.injEq] at ha; subst ha
    exact block_cells (heap_alloc_new w _) 0 cs (fun j hj => by simp) j u hu⟩

theorem eg47 : Tryd.prog.eqGuardType Tryd.prog.depth 47 = false := by kernel_rfl
theorem crc254 : crc [254] = 75628790 := by decide +kernel
theorem feed2 : (feed (feed ones40 [255]) [255] ^^^ ones40).toNat = 65535 := by decide +kernel
theorem words1 : crc (fives [1099511627774]) = 1099435999222 := by decide +kernel
theorem join1 : join 255 255 1 = 65535 := by decide +kernel
theorem join2 : join 255 0 1 = 65280 := by decide +kernel
theorem join3 : join 7 9 0 = 14 := by decide +kernel
theorem joinA (w : World) (hT : Tabs w) : Calls Tryd.prog 26 #[.int .i64 255, .int .i64 255, .int .i64 1] w fun e w' => e = .returned (.int .i64 65535) ∧ w = w' := by
  have h := join_any 255 255 1 (by omega) w hT
  rw [join1] at h; exact h
theorem joinB (w : World) (hT : Tabs w) : Calls Tryd.prog 26 #[.int .i64 255, .int .i64 0, .int .i64 1] w fun e w' => e = .returned (.int .i64 65280) ∧ w = w' := by
  have h := join_any 255 0 1 (by omega) w hT
  rw [join2] at h; exact h
theorem joinC (w : World) (hT : Tabs w) : Calls Tryd.prog 26 #[.int .i64 7, .int .i64 9, .int .i64 0] w fun e w' => e = .returned (.int .i64 14) ∧ w = w' := by
  have h := join_any 7 9 0 (by omega) w hT
  rw [join3] at h; exact h
def oneDig : List UInt8 := [0x4b, 0xf5, 0x12, 0x2f, 0x34, 0x45, 0x54, 0xc5, 0x3b, 0xde, 0x2e, 0xbb, 0x8c, 0xd2, 0xb7, 0xe3]
theorem digest1 : digest (inputOf 1 []) = oneDig := sha_one
theorem hexAbc : hexOf abcHash = [98, 97, 55, 56, 49, 54, 98, 102, 56, 102, 48, 49, 99, 102, 101, 97, 52, 49, 52, 49, 52, 48, 100, 101, 53, 100, 97, 101, 50, 50, 50, 51, 98, 48, 48, 51, 54, 49, 97, 51, 57, 54, 49, 55, 55, 97, 57, 99, 98, 52, 49, 48, 102, 102, 54, 49, 102, 50, 48, 48, 49, 53, 97, 100] := by decide +kernel
theorem hexOne : hexOf oneDig = [52, 98, 102, 53, 49, 50, 50, 102, 51, 52, 52, 53, 53, 52, 99, 53, 51, 98, 100, 101, 50, 101, 98, 98, 56, 99, 100, 50, 98, 55, 101, 51] := by decide +kernel

set_option maxRecDepth 20000 in
set_option maxHeartbeats 4000000 in
theorem sanity_any (w : World) (hM : Mem w) : Calls Tryd.prog 15 #[] w (RetBool true w) := by
  have M0 := hM.alloc (.cells #[.int .u8 97, .int .u8 98, .int .u8 99] 5 (3, 4))
  have R0 : Rd (w.alloc (.cells (byteVals [97, 98, 99]).toArray 5 (3, 4))) (some ⟨w.heap.size, 0, none⟩) 3 3 1 (byteVals [97, 98, 99]) := rd_marked rfl (by unfold maxLen; omega)
  have B0 := (Below.refl w.heap.size w).alloc (Nat.le_refl _) (.cells #[.int .u8 97, .int .u8 98, .int .u8 99] 5 (3, 4))
  go_enter Tryd.func15, Tryd.ntmps15
  have hcv := Lib.run_convert_bytes_const (P := Tryd.prog) w 22 5 #[.int .u8 97, .int .u8 98, .int .u8 99] 3 3 sl22.ht u5
  have hR0 := Box.mk R0; clear R0
  go_wp2_with fail
  refine (sum_any [97, 98, 99] _ 3 3 _ hR0.out (by omega) M0.kons M0.big).mono ?_
  rintro e w1 ⟨rfl, hb1⟩
  rw [sha_abc]
  have M1 := M0.call0 hb1
  have B1 := B0.call0 (Nat.le_refl _) hb1
  have hlA := Box.mk (show (byteVals abcHash).length = 32 from rfl)
  have hoA := Box.mk (byteVals_one abcHash)
  have hz1 := B1.size
  clear hcv hR0 M0 B0 hb1
  generalize hA : byteVals abcHash = cA at *
  have HA := Box.mk hA; clear hA
  have bA := Blk.new (w := w1) (ty := 47) (cs := cA) (k := w1.heap.size) rfl rfl
  have B2 := B1.new (Nat.le_refl _) (.cells cA.toArray 47)
  have M2 := M1.alloc (.cells cA.toArray 47)
  go_wp2_with (first
    | ((with_reducible show wpList _ _ _ _ _ _); refine wpList_alloc (o := ⟨some 1, .alloc 47, _, _, _, _⟩) rfl 47 rfl zero47 (zc := zero32.toArray) rfl ?_)
    | ((with_reducible show wpList _ _ _ _ _ _); refine wpList_store_fresh (o := ⟨none, .store 47 (.tmp 1) (.tmp 10), _, _, _, _⟩) (cs := cA) rfl 47 _ _ rfl rfl agg47.info rfl rfl rfl hlA.out hoA.out ?_; generalize w1.alloc (.cells cA.toArray 47) = w2 at *))
  generalize w1.heap.size = gA at *
  refine (begin_s _).mono ?_
  rintro e w3 ⟨cs3, S3, rfl, hb3⟩
  have M3 := M2.call0 hb3
  have B3 := B2.call0 (Nat.le_refl _) hb3
  have bA3 := bA.call0 hb3
  clear M1 B1 M2 B2 bA hb3
  go_wp2_with fail
  refine (add_s S3 [97] w3 (by decide) M3.kons M3.big).mono ?_
  rintro e w4 ⟨cs4, S4, rfl, hb4⟩
  have M4 := M3.call0 hb4
  have B4 := B3.call0 (Nat.le_refl _) hb4
  have bA4 := bA3.call0 hb4
  clear M3 B3 bA3 hb4 S3
  go_wp2_with fail
  refine (add_s S4 [98, 99] w4 (by decide) M4.kons M4.big).mono ?_
  rintro e w5 ⟨cs5, S5, rfl, hb5⟩
  have M5 := M4.call0 hb5
  have B5 := B4.call0 (Nat.le_refl _) hb5
  have bA5 := bA4.call0 hb5
  clear M4 B4 bA4 hb5 S4
  rw [show [] ++ [97] ++ [98, 99] = ([97, 98, 99] : List UInt8) from rfl] at S5
  go_wp2_with fail
  refine (sum_s S5 w5 (by decide) M5.kons M5.big).mono ?_
  rintro e w6 ⟨rfl, hb6⟩
  rw [sha_abc, HA.out]
  have M6 := M5.call0 hb6
  have B6 := B5.call0 (Nat.le_refl _) hb6
  have bA6 := bA5.call0 hb6
  clear M5 B5 bA5 hb6 S5
  have bC := Blk.new (w := w6) (ty := 47) (cs := cA) (k := w6.heap.size) rfl rfl
  have bA7 := bA6.alloc (.cells cA.toArray 47)
  have B7 := B6.new (Nat.le_refl _) (.cells cA.toArray 47)
  have M7 := M6.alloc (.cells cA.toArray 47)
  clear M6 B6 bA6
  go_wp2_with (first
    | ((with_reducible show wpList _ _ _ _ _ _); refine wpList_alloc (o := ⟨some 2, .alloc 47, _, _, _, _⟩) rfl 47 rfl zero47 (zc := zero32.toArray) rfl ?_)
    | ((with_reducible show wpList _ _ _ _ _ _); refine wpList_store_fresh (o := ⟨none, .store 47 (.tmp 2) (.tmp 14), _, _, _, _⟩) (cs := cA) rfl 47 _ _ rfl rfl agg47.info rfl rfl rfl hlA.out hoA.out ?_; generalize w6.alloc (.cells cA.toArray 47) = w7 at *))
  generalize w6.heap.size = gC at *
  refine (of_any 1 [] none 0 0 w7 (Rd.nilSlice _ _) (by decide) M7.kons M7.big).mono ?_
  rintro e w8 ⟨rfl, hb8⟩
  rw [digest1]
  have M8 := M7.call0 hb8
  have B8 := B7.call0 (Nat.le_refl _) hb8
  have bA8 := bA7.call0 hb8
  have bC8 := bC.call0 hb8
  clear M7 B7 bA7 bC hb8
  have hlD := Box.mk (show (byteVals oneDig).length = 16 from rfl)
  have hoD := Box.mk (byteVals_one oneDig)
  generalize hD : byteVals oneDig = cD at *
  have HD := Box.mk hD; clear hD
  have bD9 := Blk.new (w := w8) (ty := 58) (cs := cD) (k := w8.heap.size) rfl rfl
  have bA9 := bA8.alloc (.cells cD.toArray 58)
  have bC9 := bC8.alloc (.cells cD.toArray 58)
  have B9 := B8.new (Nat.le_refl _) (.cells cD.toArray 58)
  have M9 := M8.alloc (.cells cD.toArray 58)
  clear M8 B8 bA8 bC8
  go_wp2_with (first
    | ((with_reducible show wpList _ _ _ _ _ _); refine wpList_alloc (o := ⟨some 3, .alloc 58, _, _, _, _⟩) rfl 58 rfl zero58 (zc := zero16.toArray) rfl ?_)
    | ((with_reducible show wpList _ _ _ _ _ _); refine wpList_store_fresh (o := ⟨none, .store 58 (.tmp 3) (.tmp 15), _, _, _, _⟩) (cs := cD) rfl 58 _ _ rfl rfl agg58.info rfl rfl rfl hlD.out hoD.out ?_; generalize w8.alloc (.cells cD.toArray 58) = w9 at *))
  generalize w8.heap.size = gD at *
  refine (crc40_any [254] _ 1 1 _ (rd_newAt rfl rfl rfl (by unfold maxLen; omega)) (by omega) (M9.alloc _).tabs).mono ?_
  rintro e w10 ⟨rfl, hb10⟩
  rw [crc254]
  have bA_10 := (bA9.alloc _).call0 hb10
  have bC_10 := (bC9.alloc _).call0 hb10
  have bD_10 := (bD9.alloc _).call0 hb10
  have B_10 := (B9.new (Nat.le_refl _) _).call0 (Nat.le_refl _) hb10
  have M_10 := (M9.alloc _).call0 hb10
  clear hb10 bA9 bC9 bD9 B9 M9
  go_wp2_with fail
  refine (begin_any _).mono ?_
  rintro e w11 ⟨rfl, hb11⟩
  have bA_11 := (bA_10).call0 hb11
  have bC_11 := (bC_10).call0 hb11
  have bD_11 := (bD_10).call0 hb11
  have B_11 := (B_10).call0 (Nat.le_refl _) hb11
  have M_11 := (M_10).call0 hb11
  clear hb11 bA_10 bC_10 bD_10 B_10 M_10
  go_wp2_with fail
  refine (add_any ones40 ⟨[255].toArray⟩ w11 (by decide) M_11.tabs).mono ?_
  rintro e w12 ⟨rfl, hb12⟩
  have bA_12 := (bA_11).call0 hb12
  have bC_12 := (bC_11).call0 hb12
  have bD_12 := (bD_11).call0 hb12
  have B_12 := (B_11).call0 (Nat.le_refl _) hb12
  have M_12 := (M_11).call0 hb12
  clear hb12 bA_11 bC_11 bD_11 B_11 M_11
  go_wp2_with fail
  refine (add_any _ ⟨[255].toArray⟩ w12 (by decide) M_12.tabs).mono ?_
  rintro e w13 ⟨rfl, hb13⟩
  have bA_13 := (bA_12).call0 hb13
  have bC_13 := (bC_12).call0 hb13
  have bD_13 := (bD_12).call0 hb13
  have B_13 := (B_12).call0 (Nat.le_refl _) hb13
  have M_13 := (M_12).call0 hb13
  clear hb13 bA_12 bC_12 bD_12 B_12 M_12
  go_wp2_with fail
  refine (value_any _ w13).mono ?_
  rintro e w14 ⟨rfl, hb14⟩
  rw [feed2]
  have bA_14 := (bA_13).call0 hb14
  have bC_14 := (bC_13).call0 hb14
  have bD_14 := (bD_13).call0 hb14
  have B_14 := (B_13).call0 (Nat.le_refl _) hb14
  have M_14 := (M_13).call0 hb14
  clear hb14 bA_13 bC_13 bD_13 B_13 M_13
  go_wp2_with fail
  refine (words_any [1099511627774] _ 1 1 _ (rd_newAt rfl rfl rfl (by unfold maxLen; omega)) (Lib.hid (by simp)) (M_14.alloc _).tabs).mono ?_
  rintro e w15 ⟨rfl, hb15⟩
  rw [words1]
  have bA_15 := (bA_14.alloc _).call0 hb15
  have bC_15 := (bC_14.alloc _).call0 hb15
  have bD_15 := (bD_14.alloc _).call0 hb15
  have B_15 := (B_14.new (Nat.le_refl _) _).call0 (Nat.le_refl _) hb15
  have M_15 := (M_14.alloc _).call0 hb15
  clear hb15 bA_14 bC_14 bD_14 B_14 M_14
  go_wp2_with fail
  refine (joinA _ M_15.tabs).mono ?_
  rintro e wq ⟨rfl, rfl⟩
  go_wp2_with fail
  refine (joinB _ M_15.tabs).mono ?_
  rintro e wq ⟨rfl, rfl⟩
  go_wp2_with fail
  refine (joinC _ M_15.tabs).mono ?_
  rintro e wq ⟨rfl, rfl⟩
  go_wp2_with fail
  refine (join_neg 1 1 (-1) (by omega) _).mono ?_
  rintro e wq ⟨rfl, rfl⟩
  go_wp2_with (first
    | ((with_reducible show wpList _ _ _ _ _ _); refine wpList_load_agg (o := ⟨some 38, _, _, _, _, _⟩) rfl 47 _ rfl agg47 rfl (cs := cA) hlA.out bA_15.agg ?_))
  have hcA := refBytes32_any abcHash rfl w15
  rw [HA.out] at hcA
  refine hcA.mono ?_
  rintro e w16 ⟨rfl, hb16⟩
  clear hcA
  have bA_16 := bA_15.call0 hb16
  have bC_16 := bC_15.call0 hb16
  have bD_16 := bD_15.call0 hb16
  have B_16 := B_15.call0 (Nat.le_refl _) hb16
  have M_16 := M_15.call0 hb16
  clear hb16 bA_15 bC_15 bD_15 B_15 M_15
  go_wp2_with fail
  refine (hex_any abcHash w16 (by decide)).mono ?_
  rintro e w17 ⟨rfl, hb17⟩
  rw [hexAbc]
  have bA_17 := bA_16.call0 hb17
  have bC_17 := bC_16.call0 hb17
  have bD_17 := bD_16.call0 hb17
  have B_17 := B_16.call0 (Nat.le_refl _) hb17
  have M_17 := M_16.call0 hb17
  clear hb17 bA_16 bC_16 bD_16 B_16 M_16
  go_wp2_with (first
    | ((with_reducible show wpList _ _ _ _ _ _); refine wpList_load_agg (o := ⟨some 43, _, _, _, _, _⟩) rfl 47 _ rfl agg47 rfl (cs := cA) hlA.out bA_17.agg ?_)
    | ((with_reducible show wpList _ _ _ _ _ _); refine wpList_load_agg (o := ⟨some 44, _, _, _, _, _⟩) rfl 47 _ rfl agg47 rfl (cs := cA) hlA.out bC_17.agg ?_)
    | ((with_reducible show wpList _ _ _ _ _ _); refine wpList_val (o := ⟨some 45, _, _, _, _, _⟩) rfl (v := .bool true) (run_eql_bytes ar47 u5 sz5 eg47 (xs := abcHash) (ys := abcHash) rfl rfl (.tmp 43) (.tmp 44) 47 rfl (by rw [HA.out]; rfl) (by rw [HA.out]; rfl) _) ?_)
    | ((with_reducible show wpList _ _ _ _ _ _); refine wpList_load_agg (o := ⟨some 48, _, _, _, _, _⟩) rfl 58 _ rfl agg58 rfl (cs := cD) hlD.out bD_17.agg ?_))
  have hcD := refText_any oneDig rfl w17
  rw [HD.out] at hcD
  refine hcD.mono ?_
  rintro e w18 ⟨rfl, hb18⟩
  clear hcD
  have B_18 := B_17.call0 (Nat.le_refl _) hb18
  clear hb18 bA_17 bC_17 bD_17 B_17 M_17
  go_wp2_with fail
  refine (hex_any oneDig w18 (by decide)).mono ?_
  rintro e w19 ⟨rfl, hb19⟩
  rw [hexOne]
  have B_19 := B_18.call0 (Nat.le_refl _) hb19
  clear hb19 B_18
  go_wp2_with fail
  go_ret
  exact ⟨rfl, B_19⟩
end Go.Proofs.YtcngnpkpaliflaaDoor
