/-
  The walk of the reference's Cut. No condition.
-/
import Derived.Test.YtkloafpoldmpkaaRef4
import Derived.Test.YtkloafpoldmpkaaStar2
namespace Go.Proofs.Ytkloafpoldmpkaa
open Go.RowKit

def RetRefC (r : Nat) (S : GS) (tick : Int) (l : List HP) (B : Nat) (w : World) (e : Ending) (w' : World) : Prop :=
  ∃ la lc ta tc a cap, e = .returned (.tuple #[.agg #[.int .i64 (S.cutFirst tick), .slice a (S.cutTxs tick).length cap], .bool (S.due tick)]) ∧ Own B w' (RefL r la lc ta tc (S.tryCut tick) ++ l) ∧ Rd w' a (S.cutTxs tick).length cap 1 (intVals (S.cutTxs tick)) ∧ Below B w w'

set_option maxRecDepth 20000 in
set_option maxHeartbeats 1000000 in
theorem ref_cut_no {B : Nat} {w : World} {l : List HP} {r : Nat} {la ta : Option Addr} {lc tc : Nat} {S : GS} (O : Own B w (RefL r la lc ta tc S ++ l)) (hok : S.OK) (tick : Int) (hd : S.due tick = false) :
    Calls Try.prog 19 #[.pointer (some ⟨r, 0, none⟩), .int .i64 tick] w (RetRefC r S tick l B w) := by
  have HO := Box.mk O
  have HD := Box.mk hd
  have hDue := Box.mk (ref_due (O.alloc (.cells #[.int .i64 0, .slice none 0 0] 32)) hok tick)
  rw [hd] at hDue
  clear O hok hd
  go_enter Try.func19, Try.ntmps19
  go_wp2_with fail
  refine hDue.out.mono ?_
  clear hDue
  rintro e w1 ⟨rfl, n1, rfl⟩
  have o1 : Blk ((w.alloc (.cells #[.int .i64 0, .slice none 0 0] 32)).drewN n1) w.heap.size 32 [.int .i64 0, .slice none 0 0] := (Blk.new (w := w) (k := w.heap.size) rfl rfl).drewN _
  go_wp2_with ((with_reducible show wpList _ _ _ _ _ _); refine wpList_store_row (o := ⟨none, .store 32 (.tmp 4) (.tmp 15), _, _, _, _⟩) (cs := [.int .i64 0, .slice none 0 0]) rfl 32 _ _ rfl rfl agg32.info o1 rfl rfl rfl rfl (by simp [Value.oneCell']) ?_)
  have e1 : S.cutFirst tick = 0 := by unfold GS.cutFirst; rw [HD.out]; rfl
  have e2 : S.cutTxs tick = [] := by unfold GS.cutTxs; rw [HD.out]; rfl
  have e3 : S.tryCut tick = S := by unfold GS.tryCut; rw [HD.out]; rfl
  have B1 : Below w.heap.size w (((w.alloc (.cells #[.int .i64 0, .slice none 0 0] 32)).drewN n1).setRow w.heap.size #[.int .i64 0, .slice none 0 0]) := below_setRow (below_drewN ((Below.refl _ _).alloc (Nat.le_refl _) _) _) (Nat.le_refl _) _
  exact bodyPost_ret (results_cell2 (g := w.heap.size) (cs := [.int .i64 0, .slice none 0 0]) rfl _ rfl (o1.row _) agg32) rfl ⟨la, lc, ta, tc, none, 0, by rw [e1, e2, HD.out]; rfl, by rw [e3]; exact HO.out.below B1, by rw [e2]; exact Rd.nilSlice _ _, B1.mono HO.out.base⟩

set_option maxRecDepth 20000 in
set_option maxHeartbeats 4000000 in
theorem ref_cut_yes {B : Nat} {w : World} {l : List HP} {r : Nat} {la ta : Option Addr} {lc tc : Nat} {S : GS} (O : Own B w (RefL r la lc ta tc S ++ l)) (hok : S.OK) (tick : Int) (hd : S.due tick = true) :
    Calls Try.prog 19 #[.pointer (some ⟨r, 0, none⟩), .int .i64 tick] w (RetRefC r S tick l B w) := by
  have hst := hok.stamp
  have hq30 : S.q.length ≤ 1073741825 := by omega
  have hfm := GS.front_most hok
  have hfl := S.front_le
  have hmo := hok.most
  have HOK := Box.mk hok
  have HD := Box.mk hd
  have O1 := (O.new [.int .i64 0, .slice none 0 0] 32).perm List.perm_append_comm
  have B1 := ((Below.refl w.heap.size w).alloc (Nat.le_refl _) (.cells #[.int .i64 0, .slice none 0 0] 32)).mono O.base
  have hDue := Box.mk (ref_due (O.alloc (.cells #[.int .i64 0, .slice none 0 0] 32)) hok tick)
  rw [hd] at hDue
  have HB := Box.mk O.base
  replace O1 : Own B (w.alloc (.cells #[.int .i64 0, .slice none 0 0] 32)) (BlkP w.heap.size 32 [.int .i64 0, .slice none 0 0] :: (RefL r la lc ta tc S ++ l)) := O1
  have Ox := O.alloc (.cells #[.int .i64 0, .slice none 0 0] 32)
  clear O hok hd
  go_enter Try.func19, Try.ntmps19
  go_wp2_with fail
  refine hDue.out.mono ?_
  clear hDue
  rintro e w1 ⟨rfl, n1, rfl⟩
  replace O1 := O1.drewN n1
  replace B1 := below_drewN B1 n1
  replace Ox := Ox.drewN n1
  generalize w.heap.size = rb at *
  generalize hw1 : (w.alloc (.cells #[.int .i64 0, .slice none 0 0] 32)).drewN n1 = w1 at *
  clear hw1
  have hFr := Box.mk (ref_front Ox HOK.out)
  clear Ox
  generalize hfr : S.front = fr at *
  have HFR := Box.mk hfr; clear hfr
  go_wp2_with fail
  refine hFr.out.mono ?_
  clear hFr
  rintro e w2 ⟨rfl, n2, rfl⟩
  replace O1 := O1.drewN n2
  replace B1 := below_drewN B1 n2
  generalize w1.drewN n2 = w2 at *
  have c3 := (O1.blk 1 rfl).1.cellOf (i := 3) rfl
  go_wp2_with ((with_reducible show wpList _ _ _ _ _ _); refine wpList_store_fresh (o := ⟨none, .store 32 (.tmp 8) (.tmp 22), _, _, _, _⟩) (cs := [.int .i64 S.stamp, .slice none 0 0]) rfl 32 _ _ rfl rfl agg32.info rfl rfl rfl rfl (by simp [Value.oneCell']) ?_)
  have O2 := ((O1.new [.int .i64 S.stamp, .slice none 0 0] 32).nilRow 3 1)
  rw [List.append_assoc] at O2
  replace O2 := O2.perm List.perm_append_comm
  have B2 := B1.alloc O1.base (.cells #[.int .i64 S.stamp, .slice none 0 0] 32)
  replace O2 : Own B (w2.alloc (.cells #[.int .i64 S.stamp, .slice none 0 0] 32)) (BlkP w2.heap.size 32 [.int .i64 S.stamp, .slice none 0 0] :: RowP 3 1 none 0 0 [] :: BlkP rb 32 [.int .i64 0, .slice none 0 0] :: (RefL r la lc ta tc S ++ l)) := O2
  clear O1 B1 c3
  generalize (w2.alloc (.cells #[.int .i64 S.stamp, .slice none 0 0] 32)) = w3 at *
  generalize w2.heap.size = bb at *
  go_loopw [9] (fun i wr => ∃ (k : Nat) (a : Option Addr) (cap : Nat), k ≤ fr ∧ i = .int .i64 k ∧ Own B wr (BlkP bb 32 [.int .i64 S.stamp, .slice a k cap] :: RowP 3 1 a k cap (intVals ((S.q.take k).map Nd.tx)) :: BlkP rb 32 [.int .i64 0, .slice none 0 0] :: (RefL r la lc ta tc S ++ l)) ∧ Below B w wr) (fun i _ => fr - (intOf i).toNat)
  case atStart => exact ⟨0, none, 0, Nat.zero_le _, rfl, O2, B2⟩
  case round =>
    clear O2 B2
    obtain ⟨k, a, cap, hk, rfl, O3, B3⟩ := hrel
    by_cases hl : k < fr
    · obtain ⟨g2, off, rfl, h0, _, _⟩ := (Rd.ofOwn (O3.row 4 rfl)).ndAt k (by omega)
      have hkl : k < S.q.length := by omega
      have hT := Box.mk (show intVals ((S.q.take k).map Nd.tx) ++ [Value.int .i64 (S.q.getD k default).tx] = intVals ((S.q.take (k + 1)).map Nd.tx) from by
        rw [show S.q.getD k default = S.q[k] from by rw [List.getD_eq_getElem?_getD, List.getElem?_eq_getElem (by omega)]; rfl, List.take_succ_eq_append_getElem (by omega), List.map_append]; simp only [intVals, List.map_append, List.map_cons, List.map_nil])
      generalize (S.q.getD k default).tx = x at *
      have b1 := (O3.blk 0 rfl).1.cellOf (i := 1) rfl
      have r4 := (O3.blk 3 rfl).1.cellOf (i := 4) rfl
      have b1a := ((O3.blk 0 rfl).1.alloc (.cells #[.int .i64 x] 3)).cellOf (i := 1) rfl
      have O4 := (O3.alloc (.cells #[.int .i64 x] 3)).drew
      have B4 := (B3.alloc O3.base (.cells #[.int .i64 x] 3)).drew
      have SRC : Src Try.prog ((wr.alloc (.cells #[.int .i64 x] 3)).drew) (.slice (some ⟨wr.heap.size, 0, none⟩) 1 1) 1 1 [.int .i64 x] := Src.ofRd (Rd.drew (rd_newAt rfl rfl rfl (by unfold maxLen; omega))) (by simp [Value.oneCell'])
      have hown0 := O4.row 1 rfl
      go_wp2_with fail
      go_region_law (refine oper_append2 rfl _ _ 22 22 rfl sl22 (.inl sl22.ht) rfl hown0 rfl SRC (by omega) (by unfold maxLen; omega) (Nat.zero_le _) ?_; intro a5 cap5 w5 hown5 hgr5 hla5; have O5 := (O4.grown 1 rfl hown5 hgr5 hla5).1; have B5 := B4.trans (O4.grown 1 rfl hown5 hgr5 hla5).2; have x1 := (O5.blk 0 rfl).1.cellOf (i := 1) rfl; have x2 := (O5.blk 0 rfl).1.free 1)
      all_goals
        obtain ⟨O6, B6⟩ := O5.setCell 0 rfl 1 (.slice a5 (k + 1) cap5)
        replace B6 := B5.trans B6
        rw [hT.out] at O6
        clear x1 x2 O5 B5 hown5 hgr5 hla5 hown0 SRC O4 B4 b1a b1 r4 h0 O3 B3
        generalize (w5.setCell ⟨bb, 1, none⟩ (.slice a5 (k + 1) cap5)) = w6 at *
        go_wp2_with fail
        go_roundw
        case rel => exact ⟨k + 1, a5, cap5, hl, by go_num, O6, B6⟩
        case measure => simp [intOf]; omega
    · obtain rfl : k = fr := by omega
      have hbr := O3.ne 0 3 (by omega) rfl rfl
      have hrr := O3.ne 2 3 (by omega) rfl rfl
      have O4 := (O3.newRow ((Below.refl wr.heap.size wr).alloc (Nat.le_refl _) (.cells #[] 73)) (own_new (w := wr.alloc (.cells #[] 73)) (g := wr.heap.size) (base := wr.heap.size) (e := 73) (size := 3) (n := 0) (cs := []) (Blk.new rfl rfl) (Nat.le_refl _) rfl (by unfold maxLen; omega)) (Nat.le_refl _)).perm List.perm_append_comm
      have B4 := B3.alloc O3.base (.cells #[] 73)
      replace O4 : Own B (wr.alloc (.cells #[] 73)) (RowP 73 3 (some ⟨wr.heap.size, 0, none⟩) 0 0 [] :: BlkP bb 32 [.int .i64 S.stamp, .slice a k cap] :: RowP 3 1 a k cap (intVals ((S.q.take k).map Nd.tx)) :: BlkP rb 32 [.int .i64 0, .slice none 0 0] :: (RefL r la lc ta tc S ++ l)) := O4
      have hRL := Rd.ofOwn (O4.row 5 rfl)
      have hlcap := hRL.hcap
      have hlmax := hRL.hmax
      have r4 := (O4.blk 4 rfl).1.cellOf (i := 4) rfl
      have hown0 := O4.row 0 rfl
      obtain ⟨a4, ha4, hR4⟩ := hRL.subAt3 k hfl
      have hdr : ((ndC S.q).drop (k * 3)).take ((S.q.length - k) * 3) = ndC (S.q.drop k) := by
        rw [ndC_drop, ndC_take, List.take_of_length_le (by rw [List.length_drop]; omega)]
      rw [hdr] at hR4
      have SRC := Src.ofRd (P := Try.prog) hR4 (ndC_one _)
      clear hdr O3 B3 hl hk
      go_upto_region 11 with (first
        | ((with_reducible show wpList _ _ _ _ _ _); refine wpList_append_src (o := ⟨some 49, _, _, _, _, _⟩) rfl _ _ 50 50 rfl sl50 (.inl sl50.ht) rfl hown0 rfl SRC (by omega) (by unfold maxLen; omega) (Nat.zero_le _) ?_; intro a5 cap5 w5 hown5 hgr5 hla5; rw [Nat.zero_add, List.nil_append] at hown5; have O5 := (O4.grown 0 rfl hown5 hgr5 hla5).1; have B5 := B4.trans (O4.grown 0 rfl hown5 hgr5 hla5).2; have t4 := (O5.blk 4 rfl).1.cellOf (i := 4) rfl; have f4 := (O5.blk 4 rfl).1.free 4))
      obtain ⟨O6, B6⟩ := O5.setCell 4 rfl 4 (.slice a5 (S.q.length - k) cap5)
      replace B6 := B5.trans B6
      clear O5 B5 t4 f4 hown5 hgr5 hla5 hown0 SRC O4 B4 ha4 hR4 hRL r4
      generalize (w5.setCell ⟨r, 4, none⟩ (.slice a5 (S.q.length - k) cap5)) = w6 at *
      have t3 := (O6.blk 4 rfl).1.cellOf (i := 3) rfl
      have f3 := (O6.blk 4 rfl).1.free 3
      go_upto_region 12 with fail
      obtain ⟨O7, B7⟩ := O6.setCell 4 rfl 3 (.int .i64 (S.stamp + (k : Int)))
      replace B7 := B6.trans B7
      clear O6 B6 t3 f3
      generalize (w6.setCell ⟨r, 3, none⟩ (.int .i64 (S.stamp + (k : Int)))) = w7 at *
      have s0 := (O7.blk 1 rfl).1.cellOf (i := 0) rfl
      have s1 := (O7.blk 1 rfl).1.cellOf (i := 1) rfl
      have t6 := (O7.blk 4 rfl).1.cellOf (i := 6) rfl
      have t7 := (O7.blk 4 rfl).1.cellOf (i := 7) rfl
      have f6 := (O7.blk 4 rfl).1.free 6
      have f7 := (O7.blk 4 rfl).1.free 7
      go_upto_region 13 with fail
      obtain ⟨O8, B8⟩ := O7.setCell 4 rfl 6 (.int .i64 S.stamp)
      obtain ⟨O9, B9⟩ := O8.setCell 4 rfl 7 (.slice a k cap)
      replace B9 := B7.trans (B8.trans B9)
      clear O7 B7 B8 O8 s0 s1 t6 t7 f6 f7
      generalize ((w7.setCell ⟨r, 6, none⟩ (.int .i64 S.stamp)).setCell ⟨r, 7, none⟩ (.slice a k cap)) = w9 at *
      have t5 := (O9.blk 4 rfl).1.cellOf (i := 5) rfl
      have f5 := (O9.blk 4 rfl).1.free 5
      go_upto_region 14 with fail
      obtain ⟨O10, B10⟩ := O9.setCell 4 rfl 5 (.bool true)
      replace B10 := B9.trans B10
      clear O9 B9 t5 f5
      generalize (w9.setCell ⟨r, 5, none⟩ (.bool true)) = w10 at *
      have bB := (O10.blk 1 rfl).1
      have bR := (O10.blk 3 rfl).1
      go_wp2_with (first
        | ((with_reducible show wpList _ _ _ _ _ _); refine wpList_load_agg (o := ⟨some 68, _, _, _, _, _⟩) rfl 32 _ rfl agg32 rfl (cs := [.int .i64 S.stamp, .slice a k cap]) rfl bB.agg ?_)
        | ((with_reducible show wpList _ _ _ _ _ _); refine wpList_store_row (o := ⟨none, .store 32 (.tmp 4) (.tmp 68), _, _, _, _⟩) (cs := [.int .i64 S.stamp, .slice a k cap]) rfl 32 _ _ rfl rfl agg32.info bR rfl rfl rfl rfl (by simp [Value.oneCell']) ?_))
      obtain ⟨O11, B11⟩ := O10.setRow 3 rfl [.int .i64 S.stamp, .slice a k cap]
      replace B11 := B10.trans B11
      have hR := Rd.ofOwn (O11.row 2 rfl)
      have hlt : ((S.q.take k).map Nd.tx).length = k := by rw [List.length_map, List.length_take]; omega
      have e1 : S.cutFirst tick = S.stamp := by unfold GS.cutFirst; rw [HD.out]; rfl
      have e2 : S.cutTxs tick = (S.q.take k).map Nd.tx := by unfold GS.cutTxs; rw [HD.out, HFR.out]; rfl
      have e3 : S.tryCut tick = { S with q := S.q.drop k, stamp := S.stamp + (k : Int), opn := true, first := S.stamp, txs := (S.q.take k).map Nd.tx } := by unfold GS.tryCut GS.cut; rw [HD.out, HFR.out]; rfl
      have hdl : S.q.length - k = (S.q.drop k).length := by rw [List.length_drop]
      refine bodyPost_ret (results_cell2 (g := rb) (cs := [.int .i64 S.stamp, .slice a k cap]) rfl _ rfl (bR.row _) agg32) rfl ⟨a5, cap5, a, cap, a, cap, by rw [e1, e2, hlt, HD.out]; rfl, ?_, by rw [e2, hlt]; exact hR, B11⟩
      rw [e3]
      have O12 := O11.toRd 2 rfl
      replace O12 := (((O12.drop 1).drop 2).drop 4).drop 3
      rw [hdl] at O12
      unfold RefL refVals
      simp only []
      rw [hlt]
      refine Own.perm (l := RowP 73 3 a5 (S.q.drop k).length cap5 (ndC (S.q.drop k)) :: RdP 1 a k cap (intVals ((S.q.take k).map Nd.tx)) :: BlkP r 52 [.int .i64 S.most, .int .i64 S.room, .int .i64 S.delay, .int .i64 (S.stamp + (k : Int)), .slice a5 (S.q.drop k).length cap5, .bool true, .int .i64 S.stamp, .slice a k cap] :: l) ?_ ?_
      · exact O12
      · exact ((List.Perm.swap _ _ _).cons _).trans (List.Perm.swap _ _ _)

theorem ref_cut {B : Nat} {w : World} {l : List HP} {r : Nat} {la ta : Option Addr} {lc tc : Nat} {S : GS} (O : Own B w (RefL r la lc ta tc S ++ l)) (hok : S.OK) (tick : Int) :
    Calls Try.prog 19 #[.pointer (some ⟨r, 0, none⟩), .int .i64 tick] w (RetRefC r S tick l B w) := by
  cases hd : S.due tick
  · exact ref_cut_no O hok tick hd
  · exact ref_cut_yes O hok tick hd
end Go.Proofs.Ytkloafpoldmpkaa
