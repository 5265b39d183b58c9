/-
  The walk of AddColumn. No condition.
-/
import Derived.Test.YtpgdfhncigmmbaaWAdds
namespace Go.Proofs.Ytpgdfhncigmmbaa
open Go.RowKit

theorem Own.tabCells {B : Nat} {w : World} {l : List HP} {X : TabP} (O : Own B w l) (i : Nat) {g : Nat} (hi : l[i]? = some (BlkP g 26 X.cs)) :
    w.cell? ⟨g, 0, none⟩ = some (.string ⟨X.name.toArray⟩) ∧ w.cell? ⟨g, 1, none⟩ = some (.slice X.ca X.cols.length X.cc) ∧ w.cell? ⟨g, 2, none⟩ = some (.slice X.ia X.ixs.length X.ic) ∧ w.cell? ⟨g, 3, none⟩ = some (.slice X.ha X.chks.length X.hc) := by
  have b := (O.blk i hi).1
  exact ⟨b.cellOf (i := 0) rfl, b.cellOf (i := 1) rfl, b.cellOf (i := 2) rfl, b.cellOf (i := 3) rfl⟩

set_option maxRecDepth 20000 in
set_option maxHeartbeats 4000000 in
theorem addColumn_any (X : TabP) (c : Col) (w : World) (hr : TabRd w X) : Calls Try.prog 31 #[X.v, c.v] w (RetTab (addColT X.t c) (addColE X.t c) w) := by
  have O0 := Box.mk (own3 w X c.enc 55)
  have HR := Box.mk hr
  have hgw : ∃ g, g = w.heap.size := ⟨_, rfl⟩
  obtain ⟨g, hg⟩ := hgw
  obtain ⟨cn, ck, cu⟩ := c
  unfold Col.enc at O0
  unfold TabP.v Col.v
  generalize hE : addColE X.t ⟨cn, ck, cu⟩ = E
  generalize hT : addColT X.t ⟨cn, ck, cu⟩ = T
  have HET := Box.mk (And.intro hE hT)
  clear hE hT hr
  obtain ⟨x0, x1, x2, x3⟩ := O0.out.tabCells 0 rfl
  have B0 := Box.mk (show Below w.heap.size w _ from (((Below.refl w.heap.size w).alloc (Nat.le_refl _) (.cells #[.string ⟨X.name.toArray⟩, .slice X.ca X.cols.length X.cc, .slice X.ia X.ixs.length X.ic, .slice X.ha X.chks.length X.hc] 26)).alloc (by simp) (.cells #[.string ⟨cn.toArray⟩, .int .i64 ck, .bool cu] 55)).alloc (by simp; omega) (.cells #[.string ⟨#[]⟩, .slice none 0 0, .slice none 0 0, .slice none 0 0] 26))
  go_enter Try.func31, Try.ntmps31
  go_wp2_with fail
  clear x0 x1 x2 x3
  generalize (((w.alloc (.cells #[.string ⟨X.name.toArray⟩, .slice X.ca X.cols.length X.cc, .slice X.ia X.ixs.length X.ic, .slice X.ha X.chks.length X.hc] 26)).alloc (.cells #[.string ⟨cn.toArray⟩, .int .i64 ck, .bool cu] 55)).alloc (.cells #[.string ⟨#[]⟩, .slice none 0 0, .slice none 0 0, .slice none 0 0] 26)) = W at *
  generalize hv : checkT X.t = v
  refine (chk_is hv (HR.out.below B0.out)).mono ?_
  rintro e w2 ⟨rfl, hb⟩
  have O2 := Box.mk (O0.out.below hb)
  have B2 := Box.mk (B0.out.trans (hb.mono B0.out.size))
  clear hb O0 B0
  by_cases h0 : v = 0
  · subst h0
    have HV := Box.mk hv
    clear hv
    cases cu with
    | false =>
      obtain ⟨rfl, rfl⟩ : E = 200 ∧ T = TN := ⟨HET.out.1.symm.trans (addCol_null HV.out rfl).1, HET.out.2.symm.trans (addCol_null HV.out rfl).2⟩
      have y2 := (O2.out.blk 1 rfl).1.cellOf (i := 2) rfl
      go_wp2_with (with_reducible refine wpList_store_row rfl _ _ _ rfl rfl (by kernel_rfl) (O2.out.blk 2 rfl).1 rfl rfl (cs := [.string ⟨#[]⟩, .slice none 0 0, .slice none 0 0, .slice none 0 0]) rfl rfl (tab_one _ _ _ _ _ _ _ _ _ _) ?_)
      refine bodyPost_ret (results_cell2 rfl _ rfl ((O2.out.blk 2 rfl).1.row [.string ⟨#[]⟩, .slice none 0 0, .slice none 0 0, .slice none 0 0]) tabT) rfl ?_
      exact RetTab.nil (below_setRow B2.out (O2.out.blk 2 rfl).2 _)
    | true =>
      have y2 := (O2.out.blk 1 rfl).1.cellOf (i := 2) rfl
      obtain ⟨x0, x1, x2, x3⟩ := O2.out.tabCells 0 rfl
      go_wp2_with fail
      clear x0 x1 x2 x3 y2
      refine (copied_is HV.out (HR.out.below B2.out)).mono ?_
      rintro e w4 ⟨hb4, Y, rfl, TO, ht⟩
      have O4 := Box.mk (O2.out.below hb4)
      have B4 := Box.mk (B2.out.trans (hb4.mono B2.out.size))
      have HB := Box.mk (show w.heap.size + 3 ≤ w2.heap.size from (O2.out.blk 2 rfl).1.lt)
      have TO4 := Box.mk TO
      have HBs := hb4.size
      generalize w2.heap.size = B' at *
      clear hb4 TO O2 B2
      have bg4 := (O4.out.blk 0 rfl).1
      unfold TabP.cs at bg4
      unfold TabP.v
      go_upto_region 7 with (with_reducible refine wpList_store_row rfl _ _ _ rfl rfl (by kernel_rfl) bg4 rfl rfl (cs := [.string ⟨Y.name.toArray⟩, .slice Y.ca Y.cols.length Y.cc, .slice Y.ia Y.ixs.length Y.ic, .slice Y.ha Y.chks.length Y.hc]) rfl rfl (tab_one _ _ _ _ _ _ _ _ _ _) ?_)
      have O5 := Box.mk (O4.out.setRow 0 rfl [.string ⟨Y.name.toArray⟩, .slice Y.ca Y.cols.length Y.cc, .slice Y.ia Y.ixs.length Y.ic, .slice Y.ha Y.chks.length Y.hc]).1
      have B5 := Box.mk (below_setRow B4.out (Nat.le_refl w.heap.size) #[.string ⟨Y.name.toArray⟩, .slice Y.ca Y.cols.length Y.cc, .slice Y.ia Y.ixs.length Y.ic, .slice Y.ha Y.chks.length Y.hc])
      have TO5 := Box.mk (TO4.out.setRow (b := w.heap.size) (by have := HB.out; omega) #[.string ⟨Y.name.toArray⟩, .slice Y.ca Y.cols.length Y.cc, .slice Y.ia Y.ixs.length Y.ic, .slice Y.ha Y.chks.length Y.hc])
      clear O4 B4 TO4 bg4
      have HBs5 : B' ≤ (w4.setRow w.heap.size #[.string ⟨Y.name.toArray⟩, .slice Y.ca Y.cols.length Y.cc, .slice Y.ia Y.ixs.length Y.ic, .slice Y.ha Y.chks.length Y.hc]).heap.size := by simpa using HBs
      generalize (w4.setRow w.heap.size #[.string ⟨Y.name.toArray⟩, .slice Y.ca Y.cols.length Y.cc, .slice Y.ia Y.ixs.length Y.ic, .slice Y.ha Y.chks.length Y.hc]) = w5 at *
      have bg := (O5.out.blk 0 rfl).1
      have bc := (O5.out.blk 1 rfl).1
      have br := (O5.out.blk 2 rfl).1
      have x1 := bg.cellOf (i := 1) rfl
      have z0 := bc.cellOf (i := 0) rfl
      have z1 := bc.cellOf (i := 1) rfl
      have z2 := bc.cellOf (i := 2) rfl
      have ylen : Y.cols.length ≤ 8 := by
        have h := (ok_copy (X := Y) (by rw [ht]; exact HV.out)).1
        exact h
      have HYT := Box.mk ht
      have SRC := Box.mk (Src.ofRd (P := Try.prog) (rd_newAt (w := w5) (arr := #[.string ⟨cn.toArray⟩, .int .i64 ck, .bool true]) (cs := recC Col.enc [⟨cn, ck, true⟩]) (e := 55) (n := 1) (g := w5.heap.size) (size := 3) rfl rfl rfl (by simp [maxLen])) (recC_one Col.enc_one _))
      have TA := Box.mk (TO5.out.step ((Below.refl _ _).alloc (Nat.le_refl _) (.cells #[.string ⟨cn.toArray⟩, .int .i64 ck, .bool true] 55)))
      have BB := Box.mk (And.intro (bg.alloc (.cells #[.string ⟨cn.toArray⟩, .int .i64 ck, .bool true] 55)) (br.alloc (.cells #[.string ⟨cn.toArray⟩, .int .i64 ck, .bool true] 55)))
      have B5s := B5.out.size
      have hbs8 : B' ≤ (w5.alloc (.cells #[.string ⟨cn.toArray⟩, .int .i64 ck, .bool true] 55)).heap.size := by simp; omega
      have hws8 : w.heap.size ≤ (w5.alloc (.cells #[.string ⟨cn.toArray⟩, .int .i64 ck, .bool true] 55)).heap.size := by simp; omega
      clear ht bg bc br O5 TO5
      go_wp2_with (at_builtin; go_loud (refine wpList_append_src rfl _ _ 22 22 rfl sl_cols (.inl sl_cols.ht) rfl TA.out.cols rfl SRC.out (by omega) (by unfold maxLen; omega) hbs8 ?_; intro a7 c7 w7 hown7 hgr7 hnew7; have TC := Box.mk (TA.out.addCol hgr7 hown7 hnew7 rfl); have HLO : ∀ k, k < B' → (Value.slice Y.ca Y.cols.length Y.cc).ownBlock ≠ some k := (fun k hk e => by have := (TA.out.cols.lt k e).1; omega); have hbB := HB.out; have BB7 := Box.mk (And.intro (BB.out.1.grown hgr7 (HLO _ (by omega))) (BB.out.2.grown hgr7 (HLO _ (by omega)))); have B7 := Box.mk (below_grown (B5.out.alloc B5s (.cells #[.string ⟨cn.toArray⟩, .int .i64 ck, .bool true] 55)) hgr7 TA.out.cols (by omega) hws8); have d0 := BB7.out.1.cellOf (i := 0) rfl; have d1 := BB7.out.1.cellOf (i := 1) rfl; have d2 := BB7.out.1.cellOf (i := 2) rfl; have d3 := BB7.out.1.cellOf (i := 3) rfl; have f1 := BB7.out.1.free 1; clear hown7 hgr7 hnew7 HLO hbB))
      have C8 := Box.mk (TC.out.setCell (b := w.heap.size) (by have := HB.out; omega) 1 (.slice a7 (Y.cols.length + 1) c7))
      have B8 := Box.mk (B7.out.setCell (Nat.le_refl w.heap.size) (p := ⟨w.heap.size, 1, none⟩) (.slice a7 (Y.cols.length + 1) c7))
      have BR8 := Box.mk (BB7.out.2.other (p := ⟨w.heap.size, 1, none⟩) (by show w.heap.size + 2 ≠ w.heap.size; omega) (.slice a7 (Y.cols.length + 1) c7))
      clear TC B7 BB7 d0 d1 d2 d3 f1 BB TA SRC
      generalize (w7.setCell ⟨w.heap.size, 1, none⟩ (.slice a7 (Y.cols.length + 1) c7)) = w8 at *
      generalize hv : checkT (X.t.addCol ⟨cn, ck, true⟩) = v
      have hv2 : checkT (Y.addCol a7 c7 ⟨cn, ck, true⟩).t = v := by rw [← hv, ← HYT.out]; rfl
      obtain ⟨e1, e2, e3⟩ := addCol_go HV.out rfl hv
      by_cases h0 : v = 0
      · subst h0
        obtain rfl : E = 0 := HET.out.1.symm.trans e1
        obtain rfl : T = X.t.addCol ⟨cn, ck, true⟩ := HET.out.2.symm.trans (e2 rfl)
        clear e1 e2 e3 hv
        have hck : Calls Try.prog 59 #[.agg #[.string ⟨Y.name.toArray⟩, .slice a7 (Y.cols.length + 1) c7, .slice Y.ia Y.ixs.length Y.ic, .slice Y.ha Y.chks.length Y.hc]] w8 (RetV (.tuple #[.agg #[.string ⟨Y.name.toArray⟩, .slice a7 (Y.cols.length + 1) c7, .slice Y.ia Y.ixs.length Y.ic, .slice Y.ha Y.chks.length Y.hc], .int .i64 0]) w8) :=
          checked_ok2 (X := Y.addCol a7 c7 ⟨cn, ck, true⟩) hv2 (by show (Y.cols ++ [_]).length = _; simp) rfl rfl C8.out.rd
        refine hck.mono ?_
        rintro e w9 ⟨rfl, hb9⟩
        have B9 := Box.mk (B8.out.trans (hb9.mono B8.out.size))
        have BR9 := Box.mk (BR8.out.call0 hb9)
        have C9 := Box.mk ((C8.out.step hb9).setRow (b := w.heap.size + 2) (by have := HB.out; omega) #[.string ⟨Y.name.toArray⟩, .slice a7 (Y.cols.length + 1) c7, .slice Y.ia Y.ixs.length Y.ic, .slice Y.ha Y.chks.length Y.hc])
        clear hb9 B8 BR8 C8 hv2 hck
        go_wp2_with (with_reducible refine wpList_store_row rfl _ _ _ rfl rfl (by kernel_rfl) BR9.out rfl rfl (cs := [.string ⟨Y.name.toArray⟩, .slice a7 (Y.cols.length + 1) c7, .slice Y.ia Y.ixs.length Y.ic, .slice Y.ha Y.chks.length Y.hc]) rfl rfl (tab_one _ _ _ _ _ _ _ _ _ _) ?_)
        refine bodyPost_ret (results_cell2 rfl _ rfl (BR9.out.row [.string ⟨Y.name.toArray⟩, .slice a7 (Y.cols.length + 1) c7, .slice Y.ia Y.ixs.length Y.ic, .slice Y.ha Y.chks.length Y.hc]) tabT) rfl ?_
        refine ⟨below_setRow B9.out (by omega) _, Y.addCol a7 c7 ⟨cn, ck, true⟩, ?_, C9.out.rd, by rw [← HYT.out]; rfl⟩
        unfold TabP.v
        rw [show (Y.addCol a7 c7 ⟨cn, ck, true⟩).cols.length = Y.cols.length + 1 from by show (Y.cols ++ [_]).length = _; simp]
        rfl
      · obtain rfl : E = v := HET.out.1.symm.trans e1
        obtain rfl : T = TN := HET.out.2.symm.trans (e3 h0)
        clear e1 e2 e3 hv
        refine (checked_no2 (X := Y.addCol a7 c7 ⟨cn, ck, true⟩) hv2 h0 (by show (Y.cols ++ [_]).length = _; simp) rfl rfl C8.out.rd).mono ?_
        rintro e w9 ⟨rfl, hb9⟩
        have B9 := Box.mk (B8.out.trans (hb9.mono B8.out.size))
        have BR9 := Box.mk (BR8.out.call0 hb9)
        clear hb9 B8 BR8 C8 hv2 h0
        unfold TabP.v
        go_wp2_with (with_reducible refine wpList_store_row rfl _ _ _ rfl rfl (by kernel_rfl) BR9.out rfl rfl (cs := [.string ⟨XN.name.toArray⟩, .slice XN.ca XN.cols.length XN.cc, .slice XN.ia XN.ixs.length XN.ic, .slice XN.ha XN.chks.length XN.hc]) rfl rfl (tab_one _ _ _ _ _ _ _ _ _ _) ?_)
        refine bodyPost_ret (results_cell2 rfl _ rfl (BR9.out.row [.string ⟨XN.name.toArray⟩, .slice XN.ca XN.cols.length XN.cc, .slice XN.ia XN.ixs.length XN.ic, .slice XN.ha XN.chks.length XN.hc]) tabT) rfl ?_
        exact RetTab.nil (below_setRow B9.out (by omega) _)
  · obtain ⟨rfl, rfl⟩ : E = v ∧ T = TN := ⟨HET.out.1.symm.trans (addCol_bad hv h0).1, HET.out.2.symm.trans (addCol_bad hv h0).2⟩
    have hvv : (E != 0) = true := by simp [h0]
    clear hv HET
    go_wp2_with (with_reducible refine wpList_store_row rfl _ _ _ rfl rfl (by kernel_rfl) (O2.out.blk 2 rfl).1 rfl rfl (cs := [.string ⟨#[]⟩, .slice none 0 0, .slice none 0 0, .slice none 0 0]) rfl rfl (tab_one _ _ _ _ _ _ _ _ _ _) ?_)
    refine bodyPost_ret (results_cell2 rfl _ rfl ((O2.out.blk 2 rfl).1.row [.string ⟨#[]⟩, .slice none 0 0, .slice none 0 0, .slice none 0 0]) tabT) rfl ?_
    exact RetTab.nil (below_setRow B2.out (O2.out.blk 2 rfl).2 _)
end Go.Proofs.Ytpgdfhncigmmbaa
