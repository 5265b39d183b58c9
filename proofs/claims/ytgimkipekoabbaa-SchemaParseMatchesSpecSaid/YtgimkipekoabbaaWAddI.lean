/-
  The walk of AddIndex. No condition.
-/
import Derived.Test.YtgimkipekoabbaaWAddC
namespace Go.Proofs.Ytgimkipekoabbaa
open Go.RowKit

def Tab.addIx (T : Tab) (x : Ix) : Tab := ⟨T.name, T.cols, T.ixs ++ [x], T.chks⟩
/-- What AddIndex returns. -/
def addIxE (T : Tab) (x : Ix) : Int := if checkT T ≠ 0 then checkT T else checkT (T.addIx x)
def addIxT (T : Tab) (x : Ix) : Tab := if addIxE T x = 0 then T.addIx x else TN
theorem addIx_bad {T : Tab} {x : Ix} {v : Int} (h : checkT T = v) (h0 : v ≠ 0) : addIxE T x = v ∧ addIxT T x = TN := by
  have : addIxE T x = v := by unfold addIxE; rw [h, if_pos h0]
  exact ⟨this, by unfold addIxT; rw [this, if_neg h0]⟩
theorem addIx_go {T : Tab} {x : Ix} {v : Int} (h : checkT T = 0) (hv : checkT (T.addIx x) = v) : addIxE T x = v ∧ (v = 0 → addIxT T x = T.addIx x) ∧ (v ≠ 0 → addIxT T x = TN) := by
  have : addIxE T x = v := by unfold addIxE; rw [h, if_neg (by decide), hv]
  exact ⟨this, fun h0 => by unfold addIxT; rw [this, if_pos h0], fun h0 => by unfold addIxT; rw [this, if_neg h0]⟩
theorem map_x_append (l : List IxP) (y : IxP) : (l ++ [y]).map (fun p => p.x) = l.map (fun p => p.x) ++ [y.x] := by simp

set_option maxRecDepth 20000 in
set_option maxHeartbeats 4000000 in
theorem addIndex_any (X : TabP) (c : IxP) (w : World) (hr : TabRd w X) (hrx : Rd w c.a c.x.cols.length c.cap 1 (intVals c.x.cols)) (hxl : c.x.cols.length ≤ 1000) : Calls Try.prog 34 #[X.v, c.v] w (RetTab (addIxT X.t c.x) (addIxE X.t c.x) w) := by
  have O0 := Box.mk (own3 w X c.enc 55)
  have HR := Box.mk hr
  have hgw : ∃ g, g = w.heap.size := ⟨_, rfl⟩
  obtain ⟨g, hg⟩ := hgw
  obtain ⟨⟨cn, cl, cu⟩, ca, cp⟩ := c
  simp only at hrx hxl
  have HRX := Box.mk hrx
  unfold IxP.enc at O0
  unfold TabP.v IxP.v
  generalize hE : addIxE X.t ⟨cn, cl, cu⟩ = E
  generalize hT : addIxT X.t ⟨cn, cl, cu⟩ = T
  have HET := Box.mk (And.intro hE hT)
  clear hE hT hr hrx
  simp only
  obtain ⟨x0, x1, x2, x3⟩ := O0.out.tabCells 0 rfl
  have B0 := Box.mk (show Below w.heap.size w _ from (((Below.refl w.heap.size w).alloc (Nat.le_refl _) (.cells #[.string ⟨X.name.toArray⟩, .slice X.ca X.cols.length X.cc, .slice X.ia X.ixs.length X.ic, .slice X.ha X.chks.length X.hc] 28)).alloc (by simp) (.cells #[.string ⟨cn.toArray⟩, .slice ca cl.length cp, .bool cu] 55)).alloc (by simp; omega) (.cells #[.string ⟨#[]⟩, .slice none 0 0, .slice none 0 0, .slice none 0 0] 28))
  go_enter Try.func34, Try.ntmps34
  go_wp2_with fail
  clear x0 x1 x2 x3
  generalize (((w.alloc (.cells #[.string ⟨X.name.toArray⟩, .slice X.ca X.cols.length X.cc, .slice X.ia X.ixs.length X.ic, .slice X.ha X.chks.length X.hc] 28)).alloc (.cells #[.string ⟨cn.toArray⟩, .slice ca cl.length cp, .bool cu] 55)).alloc (.cells #[.string ⟨#[]⟩, .slice none 0 0, .slice none 0 0, .slice none 0 0] 28)) = W at *
  generalize hv : checkT X.t = v
  refine (chk_is hv (HR.out.below B0.out)).mono ?_
  rintro e w2 ⟨rfl, hb⟩
  have O2 := Box.mk (O0.out.below hb)
  have B2 := Box.mk (B0.out.trans (hb.mono B0.out.size))
  clear hb O0 B0
  by_cases h0 : v = 0
  · subst h0
    have HV := Box.mk hv
    clear hv
    obtain ⟨x0, x1, x2, x3⟩ := O2.out.tabCells 0 rfl
    go_wp2_with fail
    clear x0 x1 x2 x3
    refine (copied_is HV.out (HR.out.below B2.out)).mono ?_
    rintro e w4 ⟨hb4, Y, rfl, TO, ht⟩
    have O4 := Box.mk (O2.out.below hb4)
    have B4 := Box.mk (B2.out.trans (hb4.mono B2.out.size))
    have HB := Box.mk (show w.heap.size + 3 ≤ w2.heap.size from (O2.out.blk 2 rfl).1.lt)
    have TO4 := Box.mk TO
    have HBs := hb4.size
    generalize w2.heap.size = B' at *
    clear hb4 TO O2 B2
    have bg4 := (O4.out.blk 0 rfl).1
    unfold TabP.cs at bg4
    unfold TabP.v
    go_upto_region 5 with (with_reducible refine wpList_store_row rfl _ _ _ rfl rfl (by kernel_rfl) bg4 rfl rfl (cs := [.string ⟨Y.name.toArray⟩, .slice Y.ca Y.cols.length Y.cc, .slice Y.ia Y.ixs.length Y.ic, .slice Y.ha Y.chks.length Y.hc]) rfl rfl (tab_one _ _ _ _ _ _ _ _ _ _) ?_)
    have O5 := Box.mk (O4.out.setRow 0 rfl [.string ⟨Y.name.toArray⟩, .slice Y.ca Y.cols.length Y.cc, .slice Y.ia Y.ixs.length Y.ic, .slice Y.ha Y.chks.length Y.hc]).1
    have B5 := Box.mk (below_setRow B4.out (Nat.le_refl w.heap.size) #[.string ⟨Y.name.toArray⟩, .slice Y.ca Y.cols.length Y.cc, .slice Y.ia Y.ixs.length Y.ic, .slice Y.ha Y.chks.length Y.hc])
    have TO5 := Box.mk (TO4.out.setRow (b := w.heap.size) (by have := HB.out; omega) #[.string ⟨Y.name.toArray⟩, .slice Y.ca Y.cols.length Y.cc, .slice Y.ia Y.ixs.length Y.ic, .slice Y.ha Y.chks.length Y.hc])
    clear O4 B4 TO4 bg4
    have HBs5 : B' ≤ (w4.setRow w.heap.size #[.string ⟨Y.name.toArray⟩, .slice Y.ca Y.cols.length Y.cc, .slice Y.ia Y.ixs.length Y.ic, .slice Y.ha Y.chks.length Y.hc]).heap.size := by simpa using HBs
    generalize (w4.setRow w.heap.size #[.string ⟨Y.name.toArray⟩, .slice Y.ca Y.cols.length Y.cc, .slice Y.ia Y.ixs.length Y.ic, .slice Y.ha Y.chks.length Y.hc]) = w5 at *
    have bg := (O5.out.blk 0 rfl).1
    have bc := (O5.out.blk 1 rfl).1
    have br := (O5.out.blk 2 rfl).1
    have z1 := bc.cellOf (i := 1) rfl
    have ylen : Y.ixs.length ≤ 4 := by
      have h := (ok_copy (X := Y) (by rw [ht]; exact HV.out)).2.1
      exact h
    have HYT := Box.mk ht
    clear ht bg bc br
    go_wp2_with fail
    refine (clone_ints (intVals cl) ca cl.length cp _ (HRX.out.call0 B5.out) (intVals_one _) (by omega)).mono ?_
    rintro e wk ⟨hbk, ak, ck, rfl, hownk⟩
    have OK := Box.mk (O5.out.below hbk)
    have BK := Box.mk (B5.out.trans (hbk.mono B5.out.size))
    have TK := Box.mk (TO5.out.step hbk)
    have HBk := Nat.le_trans HBs5 hbk.size
    have HNEW := Box.mk (show ∀ x, ak = some x → B' ≤ x.block ∧ x.block < wk.heap.size ∧ (∀ b, Y.ia = some b → x.block ≠ b.block) ∧ ∀ b, Y.ca = some b → x.block ≠ b.block from fun x hx => by
      have h1 := own_ge hownk x hx
      refine ⟨by omega, h1.2, fun b hb e => ?_, fun b hb e => ?_⟩
      · have := (own_ge TO5.out.ixs b hb).2; omega
      · have := (own_ge TO5.out.cols b hb).2; omega)
    have RK := Box.mk (Rd.ofOwn hownk)
    clear hbk hownk O5 B5 TO5 z1 HBs5 HBs
    have y1 := (OK.out.blk 1 rfl).1.cellOf (i := 1) rfl
    have fy1 := (OK.out.blk 1 rfl).1.free 1
    go_upto_region 6 with fail
    have O6 := Box.mk (OK.out.setCell 1 rfl 1 (.slice ak cl.length ck)).1
    have B6 := Box.mk (BK.out.setCell (p := ⟨w.heap.size + 1, 1, none⟩) (show w.heap.size ≤ w.heap.size + 1 by omega) (.slice ak cl.length ck))
    have T6 := Box.mk (TK.out.setCell (b := w.heap.size + 1) (by have := HB.out; omega) 1 (.slice ak cl.length ck))
    have R6 := Box.mk (show Rd (wk.setCell ⟨w.heap.size + 1, 1, none⟩ (.slice ak cl.length ck)) ak cl.length ck 1 (intVals cl) from RK.out.eq (fun ad ha => Below.heap_setCell _ _ _ _ (by have := (HNEW.out ad ha).1; have := HB.out; show ad.block ≠ w.heap.size + 1; omega)))
    have hsz6 : (wk.setCell ⟨w.heap.size + 1, 1, none⟩ (.slice ak cl.length ck)).heap.size = wk.heap.size := by show (wk.heap.modify _ _).size = _; rw [Array.size_modify]
    rw [← hsz6] at HBk HNEW
    clear OK BK TK RK y1 fy1 hsz6
    generalize (wk.setCell ⟨w.heap.size + 1, 1, none⟩ (.slice ak cl.length ck)) = w6 at *
    have bg := (O6.out.blk 0 rfl).1
    have bc := (O6.out.blk 1 rfl).1
    have br := (O6.out.blk 2 rfl).1
    have x2 := bg.cellOf (i := 2) rfl
    have z0 := bc.cellOf (i := 0) rfl
    have z1 := bc.cellOf (i := 1) rfl
    have z2 := bc.cellOf (i := 2) rfl
    have SRC := Box.mk (Src.ofRd (P := Try.prog) (rd_newAt (w := w6) (arr := #[.string ⟨cn.toArray⟩, .slice ak cl.length ck, .bool cu]) (cs := recC IxP.enc [⟨⟨cn, cl, cu⟩, ak, ck⟩]) (e := 55) (n := 1) (g := w6.heap.size) (size := 3) rfl rfl rfl (by simp [maxLen])) (recC_one IxP.enc_one _))
    have TA := Box.mk (T6.out.step ((Below.refl _ _).alloc (Nat.le_refl _) (.cells #[.string ⟨cn.toArray⟩, .slice ak cl.length ck, .bool cu] 55)))
    have RA := Box.mk (R6.out.alloc (.cells #[.string ⟨cn.toArray⟩, .slice ak cl.length ck, .bool cu] 55))
    have BB := Box.mk (And.intro (bg.alloc (.cells #[.string ⟨cn.toArray⟩, .slice ak cl.length ck, .bool cu] 55)) (br.alloc (.cells #[.string ⟨cn.toArray⟩, .slice ak cl.length ck, .bool cu] 55)))
    have B6s := B6.out.size
    have hbs8 : B' ≤ (w6.alloc (.cells #[.string ⟨cn.toArray⟩, .slice ak cl.length ck, .bool cu] 55)).heap.size := by simp; omega
    have hws8 : w.heap.size ≤ (w6.alloc (.cells #[.string ⟨cn.toArray⟩, .slice ak cl.length ck, .bool cu] 55)).heap.size := by simp; omega
    have hnn : ∀ p ∈ Y.ixs ++ [(⟨⟨cn, cl, cu⟩, ak, ck⟩ : IxP)], p ∈ Y.ixs ∨ (Rd (w6.alloc (.cells #[.string ⟨cn.toArray⟩, .slice ak cl.length ck, .bool cu] 55)) p.a p.x.cols.length p.cap 1 (intVals p.x.cols) ∧ ∀ x, p.a = some x → B' ≤ x.block ∧ x.block < (w6.alloc (.cells #[.string ⟨cn.toArray⟩, .slice ak cl.length ck, .bool cu] 55)).heap.size ∧ (∀ b, Y.ia = some b → x.block ≠ b.block) ∧ ∀ b, Y.ca = some b → x.block ≠ b.block) := by
      intro p hp
      rcases List.mem_append.1 hp with h | h
      · exact .inl h
      · simp at h; subst h
        exact .inr ⟨RA.out, fun x hx => by have := HNEW.out x hx; exact ⟨this.1, by simp; omega, this.2.2.1, this.2.2.2⟩⟩
    have HNN := Box.mk hnn
    clear bg bc br O6 T6 hnn R6
    go_wp2_with (at_builtin; go_loud (refine wpList_append_src rfl _ _ 25 25 rfl sl_ixs (.inl sl_ixs.ht) rfl TA.out.ixs rfl SRC.out (by omega) (by unfold maxLen; omega) hbs8 ?_; intro a7 c7 w7 hown7 hgr7 hnew7; have TC := Box.mk (TA.out.withIxs (l := Y.ixs ++ [(⟨⟨cn, cl, cu⟩, ak, ck⟩ : IxP)]) hgr7 hown7 hnew7 (recC_append _ _).symm (by simp) HNN.out); have HLO : ∀ k, k < B' → (Value.slice Y.ia Y.ixs.length Y.ic).ownBlock ≠ some k := (fun k hk e => by have := (TA.out.ixs.lt k e).1; omega); have hbB := HB.out; have BB7 := Box.mk (And.intro (BB.out.1.grown hgr7 (HLO _ (by omega))) (BB.out.2.grown hgr7 (HLO _ (by omega)))); have B7 := Box.mk (below_grown (B6.out.alloc B6s (.cells #[.string ⟨cn.toArray⟩, .slice ak cl.length ck, .bool cu] 55)) hgr7 TA.out.ixs (by omega) hws8); have d0 := BB7.out.1.cellOf (i := 0) rfl; have d1 := BB7.out.1.cellOf (i := 1) rfl; have d2 := BB7.out.1.cellOf (i := 2) rfl; have d3 := BB7.out.1.cellOf (i := 3) rfl; have f1 := BB7.out.1.free 2; clear hown7 hgr7 hnew7 HLO hbB))
    have C8 := Box.mk (TC.out.setCell (b := w.heap.size) (by have := HB.out; omega) 2 (.slice a7 (Y.ixs.length + 1) c7))
    have B8 := Box.mk (B7.out.setCell (Nat.le_refl w.heap.size) (p := ⟨w.heap.size, 2, none⟩) (.slice a7 (Y.ixs.length + 1) c7))
    have BR8 := Box.mk (BB7.out.2.other (p := ⟨w.heap.size, 2, none⟩) (by show w.heap.size + 2 ≠ w.heap.size; omega) (.slice a7 (Y.ixs.length + 1) c7))
    clear TC B7 BB7 d0 d1 d2 d3 f1 BB TA SRC RA HNN HNEW
    generalize (w7.setCell ⟨w.heap.size, 2, none⟩ (.slice a7 (Y.ixs.length + 1) c7)) = w8 at *
    generalize hv : checkT (X.t.addIx ⟨cn, cl, cu⟩) = v
    have hty : (Y.withIxs a7 c7 (Y.ixs ++ [(⟨⟨cn, cl, cu⟩, ak, ck⟩ : IxP)])).t = X.t.addIx ⟨cn, cl, cu⟩ := by
      rw [← HYT.out]; unfold TabP.t TabP.withIxs Tab.addIx; simp only [map_x_append]
    have HTY := Box.mk hty
    have hv2 : checkT (Y.withIxs a7 c7 (Y.ixs ++ [(⟨⟨cn, cl, cu⟩, ak, ck⟩ : IxP)])).t = v := by rw [← hv, hty]
    clear hty
    obtain ⟨e1, e2, e3⟩ := addIx_go HV.out hv
    by_cases h0 : v = 0
    · subst h0
      obtain rfl : E = 0 := HET.out.1.symm.trans e1
      obtain rfl : T = X.t.addIx ⟨cn, cl, cu⟩ := HET.out.2.symm.trans (e2 rfl)
      clear e1 e2 e3 hv
      have hck : Calls Try.prog 69 #[.agg #[.string ⟨Y.name.toArray⟩, .slice Y.ca Y.cols.length Y.cc, .slice a7 (Y.ixs.length + 1) c7, .slice Y.ha Y.chks.length Y.hc]] w8 (RetV (.tuple #[.agg #[.string ⟨Y.name.toArray⟩, .slice Y.ca Y.cols.length Y.cc, .slice a7 (Y.ixs.length + 1) c7, .slice Y.ha Y.chks.length Y.hc], .int .i64 0]) w8) :=
        checked_ok2 (X := Y.withIxs a7 c7 (Y.ixs ++ [(⟨⟨cn, cl, cu⟩, ak, ck⟩ : IxP)])) hv2 rfl (by show (Y.ixs ++ [_]).length = _; simp) rfl C8.out.rd
      refine hck.mono ?_
      rintro e w9 ⟨rfl, hb9⟩
      have B9 := Box.mk (B8.out.trans (hb9.mono B8.out.size))
      have BR9 := Box.mk (BR8.out.call0 hb9)
      have C9 := Box.mk ((C8.out.step hb9).setRow (b := w.heap.size + 2) (by have := HB.out; omega) #[.string ⟨Y.name.toArray⟩, .slice Y.ca Y.cols.length Y.cc, .slice a7 (Y.ixs.length + 1) c7, .slice Y.ha Y.chks.length Y.hc])
      clear hb9 B8 BR8 C8 hv2 hck
      go_wp2_with (with_reducible refine wpList_store_row rfl _ _ _ rfl rfl (by kernel_rfl) BR9.out rfl rfl (cs := [.string ⟨Y.name.toArray⟩, .slice Y.ca Y.cols.length Y.cc, .slice a7 (Y.ixs.length + 1) c7, .slice Y.ha Y.chks.length Y.hc]) rfl rfl (tab_one _ _ _ _ _ _ _ _ _ _) ?_)
      refine bodyPost_ret (results_cell2 rfl _ rfl (BR9.out.row [.string ⟨Y.name.toArray⟩, .slice Y.ca Y.cols.length Y.cc, .slice a7 (Y.ixs.length + 1) c7, .slice Y.ha Y.chks.length Y.hc]) tabT) rfl ?_
      refine ⟨below_setRow B9.out (by omega) _, Y.withIxs a7 c7 (Y.ixs ++ [(⟨⟨cn, cl, cu⟩, ak, ck⟩ : IxP)]), ?_, C9.out.rd, HTY.out⟩
      unfold TabP.v
      rw [show (Y.withIxs a7 c7 (Y.ixs ++ [(⟨⟨cn, cl, cu⟩, ak, ck⟩ : IxP)])).ixs.length = Y.ixs.length + 1 from by show (Y.ixs ++ [_]).length = _; simp]
      rfl
    · obtain rfl : E = v := HET.out.1.symm.trans e1
      obtain rfl : T = TN := HET.out.2.symm.trans (e3 h0)
      clear e1 e2 e3 hv
      refine (checked_no2 (X := Y.withIxs a7 c7 (Y.ixs ++ [(⟨⟨cn, cl, cu⟩, ak, ck⟩ : IxP)])) hv2 h0 rfl (by show (Y.ixs ++ [_]).length = _; simp) rfl C8.out.rd).mono ?_
      rintro e w9 ⟨rfl, hb9⟩
      have B9 := Box.mk (B8.out.trans (hb9.mono B8.out.size))
      have BR9 := Box.mk (BR8.out.call0 hb9)
      clear hb9 B8 BR8 C8 hv2 h0
      unfold TabP.v
      go_wp2_with (with_reducible refine wpList_store_row rfl _ _ _ rfl rfl (by kernel_rfl) BR9.out rfl rfl (cs := [.string ⟨XN.name.toArray⟩, .slice XN.ca XN.cols.length XN.cc, .slice XN.ia XN.ixs.length XN.ic, .slice XN.ha XN.chks.length XN.hc]) rfl rfl (tab_one _ _ _ _ _ _ _ _ _ _) ?_)
      refine bodyPost_ret (results_cell2 rfl _ rfl (BR9.out.row [.string ⟨XN.name.toArray⟩, .slice XN.ca XN.cols.length XN.cc, .slice XN.ia XN.ixs.length XN.ic, .slice XN.ha XN.chks.length XN.hc]) tabT) rfl ?_
      exact RetTab.nil (below_setRow B9.out (by omega) _)
  · obtain ⟨rfl, rfl⟩ : E = v ∧ T = TN := ⟨HET.out.1.symm.trans (addIx_bad hv h0).1, HET.out.2.symm.trans (addIx_bad hv h0).2⟩
    have hvv : (E != 0) = true := by simp [h0]
    clear hv HET
    go_wp2_with (with_reducible refine wpList_store_row rfl _ _ _ rfl rfl (by kernel_rfl) (O2.out.blk 2 rfl).1 rfl rfl (cs := [.string ⟨#[]⟩, .slice none 0 0, .slice none 0 0, .slice none 0 0]) rfl rfl (tab_one _ _ _ _ _ _ _ _ _ _) ?_)
    refine bodyPost_ret (results_cell2 rfl _ rfl ((O2.out.blk 2 rfl).1.row [.string ⟨#[]⟩, .slice none 0 0, .slice none 0 0, .slice none 0 0]) tabT) rfl ?_
    exact RetTab.nil (below_setRow B2.out (O2.out.blk 2 rfl).2 _)
end Go.Proofs.Ytgimkipekoabbaa
