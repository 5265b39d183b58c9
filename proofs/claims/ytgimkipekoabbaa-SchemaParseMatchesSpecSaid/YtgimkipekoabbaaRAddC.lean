/-
  The walk of the reference's AddColumn. No condition.
-/
import Derived.Test.YtgimkipekoabbaaOps2
import Derived.Test.YtgimkipekoabbaaExt2
import Derived.Test.YtgimkipekoabbaaWAddC
namespace Go.Proofs.Ytgimkipekoabbaa
open Go.RowKit

theorem aggC : AggT Try.prog 50 3 := ⟨by kernel_rfl, by kernel_rfl⟩
theorem rchk2 {X : TabP} {v : Int} (hv : checkT X.t = v) {n1 n2 n3 : Nat} (e1 : X.cols.length = n1) (e2 : X.ixs.length = n2) (e3 : X.chks.length = n3) {w : World} (hr : TabRd w X) :
    Calls Try.prog 20 #[.agg #[.string ⟨X.name.toArray⟩, .slice X.ca n1 X.cc, .slice X.ia n2 X.ic, .slice X.ha n3 X.hc]] w (RetV (.int .i64 v) w) := by
  subst e1 e2 e3; exact rchk_is hv hr
set_option maxRecDepth 20000 in
set_option maxHeartbeats 4000000 in
theorem raddColumn_any (X : TabP) (c : Col) (w : World) (hr : TabRd w X) (hl : X.cols.length ≤ 1000) : Calls Try.prog 37 #[X.v, c.v] w (RetTab (addColT X.t c) (addColE X.t c) w) := by
  obtain ⟨cn, ck, cu⟩ := c
  have O0 := Box.mk (own3 w X [.string ⟨cn.toArray⟩, .int .i64 ck, .bool cu] 50)
  have HR := Box.mk hr
  unfold TabP.v Col.v
  generalize hE : addColE X.t ⟨cn, ck, cu⟩ = E
  generalize hT : addColT X.t ⟨cn, ck, cu⟩ = T
  have HET := Box.mk (And.intro hE hT)
  clear hE hT hr
  obtain ⟨x0, x1, x2, x3⟩ := O0.out.tabCells 0 rfl
  have B0 := Box.mk (show Below w.heap.size w _ from (((Below.refl w.heap.size w).alloc (Nat.le_refl _) (.cells #[.string ⟨X.name.toArray⟩, .slice X.ca X.cols.length X.cc, .slice X.ia X.ixs.length X.ic, .slice X.ha X.chks.length X.hc] 28)).alloc (by simp) (.cells #[.string ⟨cn.toArray⟩, .int .i64 ck, .bool cu] 50)).alloc (by simp; omega) (.cells #[.string ⟨#[]⟩, .slice none 0 0, .slice none 0 0, .slice none 0 0] 28))
  go_enter Try.func37, Try.ntmps37
  go_wp2_with fail
  clear x0 x1 x2 x3
  generalize (((w.alloc (.cells #[.string ⟨X.name.toArray⟩, .slice X.ca X.cols.length X.cc, .slice X.ia X.ixs.length X.ic, .slice X.ha X.chks.length X.hc] 28)).alloc (.cells #[.string ⟨cn.toArray⟩, .int .i64 ck, .bool cu] 50)).alloc (.cells #[.string ⟨#[]⟩, .slice none 0 0, .slice none 0 0, .slice none 0 0] 28)) = W at *
  generalize hv : checkT X.t = v
  refine (rchk_is hv (HR.out.below B0.out)).mono ?_
  rintro e w2 ⟨rfl, hb⟩
  have O2 := Box.mk (O0.out.below hb)
  have B2 := Box.mk (B0.out.trans (hb.mono B0.out.size))
  clear hb O0 B0
  by_cases h0 : v = 0
  · subst h0
    have HV := Box.mk hv
    clear hv
    cases cu with
    | false =>
      obtain ⟨rfl, rfl⟩ : E = 200 ∧ T = TN := ⟨HET.out.1.symm.trans (addCol_null HV.out rfl).1, HET.out.2.symm.trans (addCol_null HV.out rfl).2⟩
      have y2 := (O2.out.blk 1 rfl).1.cellOf (i := 2) rfl
      go_wp2_with (with_reducible refine wpList_store_row rfl _ _ _ rfl rfl (by kernel_rfl) (O2.out.blk 2 rfl).1 rfl rfl (cs := [.string ⟨#[]⟩, .slice none 0 0, .slice none 0 0, .slice none 0 0]) rfl rfl (tab_one _ _ _ _ _ _ _ _ _ _) ?_)
      refine bodyPost_ret (results_cell2 rfl _ rfl ((O2.out.blk 2 rfl).1.row [.string ⟨#[]⟩, .slice none 0 0, .slice none 0 0, .slice none 0 0]) tabT) rfl ?_
      exact RetTab.nil (below_setRow B2.out (O2.out.blk 2 rfl).2 _)
    | true =>
      have y2 := (O2.out.blk 1 rfl).1.cellOf (i := 2) rfl
      obtain ⟨x0, x1, x2, x3⟩ := O2.out.tabCells 0 rfl
      go_upto_region 7 with fail
      clear x0 x1 x2 x3 y2
      have B6 := Box.mk (B2.out.alloc B2.out.size (.cells #[.string ⟨X.name.toArray⟩, .slice X.ca X.cols.length X.cc, .slice X.ia X.ixs.length X.ic, .slice X.ha X.chks.length X.hc] 28))
      have BO6 := Box.mk (Blk.new (w := w2) (k := w2.heap.size) (ty := 28) (cs := [.string ⟨X.name.toArray⟩, .slice X.ca X.cols.length X.cc, .slice X.ia X.ixs.length X.ic, .slice X.ha X.chks.length X.hc]) rfl rfl)
      have BR6 := Box.mk ((O2.out.blk 2 rfl).1.alloc (.cells #[.string ⟨X.name.toArray⟩, .slice X.ca X.cols.length X.cc, .slice X.ia X.ixs.length X.ic, .slice X.ha X.chks.length X.hc] 28))
      have HX := Box.mk (show ∀ wx, Below (w2.alloc (.cells #[.string ⟨X.name.toArray⟩, .slice X.ca X.cols.length X.cc, .slice X.ia X.ixs.length X.ic, .slice X.ha X.chks.length X.hc] 28)).drew.heap.size (w2.alloc (.cells #[.string ⟨X.name.toArray⟩, .slice X.ca X.cols.length X.cc, .slice X.ia X.ixs.length X.ic, .slice X.ha X.chks.length X.hc] 28)).drew wx → wx.cell? ⟨w.heap.size, 1, none⟩ = some (.slice X.ca X.cols.length X.cc) from fun wx hb => ((((O2.out.blk 0 rfl).1.alloc (.cells #[.string ⟨X.name.toArray⟩, .slice X.ca X.cols.length X.cc, .slice X.ia X.ixs.length X.ic, .slice X.ha X.chks.length X.hc] 28)).drew.call0 hb).cellOf (i := 1) rfl))
      have HBX := Box.mk (show ∀ wx, Below (w2.alloc (.cells #[.string ⟨X.name.toArray⟩, .slice X.ca X.cols.length X.cc, .slice X.ia X.ixs.length X.ic, .slice X.ha X.chks.length X.hc] 28)).drew.heap.size (w2.alloc (.cells #[.string ⟨X.name.toArray⟩, .slice X.ca X.cols.length X.cc, .slice X.ia X.ixs.length X.ic, .slice X.ha X.chks.length X.hc] 28)).drew wx → ∀ j u, ([.string ⟨cn.toArray⟩, .int .i64 ck, .bool true] : List Value)[j]? = some u → wx.cell? ((⟨w.heap.size + 1, 0, none⟩ : Addr).add j) = some u from fun wx hb => (((O2.out.blk 1 rfl).1.alloc (.cells #[.string ⟨X.name.toArray⟩, .slice X.ca X.cols.length X.cc, .slice X.ia X.ixs.length X.ic, .slice X.ha X.chks.length X.hc] 28)).drew.call0 hb).agg)
      have HR6 := Box.mk (show ∀ wx, Below (w2.alloc (.cells #[.string ⟨X.name.toArray⟩, .slice X.ca X.cols.length X.cc, .slice X.ia X.ixs.length X.ic, .slice X.ha X.chks.length X.hc] 28)).drew.heap.size (w2.alloc (.cells #[.string ⟨X.name.toArray⟩, .slice X.ca X.cols.length X.cc, .slice X.ia X.ixs.length X.ic, .slice X.ha X.chks.length X.hc] 28)).drew wx → Rd wx X.ca X.cols.length X.cc 3 (recC Col.enc X.cols) from fun wx hb => (HR.out.below (B6.out.drew.trans (hb.mono B6.out.size))).cols)
      have hbr := (O2.out.blk 2 rfl).1.lt
      have hlt6 : w2.heap.size < (w2.alloc (.cells #[.string ⟨X.name.toArray⟩, .slice X.ca X.cols.length X.cc, .slice X.ia X.ixs.length X.ic, .slice X.ha X.chks.length X.hc] 28)).heap.size := by simp
      clear O2 B2
      generalize (w2.alloc (.cells #[.string ⟨X.name.toArray⟩, .slice X.ca X.cols.length X.cc, .slice X.ia X.ixs.length X.ic, .slice X.ha X.chks.length X.hc] 28)) = w6 at *
      generalize w2.heap.size = go at *
      refine wp_region_any (by kernel_rfl) ?_
      (change wpAny _ _ _ _ _ _ _ (World.drew _))
      refine wpAny_take (i := 1) (v := ?_) rfl (by kernel_rfl) (by kernel_rfl) (by kernel_rfl) (fun _ _ _ h => h) (Or.inl ⟨by rfl, ?_⟩) ?_
      rotate_left
      · intro w
        go_simp
        all_goals with_reducible rfl
      conv =>
        arg 7
        simp [go_sem]
      refine wpAny_ext2 [0, 2, 3, 4, 5] (fun op v wx => match op with
        | 0 => ∃ g, v = .slice (some ⟨g, 0, none⟩) 0 0 ∧ Blk wx g 50 [] ∧ w6.heap.size ≤ g
        | 2 => v = .slice X.ca X.cols.length X.cc
        | 3 => ∃ a c, v = .slice a X.cols.length c ∧ wx.ownsRow w6.heap.size 50 3 (.slice a X.cols.length c) X.cols.length (recC Col.enc X.cols)
        | 4 => v = .agg #[.string ⟨cn.toArray⟩, .int .i64 ck, .bool true]
        | _ => ∃ g, v = .slice (some ⟨g, 0, none⟩) 1 1 ∧ Blk wx g 50 [.string ⟨cn.toArray⟩, .int .i64 ck, .bool true]) (by kernel_rfl) (by rfl) ?_ ?_ (fuel := 3) rfl ?_
      · intro i hi
        simp only [List.mem_cons, List.not_mem_nil, or_false] at hi
        rcases hi with rfl | rfl | rfl | rfl | rfl
        · refine StepOK.mk _ rfl fun a' wx hb hfr hdp K hK' => ?_
          exact oper_lit0 rfl 24 rfl sl_cols (hK'.out _ _ ⟨_, rfl, Blk.new rfl rfl, hb.size⟩ ((Below.refl _ _).alloc (Nat.le_refl _) _))
        · refine StepOK.mk _ rfl fun a' wx hb hfr hdp K hK' => ?_
          have e1 : a'.tmps.getD 20 undef = .pointer (some ⟨w.heap.size, 1, none⟩) := hfr 20 (by decide)
          exact oper_load1 rfl 24 (.tmp 20) rfl (by kernel_rfl) e1 (HX.out wx hb) (hK'.out _ _ rfl (Below.refl _ _))
        · refine StepOK.mk _ rfl fun a' wx hb hfr hdp K hK' => ?_
          obtain ⟨g0, e0, b0, hg0⟩ := hdp 0 (by decide) (by kernel_rfl) 19 rfl
          have e2 := hdp 2 (by decide) (by kernel_rfl) 21 rfl
          refine oper_append_new rfl (.tmp 19) (.tmp 21) 24 24 rfl sl_cols (.inl sl_cols.ht) e0 b0 hg0 e2 (Src.ofRd (HR6.out wx hb) (recC_one Col.enc_one _)) (by omega) (by unfold maxLen; omega) ?_
          intro a3 c3 w3 hown3 hbel3
          exact hK'.out _ _ ⟨_, _, rfl, hown3⟩ hbel3
        · refine StepOK.mk _ rfl fun a' wx hb hfr hdp K hK' => ?_
          have e1 : a'.tmps.getD 3 undef = .pointer (some ⟨w.heap.size + 1, 0, none⟩) := hfr 3 (by decide)
          exact oper_load_agg rfl 50 (.tmp 3) rfl aggC e1 rfl (HBX.out wx hb) (hK'.out _ _ rfl (Below.refl _ _))
        · refine StepOK.mk _ rfl fun a' wx hb hfr hdp K hK' => ?_
          have e4 := hdp 4 (by decide) (by kernel_rfl) 23 rfl
          refine oper_litA rfl 24 (.tmp 23) rfl sl_cols (cs := [.string ⟨cn.toArray⟩, .int .i64 ck, .bool true]) (by show (a'.tmps.getD 23 undef).cells = _; rw [e4]; rfl) rfl (by omega) (by omega) (hK'.out _ _ ⟨_, rfl, Blk.new rfl rfl⟩ ((Below.refl _ _).alloc (Nat.le_refl _) _))
      · intro i hi v wx wy hv hb
        simp only [List.mem_cons, List.not_mem_nil, or_false] at hi
        rcases hi with rfl | rfl | rfl | rfl | rfl
        · obtain ⟨g0, h1, h2, h3⟩ := hv
          exact ⟨g0, h1, h2.call0 hb, h3⟩
        · exact hv
        · obtain ⟨a0, c0, h1, h2⟩ := hv
          exact ⟨a0, c0, h1, own_below h2 hb (Nat.le_refl _)⟩
        · exact hv
        · obtain ⟨g0, h1, h2⟩ := hv
          exact ⟨g0, h1, h2.call0 hb⟩
      · intro vs wz hv hbz
        obtain ⟨a3, c3, e3, own3'⟩ := hv 3 (by decide)
        obtain ⟨g5, e5, b5⟩ := hv 5 (by decide)
        conv =>
          arg 7
          simp [go_sem, e3, e5, dstOf]
        generalize vs 0 = v0' at *
        generalize vs 2 = v2' at *
        generalize vs 4 = v4' at *
        clear hv e3 e5
        have OZ := Box.mk own3'
        have SRC := Box.mk (Src.ofRd (P := Try.prog) (Rd.ofOwn (own_new (base := 0) (n := 1) (size := 3) (cs := recC Col.enc [⟨cn, ck, true⟩]) b5 (Nat.zero_le _) rfl (by decide))) (recC_one Col.enc_one _))
        clear own3' b5
        have hz6 : w6.heap.size ≤ wz.heap.size := hbz.size
        refine wpAny_ready (rs := [6]) (by kernel_rfl) (by simp) (AllReady.cons rfl (fun K hK' => oper_append2 (by rfl) (.tmp 22) (.tmp 24) 24 24 rfl sl_cols (.inl sl_cols.ht) rfl OZ.out rfl SRC.out (by omega) (by unfold maxLen; omega) hz6 ?_) AllReady.nil)
        intro a7 c7 w7 hown7 hgr7 _
        refine hK' _ _ ?_
        clear hK' K
        conv =>
          arg 7
          simp [go_sem]
        have BG7 := below_grown hbz hgr7 OZ.out (Nat.le_refl _) hbz.size
        have BG8 : Below w.heap.size w6.drew w7 := BG7.mono B6.out.size
        have B7 := Box.mk (B6.out.trans (show Below w.heap.size w6 w7 from ⟨BG8.os, BG8.tape, BG8.output, BG8.size, BG8.block⟩))
        have OB := Box.mk (BO6.out.eq (BG7.block _ BO6.out.lt))
        have OR := Box.mk (BR6.out.eq (BG7.block _ BR6.out.lt))
        have OW7 := Box.mk hown7
        have hg6 := BO6.out.lt
        clear hbz hgr7 BG7 BG8 OZ SRC hown7 hz6
        refine wpAny_take (i := 7) (v := ?_) rfl (by kernel_rfl) (by kernel_rfl) (by kernel_rfl) (fun _ _ _ h => h) (Or.inl ⟨by rfl, ?_⟩) ?_
        rotate_left
        · intro w
          go_simp
          all_goals with_reducible rfl
        conv =>
          arg 7
          simp [go_sem]
        refine wpAny_ready (rs := [8]) (by kernel_rfl) (by simp) (AllReady.cons rfl (fun K hK' => oper_store_part (by rfl) 24 (.tmp 26) (.tmp 25) rfl rfl (size := 1) (off := 1) (by kernel_rfl) OB.out (by simp) rfl (cs := [.slice a7 (X.cols.length + 1) c7]) rfl rfl (by simp [Value.oneCell']) (hK' _ _ ?_)) AllReady.nil)
        refine wpAny_done (by kernel_rfl) ?_ _
        clear hK' K
        have B8 := Box.mk (below_setRow B7.out (show w.heap.size ≤ go by omega) (splice [.string ⟨X.name.toArray⟩, .slice X.ca X.cols.length X.cc, .slice X.ia X.ixs.length X.ic, .slice X.ha X.chks.length X.hc] 1 [.slice a7 (X.cols.length + 1) c7]).toArray)
        have BO8 := Box.mk (OB.out.row (splice [.string ⟨X.name.toArray⟩, .slice X.ca X.cols.length X.cc, .slice X.ia X.ixs.length X.ic, .slice X.ha X.chks.length X.hc] 1 [.slice a7 (X.cols.length + 1) c7]))
        have BR8 := Box.mk (OR.out.rowOther (k := go) (by omega) (splice [.string ⟨X.name.toArray⟩, .slice X.ca X.cols.length X.cc, .slice X.ia X.ixs.length X.ic, .slice X.ha X.chks.length X.hc] 1 [.slice a7 (X.cols.length + 1) c7]).toArray)
        have OW8 := Box.mk (own_rowL (B := w6.heap.size) OW7.out (b := go) (by omega) (splice [.string ⟨X.name.toArray⟩, .slice X.ca X.cols.length X.cc, .slice X.ia X.ixs.length X.ic, .slice X.ha X.chks.length X.hc] 1 [.slice a7 (X.cols.length + 1) c7]).toArray)
        change Box (Blk _ go 28 [.string ⟨X.name.toArray⟩, .slice a7 (X.cols.length + 1) c7, .slice X.ia X.ixs.length X.ic, .slice X.ha X.chks.length X.hc]) at BO8
        clear B7 OB OR OW7 HX HBX HR6
        generalize w7.setRow go (splice [.string ⟨X.name.toArray⟩, .slice X.ca X.cols.length X.cc, .slice X.ia X.ixs.length X.ic, .slice X.ha X.chks.length X.hc] 1 [.slice a7 (X.cols.length + 1) c7]).toArray = w8 at *
        have HTYF := Box.mk (show ∀ wf, Below w.heap.size w wf → wf.ownsRow w6.heap.size 50 3 (.slice a7 (X.cols.length + 1) c7) (X.cols.length + 1) (recC Col.enc X.cols ++ recC Col.enc [⟨cn, ck, true⟩]) → TabRd wf (X.addCol a7 c7 ⟨cn, ck, true⟩) from fun wf hbf how => by
          have h := HR.out.below hbf
          refine ⟨?_, h.ixs, h.nums, h.chks⟩
          · have h2 := Rd.ofOwn how
            rw [← recC_append] at h2
            show Rd wf a7 (X.cols ++ [_]).length c7 3 (recC Col.enc (X.cols ++ [_]))
            rw [List.length_append]; exact h2
          )
        have d0 := BO8.out.cellOf (i := 0) rfl
        have d1 := BO8.out.cellOf (i := 1) rfl
        have d2 := BO8.out.cellOf (i := 2) rfl
        have d3 := BO8.out.cellOf (i := 3) rfl
        have hty : (X.addCol a7 c7 ⟨cn, ck, true⟩).t = X.t.addCol ⟨cn, ck, true⟩ := rfl
        have HTT := Box.mk hty
        generalize hv : checkT (X.t.addCol ⟨cn, ck, true⟩) = v
        have hv2 : checkT (X.addCol a7 c7 ⟨cn, ck, true⟩).t = v := by rw [hty]; exact hv
        obtain ⟨e1, e2, e3⟩ := addCol_go HV.out rfl hv
        clear hty
        go_wp2_with fail
        clear d0 d1 d2 d3
        refine (rchk2 (X := (X.addCol a7 c7 ⟨cn, ck, true⟩)) hv2 (by show (X.cols ++ [_]).length = _; simp) rfl rfl (HTYF.out _ B8.out OW8.out)).mono ?_
        rintro e w9 ⟨rfl, hb9⟩
        have B9 := Box.mk (B8.out.trans (hb9.mono B8.out.size))
        have BO9 := Box.mk (BO8.out.call0 hb9)
        have BR9 := Box.mk (BR8.out.call0 hb9)
        have OW9 := Box.mk (own_below OW8.out hb9 (Nat.le_refl _))
        clear hb9 B8 BO8 BR8 OW8 hv2
        by_cases h0 : v = 0
        · subst h0
          obtain rfl : E = 0 := HET.out.1.symm.trans e1
          obtain rfl := HET.out.2.symm.trans (e2 rfl)
          clear e1 e2 e3 hv
          have d0 := BO9.out.cellOf (i := 0) rfl
          have d1 := BO9.out.cellOf (i := 1) rfl
          have d2 := BO9.out.cellOf (i := 2) rfl
          have d3 := BO9.out.cellOf (i := 3) rfl
          go_wp2_with (with_reducible refine wpList_store_row rfl _ _ _ rfl rfl (by kernel_rfl) BR9.out rfl rfl (cs := [.string ⟨X.name.toArray⟩, .slice a7 (X.cols.length + 1) c7, .slice X.ia X.ixs.length X.ic, .slice X.ha X.chks.length X.hc]) rfl rfl (tab_one _ _ _ _ _ _ _ _ _ _) ?_)
          refine bodyPost_ret (results_cell2 rfl _ rfl (BR9.out.row [.string ⟨X.name.toArray⟩, .slice a7 (X.cols.length + 1) c7, .slice X.ia X.ixs.length X.ic, .slice X.ha X.chks.length X.hc]) tabT) rfl ?_
          refine ⟨below_setRow B9.out (by omega) _, (X.addCol a7 c7 ⟨cn, ck, true⟩), ?_, HTYF.out _ (below_setRow B9.out (by omega) _) (own_rowL OW9.out (by omega) _), HTT.out⟩
          unfold TabP.v
          rw [show (X.addCol a7 c7 ⟨cn, ck, true⟩).cols.length = X.cols.length + 1 from by show (X.cols ++ [_]).length = _; simp]
          rfl
        · obtain rfl : E = v := HET.out.1.symm.trans e1
          obtain rfl : T = TN := HET.out.2.symm.trans (e3 h0)
          have hvv : (E != 0) = true := by simp [h0]
          clear e1 e2 e3 hv h0
          go_wp2_with (with_reducible refine wpList_store_row rfl _ _ _ rfl rfl (by kernel_rfl) BR9.out rfl rfl (cs := [.string ⟨#[]⟩, .slice none 0 0, .slice none 0 0, .slice none 0 0]) rfl rfl (tab_one _ _ _ _ _ _ _ _ _ _) ?_)
          refine bodyPost_ret (results_cell2 rfl _ rfl (BR9.out.row [.string ⟨#[]⟩, .slice none 0 0, .slice none 0 0, .slice none 0 0]) tabT) rfl ?_
          exact RetTab.nil (below_setRow B9.out (by omega) _)
  · obtain ⟨rfl, rfl⟩ : E = v ∧ T = TN := ⟨HET.out.1.symm.trans (addCol_bad hv h0).1, HET.out.2.symm.trans (addCol_bad hv h0).2⟩
    have hvv : (E != 0) = true := by simp [h0]
    clear hv HET
    go_wp2_with (with_reducible refine wpList_store_row rfl _ _ _ rfl rfl (by kernel_rfl) (O2.out.blk 2 rfl).1 rfl rfl (cs := [.string ⟨#[]⟩, .slice none 0 0, .slice none 0 0, .slice none 0 0]) rfl rfl (tab_one _ _ _ _ _ _ _ _ _ _) ?_)
    refine bodyPost_ret (results_cell2 rfl _ rfl ((O2.out.blk 2 rfl).1.row [.string ⟨#[]⟩, .slice none 0 0, .slice none 0 0, .slice none 0 0]) tabT) rfl ?_
    exact RetTab.nil (below_setRow B2.out (O2.out.blk 2 rfl).2 _)
end Go.Proofs.Ytgimkipekoabbaa
