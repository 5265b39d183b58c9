/-
  The walk of DropIndex. No condition.
-/
import Derived.Test.YtgimkipekoabbaaWDel
namespace Go.Proofs.Ytgimkipekoabbaa
open Go.RowKit

/-- The indexes without the first of a name. -/
def Tab.dropIx (T : Tab) (k : Nat) : Tab := ⟨T.name, T.cols, T.ixs.take k ++ T.ixs.drop (k + 1), T.chks⟩
/-- What DropIndex returns. -/
def dropIxE (T : Tab) (s : List UInt8) : Int := if checkT T ≠ 0 then checkT T else if T.ixs.any (ixIs s) = false then 5 else 0
def dropIxT (T : Tab) (s : List UInt8) : Tab := if dropIxE T s = 0 then T.dropIx (T.ixs.findIdx (ixIs s)) else TN
theorem dropIx_bad {T : Tab} {s : List UInt8} {v : Int} (h : checkT T = v) (h0 : v ≠ 0) : dropIxE T s = v ∧ dropIxT T s = TN := by
  have : dropIxE T s = v := by unfold dropIxE; rw [h, if_pos h0]
  exact ⟨this, by unfold dropIxT; rw [this, if_neg h0]⟩
theorem dropIx_none {T : Tab} {s : List UInt8} (h : checkT T = 0) (hs : T.ixs.any (ixIs s) = false) : dropIxE T s = 5 ∧ dropIxT T s = TN := by
  have : dropIxE T s = 5 := by unfold dropIxE; rw [h, if_neg (by decide), if_pos hs]
  exact ⟨this, by unfold dropIxT; rw [this, if_neg (by decide)]⟩
theorem dropIx_go {T : Tab} {s : List UInt8} (h : checkT T = 0) (hs : T.ixs.any (ixIs s) = true) : dropIxE T s = 0 ∧ dropIxT T s = T.dropIx (T.ixs.findIdx (ixIs s)) := by
  have : dropIxE T s = 0 := by unfold dropIxE; rw [h, if_neg (by decide), if_neg (by simp [hs])]
  exact ⟨this, by unfold dropIxT; rw [this, if_pos rfl]⟩
theorem any_x (l : List IxP) (s : List UInt8) : (l.map fun p => p.x).any (ixIs s) = l.any (ixPIs s) := by rw [List.any_map]; rfl
theorem findIdx_x (l : List IxP) (s : List UInt8) : (l.map fun p => p.x).findIdx (ixIs s) = l.findIdx (ixPIs s) := by rw [List.findIdx_map]; rfl
theorem placeP_some {α : Type} {p : α → Bool} {l : List α} (h : l.any p = true) : placeP p l = (l.findIdx p : Int) ∧ l.findIdx p < l.length := by
  refine ⟨by unfold placeP; rw [if_pos h], ?_⟩
  obtain ⟨x, hx, hp⟩ := List.any_eq_true.1 h
  exact List.findIdx_lt_length_of_exists ⟨x, hx, hp⟩
theorem ix_is {X : TabP} {s : List UInt8} {v : Int} {b : Bool} (h1 : placeP (ixPIs s) X.ixs = v) (h2 : X.ixs.any (ixPIs s) = b) {w : World} (hr : TabRd w X) : Calls Try.prog 27 #[.agg #[.string ⟨X.name.toArray⟩, .slice X.ca X.cols.length X.cc, .slice X.ia X.ixs.length X.ic, .slice X.ha X.chks.length X.hc], .string ⟨s.toArray⟩] w (RetF v b w) := by
  subst h1 h2; exact index_any2 X s w hr
theorem CpI.turn {w wr : World} {X : TabP} {s1 s2 s3 : Value} (h : CpI w X s1 s2 s3 wr) (Y : TabP) (t1 t2 t3 : Value) : CpI w Y t1 t2 t3 (wr.setRow w.heap.size #[.string ⟨Y.name.toArray⟩, t1, t2, t3]) :=
  ⟨below_setRow h.below (Nat.le_refl _) _, h.blk.row [.string ⟨Y.name.toArray⟩, t1, t2, t3], h.blk2.rowOther (by omega) _⟩
theorem del_is {L : List IxP} {B g n cap k : Nat} {a : Option Addr} {w : World} (ha : a = some ⟨g, 0, none⟩) (hk : k < n) (hn : n ≤ 1000) (hown : w.ownsRow B 55 3 (.slice a n cap) n (recC IxP.enc L)) :
    Calls Try.prog 71 #[.slice a n cap, .int .i64 k, .int .i64 ((k : Int) + 1)] w (RetDel B g (n - 1) cap (L.take k ++ L.drop (k + 1)) w) := by
  subst ha; exact delete_any L B g n cap k w hk hn hown

set_option maxRecDepth 20000 in
set_option maxHeartbeats 4000000 in
theorem dropIndex_any (X : TabP) (s : List UInt8) (w : World) (hr : TabRd w X) : Calls Try.prog 35 #[X.v, .string ⟨s.toArray⟩] w (RetTab (dropIxT X.t s) (dropIxE X.t s) w) := by
  have C0 := Box.mk (CpI.start (w := w) X)
  have HR := Box.mk hr
  generalize hE : dropIxE X.t s = E
  generalize hT : dropIxT X.t s = T
  have HET := Box.mk (And.intro hE hT)
  clear hE hT hr
  unfold TabP.v
  have x0 := C0.out.blk.cellOf (i := 0) rfl
  have x1 := C0.out.blk.cellOf (i := 1) rfl
  have x2 := C0.out.blk.cellOf (i := 2) rfl
  have x3 := C0.out.blk.cellOf (i := 3) rfl
  go_enter Try.func35, Try.ntmps35
  go_wp2_with fail
  clear x0 x1 x2 x3
  generalize ((w.alloc (.cells #[.string ⟨X.name.toArray⟩, .slice X.ca X.cols.length X.cc, .slice X.ia X.ixs.length X.ic, .slice X.ha X.chks.length X.hc] 28)).alloc (.cells #[.string ⟨#[]⟩, .slice none 0 0, .slice none 0 0, .slice none 0 0] 28)) = W0 at *
  generalize hv : checkT X.t = v
  refine (chk_is hv (HR.out.below C0.out.below)).mono ?_
  rintro e w2 ⟨rfl, hb⟩
  have C2 := Box.mk (C0.out.step hb)
  clear hb C0
  by_cases h0 : v = 0
  · subst h0
    have HV := Box.mk hv
    clear hv
    have x0 := C2.out.blk.cellOf (i := 0) rfl
    have x1 := C2.out.blk.cellOf (i := 1) rfl
    have x2 := C2.out.blk.cellOf (i := 2) rfl
    have x3 := C2.out.blk.cellOf (i := 3) rfl
    go_wp2_with fail
    clear x0 x1 x2 x3
    cases hb : X.ixs.any (ixPIs s) with
    | false =>
      obtain ⟨rfl, rfl⟩ : E = 5 ∧ T = TN := by
        have h := dropIx_none (s := s) HV.out (by rw [show X.t.ixs = X.ixs.map fun (p : IxP) => p.x from rfl, any_x]; exact hb)
        exact ⟨HET.out.1.symm.trans h.1, HET.out.2.symm.trans h.2⟩
      refine (ix_is rfl hb (HR.out.below C2.out.below)).mono ?_
      rintro e w3 ⟨rfl, hb3⟩
      have C3 := Box.mk (C2.out.step hb3)
      clear hb3 C2 HET hb
      generalize placeP (ixPIs s) X.ixs = pv
      go_wp2_with (with_reducible refine wpList_store_row rfl _ _ _ rfl rfl (by kernel_rfl) C3.out.blk2 rfl rfl (cs := [.string ⟨#[]⟩, .slice none 0 0, .slice none 0 0, .slice none 0 0]) rfl rfl (tab_one _ _ _ _ _ _ _ _ _ _) ?_)
      refine bodyPost_ret (results_cell2 rfl _ rfl (C3.out.blk2.row [.string ⟨#[]⟩, .slice none 0 0, .slice none 0 0, .slice none 0 0]) tabT) rfl ?_
      exact RetTab.nil (below_setRow C3.out.below (by omega) _)
    | true =>
      obtain ⟨hpl, hlt⟩ := placeP_some hb
      have hd := dropIx_go (s := s) HV.out (by rw [show X.t.ixs = X.ixs.map fun (p : IxP) => p.x from rfl, any_x]; exact hb)
      rw [show X.t.ixs = X.ixs.map fun (p : IxP) => p.x from rfl, findIdx_x] at hd
      refine (ix_is hpl hb (HR.out.below C2.out.below)).mono ?_
      obtain ⟨rfl, rfl⟩ : E = 0 ∧ T = X.t.dropIx (X.ixs.findIdx (ixPIs s)) := ⟨HET.out.1.symm.trans hd.1, HET.out.2.symm.trans hd.2⟩
      generalize X.ixs.findIdx (ixPIs s) = k at *
      rintro e w3 ⟨rfl, hb3⟩
      have C3 := Box.mk (C2.out.step hb3)
      clear hb3 C2 HET hb hd hpl
      have x0 := C3.out.blk.cellOf (i := 0) rfl
      have x1 := C3.out.blk.cellOf (i := 1) rfl
      have x2 := C3.out.blk.cellOf (i := 2) rfl
      have x3 := C3.out.blk.cellOf (i := 3) rfl
      go_wp2_with fail
      clear x0 x1 x2 x3
      refine (copied_is HV.out (HR.out.below C3.out.below)).mono ?_
      rintro e w4 ⟨hb4, Y, rfl, TO, ht⟩
      have C4 := Box.mk (C3.out.step hb4)
      have HB := Box.mk C3.out.big
      have TO4 := Box.mk TO
      have HBs := hb4.size
      generalize w3.heap.size = B' at *
      clear hb4 TO C3
      unfold TabP.v
      go_upto_region 8 with (with_reducible refine wpList_store_row rfl _ _ _ rfl rfl (by kernel_rfl) C4.out.blk rfl rfl (cs := [.string ⟨Y.name.toArray⟩, .slice Y.ca Y.cols.length Y.cc, .slice Y.ia Y.ixs.length Y.ic, .slice Y.ha Y.chks.length Y.hc]) rfl rfl (tab_one _ _ _ _ _ _ _ _ _ _) ?_)
      have C5 := Box.mk (C4.out.turn Y (.slice Y.ca Y.cols.length Y.cc) (.slice Y.ia Y.ixs.length Y.ic) (.slice Y.ha Y.chks.length Y.hc))
      have TO5 := Box.mk (TO4.out.setRow (b := w.heap.size) (by have := HB.out; omega) #[.string ⟨Y.name.toArray⟩, .slice Y.ca Y.cols.length Y.cc, .slice Y.ia Y.ixs.length Y.ic, .slice Y.ha Y.chks.length Y.hc])
      clear C4 TO4
      generalize (w4.setRow w.heap.size #[.string ⟨Y.name.toArray⟩, .slice Y.ca Y.cols.length Y.cc, .slice Y.ia Y.ixs.length Y.ic, .slice Y.ha Y.chks.length Y.hc]) = w5 at *
      have hyx : Y.ixs.map (fun (p : IxP) => p.x) = X.ixs.map (fun (p : IxP) => p.x) := congrArg Tab.ixs ht
      have hyl : Y.ixs.length = X.ixs.length := by have := congrArg List.length hyx; simpa using this
      have ylen : Y.ixs.length ≤ 4 := (ok_copy (X := Y) (by rw [ht]; exact HV.out)).2.1
      have hk : k < Y.ixs.length := by omega
      obtain ⟨gi, hgi⟩ : ∃ gi, Y.ia = some ⟨gi, 0, none⟩ := by
        rcases TO5.out.ixs.2 with ⟨hv, h0⟩ | ⟨g, c, cur, hv, _⟩
        · omega
        · simp only [Value.slice.injEq] at hv; exact ⟨g, hv.1⟩
      have HYT := Box.mk ht
      have HGI := Box.mk hgi
      have x2 := C5.out.blk.cellOf (i := 2) rfl
      have f2 := C5.out.blk.free 2
      clear ht hyx hgi hyl hlt
      go_wp2_with fail
      refine (del_is HGI.out hk (by omega) TO5.out.ixs).mono ?_
      rintro e w6 ⟨rfl, hown6, hgr6⟩
      clear x2 f2
      have hge := own_ge TO5.out.ixs _ HGI.out
      simp only at hge
      have hbB := HB.out
      have C6 := Box.mk (C5.out.grown hgr6 (by omega))
      have T6 := Box.mk (TO5.out.withIxs (l := Y.ixs.take k ++ Y.ixs.drop (k + 1)) (by rw [HGI.out]; exact hgr6) hown6 (fun ad ha => .inl (by rw [HGI.out]; exact ha)) rfl (by rw [List.length_append, List.length_take, List.length_drop]; omega) (fun p hp => .inl (by
        rcases List.mem_append.1 hp with h | h
        · exact List.mem_of_mem_take h
        · exact List.mem_of_mem_drop h)))
      clear hown6 hgr6 C5 TO5 hge
      have x0 := C6.out.blk.cellOf (i := 0) rfl
      have x1 := C6.out.blk.cellOf (i := 1) rfl
      have x2 := C6.out.blk.cellOf (i := 2) rfl
      have x3 := C6.out.blk.cellOf (i := 3) rfl
      have f2 := C6.out.blk.free 2
      have C7 := Box.mk (C6.out.set2 (.slice (some ⟨gi, 0, none⟩) (Y.ixs.length - 1) Y.ic))
      have T7 := Box.mk (T6.out.setCell (b := w.heap.size) (by omega) 2 (.slice (some ⟨gi, 0, none⟩) (Y.ixs.length - 1) Y.ic))
      clear T6 C6
      go_wp2_with (with_reducible refine wpList_store_row rfl _ _ _ rfl rfl (by kernel_rfl) C7.out.blk2 rfl rfl (cs := [.string ⟨Y.name.toArray⟩, .slice Y.ca Y.cols.length Y.cc, .slice (some ⟨gi, 0, none⟩) (Y.ixs.length - 1) Y.ic, .slice Y.ha Y.chks.length Y.hc]) rfl rfl (tab_one _ _ _ _ _ _ _ _ _ _) ?_)
      refine bodyPost_ret (results_cell2 rfl _ rfl (C7.out.blk2.row [.string ⟨Y.name.toArray⟩, .slice Y.ca Y.cols.length Y.cc, .slice (some ⟨gi, 0, none⟩) (Y.ixs.length - 1) Y.ic, .slice Y.ha Y.chks.length Y.hc]) tabT) rfl ?_
      refine ⟨below_setRow C7.out.below (by omega) _, Y.withIxs (some ⟨gi, 0, none⟩) Y.ic (Y.ixs.take k ++ Y.ixs.drop (k + 1)), ?_, (T7.out.setRow (b := w.heap.size + 1) (by omega) _).rd, ?_⟩
      · unfold TabP.v
        rw [show (Y.withIxs (some ⟨gi, 0, none⟩) Y.ic (Y.ixs.take k ++ Y.ixs.drop (k + 1))).ixs.length = Y.ixs.length - 1 from by show (Y.ixs.take k ++ Y.ixs.drop (k + 1)).length = _; rw [List.length_append, List.length_take, List.length_drop]; omega]
        rfl
      · rw [← HYT.out]
        unfold TabP.t TabP.withIxs Tab.dropIx
        simp only [List.map_append, List.map_take, List.map_drop]
  · obtain ⟨rfl, rfl⟩ : E = v ∧ T = TN := ⟨HET.out.1.symm.trans (dropIx_bad hv h0).1, HET.out.2.symm.trans (dropIx_bad hv h0).2⟩
    have hvv : (E != 0) = true := by simp [h0]
    clear hv HET
    go_wp2_with (with_reducible refine wpList_store_row rfl _ _ _ rfl rfl (by kernel_rfl) C2.out.blk2 rfl rfl (cs := [.string ⟨#[]⟩, .slice none 0 0, .slice none 0 0, .slice none 0 0]) rfl rfl (tab_one _ _ _ _ _ _ _ _ _ _) ?_)
    refine bodyPost_ret (results_cell2 rfl _ rfl (C2.out.blk2.row [.string ⟨#[]⟩, .slice none 0 0, .slice none 0 0, .slice none 0 0]) tabT) rfl ?_
    exact RetTab.nil (below_setRow C2.out.below (by omega) _)
end Go.Proofs.Ytgimkipekoabbaa
