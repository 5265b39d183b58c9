/-
  The walk of the reference's DropIndex. No condition.
-/
import Derived.Test.YtgimkipekoabbaaRAddI
import Derived.Test.YtgimkipekoabbaaWDropI
namespace Go.Proofs.Ytgimkipekoabbaa
open Go.RowKit

theorem rix_is {X : TabP} {s : List UInt8} {v : Int} {b : Bool} (h1 : placeP (ixPIs s) X.ixs = v) (h2 : X.ixs.any (ixPIs s) = b) {w : World} (hr : TabRd w X) : Calls Try.prog 28 #[.agg #[.string ⟨X.name.toArray⟩, .slice X.ca X.cols.length X.cc, .slice X.ia X.ixs.length X.ic, .slice X.ha X.chks.length X.hc], .string ⟨s.toArray⟩] w (RetF v b w) := by
  subst h1 h2; exact rindex_any X s w hr
/-- A table, one for the result, a third one, each in a block of the call's own. -/
structure Dr3 (w : World) (X : TabP) (go : Nat) (cs : List Value) (wr : World) : Prop where
  below : Below w.heap.size w wr
  one : Blk wr w.heap.size 28 [.string ⟨X.name.toArray⟩, .slice X.ca X.cols.length X.cc, .slice X.ia X.ixs.length X.ic, .slice X.ha X.chks.length X.hc]
  res : Blk wr (w.heap.size + 1) 28 [.string ⟨#[]⟩, .slice none 0 0, .slice none 0 0, .slice none 0 0]
  out : Blk wr go 28 cs
theorem Dr3.step {w wr wr' : World} {X : TabP} {go : Nat} {cs : List Value} (h : Dr3 w X go cs wr) (hb : Below wr.heap.size wr wr') : Dr3 w X go cs wr' := ⟨h.below.trans (hb.mono h.below.size), h.one.call0 hb, h.res.call0 hb, h.out.call0 hb⟩
theorem Dr3.grown {w wr wr' : World} {X : TabP} {go : Nat} {cs : List Value} {row : Option Nat} (h : Dr3 w X go cs wr) (hg : wr.grownBy wr' row) (h0 : ∀ k, row = some k → w.heap.size + 2 ≤ k ∧ k ≠ go) : Dr3 w X go cs wr' := by
  have h1 := h.one.lt; have h2 := h.res.lt; have h3 := h.out.lt
  exact ⟨h.below.trans ⟨hg.os, hg.tape, hg.output, hg.size, fun k hk => hg.block k (by omega) (fun e => by have := (h0 k e.symm).1; omega)⟩, h.one.eq (hg.block _ h1 (fun e => by have := (h0 _ e.symm).1; omega)), h.res.eq (hg.block _ h2 (fun e => by have := (h0 _ e.symm).1; omega)), h.out.eq (hg.block _ h3 (fun e => (h0 _ e.symm).2 rfl))⟩
theorem Dr3.turn {w wr : World} {X : TabP} {go : Nat} {cs : List Value} (h : Dr3 w X go cs wr) (hgo : w.heap.size + 2 ≤ go) (ds : List Value) : Dr3 w X go ds (wr.setRow go ds.toArray) :=
  ⟨below_setRow h.below (by omega) _, h.one.rowOther (by omega) _, h.res.rowOther (by omega) _, h.out.row ds⟩
theorem Dr3.cell {w wr : World} {X : TabP} {go : Nat} {cs : List Value} (h : Dr3 w X go cs wr) (hgo : w.heap.size + 2 ≤ go) (j : Nat) (v : Value) : Dr3 w X go (cs.set j v) (wr.setCell ⟨go, j, none⟩ v) :=
  ⟨h.below.setCell (show w.heap.size ≤ go by omega) v, h.one.other (show w.heap.size ≠ go by omega) v, h.res.other (show w.heap.size + 1 ≠ go by omega) v, h.out.set j v⟩

set_option maxRecDepth 20000 in
set_option maxHeartbeats 4000000 in
theorem rdropIndex_any (X : TabP) (s : List UInt8) (w : World) (hr : TabRd w X) (hl : X.ixs.length ≤ 1000) : Calls Try.prog 39 #[X.v, .string ⟨s.toArray⟩] w (RetTab (dropIxT X.t s) (dropIxE X.t s) w) := by
  have C0 := Box.mk (CpI.start (w := w) X)
  have HR := Box.mk hr
  generalize hE : dropIxE X.t s = E
  generalize hT : dropIxT X.t s = T
  have HET := Box.mk (And.intro hE hT)
  clear hE hT hr
  unfold TabP.v
  have x0 := C0.out.blk.cellOf (i := 0) rfl
  have x1 := C0.out.blk.cellOf (i := 1) rfl
  have x2 := C0.out.blk.cellOf (i := 2) rfl
  have x3 := C0.out.blk.cellOf (i := 3) rfl
  go_enter Try.func39, Try.ntmps39
  go_wp2_with fail
  clear x0 x1 x2 x3
  generalize ((w.alloc (.cells #[.string ⟨X.name.toArray⟩, .slice X.ca X.cols.length X.cc, .slice X.ia X.ixs.length X.ic, .slice X.ha X.chks.length X.hc] 28)).alloc (.cells #[.string ⟨#[]⟩, .slice none 0 0, .slice none 0 0, .slice none 0 0] 28)) = W0 at *
  generalize hv : checkT X.t = v
  refine (rchk_is hv (HR.out.below C0.out.below)).mono ?_
  rintro e w2 ⟨rfl, hb⟩
  have C2 := Box.mk (C0.out.step hb)
  clear hb C0
  by_cases h0 : v = 0
  · subst h0
    have HV := Box.mk hv
    clear hv
    have x0 := C2.out.blk.cellOf (i := 0) rfl
    have x1 := C2.out.blk.cellOf (i := 1) rfl
    have x2 := C2.out.blk.cellOf (i := 2) rfl
    have x3 := C2.out.blk.cellOf (i := 3) rfl
    go_wp2_with fail
    clear x0 x1 x2 x3
    cases hb : X.ixs.any (ixPIs s) with
    | false =>
      obtain ⟨rfl, rfl⟩ : E = 5 ∧ T = TN := by
        have h := dropIx_none (s := s) HV.out (by rw [show X.t.ixs = X.ixs.map fun (p : IxP) => p.x from rfl, any_x]; exact hb)
        exact ⟨HET.out.1.symm.trans h.1, HET.out.2.symm.trans h.2⟩
      refine (rix_is rfl hb (HR.out.below C2.out.below)).mono ?_
      rintro e w3 ⟨rfl, hb3⟩
      have C3 := Box.mk (C2.out.step hb3)
      clear hb3 C2 HET hb
      generalize placeP (ixPIs s) X.ixs = pv
      go_wp2_with (with_reducible refine wpList_store_row rfl _ _ _ rfl rfl (by kernel_rfl) C3.out.blk2 rfl rfl (cs := [.string ⟨#[]⟩, .slice none 0 0, .slice none 0 0, .slice none 0 0]) rfl rfl (tab_one _ _ _ _ _ _ _ _ _ _) ?_)
      refine bodyPost_ret (results_cell2 rfl _ rfl (C3.out.blk2.row [.string ⟨#[]⟩, .slice none 0 0, .slice none 0 0, .slice none 0 0]) tabT) rfl ?_
      exact RetTab.nil (below_setRow C3.out.below (by omega) _)
    | true =>
      obtain ⟨hpl, hlt⟩ := placeP_some hb
      have hd := dropIx_go (s := s) HV.out (by rw [show X.t.ixs = X.ixs.map fun (p : IxP) => p.x from rfl, any_x]; exact hb)
      rw [show X.t.ixs = X.ixs.map fun (p : IxP) => p.x from rfl, findIdx_x] at hd
      refine (rix_is hpl hb (HR.out.below C2.out.below)).mono ?_
      obtain ⟨rfl, rfl⟩ : E = 0 ∧ T = X.t.dropIx (X.ixs.findIdx (ixPIs s)) := ⟨HET.out.1.symm.trans hd.1, HET.out.2.symm.trans hd.2⟩
      generalize X.ixs.findIdx (ixPIs s) = k at *
      rintro e w3 ⟨rfl, hb3⟩
      have C3 := Box.mk (C2.out.step hb3)
      clear hb3 C2 HET hb hd hpl
      have x0 := C3.out.blk.cellOf (i := 0) rfl
      have x1 := C3.out.blk.cellOf (i := 1) rfl
      have x2 := C3.out.blk.cellOf (i := 2) rfl
      have x3 := C3.out.blk.cellOf (i := 3) rfl
      go_upto_region 8 with fail
      clear x0 x1 x2 x3
      have D4 := Box.mk (show Dr3 w X w3.heap.size _ (w3.alloc (.cells #[.string ⟨X.name.toArray⟩, .slice X.ca X.cols.length X.cc, .slice X.ia X.ixs.length X.ic, .slice X.ha X.chks.length X.hc] 28)) from
        ⟨C3.out.below.alloc C3.out.below.size _, C3.out.blk.alloc _, C3.out.blk2.alloc _, Blk.new (cs := [.string ⟨X.name.toArray⟩, .slice X.ca X.cols.length X.cc, .slice X.ia X.ixs.length X.ic, .slice X.ha X.chks.length X.hc]) rfl rfl⟩)
      have hgo := C3.out.big
      clear C3
      generalize (w3.alloc (.cells #[.string ⟨X.name.toArray⟩, .slice X.ca X.cols.length X.cc, .slice X.ia X.ixs.length X.ic, .slice X.ha X.chks.length X.hc] 28)) = w4 at *
      generalize w3.heap.size = go at *
      have hrx := (HR.out.below D4.out.below).ixs
      have hcap := hrx.hcap
      have hmx := hrx.hmax
      unfold maxLen at hmx
      obtain ⟨b, off, hca, _, _⟩ := hrx.recAt IxP.enc_len (by omega) k hlt
      have HXR := Box.mk (show ∀ wf, Below w.heap.size w wf → Rd wf (some ⟨b, off, none⟩) X.ixs.length X.ic 3 (recC IxP.enc X.ixs) from fun wf hb => by rw [← hca]; exact (HR.out.below hb).ixs)
      have HCA := Box.mk hca
      have DA := Box.mk (D4.out.step ((Below.refl _ _).alloc (Nat.le_refl _) (.cells #[] 55)))
      have x2 := DA.out.one.cellOf (i := 2) rfl
      rw [hca] at x2
      have SRC := Box.mk (Src.ofRd (P := Try.prog) ((HXR.out _ DA.out.below).preK IxP.enc_len k (by omega)) (recC_one IxP.enc_one _))
      have HO := Box.mk (own_new (w := w4.alloc (.cells #[] 55)) (g := w4.heap.size) (base := w4.heap.size) (n := 0) (size := 3) (cs := []) (e := 55) (Blk.new rfl rfl) (Nat.le_refl _) rfl (by decide))
      have hg4 := D4.out.out.lt
      clear hca hrx D4
      go_upto_region 9 with (at_builtin; go_loud (refine wpList_append_src rfl _ _ 25 25 rfl sl_ixs (.inl sl_ixs.ht) rfl HO.out rfl SRC.out (by omega) (by unfold maxLen; omega) (by simp) ?_; intro a5 c5 w5 hown5 hgr5 _; have D5 := Box.mk (DA.out.grown hgr5 (fun j hj => by have := HO.out.lt j hj; omega)); have d2 := D5.out.out.cellOf (i := 2) rfl; have f2 := D5.out.out.free 2; have OW5 := Box.mk hown5; have hs5 := hgr5.size; clear hown5 hgr5))
      rw [Nat.zero_add, List.nil_append] at OW5
      have D6 := Box.mk (D5.out.cell hgo 2 (.slice a5 k c5))
      have OW6 := Box.mk (own_setL OW5.out (b := go) (by omega) 2 (.slice a5 k c5))
      have hs6 : (w5.setCell ⟨go, 2, none⟩ (.slice a5 k c5)).heap.size = w5.heap.size := by show (w5.heap.modify _ _).size = _; rw [Array.size_modify]
      have hs7 : (w4.alloc (.cells #[] 55)).heap.size = w4.heap.size + 1 := by simp
      rw [hs7, ← hs6] at hs5
      clear x2 d2 f2 D5 OW5 SRC HO DA hs6 hs7
      change Box (Dr3 w X go [.string ⟨X.name.toArray⟩, .slice X.ca X.cols.length X.cc, .slice a5 k c5, .slice X.ha X.chks.length X.hc] _) at D6
      generalize (w5.setCell ⟨go, 2, none⟩ (.slice a5 k c5)) = w6 at *
      have hsub := (HXR.out _ D6.out.below).sub (k + 1) X.ixs.length X.ic (by omega) (Nat.le_refl _) hcap (Nat.le_refl _)
      rw [recC_drop IxP.enc_len, List.take_of_length_le (by rw [recC_length IxP.enc_len, List.length_drop]; exact Nat.le_refl _)] at hsub
      obtain ⟨A, hA⟩ : ∃ A, (if X.ic = k + 1 then some (⟨b, off, none⟩ : Addr) else (some (⟨b, off, none⟩ : Addr)).map (·.add ((k + 1) * 3))) = A := ⟨_, rfl⟩
      rw [hA] at hsub
      have SRC := Box.mk (Src.ofRd (P := Try.prog) hsub.drew (recC_one IxP.enc_one _))
      have HA := Box.mk hA
      have OD := Box.mk (show World.ownsRow w6.drew w4.heap.size 55 3 (.slice a5 k c5) k (recC IxP.enc (X.ixs.take k)) from OW6.out)
      have DD := Box.mk (D6.out.step (Below.refl _ _).drew)
      have HG2 := Box.mk (DD.out.out.cellOf (i := 2) rfl)
      have HS0 : ∃ v, Dr3 w X go [.string ⟨X.name.toArray⟩, .slice X.ca X.cols.length X.cc, v, .slice X.ha X.chks.length X.hc] w6.drew := ⟨_, DD.out⟩
      have hfin : ∀ (m : Nat), m = X.ixs.length - (k + 1) → ∀ (a7 : Option Addr) (c7 : Nat) (w7 : World), w7.ownsRow w4.heap.size 55 3 (.slice a7 (k + m) c7) (k + m) (recC IxP.enc (X.ixs.take k) ++ recC IxP.enc (X.ixs.drop (k + 1))) → Dr3 w X go [.string ⟨X.name.toArray⟩, .slice X.ca X.cols.length X.cc, .slice a7 (k + m) c7, .slice X.ha X.chks.length X.hc] w7 →
          RetTab (X.t.dropIx k) 0 w (.returned (.tuple #[.agg #[.string ⟨X.name.toArray⟩, .slice X.ca X.cols.length X.cc, .slice a7 (k + m) c7, .slice X.ha X.chks.length X.hc], .int .i64 0])) (w7.setRow (w.heap.size + 1) #[.string ⟨X.name.toArray⟩, .slice X.ca X.cols.length X.cc, .slice a7 (k + m) c7, .slice X.ha X.chks.length X.hc]) := by
        intro m hm a7 c7 w7 hown hD
        have hBF := below_setRow hD.below (show w.heap.size ≤ w.heap.size + 1 by omega) #[.string ⟨X.name.toArray⟩, .slice X.ca X.cols.length X.cc, .slice a7 (k + m) c7, .slice X.ha X.chks.length X.hc]
        have h := HR.out.below hBF
        have hlen : (X.ixs.take k ++ X.ixs.drop (k + 1)).length = k + m := by rw [List.length_append, List.length_take, List.length_drop]; omega
        refine ⟨hBF, X.withIxs a7 c7 (X.ixs.take k ++ X.ixs.drop (k + 1)), ?_, ⟨h.cols, ?_, fun p hp => ?_, h.chks⟩, ?_⟩
        · unfold TabP.v
          rw [show (X.withIxs a7 c7 (X.ixs.take k ++ X.ixs.drop (k + 1))).ixs.length = k + m from hlen]
          rfl
        · have h2 := Rd.ofOwn (own_rowL (B := 0) hown (b := w.heap.size + 1) (by omega) #[.string ⟨X.name.toArray⟩, .slice X.ca X.cols.length X.cc, .slice a7 (k + m) c7, .slice X.ha X.chks.length X.hc])
          rw [← recC_append] at h2
          show Rd _ a7 (X.ixs.take k ++ X.ixs.drop (k + 1)).length c7 3 (recC IxP.enc (X.ixs.take k ++ X.ixs.drop (k + 1)))
          rw [hlen]; exact h2
        · refine h.nums p ?_
          rcases List.mem_append.1 hp with h | h
          · exact List.mem_of_mem_take h
          · exact List.mem_of_mem_drop h
        · unfold TabP.t TabP.withIxs Tab.dropIx
          simp only [List.map_append, List.map_take, List.map_drop]
      have HFIN := Box.mk hfin
      clear hA hsub D6 OW6 hfin
      have hck6 : w4.heap.size + 1 ≤ w6.heap.size := hs5
      by_cases hck : X.ic = k + 1
      · have hA := HA.out
        rw [if_pos hck] at hA
        subst hA
        have hn1 : X.ixs.length ≤ k + 1 := by omega
        rw [hck, Nat.sub_self, show X.ixs.length - (k + 1) = 0 from by omega] at SRC
        have q1 : (0 : Int) ≤ (k : Int) + 1 := by omega
        have q2 : (k : Int) + 1 ≤ (X.ixs.length : Int) := by omega
        clear HA
        refine wp_region_held_drew (S := fun w' => ∃ v, Dr3 w X go [.string ⟨X.name.toArray⟩, .slice X.ca X.cols.length X.cc, v, .slice X.ha X.chks.length X.hc] w') (by kernel_rfl) HS0 (fun _ => ?_)
        refine wpAnyH_take (i := 0) (v := ?_) rfl (by kernel_rfl) (by kernel_rfl) (by kernel_rfl) (fun _ _ _ h => h) (yieldsIf_val (by rfl) (fun w' hS => ?_)) HS0 ?_
        rotate_left
        · skip
          go_simp
          all_goals with_reducible rfl
        conv =>
          arg 8
          simp [go_sem]
        refine wpAnyH_take (i := 2) (v := ?_) rfl (by kernel_rfl) (by kernel_rfl) (by kernel_rfl) (fun _ _ _ h => h) (yieldsIf_val (by rfl) (fun w' hS => ?_)) HS0 ?_
        rotate_left
        · skip
          go_simp
          all_goals with_reducible rfl
        conv =>
          arg 8
          simp [go_sem]
        refine wpAnyH_take (i := 3) (v := ?_) rfl (by kernel_rfl) (by kernel_rfl) (by kernel_rfl) (fun _ _ _ h => h) (yieldsIf_val (by rfl) (fun w' hS => ?_)) HS0 ?_
        rotate_left
        · skip
          obtain ⟨v', hS'⟩ := hS
          have e := hS'.one.cellOf (i := 2) rfl
          rw [HCA.out] at e
          go_simp
          all_goals with_reducible rfl
        conv =>
          arg 8
          simp [go_sem]
        refine wpAnyH_take (i := 4) (v := ?_) rfl (by kernel_rfl) (by kernel_rfl) (by kernel_rfl) (fun _ _ _ h => h) (yieldsIf_val (by rfl) (fun w' hS => ?_)) HS0 ?_
        rotate_left
        · skip
          go_simp
          all_goals with_reducible rfl
        conv =>
          arg 8
          simp [go_sem]
        refine wpAnyH_take (i := 5) (v := ?_) rfl (by kernel_rfl) (by kernel_rfl) (by kernel_rfl) (fun _ _ _ h => h) (yieldsIf_val (by rfl) (fun w' hS => ?_)) HS0 ?_
        rotate_left
        · skip
          have q0 : IntKind.i64.wrap ((k : Int) + 1) = (k : Int) + 1 := by rw [IntKind.wrap_i64]; omega
          go_simp
          all_goals with_reducible rfl
        conv =>
          arg 8
          simp [go_sem]
        refine wpAnyH_take (i := 6) (v := ?_) rfl (by kernel_rfl) (by kernel_rfl) (by kernel_rfl) (fun _ _ _ h => h) (yieldsIf_val (by rfl) (fun w' hS => ?_)) HS0 ?_
        rotate_left
        · skip
          have q3 : ((k : Int) + 1).toNat = k + 1 := by omega
          go_simp
          all_goals with_reducible rfl
        conv =>
          arg 8
          simp [go_sem]
        conv =>
          arg 8
          simp [go_sem]
        refine wpAnyH_ready (rs := [1]) (by kernel_rfl) (by simp) (AllReadyH.cons rfl (fun K' hK' => oper_val (by rfl) (v := .slice a5 k c5) (by have e := HG2.out; go_simp) ?_) AllReadyH.nil)
        have HT1 := HS0
        refine hK'.out _ _ HT1 (fun _ => ?_)
        clear hK' K'
        conv =>
          arg 8
          simp [go_sem]
        conv =>
          arg 8
          simp [go_sem]
        refine wpAnyH_ready (rs := [7]) (by kernel_rfl) (by simp) (AllReadyH.cons rfl (fun K' hK' => oper_append2 (by rfl) (.tmp 34) (.tmp 39) 25 25 rfl sl_ixs (.inl sl_ixs.ht) rfl OD.out rfl SRC.out (by omega) (by unfold maxLen; omega) (by show w4.heap.size ≤ w6.heap.size; omega) ?_) AllReadyH.nil)
        intro a7 c7 w7 hown7 hgr7 _
        have D7 := Box.mk (DD.out.grown hgr7 (fun j hj => by have := OD.out.lt j hj; omega))
        have OW7 := Box.mk hown7
        clear hown7 hgr7
        have HT2 := (show ∃ v, Dr3 w X go [.string ⟨X.name.toArray⟩, .slice X.ca X.cols.length X.cc, v, .slice X.ha X.chks.length X.hc] _ from ⟨_, D7.out⟩)
        refine hK'.out _ _ HT2 (fun _ => ?_)
        clear hK' K'
        conv =>
          arg 8
          simp [go_sem]
        refine wpAnyH_take (i := 8) (v := ?_) rfl (by kernel_rfl) (by kernel_rfl) (by kernel_rfl) (fun _ _ _ h => h) (yieldsIf_val (by rfl) (fun w' hS => ?_)) HT2 ?_
        rotate_left
        · skip
          go_simp
          all_goals with_reducible rfl
        conv =>
          arg 8
          simp [go_sem]
        conv =>
          arg 8
          simp [go_sem]
        have D8 := Box.mk (show Dr3 w X go [.string ⟨X.name.toArray⟩, .slice X.ca X.cols.length X.cc, .slice a7 (k + 0) c7, .slice X.ha X.chks.length X.hc] (w7.setRow go (splice [.string ⟨X.name.toArray⟩, .slice X.ca X.cols.length X.cc, .slice a5 k c5, .slice X.ha X.chks.length X.hc] 2 [.slice a7 (k + 0) c7]).toArray) from D7.out.turn hgo [.string ⟨X.name.toArray⟩, .slice X.ca X.cols.length X.cc, .slice a7 (k + 0) c7, .slice X.ha X.chks.length X.hc])
        have OW8 := Box.mk (show World.ownsRow (w7.setRow go (splice [.string ⟨X.name.toArray⟩, .slice X.ca X.cols.length X.cc, .slice a5 k c5, .slice X.ha X.chks.length X.hc] 2 [.slice a7 (k + 0) c7]).toArray) w4.heap.size 55 3 (.slice a7 (k + 0) c7) (k + 0) _ from own_rowL (B := w4.heap.size) OW7.out (b := go) (by omega) ([.string ⟨X.name.toArray⟩, .slice X.ca X.cols.length X.cc, .slice a7 (k + 0) c7, .slice X.ha X.chks.length X.hc] : List Value).toArray)
        refine wpAnyH_ready (rs := [9]) (by kernel_rfl) (by simp) (AllReadyH.cons rfl (fun K' hK' => oper_store_part (by rfl) 25 (.tmp 41) (.tmp 40) rfl rfl (size := 1) (off := 2) (by kernel_rfl) D7.out.out (by simp) rfl (cs := [.slice a7 (k + 0) c7]) rfl rfl (by simp [Value.oneCell']) ?_) AllReadyH.nil)
        have HT3 := (show ∃ v, Dr3 w X go [.string ⟨X.name.toArray⟩, .slice X.ca X.cols.length X.cc, v, .slice X.ha X.chks.length X.hc] _ from ⟨_, D8.out⟩)
        refine hK'.out _ _ HT3 (fun _ => ?_)
        clear hK' K'
        conv =>
          arg 8
          simp [go_sem]
        refine ⟨by kernel_rfl, ?_⟩
        conv =>
          arg 5
          simp [go_sem]
        generalize (w7.setRow go (splice [.string ⟨X.name.toArray⟩, .slice X.ca X.cols.length X.cc, .slice a5 k c5, .slice X.ha X.chks.length X.hc] 2 [.slice a7 (k + 0) c7]).toArray) = w8 at *
        have d0 := D8.out.out.cellOf (i := 0) rfl
        have d1 := D8.out.out.cellOf (i := 1) rfl
        have d2 := D8.out.out.cellOf (i := 2) rfl
        have d3 := D8.out.out.cellOf (i := 3) rfl
        go_wp2_with (with_reducible refine wpList_store_row rfl _ _ _ rfl rfl (by kernel_rfl) D8.out.res rfl rfl (cs := [.string ⟨X.name.toArray⟩, .slice X.ca X.cols.length X.cc, .slice a7 (k + 0) c7, .slice X.ha X.chks.length X.hc]) rfl rfl (tab_one _ _ _ _ _ _ _ _ _ _) ?_)
        refine bodyPost_ret (results_cell2 rfl _ rfl (D8.out.res.row [.string ⟨X.name.toArray⟩, .slice X.ca X.cols.length X.cc, .slice a7 (k + 0) c7, .slice X.ha X.chks.length X.hc]) tabT) rfl ?_
        exact HFIN.out (0) (by omega) a7 c7 _ OW8.out D8.out
      · have hA := HA.out
        rw [if_neg hck] at hA
        simp only [Option.map_some, Addr.add_lit] at hA
        subst hA
        have q1 : (0 : Int) ≤ (k : Int) + 1 := by omega
        have q2 : (k : Int) + 1 ≤ (X.ixs.length : Int) := by omega
        clear HA
        refine wp_region_held_drew (S := fun w' => ∃ v, Dr3 w X go [.string ⟨X.name.toArray⟩, .slice X.ca X.cols.length X.cc, v, .slice X.ha X.chks.length X.hc] w') (by kernel_rfl) HS0 (fun _ => ?_)
        refine wpAnyH_take (i := 0) (v := ?_) rfl (by kernel_rfl) (by kernel_rfl) (by kernel_rfl) (fun _ _ _ h => h) (yieldsIf_val (by rfl) (fun w' hS => ?_)) HS0 ?_
        rotate_left
        · skip
          go_simp
          all_goals with_reducible rfl
        conv =>
          arg 8
          simp [go_sem]
        refine wpAnyH_take (i := 2) (v := ?_) rfl (by kernel_rfl) (by kernel_rfl) (by kernel_rfl) (fun _ _ _ h => h) (yieldsIf_val (by rfl) (fun w' hS => ?_)) HS0 ?_
        rotate_left
        · skip
          go_simp
          all_goals with_reducible rfl
        conv =>
          arg 8
          simp [go_sem]
        refine wpAnyH_take (i := 3) (v := ?_) rfl (by kernel_rfl) (by kernel_rfl) (by kernel_rfl) (fun _ _ _ h => h) (yieldsIf_val (by rfl) (fun w' hS => ?_)) HS0 ?_
        rotate_left
        · skip
          obtain ⟨v', hS'⟩ := hS
          have e := hS'.one.cellOf (i := 2) rfl
          rw [HCA.out] at e
          go_simp
          all_goals with_reducible rfl
        conv =>
          arg 8
          simp [go_sem]
        refine wpAnyH_take (i := 4) (v := ?_) rfl (by kernel_rfl) (by kernel_rfl) (by kernel_rfl) (fun _ _ _ h => h) (yieldsIf_val (by rfl) (fun w' hS => ?_)) HS0 ?_
        rotate_left
        · skip
          go_simp
          all_goals with_reducible rfl
        conv =>
          arg 8
          simp [go_sem]
        refine wpAnyH_take (i := 5) (v := ?_) rfl (by kernel_rfl) (by kernel_rfl) (by kernel_rfl) (fun _ _ _ h => h) (yieldsIf_val (by rfl) (fun w' hS => ?_)) HS0 ?_
        rotate_left
        · skip
          have q0 : IntKind.i64.wrap ((k : Int) + 1) = (k : Int) + 1 := by rw [IntKind.wrap_i64]; omega
          go_simp
          all_goals with_reducible rfl
        conv =>
          arg 8
          simp [go_sem]
        refine wpAnyH_take (i := 6) (v := ?_) rfl (by kernel_rfl) (by kernel_rfl) (by kernel_rfl) (fun _ _ _ h => h) (yieldsIf_val (by rfl) (fun w' hS => ?_)) HS0 ?_
        rotate_left
        · skip
          have q3 : ((k : Int) + 1).toNat = k + 1 := by omega
          go_simp
          all_goals with_reducible rfl
        conv =>
          arg 8
          simp [go_sem]
        conv =>
          arg 8
          simp [go_sem]
        refine wpAnyH_ready (rs := [1]) (by kernel_rfl) (by simp) (AllReadyH.cons rfl (fun K' hK' => oper_val (by rfl) (v := .slice a5 k c5) (by have e := HG2.out; go_simp) ?_) AllReadyH.nil)
        have HT4 := HS0
        refine hK'.out _ _ HT4 (fun _ => ?_)
        clear hK' K'
        conv =>
          arg 8
          simp [go_sem]
        conv =>
          arg 8
          simp [go_sem]
        refine wpAnyH_ready (rs := [7]) (by kernel_rfl) (by simp) (AllReadyH.cons rfl (fun K' hK' => oper_append2 (by rfl) (.tmp 34) (.tmp 39) 25 25 rfl sl_ixs (.inl sl_ixs.ht) rfl OD.out rfl SRC.out (by omega) (by unfold maxLen; omega) (by show w4.heap.size ≤ w6.heap.size; omega) ?_) AllReadyH.nil)
        intro a7 c7 w7 hown7 hgr7 _
        have D7 := Box.mk (DD.out.grown hgr7 (fun j hj => by have := OD.out.lt j hj; omega))
        have OW7 := Box.mk hown7
        clear hown7 hgr7
        have HT5 := (show ∃ v, Dr3 w X go [.string ⟨X.name.toArray⟩, .slice X.ca X.cols.length X.cc, v, .slice X.ha X.chks.length X.hc] _ from ⟨_, D7.out⟩)
        refine hK'.out _ _ HT5 (fun _ => ?_)
        clear hK' K'
        conv =>
          arg 8
          simp [go_sem]
        refine wpAnyH_take (i := 8) (v := ?_) rfl (by kernel_rfl) (by kernel_rfl) (by kernel_rfl) (fun _ _ _ h => h) (yieldsIf_val (by rfl) (fun w' hS => ?_)) HT5 ?_
        rotate_left
        · skip
          go_simp
          all_goals with_reducible rfl
        conv =>
          arg 8
          simp [go_sem]
        conv =>
          arg 8
          simp [go_sem]
        have D8 := Box.mk (show Dr3 w X go [.string ⟨X.name.toArray⟩, .slice X.ca X.cols.length X.cc, .slice a7 (k + (X.ixs.length - (k + 1))) c7, .slice X.ha X.chks.length X.hc] (w7.setRow go (splice [.string ⟨X.name.toArray⟩, .slice X.ca X.cols.length X.cc, .slice a5 k c5, .slice X.ha X.chks.length X.hc] 2 [.slice a7 (k + (X.ixs.length - (k + 1))) c7]).toArray) from D7.out.turn hgo [.string ⟨X.name.toArray⟩, .slice X.ca X.cols.length X.cc, .slice a7 (k + (X.ixs.length - (k + 1))) c7, .slice X.ha X.chks.length X.hc])
        have OW8 := Box.mk (show World.ownsRow (w7.setRow go (splice [.string ⟨X.name.toArray⟩, .slice X.ca X.cols.length X.cc, .slice a5 k c5, .slice X.ha X.chks.length X.hc] 2 [.slice a7 (k + (X.ixs.length - (k + 1))) c7]).toArray) w4.heap.size 55 3 (.slice a7 (k + (X.ixs.length - (k + 1))) c7) (k + (X.ixs.length - (k + 1))) _ from own_rowL (B := w4.heap.size) OW7.out (b := go) (by omega) ([.string ⟨X.name.toArray⟩, .slice X.ca X.cols.length X.cc, .slice a7 (k + (X.ixs.length - (k + 1))) c7, .slice X.ha X.chks.length X.hc] : List Value).toArray)
        refine wpAnyH_ready (rs := [9]) (by kernel_rfl) (by simp) (AllReadyH.cons rfl (fun K' hK' => oper_store_part (by rfl) 25 (.tmp 41) (.tmp 40) rfl rfl (size := 1) (off := 2) (by kernel_rfl) D7.out.out (by simp) rfl (cs := [.slice a7 (k + (X.ixs.length - (k + 1))) c7]) rfl rfl (by simp [Value.oneCell']) ?_) AllReadyH.nil)
        have HT6 := (show ∃ v, Dr3 w X go [.string ⟨X.name.toArray⟩, .slice X.ca X.cols.length X.cc, v, .slice X.ha X.chks.length X.hc] _ from ⟨_, D8.out⟩)
        refine hK'.out _ _ HT6 (fun _ => ?_)
        clear hK' K'
        conv =>
          arg 8
          simp [go_sem]
        refine ⟨by kernel_rfl, ?_⟩
        conv =>
          arg 5
          simp [go_sem]
        generalize (w7.setRow go (splice [.string ⟨X.name.toArray⟩, .slice X.ca X.cols.length X.cc, .slice a5 k c5, .slice X.ha X.chks.length X.hc] 2 [.slice a7 (k + (X.ixs.length - (k + 1))) c7]).toArray) = w8 at *
        have d0 := D8.out.out.cellOf (i := 0) rfl
        have d1 := D8.out.out.cellOf (i := 1) rfl
        have d2 := D8.out.out.cellOf (i := 2) rfl
        have d3 := D8.out.out.cellOf (i := 3) rfl
        go_wp2_with (with_reducible refine wpList_store_row rfl _ _ _ rfl rfl (by kernel_rfl) D8.out.res rfl rfl (cs := [.string ⟨X.name.toArray⟩, .slice X.ca X.cols.length X.cc, .slice a7 (k + (X.ixs.length - (k + 1))) c7, .slice X.ha X.chks.length X.hc]) rfl rfl (tab_one _ _ _ _ _ _ _ _ _ _) ?_)
        refine bodyPost_ret (results_cell2 rfl _ rfl (D8.out.res.row [.string ⟨X.name.toArray⟩, .slice X.ca X.cols.length X.cc, .slice a7 (k + (X.ixs.length - (k + 1))) c7, .slice X.ha X.chks.length X.hc]) tabT) rfl ?_
        exact HFIN.out ((X.ixs.length - (k + 1))) (by omega) a7 c7 _ OW8.out D8.out
  · obtain ⟨rfl, rfl⟩ : E = v ∧ T = TN := ⟨HET.out.1.symm.trans (dropIx_bad hv h0).1, HET.out.2.symm.trans (dropIx_bad hv h0).2⟩
    have hvv : (E != 0) = true := by simp [h0]
    clear hv HET
    go_wp2_with (with_reducible refine wpList_store_row rfl _ _ _ rfl rfl (by kernel_rfl) C2.out.blk2 rfl rfl (cs := [.string ⟨#[]⟩, .slice none 0 0, .slice none 0 0, .slice none 0 0]) rfl rfl (tab_one _ _ _ _ _ _ _ _ _ _) ?_)
    refine bodyPost_ret (results_cell2 rfl _ rfl (C2.out.blk2.row [.string ⟨#[]⟩, .slice none 0 0, .slice none 0 0, .slice none 0 0]) tabT) rfl ?_
    exact RetTab.nil (below_setRow C2.out.below (by omega) _)
end Go.Proofs.Ytgimkipekoabbaa
