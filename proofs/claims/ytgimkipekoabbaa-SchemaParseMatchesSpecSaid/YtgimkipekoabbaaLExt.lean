/-
  The walk of SchemaColumnsExtend. No condition.
-/
import Derived.Test.YtgimkipekoabbaaWAddC
import Derived.Test.YtgimkipekoabbaaLFits
namespace Go.Proofs.Ytgimkipekoabbaa
open Go.RowKit

theorem addCol_ok {T : Tab} {c : Col} (h : addColE T c = 0) : checkT T = 0 ∧ c.null = true ∧ checkT (T.addCol c) = 0 ∧ addColT T c = T.addCol c := by
  have h' := h
  unfold addColE at h
  split at h
  · rename_i h1; exact absurd h h1
  rename_i h1
  split at h
  · cases h
  rename_i h2
  refine ⟨by simpa using h1, by simpa using h2, h, ?_⟩
  unfold addColT; rw [if_pos h']
theorem getD_left {α : Type} [Inhabited α] {l m : List α} {j : Nat} (h : j < l.length) : (l ++ m).getD j default = l.getD j default := by
  rw [List.getD_eq_getElem?_getD, List.getD_eq_getElem?_getD, List.getElem?_append_left h]
theorem getD_last {α : Type} [Inhabited α] {l : List α} {y : α} : (l ++ [y]).getD l.length default = y := by
  rw [List.getD_eq_getElem?_getD, List.getElem?_append_right (Nat.le_refl _)]; simp
/-- A row that fits, with a null, fits the wider table. -/
theorem fits_wide {T : Tab} {c : Col} {r : List Val} (h : addColE T c = 0) (hf : fitsT T r = 0) : r.length = T.cols.length ∧ fitsT (T.addCol c) (r ++ [zval]) = 0 ∧ fitsT (T.addCol c) r = 1 ∧ extT (T.cols.length + 1) r = r ++ [zval] := by
  obtain ⟨h1, h2, h3, _⟩ := addCol_ok h
  obtain ⟨⟨hl, hv⟩, hh⟩ := (fitsT_zero h1).1 hf
  have hlen : (T.addCol c).cols.length = T.cols.length + 1 := by show (T.cols ++ [c]).length = _; simp
  refine ⟨hl, (fitsT_zero h3).2 ⟨⟨by rw [hlen]; simp [hl], firstE_zero (fun j hj => ?_)⟩, fun j hj => ?_⟩, fitsT_len h3 (by rw [hlen]; omega), ?_⟩
  · have hv' := firstE_eq_zero hv
    show valErr (T.cols ++ [c]) (r ++ [zval]) j = 0
    by_cases hj2 : j < r.length
    · have := hv' j hj2
      unfold valErr at this ⊢
      rw [getD_left hj2, getD_left (by omega)]; exact this
    · have : j = r.length := by simp at hj; omega
      subst this
      unfold valErr
      rw [getD_last, hl, getD_last]
      rw [if_pos (by decide), if_pos h2]
  · have := hh j hj
    have hc := (checkT_ok h1).chk hj
    show holdErr T.chks (r ++ [zval]) j = 0
    unfold holdErr at this ⊢
    rw [getD_left (by omega)]; exact this
  · unfold extT; rw [hl, show T.cols.length + 1 - T.cols.length = 1 from by omega]; rfl
theorem addCol_is {X : TabP} {cn : List UInt8} {ck : Int} {cu : Bool} {E : Int} {T : Tab} (h1 : addColE X.t ⟨cn, ck, cu⟩ = E) (h2 : addColT X.t ⟨cn, ck, cu⟩ = T) {w : World} (hr : TabRd w X) :
    Calls Try.prog 33 #[.agg #[.string ⟨X.name.toArray⟩, .slice X.ca X.cols.length X.cc, .slice X.ia X.ixs.length X.ic, .slice X.ha X.chks.length X.hc], .agg #[.string ⟨cn.toArray⟩, .int .i64 ck, .bool cu]] w (RetTab T E w) := by
  subst h1 h2; exact addColumn_any X ⟨cn, ck, cu⟩ w hr

/-- Two tables in blocks, and a row. -/
structure Ext3 (w : World) (g g2 : Nat) (X Y : TabP) (ra : Option Addr) (rn rc : Nat) (r : List Val) (wr : World) : Prop where
  one : TabIn w wr g X
  two : TabIn w wr g2 Y
  row : Rd wr ra rn rc 3 (recC Val.enc r)
theorem Ext3.step {w wr wr' : World} {g g2 : Nat} {X Y : TabP} {ra : Option Addr} {rn rc : Nat} {r : List Val} (h : Ext3 w g g2 X Y ra rn rc r wr) (hb : Below wr.heap.size wr wr') : Ext3 w g g2 X Y ra rn rc r wr' := ⟨h.one.step hb, h.two.step hb, h.row.call0 hb⟩

set_option maxRecDepth 20000 in
set_option maxHeartbeats 4000000 in
theorem ext_walk (X : TabP) (c : Col) (r : List Val) (ra : Option Addr) (rn rc : Nat) (w : World) (hr : TabRd w X) (hrr : Rd w ra rn rc 3 (recC Val.enc r)) : Calls Try.prog 9 #[X.v, c.v, .slice ra rn rc] w (RetV (.bool true) w) := by
  obtain ⟨cn, ck, cu⟩ := c
  generalize hf : fewB X.t = fb
  have HF := Box.mk hf
  clear hf
  have hln := hrr.rlen Val.enc_len (by omega)
  have HLN := Box.mk hln
  have T1 := Box.mk ((TabIn.start hr).alloc (.cells #[.string ⟨cn.toArray⟩, .int .i64 ck, .bool cu] 50))
  have R1 := Box.mk ((hrr.alloc (.cells X.cs.toArray 28)).alloc (.cells #[.string ⟨cn.toArray⟩, .int .i64 ck, .bool cu] 50))
  have BC1 := Box.mk (Blk.new (w := w.alloc (.cells X.cs.toArray 28)) (k := w.heap.size + 1) (ty := 50) (cs := [.string ⟨cn.toArray⟩, .int .i64 ck, .bool cu]) (by simp) rfl)
  have mr := hrr.lenMax
  clear hr hrr hln
  unfold TabP.cs at T1 R1 BC1
  unfold TabP.v Col.v
  go_enter Try.func9, Try.ntmps9
  go_wp2_with fail
  generalize ((w.alloc (.cells #[.string ⟨X.name.toArray⟩, .slice X.ca X.cols.length X.cc, .slice X.ia X.ixs.length X.ic, .slice X.ha X.chks.length X.hc] 28)).alloc (.cells #[.string ⟨cn.toArray⟩, .int .i64 ck, .bool cu] 50)) = W at *
  generalize hg : w.heap.size = g at *
  have HG := Box.mk hg
  clear hg
  refine (sanity_any W).mono ?_
  rintro e w2 ⟨rfl, hb⟩
  have T2 := Box.mk (T1.out.step hb)
  have R2 := Box.mk (And.intro (R1.out.call0 hb) (BC1.out.call0 hb))
  clear hb T1 R1 BC1
  have x0 := T2.out.c0
  have x1 := T2.out.c1
  have x2 := T2.out.c2
  have x3 := T2.out.c3
  go_wp2_with fail
  refine (few_is HF.out T2.out.rd).mono ?_
  rintro e w3 ⟨rfl, hb⟩
  have T3 := Box.mk (T2.out.step hb)
  have R3 := Box.mk (And.intro (R2.out.1.call0 hb) (R2.out.2.call0 hb))
  clear hb T2 R2 x0 x1 x2 x3
  cases fb with
  | false =>
    go_wp2_with fail
    go_ret
    exact ⟨rfl, HG.out ▸ T3.out.below⟩
  | true =>
    by_cases hl : 20 < rn
    · go_wp2_with fail
      go_ret
      exact ⟨rfl, HG.out ▸ T3.out.below⟩
    have hl20 : rn ≤ 20 := by omega
    clear hl
    have x0 := T3.out.c0
    have x1 := T3.out.c1
    have x2 := T3.out.c2
    have x3 := T3.out.c3
    have y0 := R3.out.2.cellOf (i := 0) rfl
    have y1 := R3.out.2.cellOf (i := 1) rfl
    have y2 := R3.out.2.cellOf (i := 2) rfl
    go_wp2_with fail
    clear x0 x1 x2 x3 y0 y1 y2
    generalize hE : addColE X.t ⟨cn, ck, cu⟩ = E
    generalize hT : addColT X.t ⟨cn, ck, cu⟩ = T
    refine (addCol_is hE hT T3.out.rd).mono ?_
    rintro e w4 ⟨hb, Y, rfl, hY, ht⟩
    have T4 := Box.mk (T3.out.step hb)
    have R4 := Box.mk (R3.out.1.call0 hb)
    have HY := Box.mk (And.intro hY ht)
    have HET := Box.mk (And.intro hE hT)
    clear hb T3 R3 hY ht hE hT
    unfold TabP.v
    go_upto_region 5 with fail
    have EX := Box.mk (show Ext3 w g w4.heap.size X Y ra rn rc r (w4.alloc (.cells #[.string ⟨Y.name.toArray⟩, .slice Y.ca Y.cols.length Y.cc, .slice Y.ia Y.ixs.length Y.ic, .slice Y.ha Y.chks.length Y.hc] 28)) from
      ⟨T4.out.alloc _, ⟨Blk.new rfl rfl, HY.out.1.alloc _, T4.out.below.alloc T4.out.below.size _⟩, R4.out.alloc _⟩)
    have HYT := Box.mk HY.out.2
    clear T4 R4 HY
    generalize (w4.alloc (.cells #[.string ⟨Y.name.toArray⟩, .slice Y.ca Y.cols.length Y.cc, .slice Y.ia Y.ixs.length Y.ic, .slice Y.ha Y.chks.length Y.hc] 28)) = w5 at *
    generalize w4.heap.size = g2 at *
    by_cases h0 : E = 0
    · subst h0
      have x0 := EX.out.one.c0
      have x1 := EX.out.one.c1
      have x2 := EX.out.one.c2
      have x3 := EX.out.one.c3
      go_wp2_with fail
      clear x0 x1 x2 x3
      generalize hv : fitsT X.t r = v
      refine (fits_is hv EX.out.one.rd EX.out.row).mono ?_
      rintro e w6 ⟨rfl, hb⟩
      replace EX := Box.mk (EX.out.step hb)
      clear hb
      by_cases hv0 : v = 0
      · subst hv0
        obtain ⟨k1, k2, k3, k4⟩ := addCol_ok HET.out.1
        obtain ⟨l1, l2, l3, l4⟩ := fits_wide HET.out.1 hv
        have hyt : Y.t = X.t.addCol ⟨cn, ck, cu⟩ := HYT.out.trans (HET.out.2.symm.trans k4)
        have hycl : Y.cols.length = rn + 1 := by
          have h := congrArg (fun T => T.cols.length) hyt
          change Y.cols.length = (X.cols ++ [_]).length at h
          rw [List.length_append] at h
          have h2 := HLN.out
          change r.length = X.cols.length at l1
          rw [h, ← l1, h2]; rfl
        have hxr : extT Y.cols.length r = r ++ [zval] := by
          rw [hycl]
          have h2 := HLN.out
          change r.length = X.cols.length at l1
          change extT (X.cols.length + 1) r = _ at l4
          rw [← l1, h2] at l4; exact l4
        have HK := Box.mk (And.intro hyt (And.intro hxr (And.intro l2 l3)))
        have x0 := EX.out.two.c0
        have x1 := EX.out.two.c1
        have x2 := EX.out.two.c2
        have x3 := EX.out.two.c3
        have hyc1 : Y.cols.length ≤ rn + 1 := by omega
        have hyc2 : rn + 1 ≤ Y.cols.length := by omega
        clear k1 k2 k3 k4 l1 l2 l3 l4 hyt hxr hv hycl
        go_wp2_with fail
        clear x0 x1 x2 x3
        refine (extend_is HK.out.2.1 (m := rn + 1) (by omega) EX.out.two.rd EX.out.row (by omega) (by omega)).mono ?_
        rintro e w7 ⟨hb, a7, c7, rfl, hrd7⟩
        replace EX := Box.mk (EX.out.step hb)
        have RL := Box.mk hrd7
        have hcap7 := hrd7.hcap
        have hmx7 := hrd7.hmax
        unfold maxLen at hmx7
        have hge : rn ≤ c7 := by omega
        have HPRE := Box.mk (show Rd w7 a7 rn c7 3 (recC Val.enc r) from by
          have h := hrd7.preK Val.enc_len rn (by omega)
          rwa [List.take_append_of_le_length (by rw [HLN.out]; exact Nat.le_refl _), List.take_of_length_le (by rw [HLN.out]; exact Nat.le_refl _)] at h)
        obtain ⟨b, off, rfl, _, hc⟩ := hrd7.recAt Val.enc_len (by omega) rn (by omega)
        have hlast : (r ++ [zval]).getD rn default = zval := by rw [← HLN.out]; exact getD_last
        rw [hlast] at hc
        have HC := Box.mk hc
        clear hb hrd7 hc hlast
        go_wp2_with fail
        refine (sameRow_is (d := true) (decide_eq_true rfl) HPRE.out EX.out.row).mono ?_
        rintro e w8 ⟨rfl, hb⟩
        replace EX := Box.mk (EX.out.step hb)
        replace RL := Box.mk (RL.out.call0 hb)
        have p0 := (hb.cell (p := ⟨b, off + rn * 3, none⟩) (cell_block_lt (HC.out 0 _ rfl))).trans (HC.out 0 _ rfl)
        have p1 := (hb.cell (p := ⟨b, off + rn * 3 + 1, none⟩) (cell_block_lt (HC.out 1 _ rfl))).trans (HC.out 1 _ rfl)
        have p2 := (hb.cell (p := ⟨b, off + rn * 3 + 2, none⟩) (cell_block_lt (HC.out 2 _ rfl))).trans (HC.out 2 _ rfl)
        have x0 := EX.out.two.c0
        have x1 := EX.out.two.c1
        have x2 := EX.out.two.c2
        have x3 := EX.out.two.c3
        have hq := fun w => run_eqV zval zval w
        rw [decide_eq_true rfl] at hq
        unfold zval at hq p0 p1 p2
        simp only at hq
        clear hb HC HPRE
        go_wp2_with fail
        clear x0 x1 x2 x3 p0 p1 p2 hq
        refine (fits_is (X := Y) (r := r ++ [zval]) (v := 0) (by rw [HK.out.1]; exact HK.out.2.2.1) EX.out.two.rd RL.out).mono ?_
        rintro e w9 ⟨rfl, hb⟩
        replace EX := Box.mk (EX.out.step hb)
        clear hb RL
        have x0 := EX.out.two.c0
        have x1 := EX.out.two.c1
        have x2 := EX.out.two.c2
        have x3 := EX.out.two.c3
        go_wp2_with fail
        clear x0 x1 x2 x3
        refine (fits_is (X := Y) (r := r) (v := 1) (by rw [HK.out.1]; exact HK.out.2.2.2) EX.out.two.rd EX.out.row).mono ?_
        rintro e w10 ⟨rfl, hb⟩
        replace EX := Box.mk (EX.out.step hb)
        clear hb
        go_wp2_with fail
        go_ret
        exact ⟨by first | rfl | simp, HG.out ▸ EX.out.one.below⟩
      · have hvv : (v != 0) = true := by simp [hv0]
        clear hv
        go_wp2_with fail
        go_ret
        exact ⟨rfl, HG.out ▸ EX.out.one.below⟩
    · have hvv : (E != 0) = true := by simp [h0]
      go_wp2_with fail
      go_ret
      exact ⟨rfl, HG.out ▸ EX.out.one.below⟩
end Go.Proofs.Ytgimkipekoabbaa
