/-
  The walk of SchemaChangesMatchSpec. No condition.
-/
import Derived.Test.YtgimkipekoabbaaTFar
namespace Go.Proofs.Ytgimkipekoabbaa
open Go.RowKit

theorem raddCol_is {X : TabP} {cn : List UInt8} {ck : Int} {cu : Bool} {E : Int} {T : Tab} (h1 : addColE X.t ⟨cn, ck, cu⟩ = E) (h2 : addColT X.t ⟨cn, ck, cu⟩ = T) {w : World} (hr : TabRd w X) (hl : X.cols.length ≤ 1000) :
    Calls Try.prog 37 #[.agg #[.string ⟨X.name.toArray⟩, .slice X.ca X.cols.length X.cc, .slice X.ia X.ixs.length X.ic, .slice X.ha X.chks.length X.hc], .agg #[.string ⟨cn.toArray⟩, .int .i64 ck, .bool cu]] w (RetTab T E w) := by
  subst h1 h2; exact raddColumn_any X ⟨cn, ck, cu⟩ w hr hl
theorem raddIx_is {X : TabP} {cn : List UInt8} {cl : List Int} {cu : Bool} {ca : Option Addr} {n cp : Nat} {E : Int} {T : Tab} (h1 : addIxE X.t ⟨cn, cl, cu⟩ = E) (h2 : addIxT X.t ⟨cn, cl, cu⟩ = T) {w : World} (hr : TabRd w X) (hx : Rd w ca n cp 1 (intVals cl)) (hl : X.ixs.length ≤ 1000) :
    Calls Try.prog 38 #[.agg #[.string ⟨X.name.toArray⟩, .slice X.ca X.cols.length X.cc, .slice X.ia X.ixs.length X.ic, .slice X.ha X.chks.length X.hc], .agg #[.string ⟨cn.toArray⟩, .slice ca n cp, .bool cu]] w (RetTab T E w) := by
  have hn := hx.ilen
  subst hn
  subst h1 h2; exact raddIndex_any X ⟨⟨cn, cl, cu⟩, ca, cp⟩ w hr hx hl
theorem rdropIx_is {X : TabP} {s : List UInt8} {E : Int} {T : Tab} (h1 : dropIxE X.t s = E) (h2 : dropIxT X.t s = T) {w : World} (hr : TabRd w X) (hl : X.ixs.length ≤ 1000) :
    Calls Try.prog 39 #[.agg #[.string ⟨X.name.toArray⟩, .slice X.ca X.cols.length X.cc, .slice X.ia X.ixs.length X.ic, .slice X.ha X.chks.length X.hc], .string ⟨s.toArray⟩] w (RetTab T E w) := by
  subst h1 h2; exact rdropIndex_any X s w hr hl

set_option maxRecDepth 40000 in
set_option maxHeartbeats 8000000 in
theorem chg_walk (X : TabP) (c : Col) (x : IxP) (s : List UInt8) (w : World) (hr : TabRd w X) (hx : Rd w x.a x.x.cols.length x.cap 1 (intVals x.x.cols)) : Calls Try.prog 11 #[X.v, c.v, x.v, .string ⟨s.toArray⟩] w (RetV (.bool true) w) := by
  obtain ⟨cn, ck, cu⟩ := c
  obtain ⟨⟨xn, cl, xu⟩, ca, cp⟩ := x
  simp only at hx
  generalize hf : fewB X.t = fb
  have HF := Box.mk hf
  clear hf
  have mx := hx.lenMax
  generalize hcl : cl.length = n at *
  have HCL := Box.mk hcl
  generalize hvw : checkT X.t = vw
  generalize hLw : (if checkT X.t = 0 then wordsT X.t else []) = L
  have HW := Box.mk (And.intro hvw hLw)
  clear hcl hvw hLw
  have T1 := Box.mk (((TabIn.start hr).alloc (.cells #[.string ⟨cn.toArray⟩, .int .i64 ck, .bool cu] 50)).alloc (.cells #[.string ⟨xn.toArray⟩, .slice ca n cp, .bool xu] 55))
  have R1 := Box.mk (((hx.alloc (.cells X.cs.toArray 28)).alloc (.cells #[.string ⟨cn.toArray⟩, .int .i64 ck, .bool cu] 50)).alloc (.cells #[.string ⟨xn.toArray⟩, .slice ca n cp, .bool xu] 55))
  have BC1 := Box.mk (And.intro ((Blk.new (w := w.alloc (.cells X.cs.toArray 28)) (k := w.heap.size + 1) (ty := 50) (cs := [.string ⟨cn.toArray⟩, .int .i64 ck, .bool cu]) (by simp) rfl).alloc (.cells #[.string ⟨xn.toArray⟩, .slice ca n cp, .bool xu] 55)) (Blk.new (w := (w.alloc (.cells X.cs.toArray 28)).alloc (.cells #[.string ⟨cn.toArray⟩, .int .i64 ck, .bool cu] 50)) (k := w.heap.size + 2) (ty := 55) (cs := [.string ⟨xn.toArray⟩, .slice ca n cp, .bool xu]) (by simp) rfl))
  clear hr hx
  unfold TabP.cs at T1 R1 BC1
  unfold TabP.v Col.v IxP.v
  simp only [HCL.out]
  go_enter Try.func11, Try.ntmps11
  go_wp2_with fail
  generalize (((w.alloc (.cells #[.string ⟨X.name.toArray⟩, .slice X.ca X.cols.length X.cc, .slice X.ia X.ixs.length X.ic, .slice X.ha X.chks.length X.hc] 28)).alloc (.cells #[.string ⟨cn.toArray⟩, .int .i64 ck, .bool cu] 50)).alloc (.cells #[.string ⟨xn.toArray⟩, .slice ca n cp, .bool xu] 55)) = W at *
  refine (sanity_any W).mono ?_
  rintro e w2 ⟨rfl, hb⟩
  have T2 := Box.mk (T1.out.step hb)
  have R2 := Box.mk (And.intro (R1.out.call0 hb) (And.intro (BC1.out.1.call0 hb) (BC1.out.2.call0 hb)))
  clear hb T1 R1 BC1
  have x0 := T2.out.c0
  have x1 := T2.out.c1
  have x2 := T2.out.c2
  have x3 := T2.out.c3
  go_wp2_with fail
  refine (few_is HF.out T2.out.rd).mono ?_
  rintro e w3 ⟨rfl, hb⟩
  have T3 := Box.mk (T2.out.step hb)
  have R3 := Box.mk (And.intro (R2.out.1.call0 hb) (And.intro (R2.out.2.1.call0 hb) (R2.out.2.2.call0 hb)))
  clear hb T2 R2 x0 x1 x2 x3
  cases fb with
  | false =>
    go_wp2_with fail
    go_ret
    exact ⟨rfl, T3.out.below⟩
  | true =>
    have y1 := R3.out.2.2.cellOf (i := 1) rfl
    by_cases hn : 20 < n
    · go_wp2_with fail
      go_ret
      exact ⟨rfl, T3.out.below⟩
    have hn20 : n ≤ 20 := by omega
    have hlc : X.cols.length ≤ 1000 := by
      have := (fewB_true HF.out).1
      change X.cols.length ≤ 20 at this
      omega
    have hli : X.ixs.length ≤ 1000 := by
      have := (fewB_true HF.out).2.1
      change (X.ixs.map fun (p : IxP) => p.x).length ≤ 20 at this
      rw [List.length_map] at this
      omega
    clear hn
    have x0 := T3.out.c0
    have x1 := T3.out.c1
    have x2 := T3.out.c2
    have x3 := T3.out.c3
    go_wp2_with fail
    clear x0 x1 x2 x3 y1
    refine (rwords_is HW.out.1 HW.out.2 T3.out.rd).mono ?_
    rintro e w4 ⟨hb, wa, wn, wc, rfl, hwd⟩
    have T4 := Box.mk (T3.out.step hb)
    have R4 := Box.mk (And.intro (R3.out.1.call0 hb) (And.intro (R3.out.2.1.call0 hb) (R3.out.2.2.call0 hb)))
    have RW4 := Box.mk hwd
    clear hb T3 R3 hwd
    have x0 := T4.out.c0
    have x1 := T4.out.c1
    have x2 := T4.out.c2
    have x3 := T4.out.c3
    have k0 := R4.out.2.1.cellOf (i := 0) rfl
    have k1 := R4.out.2.1.cellOf (i := 1) rfl
    have k2 := R4.out.2.1.cellOf (i := 2) rfl
    go_wp2_with fail
    clear x0 x1 x2 x3 k0 k1 k2
    generalize hE : addColE X.t ⟨cn, ck, cu⟩ = E
    generalize hT : addColT X.t ⟨cn, ck, cu⟩ = T
    have HET := Box.mk (And.intro hE hT)
    clear hE hT
    refine (addCol_is HET.out.1 HET.out.2 T4.out.rd).mono ?_
    rintro e w5 ⟨hb, A, rfl, hA, hAt⟩
    have T5 := Box.mk (T4.out.step hb)
    have R5 := Box.mk (And.intro (R4.out.1.call0 hb) (And.intro (R4.out.2.1.call0 hb) (R4.out.2.2.call0 hb)))
    have RW5 := Box.mk (RW4.out.call0 hb)
    have HA := Box.mk (And.intro hA hAt)
    clear hb T4 R4 RW4 hA hAt
    unfold TabP.v
    go_upto_region 6 with fail
    have T6 := Box.mk (T5.out.alloc (.cells #[.string ⟨A.name.toArray⟩, .slice A.ca A.cols.length A.cc, .slice A.ia A.ixs.length A.ic, .slice A.ha A.chks.length A.hc] 28))
    have R6 := Box.mk (And.intro (R5.out.1.alloc (.cells #[.string ⟨A.name.toArray⟩, .slice A.ca A.cols.length A.cc, .slice A.ia A.ixs.length A.ic, .slice A.ha A.chks.length A.hc] 28)) (And.intro (R5.out.2.1.alloc (.cells #[.string ⟨A.name.toArray⟩, .slice A.ca A.cols.length A.cc, .slice A.ia A.ixs.length A.ic, .slice A.ha A.chks.length A.hc] 28)) (R5.out.2.2.alloc (.cells #[.string ⟨A.name.toArray⟩, .slice A.ca A.cols.length A.cc, .slice A.ia A.ixs.length A.ic, .slice A.ha A.chks.length A.hc] 28))))
    have RW6 := Box.mk (And.intro (RW5.out.alloc (.cells #[.string ⟨A.name.toArray⟩, .slice A.ca A.cols.length A.cc, .slice A.ia A.ixs.length A.ic, .slice A.ha A.chks.length A.hc] 28)) (And.intro (HA.out.1.alloc (.cells #[.string ⟨A.name.toArray⟩, .slice A.ca A.cols.length A.cc, .slice A.ia A.ixs.length A.ic, .slice A.ha A.chks.length A.hc] 28)) (show Blk (w5.alloc (.cells #[.string ⟨A.name.toArray⟩, .slice A.ca A.cols.length A.cc, .slice A.ia A.ixs.length A.ic, .slice A.ha A.chks.length A.hc] 28)) w5.heap.size 28 A.cs from Blk.new rfl rfl)))
    have hga : w.heap.size + 3 ≤ w5.heap.size := R5.out.2.2.lt
    have HAT := Box.mk HA.out.2
    clear T5 R5 RW5 HA
    generalize (w5.alloc (.cells #[.string ⟨A.name.toArray⟩, .slice A.ca A.cols.length A.cc, .slice A.ia A.ixs.length A.ic, .slice A.ha A.chks.length A.hc] 28)) = w6 at *
    generalize w5.heap.size = ga at *
    have x0 := T6.out.c0
    have x1 := T6.out.c1
    have x2 := T6.out.c2
    have x3 := T6.out.c3
    have k0 := R6.out.2.1.cellOf (i := 0) rfl
    have k1 := R6.out.2.1.cellOf (i := 1) rfl
    have k2 := R6.out.2.1.cellOf (i := 2) rfl
    go_wp2_with fail
    clear x0 x1 x2 x3 k0 k1 k2
    refine (raddCol_is HET.out.1 HET.out.2 T6.out.rd hlc).mono ?_
    rintro e w7 ⟨hb, B, rfl, hB, hBt⟩
    unfold TabP.v
    go_upto_region 7 with fail
    have CH := Box.mk (show Ch w X [.string ⟨cn.toArray⟩, .int .i64 ck, .bool cu] [.string ⟨xn.toArray⟩, .slice ca n cp, .bool xu] ca n cp cl wa wn wc L ga w7.heap.size A B (w7.alloc (.cells #[.string ⟨B.name.toArray⟩, .slice B.ca B.cols.length B.cc, .slice B.ia B.ixs.length B.ic, .slice B.ha B.chks.length B.hc] 28)) from by
      have t7 := T6.out.step hb
      have r7 := R6.out.2
      exact ⟨t7.below.alloc t7.below.size _, t7.rd.alloc _, t7.blk.alloc _, (r7.1.call0 hb).alloc _, (r7.2.call0 hb).alloc _, (R6.out.1.call0 hb).alloc _, (RW6.out.1.call0 hb).alloc _, (RW6.out.2.2.call0 hb).alloc _, Blk.new rfl rfl, (RW6.out.2.1.below hb).alloc _, hB.alloc _, hga, (RW6.out.2.2.call0 hb).lt⟩)
    have HAB := Box.mk (show A.t = B.t from HAT.out.trans hBt.symm)
    clear hb T6 R6 RW6 hB hBt HAT HET
    generalize (w7.alloc (.cells #[.string ⟨B.name.toArray⟩, .slice B.ca B.cols.length B.cc, .slice B.ia B.ixs.length B.ic, .slice B.ha B.chks.length B.hc] 28)) = w8 at *
    generalize w7.heap.size = gb at *
    have a0 := CH.out.a.cellOf (i := 0) rfl
    have a1 := CH.out.a.cellOf (i := 1) rfl
    have a2 := CH.out.a.cellOf (i := 2) rfl
    have a3 := CH.out.a.cellOf (i := 3) rfl
    have b0 := CH.out.b.cellOf (i := 0) rfl
    have b1 := CH.out.b.cellOf (i := 1) rfl
    have b2 := CH.out.b.cellOf (i := 2) rfl
    have b3 := CH.out.b.cellOf (i := 3) rfl
    go_wp2_with fail
    clear a0 a1 a2 a3 b0 b1 b2 b3
    refine (same_tabs HAB.out CH.out.ta CH.out.tb).mono ?_
    rintro e w9 ⟨rfl, hb⟩
    replace CH := Box.mk (CH.out.step hb)
    clear hb
    generalize hE : addIxE X.t ⟨xn, cl, xu⟩ = E2
    generalize hT : addIxT X.t ⟨xn, cl, xu⟩ = T2
    have HET := Box.mk (And.intro hE hT)
    clear hE hT
    have x0 := CH.out.blk.cellOf (i := 0) rfl
    have x1 := CH.out.blk.cellOf (i := 1) rfl
    have x2 := CH.out.blk.cellOf (i := 2) rfl
    have x3 := CH.out.blk.cellOf (i := 3) rfl
    have i0 := CH.out.ix.cellOf (i := 0) rfl
    have i1 := CH.out.ix.cellOf (i := 1) rfl
    have i2 := CH.out.ix.cellOf (i := 2) rfl
    go_wp2_with fail
    clear x0 x1 x2 x3 i0 i1 i2
    refine (addIx_is HET.out.1 HET.out.2 CH.out.tab CH.out.num (by omega)).mono ?_
    rintro e w20 ⟨hb, A2, rfl, hA, hAt⟩
    replace CH := Box.mk (CH.out.step hb)
    have HA := Box.mk (And.intro hA hAt)
    clear hb hA hAt HAB
    unfold TabP.v
    have bb := CH.out.a
    unfold TabP.cs at bb
    go_upto_region 10 with (with_reducible refine wpList_store_row rfl _ _ _ rfl rfl (by kernel_rfl) bb rfl rfl (cs := [.string ⟨A2.name.toArray⟩, .slice A2.ca A2.cols.length A2.cc, .slice A2.ia A2.ixs.length A2.ic, .slice A2.ha A2.chks.length A2.hc]) rfl rfl (tab_one _ _ _ _ _ _ _ _ _ _) ?_)
    replace CH := Box.mk (CH.out.setA HA.out.1)
    have HAT := Box.mk HA.out.2
    clear bb HA
    change Box (Ch w X [.string ⟨cn.toArray⟩, .int .i64 ck, .bool cu] [.string ⟨xn.toArray⟩, .slice ca n cp, .bool xu] ca n cp cl wa wn wc L ga gb A2 B (w20.setRow ga #[.string ⟨A2.name.toArray⟩, .slice A2.ca A2.cols.length A2.cc, .slice A2.ia A2.ixs.length A2.ic, .slice A2.ha A2.chks.length A2.hc])) at CH
    generalize (w20.setRow ga #[.string ⟨A2.name.toArray⟩, .slice A2.ca A2.cols.length A2.cc, .slice A2.ia A2.ixs.length A2.ic, .slice A2.ha A2.chks.length A2.hc]) = w21 at *
    have x0 := CH.out.blk.cellOf (i := 0) rfl
    have x1 := CH.out.blk.cellOf (i := 1) rfl
    have x2 := CH.out.blk.cellOf (i := 2) rfl
    have x3 := CH.out.blk.cellOf (i := 3) rfl
    have i0 := CH.out.ix.cellOf (i := 0) rfl
    have i1 := CH.out.ix.cellOf (i := 1) rfl
    have i2 := CH.out.ix.cellOf (i := 2) rfl
    go_wp2_with fail
    clear x0 x1 x2 x3 i0 i1 i2
    refine (raddIx_is HET.out.1 HET.out.2 CH.out.tab CH.out.num hli).mono ?_
    rintro e w22 ⟨hb, B2, rfl, hB, hBt⟩
    replace CH := Box.mk (CH.out.step hb)
    have HB := Box.mk (And.intro hB hBt)
    clear hb hB hBt
    unfold TabP.v
    have bb := CH.out.b
    unfold TabP.cs at bb
    go_upto_region 11 with (with_reducible refine wpList_store_row rfl _ _ _ rfl rfl (by kernel_rfl) bb rfl rfl (cs := [.string ⟨B2.name.toArray⟩, .slice B2.ca B2.cols.length B2.cc, .slice B2.ia B2.ixs.length B2.ic, .slice B2.ha B2.chks.length B2.hc]) rfl rfl (tab_one _ _ _ _ _ _ _ _ _ _) ?_)
    replace CH := Box.mk (CH.out.setB HB.out.1)
    have HAB := Box.mk (show A2.t = B2.t from HAT.out.trans HB.out.2.symm)
    clear bb HB HAT
    change Box (Ch w X [.string ⟨cn.toArray⟩, .int .i64 ck, .bool cu] [.string ⟨xn.toArray⟩, .slice ca n cp, .bool xu] ca n cp cl wa wn wc L ga gb A2 B2 (w22.setRow gb #[.string ⟨B2.name.toArray⟩, .slice B2.ca B2.cols.length B2.cc, .slice B2.ia B2.ixs.length B2.ic, .slice B2.ha B2.chks.length B2.hc])) at CH
    generalize (w22.setRow gb #[.string ⟨B2.name.toArray⟩, .slice B2.ca B2.cols.length B2.cc, .slice B2.ia B2.ixs.length B2.ic, .slice B2.ha B2.chks.length B2.hc]) = w23 at *
    have a0 := CH.out.a.cellOf (i := 0) rfl
    have a1 := CH.out.a.cellOf (i := 1) rfl
    have a2 := CH.out.a.cellOf (i := 2) rfl
    have a3 := CH.out.a.cellOf (i := 3) rfl
    have b0 := CH.out.b.cellOf (i := 0) rfl
    have b1 := CH.out.b.cellOf (i := 1) rfl
    have b2 := CH.out.b.cellOf (i := 2) rfl
    have b3 := CH.out.b.cellOf (i := 3) rfl
    go_wp2_with fail
    clear a0 a1 a2 a3 b0 b1 b2 b3
    refine (same_tabs HAB.out CH.out.ta CH.out.tb).mono ?_
    rintro e w9 ⟨rfl, hb⟩
    replace CH := Box.mk (CH.out.step hb)
    clear hb
    clear HET
    generalize hE : dropIxE X.t s = E3
    generalize hT : dropIxT X.t s = T3
    have HET := Box.mk (And.intro hE hT)
    clear hE hT
    have x0 := CH.out.blk.cellOf (i := 0) rfl
    have x1 := CH.out.blk.cellOf (i := 1) rfl
    have x2 := CH.out.blk.cellOf (i := 2) rfl
    have x3 := CH.out.blk.cellOf (i := 3) rfl
    go_wp2_with fail
    clear x0 x1 x2 x3
    refine (dropIx_is HET.out.1 HET.out.2 CH.out.tab).mono ?_
    rintro e w30 ⟨hb, A3, rfl, hA, hAt⟩
    replace CH := Box.mk (CH.out.step hb)
    have HA := Box.mk (And.intro hA hAt)
    clear hb hA hAt HAB
    unfold TabP.v
    have bb := CH.out.a
    unfold TabP.cs at bb
    go_upto_region 14 with (with_reducible refine wpList_store_row rfl _ _ _ rfl rfl (by kernel_rfl) bb rfl rfl (cs := [.string ⟨A3.name.toArray⟩, .slice A3.ca A3.cols.length A3.cc, .slice A3.ia A3.ixs.length A3.ic, .slice A3.ha A3.chks.length A3.hc]) rfl rfl (tab_one _ _ _ _ _ _ _ _ _ _) ?_)
    replace CH := Box.mk (CH.out.setA HA.out.1)
    have HAT := Box.mk HA.out.2
    clear bb HA
    change Box (Ch w X [.string ⟨cn.toArray⟩, .int .i64 ck, .bool cu] [.string ⟨xn.toArray⟩, .slice ca n cp, .bool xu] ca n cp cl wa wn wc L ga gb A3 B2 (w30.setRow ga #[.string ⟨A3.name.toArray⟩, .slice A3.ca A3.cols.length A3.cc, .slice A3.ia A3.ixs.length A3.ic, .slice A3.ha A3.chks.length A3.hc])) at CH
    generalize (w30.setRow ga #[.string ⟨A3.name.toArray⟩, .slice A3.ca A3.cols.length A3.cc, .slice A3.ia A3.ixs.length A3.ic, .slice A3.ha A3.chks.length A3.hc]) = w31 at *
    have x0 := CH.out.blk.cellOf (i := 0) rfl
    have x1 := CH.out.blk.cellOf (i := 1) rfl
    have x2 := CH.out.blk.cellOf (i := 2) rfl
    have x3 := CH.out.blk.cellOf (i := 3) rfl
    go_wp2_with fail
    clear x0 x1 x2 x3
    refine (rdropIx_is HET.out.1 HET.out.2 CH.out.tab hli).mono ?_
    rintro e w32 ⟨hb, B3, rfl, hB, hBt⟩
    replace CH := Box.mk (CH.out.step hb)
    have HB := Box.mk (And.intro hB hBt)
    clear hb hB hBt
    unfold TabP.v
    have bb := CH.out.b
    unfold TabP.cs at bb
    go_upto_region 15 with (with_reducible refine wpList_store_row rfl _ _ _ rfl rfl (by kernel_rfl) bb rfl rfl (cs := [.string ⟨B3.name.toArray⟩, .slice B3.ca B3.cols.length B3.cc, .slice B3.ia B3.ixs.length B3.ic, .slice B3.ha B3.chks.length B3.hc]) rfl rfl (tab_one _ _ _ _ _ _ _ _ _ _) ?_)
    replace CH := Box.mk (CH.out.setB HB.out.1)
    have HAB := Box.mk (show A3.t = B3.t from HAT.out.trans HB.out.2.symm)
    clear bb HB HAT
    change Box (Ch w X [.string ⟨cn.toArray⟩, .int .i64 ck, .bool cu] [.string ⟨xn.toArray⟩, .slice ca n cp, .bool xu] ca n cp cl wa wn wc L ga gb A3 B3 (w32.setRow gb #[.string ⟨B3.name.toArray⟩, .slice B3.ca B3.cols.length B3.cc, .slice B3.ia B3.ixs.length B3.ic, .slice B3.ha B3.chks.length B3.hc])) at CH
    generalize (w32.setRow gb #[.string ⟨B3.name.toArray⟩, .slice B3.ca B3.cols.length B3.cc, .slice B3.ia B3.ixs.length B3.ic, .slice B3.ha B3.chks.length B3.hc]) = w33 at *
    have a0 := CH.out.a.cellOf (i := 0) rfl
    have a1 := CH.out.a.cellOf (i := 1) rfl
    have a2 := CH.out.a.cellOf (i := 2) rfl
    have a3 := CH.out.a.cellOf (i := 3) rfl
    have b0 := CH.out.b.cellOf (i := 0) rfl
    have b1 := CH.out.b.cellOf (i := 1) rfl
    have b2 := CH.out.b.cellOf (i := 2) rfl
    have b3 := CH.out.b.cellOf (i := 3) rfl
    go_wp2_with fail
    clear a0 a1 a2 a3 b0 b1 b2 b3
    refine (same_tabs HAB.out CH.out.ta CH.out.tb).mono ?_
    rintro e w9 ⟨rfl, hb⟩
    replace CH := Box.mk (CH.out.step hb)
    clear hb
    have x0 := CH.out.blk.cellOf (i := 0) rfl
    have x1 := CH.out.blk.cellOf (i := 1) rfl
    have x2 := CH.out.blk.cellOf (i := 2) rfl
    have x3 := CH.out.blk.cellOf (i := 3) rfl
    go_wp2_with fail
    clear x0 x1 x2 x3
    refine (rwords_is HW.out.1 HW.out.2 CH.out.tab).mono ?_
    rintro e w40 ⟨hb, va, vn, vc, rfl, hwd⟩
    replace CH := Box.mk (CH.out.step hb)
    have RV := Box.mk hwd
    clear hb hwd
    go_wp2_with fail
    refine (same_is (d := true) (decide_eq_true rfl) CH.out.words RV.out).mono ?_
    rintro e w41 ⟨rfl, hb⟩
    replace CH := Box.mk (CH.out.step hb)
    clear hb
    go_wp2_with fail
    go_ret
    exact ⟨by first | rfl | simp, CH.out.below⟩
theorem chg_walkB (X : TabP) (c : Col) (x : IxP) (s : ByteArray) (w : World) (hr : TabRd w X) (hx : Rd w x.a x.x.cols.length x.cap 1 (intVals x.x.cols)) : Calls Try.prog 11 #[X.v, c.v, x.v, .string s] w (RetV (.bool true) w) := by
  have := chg_walk X c x s.data.toList w hr hx
  simpa using this
end Go.Proofs.Ytgimkipekoabbaa
