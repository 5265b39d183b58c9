/-
  The walk of SchemaIndexesChangeNoRow. No condition.
-/
import Derived.Test.YtgimkipekoabbaaWDropI
import Derived.Test.YtgimkipekoabbaaWSame
import Derived.Test.YtgimkipekoabbaaLExt
namespace Go.Proofs.Ytgimkipekoabbaa
open Go.RowKit

theorem addIx_ok {T : Tab} {x : Ix} (h : addIxE T x = 0) : checkT T = 0 ∧ checkT (T.addIx x) = 0 ∧ addIxT T x = T.addIx x := by
  have h' := h
  unfold addIxE at h
  split at h
  · rename_i h1; exact absurd h h1
  rename_i h1
  exact ⟨by simpa using h1, h, by unfold addIxT; rw [if_pos h']⟩
theorem addIx_new {T : Tab} {x : Ix} (h : checkT (T.addIx x) = 0) : T.ixs.any (ixIs x.name) = false := by
  have OK := checkT_ok h
  have h1 := firstE_eq_zero OK.ixsE T.ixs.length (by show _ < (T.ixs ++ [x]).length; simp)
  obtain ⟨_, _, h2⟩ := ixErr_zero h1
  unfold ixTwice at h2
  change ((T.ixs ++ [x]).take T.ixs.length).any (fun d => decide (d.name = ((T.ixs ++ [x]).getD T.ixs.length default).name)) = false at h2
  rw [List.take_append_of_le_length (Nat.le_refl _), List.take_of_length_le (Nat.le_refl _), getD_last] at h2
  cases ha : T.ixs.any (ixIs x.name)
  · rfl
  · obtain ⟨y, hy, hp⟩ := List.any_eq_true.1 ha
    rw [List.any_eq_false] at h2
    have := h2 y hy
    unfold ixIs at hp
    simp only [beq_iff_eq] at hp
    simp [hp] at this
theorem findIdx_last {l : List Ix} {x : Ix} (h : l.any (ixIs x.name) = false) : (l ++ [x]).findIdx (ixIs x.name) = l.length ∧ (l ++ [x]).any (ixIs x.name) = true := by
  have hx : ixIs x.name x = true := by unfold ixIs; simp
  refine ⟨?_, by rw [List.any_append]; simp [hx]⟩
  rw [List.findIdx_append]
  have h1 : l.findIdx (ixIs x.name) = l.length := by
    rw [List.findIdx_eq_length]
    intro y hy
    have := List.any_eq_false.1 h y hy
    simpa using this
  rw [if_neg (by omega)]
  simp [hx]
theorem fits_ix {T : Tab} {x : Ix} {r : List Val} (h : checkT T = 0) (h2 : checkT (T.addIx x) = 0) : fitsT (T.addIx x) r = fitsT T r := by
  unfold fitsT
  rw [h, h2]
  rfl
theorem drop_add {T : Tab} {x : Ix} (h : checkT (T.addIx x) = 0) : dropIxE (T.addIx x) x.name = 0 ∧ dropIxT (T.addIx x) x.name = T := by
  have hn := addIx_new h
  obtain ⟨h1, h2⟩ := findIdx_last hn
  obtain ⟨h3, h4⟩ := dropIx_go (T := T.addIx x) h h2
  refine ⟨h3, h4.trans ?_⟩
  change Tab.dropIx (T.addIx x) ((T.ixs ++ [x]).findIdx (ixIs x.name)) = T
  rw [h1]
  unfold Tab.dropIx Tab.addIx
  simp
theorem addIx_is {X : TabP} {cn : List UInt8} {cl : List Int} {cu : Bool} {ca : Option Addr} {n cp : Nat} {E : Int} {T : Tab} (h1 : addIxE X.t ⟨cn, cl, cu⟩ = E) (h2 : addIxT X.t ⟨cn, cl, cu⟩ = T) {w : World} (hr : TabRd w X) (hx : Rd w ca n cp 1 (intVals cl)) (hn : n ≤ 1000) :
    Calls Try.prog 34 #[.agg #[.string ⟨X.name.toArray⟩, .slice X.ca X.cols.length X.cc, .slice X.ia X.ixs.length X.ic, .slice X.ha X.chks.length X.hc], .agg #[.string ⟨cn.toArray⟩, .slice ca n cp, .bool cu]] w (RetTab T E w) := by
  have hl := hx.ilen
  subst hl
  subst h1 h2; exact addIndex_any X ⟨⟨cn, cl, cu⟩, ca, cp⟩ w hr hx hn
theorem dropIx_is {X : TabP} {s : List UInt8} {E : Int} {T : Tab} (h1 : dropIxE X.t s = E) (h2 : dropIxT X.t s = T) {w : World} (hr : TabRd w X) :
    Calls Try.prog 35 #[.agg #[.string ⟨X.name.toArray⟩, .slice X.ca X.cols.length X.cc, .slice X.ia X.ixs.length X.ic, .slice X.ha X.chks.length X.hc], .string ⟨s.toArray⟩] w (RetTab T E w) := by
  subst h1 h2; exact dropIndex_any X s w hr
theorem same_tabs {X Y : TabP} (h : X.t = Y.t) {w : World} (h1 : TabRd w X) (h2 : TabRd w Y) : Calls Try.prog 36 #[.agg #[.string ⟨X.name.toArray⟩, .slice X.ca X.cols.length X.cc, .slice X.ia X.ixs.length X.ic, .slice X.ha X.chks.length X.hc], .agg #[.string ⟨Y.name.toArray⟩, .slice Y.ca Y.cols.length Y.cc, .slice Y.ia Y.ixs.length Y.ic, .slice Y.ha Y.chks.length Y.hc]] w (RetV (.bool true) w) :=
  same_any X Y h w h1 h2
theorem placeP_is {α : Type} {p : α → Bool} {l : List α} {k : Nat} (h : l.any p = true) (hk : l.findIdx p = k) : placeP p l = (k : Int) := by rw [(placeP_some h).1, hk]

theorem nm_lfits2 : (Try.f24.name == "runtime.NumGoroutine") = false := by kernel_rfl
theorem bd_lfits2 : Try.f24.body.isNone = false := by kernel_rfl
theorem nm_lsame2 : (Try.f36.name == "runtime.NumGoroutine") = false := by kernel_rfl
theorem bd_lsame2 : Try.f36.body.isNone = false := by kernel_rfl
/-- Tables in blocks, an index in a block, a row. -/
structure Ix5 (w : World) (g g2 g3 : Nat) (X Y Z : TabP) (bx : List Value) (ra : Option Addr) (rn rc : Nat) (r : List Val) (wr : World) : Prop where
  one : TabIn w wr g X
  box : Blk wr (g + 1) 55 bx
  two : TabIn w wr g2 Y
  three : TabIn w wr g3 Z
  row : Rd wr ra rn rc 3 (recC Val.enc r)
theorem Ix5.step {w wr wr' : World} {g g2 g3 : Nat} {X Y Z : TabP} {bx : List Value} {ra : Option Addr} {rn rc : Nat} {r : List Val} (h : Ix5 w g g2 g3 X Y Z bx ra rn rc r wr) (hb : Below wr.heap.size wr wr') : Ix5 w g g2 g3 X Y Z bx ra rn rc r wr' :=
  ⟨h.one.step hb, h.box.call0 hb, h.two.step hb, h.three.step hb, h.row.call0 hb⟩

set_option maxRecDepth 20000 in
set_option maxHeartbeats 4000000 in
theorem ix_walk (X : TabP) (x : IxP) (r : List Val) (ra : Option Addr) (rn rc : Nat) (w : World) (hr : TabRd w X) (hx : Rd w x.a x.x.cols.length x.cap 1 (intVals x.x.cols)) (hrr : Rd w ra rn rc 3 (recC Val.enc r)) : Calls Try.prog 10 #[X.v, x.v, .slice ra rn rc] w (RetV (.bool true) w) := by
  obtain ⟨⟨cn, cl, cu⟩, ca, cp⟩ := x
  simp only at hx
  generalize hf : fewB X.t = fb
  have HF := Box.mk hf
  clear hf
  have mx := hx.lenMax
  have mr := hrr.lenMax
  have T1 := Box.mk ((TabIn.start hr).alloc (.cells #[.string ⟨cn.toArray⟩, .slice ca cl.length cp, .bool cu] 55))
  have R1 := Box.mk (And.intro ((hrr.alloc (.cells X.cs.toArray 28)).alloc (.cells #[.string ⟨cn.toArray⟩, .slice ca cl.length cp, .bool cu] 55)) ((hx.alloc (.cells X.cs.toArray 28)).alloc (.cells #[.string ⟨cn.toArray⟩, .slice ca cl.length cp, .bool cu] 55)))
  have BC1 := Box.mk (Blk.new (w := w.alloc (.cells X.cs.toArray 28)) (k := w.heap.size + 1) (ty := 55) (cs := [.string ⟨cn.toArray⟩, .slice ca cl.length cp, .bool cu]) (by simp) rfl)
  clear hr hrr hx
  unfold TabP.cs at T1 R1 BC1
  unfold TabP.v IxP.v
  simp only
  generalize hcl : cl.length = n at *
  have HCL := Box.mk hcl
  clear hcl
  go_enter Try.func10, Try.ntmps10
  go_wp2_with fail
  generalize ((w.alloc (.cells #[.string ⟨X.name.toArray⟩, .slice X.ca X.cols.length X.cc, .slice X.ia X.ixs.length X.ic, .slice X.ha X.chks.length X.hc] 28)).alloc (.cells #[.string ⟨cn.toArray⟩, .slice ca n cp, .bool cu] 55)) = W at *
  generalize hg : w.heap.size = g at *
  have HG := Box.mk hg
  clear hg
  refine (sanity_any W).mono ?_
  rintro e w2 ⟨rfl, hb⟩
  have T2 := Box.mk (T1.out.step hb)
  have R2 := Box.mk (And.intro (R1.out.1.call0 hb) (And.intro (R1.out.2.call0 hb) (BC1.out.call0 hb)))
  clear hb T1 R1 BC1
  have x0 := T2.out.c0
  have x1 := T2.out.c1
  have x2 := T2.out.c2
  have x3 := T2.out.c3
  go_wp2_with fail
  refine (few_is HF.out T2.out.rd).mono ?_
  rintro e w3 ⟨rfl, hb⟩
  have T3 := Box.mk (T2.out.step hb)
  have R3 := Box.mk (And.intro (R2.out.1.call0 hb) (And.intro (R2.out.2.1.call0 hb) (R2.out.2.2.call0 hb)))
  clear hb T2 R2 x0 x1 x2 x3
  cases fb with
  | false =>
    go_wp2_with fail
    go_ret
    exact ⟨rfl, HG.out ▸ T3.out.below⟩
  | true =>
    have y1 := R3.out.2.2.cellOf (i := 1) rfl
    by_cases hn : 20 < n
    · go_wp2_with fail
      go_ret
      exact ⟨rfl, HG.out ▸ T3.out.below⟩
    have hn20 : n ≤ 20 := by omega
    clear hn
    by_cases hl : 20 < rn
    · go_wp2_with fail
      go_ret
      exact ⟨rfl, HG.out ▸ T3.out.below⟩
    have hl20 : rn ≤ 20 := by omega
    clear hl
    have x0 := T3.out.c0
    have x1 := T3.out.c1
    have x2 := T3.out.c2
    have x3 := T3.out.c3
    have y0 := R3.out.2.2.cellOf (i := 0) rfl
    have y2 := R3.out.2.2.cellOf (i := 2) rfl
    go_wp2_with fail
    clear x0 x1 x2 x3 y0 y1 y2
    generalize hE : addIxE X.t ⟨cn, cl, cu⟩ = E
    generalize hT : addIxT X.t ⟨cn, cl, cu⟩ = T
    refine (addIx_is hE hT T3.out.rd R3.out.2.1 (by omega)).mono ?_
    rintro e w4 ⟨hb, Y, rfl, hY, ht⟩
    have T4 := Box.mk (T3.out.step hb)
    have R4 := Box.mk (And.intro (R3.out.1.call0 hb) (R3.out.2.2.call0 hb))
    have HY := Box.mk (And.intro hY ht)
    have HET := Box.mk (And.intro hE hT)
    clear hb T3 R3 hY ht hE hT
    unfold TabP.v
    go_upto_region 5 with fail
    have EX := Box.mk (show Ix5 w g w4.heap.size w4.heap.size X Y Y [.string ⟨cn.toArray⟩, .slice ca n cp, .bool cu] ra rn rc r (w4.alloc (.cells #[.string ⟨Y.name.toArray⟩, .slice Y.ca Y.cols.length Y.cc, .slice Y.ia Y.ixs.length Y.ic, .slice Y.ha Y.chks.length Y.hc] 28)) from
      ⟨T4.out.alloc _, R4.out.2.alloc _, ⟨Blk.new rfl rfl, HY.out.1.alloc _, T4.out.below.alloc T4.out.below.size _⟩, ⟨Blk.new rfl rfl, HY.out.1.alloc _, T4.out.below.alloc T4.out.below.size _⟩, R4.out.1.alloc _⟩)
    have HYT := Box.mk HY.out.2
    clear T4 R4 HY
    generalize (w4.alloc (.cells #[.string ⟨Y.name.toArray⟩, .slice Y.ca Y.cols.length Y.cc, .slice Y.ia Y.ixs.length Y.ic, .slice Y.ha Y.chks.length Y.hc] 28)) = w5 at *
    generalize w4.heap.size = g2 at *
    by_cases h0 : E = 0
    · subst h0
      obtain ⟨k1, k2, k3⟩ := addIx_ok HET.out.1
      have hyt : Y.t = X.t.addIx ⟨cn, cl, cu⟩ := HYT.out.trans (HET.out.2.symm.trans k3)
      obtain ⟨d1, d2⟩ := drop_add k2
      have hn := addIx_new k2
      obtain ⟨f1, f2⟩ := findIdx_last hn
      have hyx : Y.ixs.map (fun (p : IxP) => p.x) = X.ixs.map (fun (p : IxP) => p.x) ++ [⟨cn, cl, cu⟩] := congrArg Tab.ixs hyt
      change (X.ixs.map (fun (p : IxP) => p.x)).any _ = false at hn
      change ((X.ixs.map (fun (p : IxP) => p.x)) ++ [_]).findIdx _ = (X.ixs.map (fun (p : IxP) => p.x)).length at f1
      change ((X.ixs.map (fun (p : IxP) => p.x)) ++ [_]).any _ = true at f2
      rw [← hyx] at f1 f2
      rw [any_x] at f2 hn
      rw [findIdx_x, List.length_map] at f1
      have HK := Box.mk (And.intro hyt (And.intro (And.intro d1 d2) (And.intro hn (And.intro (placeP_is f2 f1) f2))))
      have HFI := Box.mk (fun r => fits_ix (r := r) k1 k2)
      clear k1 k2 k3 hyt d1 d2 hn f1 f2 hyx
      have x0 := EX.out.two.c0
      have x1 := EX.out.two.c1
      have x2 := EX.out.two.c2
      have x3 := EX.out.two.c3
      have y0 := EX.out.box.cellOf (i := 0) rfl
      go_wp2_with fail
      clear x0 x1 x2 x3 y0
      refine (dropIx_is (X := Y) (s := cn) (E := 0) (T := X.t) (by rw [HK.out.1]; exact HK.out.2.1.1) (by rw [HK.out.1]; exact HK.out.2.1.2) EX.out.two.rd).mono ?_
      rintro e w6 ⟨hb, Z, rfl, hZ, hzt⟩
      replace EX := Box.mk (EX.out.step hb)
      have HZ := Box.mk (And.intro hZ hzt)
      clear hb hZ hzt
      unfold TabP.v
      go_upto_region 8 with fail
      have EZ := Box.mk (show Ix5 w g g2 w6.heap.size X Y Z [.string ⟨cn.toArray⟩, .slice ca n cp, .bool cu] ra rn rc r (w6.alloc (.cells #[.string ⟨Z.name.toArray⟩, .slice Z.ca Z.cols.length Z.cc, .slice Z.ia Z.ixs.length Z.ic, .slice Z.ha Z.chks.length Z.hc] 28)) from
        ⟨EX.out.one.alloc _, EX.out.box.alloc _, EX.out.two.alloc _, ⟨Blk.new rfl rfl, HZ.out.1.alloc _, EX.out.one.below.alloc EX.out.one.below.size _⟩, EX.out.row.alloc _⟩)
      have HZT := Box.mk HZ.out.2
      clear EX HZ
      generalize (w6.alloc (.cells #[.string ⟨Z.name.toArray⟩, .slice Z.ca Z.cols.length Z.cc, .slice Z.ia Z.ixs.length Z.ic, .slice Z.ha Z.chks.length Z.hc] 28)) = w7 at *
      generalize w6.heap.size = g3 at *
      have x0 := EZ.out.two.c0
      have x1 := EZ.out.two.c1
      have x2 := EZ.out.two.c2
      have x3 := EZ.out.two.c3
      have y0 := EZ.out.box.cellOf (i := 0) rfl
      go_wp2_with fail
      clear x0 x1 x2 x3 y0
      refine (ix_is HK.out.2.2.2.1 HK.out.2.2.2.2 EZ.out.two.rd).mono ?_
      rintro e w8 ⟨rfl, hb⟩
      replace EZ := Box.mk (EZ.out.step hb)
      clear hb
      have x0 := EZ.out.one.c0
      have x1 := EZ.out.one.c1
      have x2 := EZ.out.one.c2
      have x3 := EZ.out.one.c3
      have y0 := EZ.out.box.cellOf (i := 0) rfl
      go_wp2_with fail
      clear x0 x1 x2 x3 y0
      generalize hpl : placeP (ixPIs cn) X.ixs = pl
      refine (ix_is hpl HK.out.2.2.1 EZ.out.one.rd).mono ?_
      rintro e w9 ⟨rfl, hb⟩
      replace EZ := Box.mk (EZ.out.step hb)
      clear hb hpl
      generalize hv : fitsT X.t r = v
      have HV := Box.mk (show fitsT X.t r = v ∧ fitsT Y.t r = v from ⟨hv, by rw [HK.out.1, HFI.out]; exact hv⟩)
      clear hv
      go_wp2_with fail
      have HS0 : Ix5 w g g2 g3 X Y Z [.string ⟨cn.toArray⟩, .slice ca n cp, .bool cu] ra rn rc r w9.drew := EZ.out.step (Below.refl _ _).drew
      refine wp_region_held_drew (S := fun w' => Ix5 w g g2 g3 X Y Z [.string ⟨cn.toArray⟩, .slice ca n cp, .bool cu] ra rn rc r w') (by kernel_rfl) HS0 (fun _ => ?_)
      refine wpAnyH_take (i := 0) (v := ?_) rfl (by kernel_rfl) (by kernel_rfl) (by kernel_rfl) (fun _ _ _ h => h) (yieldsIf_val (by rfl) (fun w' hS => ?_)) HS0 ?_
      rotate_left
      · skip
        go_simp
        all_goals with_reducible rfl
      conv =>
        arg 8
        simp [go_sem]
      refine wpAnyH_take (i := 1) (v := ?_) rfl (by kernel_rfl) (by kernel_rfl) (by kernel_rfl) (fun _ _ _ h => h) (yieldsIf_val (by rfl) (fun w' hS => ?_)) HS0 ?_
      rotate_left
      · skip
        go_simp
        all_goals with_reducible rfl
      conv =>
        arg 8
        simp [go_sem]
      refine wpAnyH_take (i := 2) (v := ?_) rfl (by kernel_rfl) (by kernel_rfl) (by kernel_rfl) (fun _ _ _ h => h) (yieldsIf_val (by rfl) (fun w' hS => ?_)) HS0 ?_
      rotate_left
      · skip
        go_simp
        all_goals with_reducible rfl
      conv =>
        arg 8
        simp [go_sem]
      refine wpAnyH_take (i := 3) (v := ?_) rfl (by kernel_rfl) (by kernel_rfl) (by kernel_rfl) (fun _ _ _ h => h) (yieldsIf_val (by rfl) (fun w' hS => ?_)) HS0 ?_
      rotate_left
      · skip
        go_simp
        all_goals with_reducible rfl
      conv =>
        arg 8
        simp [go_sem]
      refine wpAnyH_take (i := 4) (v := ?_) rfl (by kernel_rfl) (by kernel_rfl) (by kernel_rfl) (fun _ _ _ h => h) (yieldsIf_val (by rfl) (fun w' hS => ?_)) HS0 ?_
      rotate_left
      · skip
        go_simp
        all_goals with_reducible rfl
      conv =>
        arg 8
        simp [go_sem]
      refine wpAnyH_take (i := 5) (v := ?_) rfl (by kernel_rfl) (by kernel_rfl) (by kernel_rfl) (fun _ _ _ h => h) (yieldsIf_val (by rfl) (fun w' hS => ?_)) HS0 ?_
      rotate_left
      · skip
        go_simp
        all_goals with_reducible rfl
      conv =>
        arg 8
        simp [go_sem]
      refine wpAnyH_take (i := 6) (v := ?_) rfl (by kernel_rfl) (by kernel_rfl) (by kernel_rfl) (fun _ _ _ h => h) (yieldsIf_val (by rfl) (fun w' hS => ?_)) HS0 ?_
      rotate_left
      · skip
        have e0 := hS.three.c0
        have e1 := hS.three.c1
        have e2 := hS.three.c2
        have e3 := hS.three.c3
        go_simp
        all_goals with_reducible rfl
      conv =>
        arg 8
        simp [go_sem]
      refine wpAnyH_take (i := 7) (v := ?_) rfl (by kernel_rfl) (by kernel_rfl) (by kernel_rfl) (fun _ _ _ h => h) (yieldsIf_val (by rfl) (fun w' hS => ?_)) HS0 ?_
      rotate_left
      · skip
        have e0 := hS.one.c0
        have e1 := hS.one.c1
        have e2 := hS.one.c2
        have e3 := hS.one.c3
        go_simp
        all_goals with_reducible rfl
      conv =>
        arg 8
        simp [go_sem]
      conv =>
        arg 8
        simp [go_sem]
      refine wpAnyH_ready (rs := [8]) (by kernel_rfl) (by simp) (AllReadyH.cons rfl (fun K' hK' => oper_call (by rfl) 36 [.tmp 68, .tmp 69] #[28, 28] rfl (vs := [.agg #[.string ⟨Z.name.toArray⟩, .slice Z.ca Z.cols.length Z.cc, .slice Z.ia Z.ixs.length Z.ic, .slice Z.ha Z.chks.length Z.hc], .agg #[.string ⟨X.name.toArray⟩, .slice X.ca X.cols.length X.cc, .slice X.ia X.ixs.length X.ic, .slice X.ha X.chks.length X.hc]]) rfl Try.func36 nm_lsame2 bd_lsame2 (same_tabs HZT.out HS0.three.rd HS0.one.rd) ?_) AllReadyH.nil)
      rintro e w10 ⟨rfl, hb5⟩
      have HT1 := HS0.step hb5
      refine ⟨_, rfl, hK'.out _ _ HT1 (fun _ => ?_)⟩
      clear hK' K'
      conv =>
        arg 8
        simp [go_sem]
      refine wpAnyH_take (i := 9) (v := ?_) rfl (by kernel_rfl) (by kernel_rfl) (by kernel_rfl) (fun _ _ _ h => h) (yieldsIf_val (by rfl) (fun w' hS => ?_)) HT1 ?_
      rotate_left
      · skip
        go_simp
        all_goals with_reducible rfl
      conv =>
        arg 8
        simp [go_sem]
      refine wpAnyH_take (i := 10) (v := ?_) rfl (by kernel_rfl) (by kernel_rfl) (by kernel_rfl) (fun _ _ _ h => h) (yieldsIf_val (by rfl) (fun w' hS => ?_)) HT1 ?_
      rotate_left
      · skip
        go_simp
        all_goals with_reducible rfl
      conv =>
        arg 8
        simp [go_sem]
      refine wpAnyH_take (i := 11) (v := ?_) rfl (by kernel_rfl) (by kernel_rfl) (by kernel_rfl) (fun _ _ _ h => h) (yieldsIf_val (by rfl) (fun w' hS => ?_)) HT1 ?_
      rotate_left
      · skip
        go_simp
        all_goals with_reducible rfl
      conv =>
        arg 8
        simp [go_sem]
      refine wpAnyH_take (i := 12) (v := ?_) rfl (by kernel_rfl) (by kernel_rfl) (by kernel_rfl) (fun _ _ _ h => h) (yieldsIf_val (by rfl) (fun w' hS => ?_)) HT1 ?_
      rotate_left
      · skip
        go_simp
        all_goals with_reducible rfl
      conv =>
        arg 8
        simp [go_sem]
      refine wpAnyH_take (i := 13) (v := ?_) rfl (by kernel_rfl) (by kernel_rfl) (by kernel_rfl) (fun _ _ _ h => h) (yieldsIf_val (by rfl) (fun w' hS => ?_)) HT1 ?_
      rotate_left
      · skip
        go_simp
        all_goals with_reducible rfl
      conv =>
        arg 8
        simp [go_sem]
      refine wpAnyH_take (i := 14) (v := ?_) rfl (by kernel_rfl) (by kernel_rfl) (by kernel_rfl) (fun _ _ _ h => h) (yieldsIf_val (by rfl) (fun w' hS => ?_)) HT1 ?_
      rotate_left
      · skip
        go_simp
        all_goals with_reducible rfl
      conv =>
        arg 8
        simp [go_sem]
      refine wpAnyH_take (i := 15) (v := ?_) rfl (by kernel_rfl) (by kernel_rfl) (by kernel_rfl) (fun _ _ _ h => h) (yieldsIf_val (by rfl) (fun w' hS => ?_)) HT1 ?_
      rotate_left
      · skip
        go_simp
        all_goals with_reducible rfl
      conv =>
        arg 8
        simp [go_sem]
      refine wpAnyH_take (i := 16) (v := ?_) rfl (by kernel_rfl) (by kernel_rfl) (by kernel_rfl) (fun _ _ _ h => h) (yieldsIf_val (by rfl) (fun w' hS => ?_)) HT1 ?_
      rotate_left
      · skip
        go_simp
        all_goals with_reducible rfl
      conv =>
        arg 8
        simp [go_sem]
      refine wpAnyH_take (i := 17) (v := ?_) rfl (by kernel_rfl) (by kernel_rfl) (by kernel_rfl) (fun _ _ _ h => h) (yieldsIf_val (by rfl) (fun w' hS => ?_)) HT1 ?_
      rotate_left
      · skip
        go_simp
        all_goals with_reducible rfl
      conv =>
        arg 8
        simp [go_sem]
      refine wpAnyH_take (i := 18) (v := ?_) rfl (by kernel_rfl) (by kernel_rfl) (by kernel_rfl) (fun _ _ _ h => h) (yieldsIf_val (by rfl) (fun w' hS => ?_)) HT1 ?_
      rotate_left
      · skip
        go_simp
        all_goals with_reducible rfl
      conv =>
        arg 8
        simp [go_sem]
      refine wpAnyH_take (i := 19) (v := ?_) rfl (by kernel_rfl) (by kernel_rfl) (by kernel_rfl) (fun _ _ _ h => h) (yieldsIf_val (by rfl) (fun w' hS => ?_)) HT1 ?_
      rotate_left
      · skip
        go_simp
        all_goals with_reducible rfl
      conv =>
        arg 8
        simp [go_sem]
      refine wpAnyH_take (i := 20) (v := ?_) rfl (by kernel_rfl) (by kernel_rfl) (by kernel_rfl) (fun _ _ _ h => h) (yieldsIf_val (by rfl) (fun w' hS => ?_)) HT1 ?_
      rotate_left
      · skip
        have e2 := hS.one.c2
        go_simp
        all_goals with_reducible rfl
      conv =>
        arg 8
        simp [go_sem]
      refine wpAnyH_take (i := 21) (v := ?_) rfl (by kernel_rfl) (by kernel_rfl) (by kernel_rfl) (fun _ _ _ h => h) (yieldsIf_val (by rfl) (fun w' hS => ?_)) HT1 ?_
      rotate_left
      · skip
        go_simp
        all_goals with_reducible rfl
      conv =>
        arg 8
        simp [go_sem]
      refine wpAnyH_take (i := 22) (v := ?_) rfl (by kernel_rfl) (by kernel_rfl) (by kernel_rfl) (fun _ _ _ h => h) (yieldsIf_val (by rfl) (fun w' hS => ?_)) HT1 ?_
      rotate_left
      · skip
        go_simp
        all_goals with_reducible rfl
      conv =>
        arg 8
        simp [go_sem]
      refine wpAnyH_take (i := 23) (v := ?_) rfl (by kernel_rfl) (by kernel_rfl) (by kernel_rfl) (fun _ _ _ h => h) (yieldsIf_val (by rfl) (fun w' hS => ?_)) HT1 ?_
      rotate_left
      · skip
        go_simp
        all_goals with_reducible rfl
      conv =>
        arg 8
        simp [go_sem]
      refine wpAnyH_take (i := 24) (v := ?_) rfl (by kernel_rfl) (by kernel_rfl) (by kernel_rfl) (fun _ _ _ h => h) (yieldsIf_val (by rfl) (fun w' hS => ?_)) HT1 ?_
      rotate_left
      · skip
        go_simp
        all_goals with_reducible rfl
      conv =>
        arg 8
        simp [go_sem]
      refine wpAnyH_take (i := 25) (v := ?_) rfl (by kernel_rfl) (by kernel_rfl) (by kernel_rfl) (fun _ _ _ h => h) (yieldsIf_val (by rfl) (fun w' hS => ?_)) HT1 ?_
      rotate_left
      · skip
        have e0 := hS.two.c0
        have e1 := hS.two.c1
        have e2 := hS.two.c2
        have e3 := hS.two.c3
        go_simp
        all_goals with_reducible rfl
      conv =>
        arg 8
        simp [go_sem]
      refine wpAnyH_take (i := 26) (v := ?_) rfl (by kernel_rfl) (by kernel_rfl) (by kernel_rfl) (fun _ _ _ h => h) (yieldsIf_val (by rfl) (fun w' hS => ?_)) HT1 ?_
      rotate_left
      · skip
        go_simp
        all_goals with_reducible rfl
      conv =>
        arg 8
        simp [go_sem]
      refine wpAnyH_take (i := 28) (v := ?_) rfl (by kernel_rfl) (by kernel_rfl) (by kernel_rfl) (fun _ _ _ h => h) (yieldsIf_val (by rfl) (fun w' hS => ?_)) HT1 ?_
      rotate_left
      · skip
        have e0 := hS.one.c0
        have e1 := hS.one.c1
        have e2 := hS.one.c2
        have e3 := hS.one.c3
        go_simp
        all_goals with_reducible rfl
      conv =>
        arg 8
        simp [go_sem]
      refine wpAnyH_take (i := 29) (v := ?_) rfl (by kernel_rfl) (by kernel_rfl) (by kernel_rfl) (fun _ _ _ h => h) (yieldsIf_val (by rfl) (fun w' hS => ?_)) HT1 ?_
      rotate_left
      · skip
        go_simp
        all_goals with_reducible rfl
      conv =>
        arg 8
        simp [go_sem]
      conv =>
        arg 8
        simp [go_sem]
      refine wpAnyH_ready (rs := [27]) (by kernel_rfl) (by simp) (AllReadyH.cons rfl (fun K' hK' => oper_call (by rfl) 24 [.tmp 87, .tmp 88] #[28, 37] rfl (vs := [.agg #[.string ⟨Y.name.toArray⟩, .slice Y.ca Y.cols.length Y.cc, .slice Y.ia Y.ixs.length Y.ic, .slice Y.ha Y.chks.length Y.hc], .slice ra rn rc]) rfl Try.func24 nm_lfits2 bd_lfits2 (fits_is HV.out.2 HT1.two.rd HT1.row) ?_) AllReadyH.nil)
      rintro e w11 ⟨rfl, hb5⟩
      have HT2 := HT1.step hb5
      refine ⟨_, rfl, hK'.out _ _ HT2 (fun _ => ?_)⟩
      clear hK' K'
      conv =>
        arg 8
        simp [go_sem]
      conv =>
        arg 8
        simp [go_sem]
      refine wpAnyH_ready (rs := [30]) (by kernel_rfl) (by simp) (AllReadyH.cons rfl (fun K' hK' => oper_call (by rfl) 24 [.tmp 90, .tmp 91] #[28, 37] rfl (vs := [.agg #[.string ⟨X.name.toArray⟩, .slice X.ca X.cols.length X.cc, .slice X.ia X.ixs.length X.ic, .slice X.ha X.chks.length X.hc], .slice ra rn rc]) rfl Try.func24 nm_lfits2 bd_lfits2 (fits_is HV.out.1 HT2.one.rd HT2.row) ?_) AllReadyH.nil)
      rintro e w12 ⟨rfl, hb5⟩
      have HT3 := HT2.step hb5
      refine ⟨_, rfl, hK'.out _ _ HT3 (fun _ => ?_)⟩
      clear hK' K'
      conv =>
        arg 8
        simp [go_sem]
      refine wpAnyH_take (i := 31) (v := ?_) rfl (by kernel_rfl) (by kernel_rfl) (by kernel_rfl) (fun _ _ _ h => h) (yieldsIf_val (by rfl) (fun w' hS => ?_)) HT3 ?_
      rotate_left
      · skip
        go_simp
        all_goals with_reducible rfl
      conv =>
        arg 8
        simp [go_sem]
      refine wpAnyH_take (i := 32) (v := ?_) rfl (by kernel_rfl) (by kernel_rfl) (by kernel_rfl) (fun _ _ _ h => h) (yieldsIf_val (by rfl) (fun w' hS => ?_)) HT3 ?_
      rotate_left
      · skip
        go_simp
        all_goals with_reducible rfl
      conv =>
        arg 8
        simp [go_sem]
      refine wpAnyH_take (i := 33) (v := ?_) rfl (by kernel_rfl) (by kernel_rfl) (by kernel_rfl) (fun _ _ _ h => h) (yieldsIf_val (by rfl) (fun w' hS => ?_)) HT3 ?_
      rotate_left
      · skip
        go_simp
        all_goals with_reducible rfl
      conv =>
        arg 8
        simp [go_sem]
      refine ⟨by kernel_rfl, ?_⟩
      conv =>
        arg 5
        simp [go_sem]
      go_wp2_with fail
      go_ret
      exact ⟨by first | rfl | simp, HG.out ▸ HT3.one.below⟩
    · have hvv : (E != 0) = true := by simp [h0]
      go_wp2_with fail
      go_ret
      exact ⟨rfl, HG.out ▸ EX.out.one.below⟩
end Go.Proofs.Ytgimkipekoabbaa
