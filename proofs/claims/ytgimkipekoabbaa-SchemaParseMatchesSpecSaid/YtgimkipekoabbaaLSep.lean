/-
  The walk of SchemaChecksAreSeparate. No condition.
-/
import Derived.Test.YtgimkipekoabbaaE20
namespace Go.Proofs.Ytgimkipekoabbaa
open Go.RowKit

/-- A table with other checks. -/
def TabP.withChks (X : TabP) (a : Option Addr) (c : Nat) (l : List Chk) : TabP := ⟨X.name, X.ca, X.cc, X.cols, X.ia, X.ic, X.ixs, a, c, l⟩
def Tab.withChks (T : Tab) (l : List Chk) : Tab := ⟨T.name, T.cols, T.ixs, l⟩
theorem withChks_ok {T : Tab} (h : TabOk T) {l : List Chk} (h4 : l.length ≤ 4) (hl : chksE l T.cols = 0) : TabOk (T.withChks l) := ⟨h.name, h.cols0, h.cols8, h.colsE, h.ixs4, h.ixsE, h4, hl⟩
theorem TabOk.chkErr0 {T : Tab} (h : TabOk T) {i : Nat} (hi : i < T.chks.length) : chkErr T.chks T.cols i = 0 := firstE_eq_zero h.chksE i hi
theorem check_none {T : Tab} (h : TabOk T) : checkT (T.withChks []) = 0 := (withChks_ok h (l := []) (by simp) rfl).check
theorem check_one {T : Tab} (h : TabOk T) {i : Nat} (hi : i < T.chks.length) : checkT (T.withChks [T.chks.getD i default]) = 0 := by
  refine (withChks_ok h (l := [T.chks.getD i default]) (by simp) ?_).check
  unfold chksE
  refine firstE_zero (fun j hj => ?_)
  have hj0 : j = 0 := by simp at hj; omega
  subst hj0
  have := h.chkErr0 hi
  unfold chkErr at this ⊢
  simpa using this
theorem fitsT_zero {T : Tab} {r : List Val} (h : checkT T = 0) : fitsT T r = 0 ↔ (r.length = T.cols.length ∧ firstE (valErr T.cols r) r.length = 0) ∧ ∀ j, j < T.chks.length → holdErr T.chks r j = 0 := by
  unfold fitsT
  rw [h, if_neg (by decide)]
  by_cases hl : r.length = T.cols.length
  · rw [if_neg (by simp [hl])]
    by_cases hv : firstE (valErr T.cols r) r.length = 0
    · rw [if_neg (by simp [hv])]
      exact ⟨fun h => ⟨⟨hl, hv⟩, firstE_eq_zero h⟩, fun h => firstE_zero h.2⟩
    · rw [if_pos hv]
      exact ⟨fun h => absurd h hv, fun h => absurd h.1.2 hv⟩
  · rw [if_pos hl]
    exact ⟨fun h => (by cases h), fun h => absurd h.1.1 hl⟩
theorem holdErr_one (l : List Chk) (r : List Val) (i : Nat) : holdErr [l.getD i default] r 0 = holdErr l r i := by
  unfold holdErr; simp

/-- It fits without checks, and with each of the first k. -/
def sepB (T : Tab) (r : List Val) (k : Nat) : Bool := decide (fitsT (T.withChks []) r = 0) && (List.range k).all fun i => decide (fitsT (T.withChks [T.chks.getD i default]) r = 0)
theorem sepB_succ (T : Tab) (r : List Val) (k : Nat) : sepB T r (k + 1) = (sepB T r k && decide (fitsT (T.withChks [T.chks.getD k default]) r = 0)) := by
  unfold sepB; rw [List.range_succ, List.all_append]; simp [Bool.and_assoc]
theorem sepB_all {T : Tab} {r : List Val} (h : checkT T = 0) : sepB T r T.chks.length = decide (fitsT T r = 0) := by
  have ok := checkT_ok h
  rw [Bool.eq_iff_iff]
  unfold sepB
  simp only [Bool.and_eq_true, decide_eq_true_eq, List.all_eq_true, List.mem_range]
  rw [fitsT_zero h, fitsT_zero (check_none ok)]
  constructor
  · rintro ⟨⟨h1, _⟩, h2⟩
    refine ⟨h1, fun j hj => ?_⟩
    have := ((fitsT_zero (check_one ok hj)).1 (h2 j hj)).2 0 (by simp [Tab.withChks])
    rwa [← holdErr_one]
  · rintro ⟨h1, h2⟩
    refine ⟨⟨h1, fun j hj => by simp [Tab.withChks] at hj⟩, fun i hi => ?_⟩
    rw [fitsT_zero (check_one ok hi)]
    refine ⟨h1, fun j hj => ?_⟩
    have hj0 : j = 0 := by simp [Tab.withChks] at hj; omega
    subst hj0
    show holdErr [T.chks.getD i default] r 0 = 0
    rw [holdErr_one]; exact h2 i hi

theorem fits_is {X : TabP} {r : List Val} {v : Int} (h : fitsT X.t r = v) {ra : Option Addr} {rn rc : Nat} {w : World} (hr : TabRd w X) (hrr : Rd w ra rn rc 3 (recC Val.enc r)) : Calls Try.prog 24 #[.agg #[.string ⟨X.name.toArray⟩, .slice X.ca X.cols.length X.cc, .slice X.ia X.ixs.length X.ic, .slice X.ha X.chks.length X.hc], .slice ra rn rc] w (RetV (.int .i64 v) w) := by
  subst h; exact fits_any X r ra rn rc w hr hrr

theorem TabRd.withChks {w : World} {X : TabP} (h : TabRd w X) {a : Option Addr} {c : Nat} {l : List Chk} (hc : Rd w a l.length c 5 (recC Chk.enc l)) : TabRd w (X.withChks a c l) := ⟨h.cols, h.ixs, h.nums, hc⟩
/-- What a round of the law keeps. -/
structure SepI (w : World) (g g2 : Nat) (X : TabP) (W : World) : Prop where
  below : Below w.heap.size w W
  tab : Blk W g 28 X.cs
  one : ∃ s, Blk W g2 28 [.string ⟨X.name.toArray⟩, .slice X.ca X.cols.length X.cc, .slice X.ia X.ixs.length X.ic, s]
theorem SepI.step {w W W' : World} {g g2 : Nat} {X : TabP} (h : SepI w g g2 X W) (hb : Below W.heap.size W W') : SepI w g g2 X W' := by
  obtain ⟨s, hs⟩ := h.one
  exact ⟨h.below.trans (hb.mono h.below.size), h.tab.call0 hb, s, hs.call0 hb⟩

set_option maxRecDepth 20000 in
set_option maxHeartbeats 4000000 in
theorem sep_walk (X : TabP) (r : List Val) (ra : Option Addr) (rn rc : Nat) (w : World) (hr : TabRd w X) (hrr : Rd w ra rn rc 3 (recC Val.enc r)) : Calls Try.prog 6 #[X.v, .slice ra rn rc] w (RetV (.bool true) w) := by
  generalize hf : fewB X.t = fb
  have HF := Box.mk hf
  clear hf
  have HR := Box.mk (And.intro hr hrr)
  have T1 := Box.mk (TabIn.start hr)
  have mh := hr.chks.lenMax
  have mr := hrr.lenMax
  clear hr hrr
  unfold TabP.cs at T1
  unfold TabP.v
  go_enter Try.func6, Try.ntmps6
  go_wp2_with fail
  generalize (w.alloc (.cells #[.string ⟨X.name.toArray⟩, .slice X.ca X.cols.length X.cc, .slice X.ia X.ixs.length X.ic, .slice X.ha X.chks.length X.hc] 28)) = W at *
  generalize hg : w.heap.size = g at *
  have HG := Box.mk hg
  clear hg
  refine (sanity_any W).mono ?_
  rintro e w2 ⟨rfl, hb⟩
  have T2 := Box.mk (T1.out.step hb)
  clear hb T1
  have x0 := T2.out.c0
  have x1 := T2.out.c1
  have x2 := T2.out.c2
  have x3 := T2.out.c3
  go_wp2_with fail
  refine (few_is HF.out T2.out.rd).mono ?_
  rintro e w3 ⟨rfl, hb⟩
  have T3 := Box.mk (T2.out.step hb)
  clear hb T2 x0 x1 x2 x3
  cases fb with
  | false =>
    go_wp2_with fail
    go_ret
    exact ⟨rfl, HG.out ▸ T3.out.below⟩
  | true =>
    by_cases hl : 20 < rn
    · go_wp2_with fail
      go_ret
      exact ⟨rfl, HG.out ▸ T3.out.below⟩
    have hl20 : rn ≤ 20 := by omega
    clear hl
    have x0 := T3.out.c0
    have x1 := T3.out.c1
    have x2 := T3.out.c2
    have x3 := T3.out.c3
    go_wp2_with fail
    generalize hv : checkT X.t = v
    refine (check_is hv T3.out.rd).mono ?_
    rintro e w4 ⟨rfl, hb⟩
    have T4 := Box.mk (T3.out.step hb)
    clear hb T3 x0 x1 x2 x3
    by_cases h0 : v = 0
    · subst h0
      have HV := Box.mk hv
      clear hv
      have x0 := T4.out.c0
      have x1 := T4.out.c1
      have x2 := T4.out.c2
      have x3 := T4.out.c3
      go_wp2_with fail
      have SI := Box.mk (show SepI w g w4.heap.size X (w4.alloc (.cells #[.string ⟨X.name.toArray⟩, .slice X.ca X.cols.length X.cc, .slice X.ia X.ixs.length X.ic, .slice none 0 0] 28)) from
        ⟨T4.out.below.alloc T4.out.below.size _, (T4.out.alloc _).blk, _, Blk.new rfl rfl⟩)
      have hg2 : g ≠ w4.heap.size := fun e => by have := T4.out.blk.lt; omega
      have hgl : w.heap.size ≤ w4.heap.size := T4.out.below.size
      generalize (w4.alloc (.cells #[.string ⟨X.name.toArray⟩, .slice X.ca X.cols.length X.cc, .slice X.ia X.ixs.length X.ic, .slice none 0 0] 28)) = W5 at *
      generalize w4.heap.size = g2 at *
      generalize hd0 : fitsT (X.t.withChks []) r = d0
      refine (fits_is (X := X.withChks none 0 []) hd0 ((HR.out.1.below SI.out.below).withChks (rd_nil _ _)) (HR.out.2.call0 SI.out.below)).mono ?_
      rintro e w6 ⟨rfl, hb⟩
      have SI2 := Box.mk (SI.out.step hb)
      have HD0 := Box.mk hd0
      clear hb SI x0 x1 x2 x3 T4 hd0
      have hs0 : sepB X.t r 0 = decide (d0 = 0) := by unfold sepB; rw [HD0.out]; simp
      have HS0 := Box.mk hs0
      clear hs0
      go_wp2_with fail
      go_loopw [7, 8] (fun b i wr => ∃ (k : Nat) (bk : Bool), k ≤ X.chks.length ∧ i = .int .i64 k ∧ b = .bool bk ∧ Box (sepB X.t r k = bk) ∧ Box (SepI w g g2 X wr)) (fun _ i _ => X.chks.length - (intOf i).toNat)
      case atStart => exact ⟨0, _, Nat.zero_le _, rfl, rfl, ⟨by first | exact HS0.out | (rw [HS0.out, Bool.eq_iff_iff]; simp)⟩, SI2⟩
      case round =>
        clear SI2 HS0
        obtain ⟨k, bk, hk, rfl, rfl, HB, SI⟩ := hrel
        have t3 := SI.out.tab.cellOf (i := 3) rfl
        by_cases hlt : k < X.chks.length
        · obtain ⟨b, off, hca, hgb, hc⟩ := (HR.out.1.below SI.out.below).chks.recAt Chk.enc_len (by omega) k hlt
          rw [hca] at t3
          have HSUC := Box.mk (sepB_succ X.t r k)
          change Box (sepB X.t r (k + 1) = (sepB X.t r k && decide (fitsT (X.t.withChks [X.chks.getD k default]) r = 0))) at HSUC
          generalize X.chks.getD k default = y at *
          have hxt : ∀ a c, (X.withChks a c [y]).t = X.t.withChks [y] := fun _ _ => rfl
          obtain ⟨yc, yo, yk, yn, ys⟩ := y
          have c0 := hc 0 _ rfl
          have c1 := hc 1 _ rfl
          have c2 := hc 2 _ rfl
          have c3 := hc 3 _ rfl
          have c4 := hc 4 _ rfl
          simp only [Nat.add_zero] at c0 c1 c2 c3 c4
          clear hc hca hgb
          obtain ⟨s, hs⟩ := SI.out.one
          have o1 := hs.alloc (.cells #[.int .i64 yc, .int .i64 yo, .int .i64 yk, .int .i64 yn, .string ⟨ys.toArray⟩] 42)
          have f3 := o1.free 3
          have e3 := o1.cellOf (i := 3) rfl
          have o2 := (hs.set 3 (.slice (some ⟨wr.heap.size, 0, none⟩) 1 1)).alloc (.cells #[.int .i64 yc, .int .i64 yo, .int .i64 yk, .int .i64 yn, .string ⟨ys.toArray⟩] 42)
          change Blk _ g2 28 [.string ⟨X.name.toArray⟩, .slice X.ca X.cols.length X.cc, .slice X.ia X.ixs.length X.ic, .slice (some ⟨wr.heap.size, 0, none⟩) 1 1] at o2
          have y0 := o2.cellOf (i := 0) rfl
          have y1 := o2.cellOf (i := 1) rfl
          have y2 := o2.cellOf (i := 2) rfl
          have y3 := o2.cellOf (i := 3) rfl
          have hlt2 := hs.lt
          have SI3 : SepI w g g2 X ((wr.setCell ⟨g2, 3, none⟩ (.slice (some ⟨wr.heap.size, 0, none⟩) 1 1)).alloc (.cells #[.int .i64 yc, .int .i64 yo, .int .i64 yk, .int .i64 yn, .string ⟨ys.toArray⟩] 42)) :=
            ⟨(SI.out.below.setCell (p := ⟨g2, 3, none⟩) hgl _).alloc (by simpa using SI.out.below.size) _, (SI.out.tab.eq (Below.heap_setCell _ _ _ _ hg2)).alloc _, _, o2⟩
          have CB : Blk ((wr.setCell ⟨g2, 3, none⟩ (.slice (some ⟨wr.heap.size, 0, none⟩) 1 1)).alloc (.cells #[.int .i64 yc, .int .i64 yo, .int .i64 yk, .int .i64 yn, .string ⟨ys.toArray⟩] 42)) wr.heap.size 42 [.int .i64 yc, .int .i64 yo, .int .i64 yk, .int .i64 yn, .string ⟨ys.toArray⟩] :=
            Blk.new (by simp) rfl
          have H3 := Box.mk (And.intro SI3 CB)
          clear SI3 CB SI hs o1 o2
          cases bk with
          | false =>
            have HN := Box.mk (show sepB X.t r (k + 1) = false from by rw [HSUC.out, HB.out]; rfl)
            go_wp2_with fail
            go_roundw
            case rel => exact ⟨k + 1, _, by omega, by go_num, rfl, HN, ⟨H3.out.1⟩⟩
            case measure => simp [intOf]; omega
          | true =>
            go_wp2_with fail
            generalize hd : fitsT (X.t.withChks [⟨yc, yo, yk, yn, ys⟩]) r = d
            refine (fits_is (X := X.withChks (some ⟨wr.heap.size, 0, none⟩) 1 [⟨yc, yo, yk, yn, ys⟩]) hd ((HR.out.1.below H3.out.1.below).withChks (rd_rec (l := [(⟨yc, yo, yk, yn, ys⟩ : Chk)]) Chk.enc_len H3.out.2 (by simp [maxLen]))) (HR.out.2.call0 H3.out.1.below)).mono ?_
            rintro e w7 ⟨rfl, hb⟩
            have SI4 := Box.mk (H3.out.1.step hb)
            have HN := Box.mk (show sepB X.t r (k + 1) = decide (d = 0) from by rw [HSUC.out, HB.out, hd]; rfl)
            clear hb hd H3 f3 e3 y0 y1 y2 y3 t3 c0 c1 c2 c3 c4 HSUC hxt
            go_wp2_with fail
            go_roundw
            case rel => exact ⟨k + 1, _, by omega, by go_num, rfl, ⟨by first | exact HN.out | (rw [HN.out, Bool.eq_iff_iff]; simp)⟩, SI4⟩
            case measure => simp [intOf]; omega
        · have hkl : k = X.chks.length := by omega
          subst hkl
          have HSA := Box.mk (sepB_all (T := X.t) (r := r) HV.out)
          change Box (sepB X.t r X.chks.length = _) at HSA
          have x0 := SI.out.tab.cellOf (i := 0) rfl
          have x1 := SI.out.tab.cellOf (i := 1) rfl
          have x2 := SI.out.tab.cellOf (i := 2) rfl
          go_wp2_with fail
          generalize hd : fitsT X.t r = d at *
          refine (fits_is (X := X) hd (HR.out.1.below SI.out.below) (HR.out.2.call0 SI.out.below)).mono ?_
          rintro e w7 ⟨rfl, hb⟩
          have SI4 := Box.mk (SI.out.step hb)
          have hbk : decide (d = 0) = bk := HSA.out.symm.trans HB.out
          clear hb hd HB x0 x1 x2 t3
          go_wp2_with fail
          go_ret
          exact ⟨by rw [← hbk]; simp; rfl, SI4.out.below⟩
    · have hvv : (v != 0) = true := by simp [h0]
      clear hv
      go_wp2_with fail
      go_ret
      exact ⟨rfl, HG.out ▸ T4.out.below⟩
end Go.Proofs.Ytgimkipekoabbaa
