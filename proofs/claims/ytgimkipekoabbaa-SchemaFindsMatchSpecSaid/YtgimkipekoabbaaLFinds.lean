/-
  The walk of SchemaFindsMatchSpec. No condition.
-/
import Derived.Test.YtgimkipekoabbaaWFew
import Derived.Test.YtgimkipekoabbaaFind
namespace Go.Proofs.Ytgimkipekoabbaa
open Go.RowKit

theorem column_is {X : TabP} {s : List UInt8} {v : Int} {b : Bool} (h1 : placeP (colIs s) X.cols = v) (h2 : X.cols.any (colIs s) = b) {w : World} (hr : TabRd w X) : Calls Try.prog 25 #[.agg #[.string ⟨X.name.toArray⟩, .slice X.ca X.cols.length X.cc, .slice X.ia X.ixs.length X.ic, .slice X.ha X.chks.length X.hc], .string ⟨s.toArray⟩] w (RetF v b w) := by
  subst h1 h2; exact column_any X s w hr
theorem rcolumn_is {X : TabP} {s : List UInt8} {v : Int} {b : Bool} (h1 : placeP (colIs s) X.cols = v) (h2 : X.cols.any (colIs s) = b) {w : World} (hr : TabRd w X) : Calls Try.prog 26 #[.agg #[.string ⟨X.name.toArray⟩, .slice X.ca X.cols.length X.cc, .slice X.ia X.ixs.length X.ic, .slice X.ha X.chks.length X.hc], .string ⟨s.toArray⟩] w (RetF v b w) := by
  subst h1 h2; exact rcolumn_any X s w hr
theorem index_is {X : TabP} {s : List UInt8} {v : Int} {b : Bool} (h1 : placeP (ixPIs s) X.ixs = v) (h2 : X.ixs.any (ixPIs s) = b) {w : World} (hr : TabRd w X) : Calls Try.prog 27 #[.agg #[.string ⟨X.name.toArray⟩, .slice X.ca X.cols.length X.cc, .slice X.ia X.ixs.length X.ic, .slice X.ha X.chks.length X.hc], .string ⟨s.toArray⟩] w (RetF v b w) := by
  subst h1 h2; exact index_any2 X s w hr
theorem rindex_is {X : TabP} {s : List UInt8} {v : Int} {b : Bool} (h1 : placeP (ixPIs s) X.ixs = v) (h2 : X.ixs.any (ixPIs s) = b) {w : World} (hr : TabRd w X) : Calls Try.prog 28 #[.agg #[.string ⟨X.name.toArray⟩, .slice X.ca X.cols.length X.cc, .slice X.ia X.ixs.length X.ic, .slice X.ha X.chks.length X.hc], .string ⟨s.toArray⟩] w (RetF v b w) := by
  subst h1 h2; exact rindex_any X s w hr

set_option maxRecDepth 20000 in
set_option maxHeartbeats 4000000 in
theorem finds_law (X : TabP) (s : List UInt8) (w : World) (hr : TabRd w X) : Calls Try.prog 7 #[X.v, .string ⟨s.toArray⟩] w (RetV (.bool true) w) := by
  generalize hv1 : placeP (colIs s) X.cols = v1
  generalize hb1 : X.cols.any (colIs s) = b1
  generalize hv2 : placeP (ixPIs s) X.ixs = v2
  generalize hb2 : X.ixs.any (ixPIs s) = b2
  have HV := Box.mk (And.intro (And.intro hv1 hb1) (And.intro hv2 hb2))
  clear hv1 hb1 hv2 hb2
  generalize hf : fewB X.t = fb
  have HF := Box.mk hf
  clear hf
  have T1 := Box.mk (TabIn.start hr)
  clear hr
  unfold TabP.cs at T1
  unfold TabP.v
  go_enter Try.func7, Try.ntmps7
  go_wp2_with fail
  generalize (w.alloc (.cells #[.string ⟨X.name.toArray⟩, .slice X.ca X.cols.length X.cc, .slice X.ia X.ixs.length X.ic, .slice X.ha X.chks.length X.hc] 28)) = W at *
  generalize hg : w.heap.size = g at *
  have HG := Box.mk hg
  clear hg
  refine (sanity_any W).mono ?_
  rintro e w2 ⟨rfl, hb⟩
  have T2 := Box.mk (T1.out.step hb)
  clear hb T1
  have x0 := T2.out.c0
  have x1 := T2.out.c1
  have x2 := T2.out.c2
  have x3 := T2.out.c3
  go_wp2_with fail
  refine (few_is HF.out T2.out.rd).mono ?_
  rintro e w3 ⟨rfl, hb⟩
  have T3 := Box.mk (T2.out.step hb)
  clear hb T2 x0 x1 x2 x3
  cases fb with
  | false =>
    go_wp2_with fail
    go_ret
    exact ⟨rfl, HG.out ▸ T3.out.below⟩
  | true =>
    have x0 := T3.out.c0
    have x1 := T3.out.c1
    have x2 := T3.out.c2
    have x3 := T3.out.c3
    go_wp2_with fail
    refine (column_is HV.out.1.1 HV.out.1.2 T3.out.rd).mono ?_
    rintro e w4 ⟨rfl, hb⟩
    have T4 := Box.mk (T3.out.step hb)
    clear hb T3 x0 x1 x2 x3
    have x0 := T4.out.c0
    have x1 := T4.out.c1
    have x2 := T4.out.c2
    have x3 := T4.out.c3
    go_wp2_with fail
    refine (rcolumn_is HV.out.1.1 HV.out.1.2 T4.out.rd).mono ?_
    rintro e w5 ⟨rfl, hb⟩
    have T5 := Box.mk (T4.out.step hb)
    clear hb T4 x0 x1 x2 x3
    have x0 := T5.out.c0
    have x1 := T5.out.c1
    have x2 := T5.out.c2
    have x3 := T5.out.c3
    go_wp2_with fail
    refine (index_is HV.out.2.1 HV.out.2.2 T5.out.rd).mono ?_
    rintro e w6 ⟨rfl, hb⟩
    have T6 := Box.mk (T5.out.step hb)
    clear hb T5 x0 x1 x2 x3
    have x0 := T6.out.c0
    have x1 := T6.out.c1
    have x2 := T6.out.c2
    have x3 := T6.out.c3
    go_wp2_with fail
    refine (rindex_is HV.out.2.1 HV.out.2.2 T6.out.rd).mono ?_
    rintro e w7 ⟨rfl, hb⟩
    have T7 := Box.mk (T6.out.step hb)
    clear hb T6 x0 x1 x2 x3
    go_wp2_with fail
    go_ret
    exact ⟨by first | rfl | simp, HG.out ▸ T7.out.below⟩
theorem finds_walk (X : TabP) (s : ByteArray) (w : World) (hr : TabRd w X) : Calls Try.prog 7 #[X.v, .string s] w (RetV (.bool true) w) := by
  have := finds_law X s.data.toList w hr
  simpa using this
end Go.Proofs.Ytgimkipekoabbaa
