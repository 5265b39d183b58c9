/-
  The walk of SchemaWordsMatchSpec. No condition.
-/
import Derived.Test.YtgimkipekoabbaaE20
import Derived.Test.YtgimkipekoabbaaRWords
namespace Go.Proofs.Ytgimkipekoabbaa
open Go.RowKit

theorem words_is {X : TabP} {v : Int} {L : List Int} (h1 : checkT X.t = v) (h2 : (if checkT X.t = 0 then wordsT X.t else []) = L) {w : World} (hr : TabRd w X) : Calls Try.prog 21 #[.agg #[.string ⟨X.name.toArray⟩, .slice X.ca X.cols.length X.cc, .slice X.ia X.ixs.length X.ic, .slice X.ha X.chks.length X.hc]] w (fun e w' => Below w.heap.size w w' ∧ ∃ a n cap, e = .returned (.tuple #[.slice a n cap, .int .i64 v]) ∧ Rd w' a n cap 1 (intVals L)) := by
  subst h1 h2; exact words_any X w hr
theorem rwords_is {X : TabP} {v : Int} {L : List Int} (h1 : checkT X.t = v) (h2 : (if checkT X.t = 0 then wordsT X.t else []) = L) {w : World} (hr : TabRd w X) : Calls Try.prog 22 #[.agg #[.string ⟨X.name.toArray⟩, .slice X.ca X.cols.length X.cc, .slice X.ia X.ixs.length X.ic, .slice X.ha X.chks.length X.hc]] w (fun e w' => Below w.heap.size w w' ∧ ∃ a n cap, e = .returned (.tuple #[.slice a n cap, .int .i64 v]) ∧ Rd w' a n cap 1 (intVals L)) := by
  subst h1 h2; exact rwords_any X w hr
/-- SameInts of two lists, whatever is drawn. -/
theorem same_is {l m : List Int} {d : Bool} (h : decide (l = m) = d) {a b : Option Addr} {n n2 cap cap2 : Nat} {w : World} (h1 : Rd w a n cap 1 (intVals l)) (h2 : Rd w b n2 cap2 1 (intVals m)) :
    Calls Try.prog 23 #[.slice a n cap, .slice b n2 cap2] w (RetV (.bool d) w) := by
  subst h
  refine (sameInts_any l m a b n n2 cap cap2 w h1 h2).mono ?_
  rintro e w' ⟨rfl, q, rfl⟩
  exact ⟨rfl, below_drewN (Below.refl _ _) q⟩

set_option maxRecDepth 20000 in
set_option maxHeartbeats 4000000 in
theorem words_walk (X : TabP) (w : World) (hr : TabRd w X) : Calls Try.prog 5 #[X.v] w (RetV (.bool true) w) := by
  generalize hv1 : checkT X.t = v1
  generalize hb1 : (if checkT X.t = 0 then wordsT X.t else []) = L
  have HV := Box.mk (And.intro hv1 hb1)
  clear hv1 hb1
  generalize hf : fewB X.t = fb
  have HF := Box.mk hf
  clear hf
  have T1 := Box.mk (TabIn.start hr)
  clear hr
  unfold TabP.cs at T1
  unfold TabP.v
  go_enter Try.func5, Try.ntmps5
  go_wp2_with fail
  generalize (w.alloc (.cells #[.string ⟨X.name.toArray⟩, .slice X.ca X.cols.length X.cc, .slice X.ia X.ixs.length X.ic, .slice X.ha X.chks.length X.hc] 28)) = W at *
  generalize hg : w.heap.size = g at *
  have HG := Box.mk hg
  clear hg
  refine (sanity_any W).mono ?_
  rintro e w2 ⟨rfl, hb⟩
  have T2 := Box.mk (T1.out.step hb)
  clear hb T1
  have x0 := T2.out.c0
  have x1 := T2.out.c1
  have x2 := T2.out.c2
  have x3 := T2.out.c3
  go_wp2_with fail
  refine (few_is HF.out T2.out.rd).mono ?_
  rintro e w3 ⟨rfl, hb⟩
  have T3 := Box.mk (T2.out.step hb)
  clear hb T2 x0 x1 x2 x3
  cases fb with
  | false =>
    go_wp2_with fail
    go_ret
    exact ⟨rfl, HG.out ▸ T3.out.below⟩
  | true =>
    have x0 := T3.out.c0
    have x1 := T3.out.c1
    have x2 := T3.out.c2
    have x3 := T3.out.c3
    go_wp2_with fail
    refine (words_is HV.out.1 HV.out.2 T3.out.rd).mono ?_
    rintro e w4 ⟨hb, a4, n4, c4, rfl, hrd4⟩
    have T4 := Box.mk (T3.out.step hb)
    have R4 := Box.mk hrd4
    clear hb T3 x0 x1 x2 x3 hrd4
    have x0 := T4.out.c0
    have x1 := T4.out.c1
    have x2 := T4.out.c2
    have x3 := T4.out.c3
    go_wp2_with fail
    refine (rwords_is HV.out.1 HV.out.2 T4.out.rd).mono ?_
    rintro e w5 ⟨hb, a5, n5, c5, rfl, hrd5⟩
    have T5 := Box.mk (T4.out.step hb)
    have R5 := Box.mk (And.intro (R4.out.call0 hb) hrd5)
    clear hb T4 x0 x1 x2 x3 hrd5 R4
    go_wp2_with fail
    refine (same_is (d := true) (decide_eq_true rfl) R5.out.1 R5.out.2).mono ?_
    rintro e w6 ⟨rfl, hb⟩
    have T6 := Box.mk (T5.out.step hb)
    clear hb T5
    go_wp2_with fail
    go_ret
    exact ⟨by first | rfl | simp, HG.out ▸ T6.out.below⟩
end Go.Proofs.Ytgimkipekoabbaa
