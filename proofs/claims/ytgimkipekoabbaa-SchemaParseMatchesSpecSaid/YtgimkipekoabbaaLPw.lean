/-
  The walk of SchemaParsedIsWords. No condition.
-/
import Derived.Test.YtgimkipekoabbaaWPar
import Derived.Test.YtgimkipekoabbaaPrs2
import Derived.Test.YtgimkipekoabbaaLIx
import Derived.Test.YtgimkipekoabbaaLWords
namespace Go.Proofs.Ytgimkipekoabbaa
open Go.RowKit

theorem parse_is {a : Option Addr} {n c : Nat} {l : List Int} {w : World} {o : Option Tab} (hr : Rd w a n c 1 (intVals l)) (h : parseT l = o) : Calls Try.prog 40 #[.slice a n c] w (RetP o w) := by
  subst h
  obtain rfl : l.length = n := hr.ilen
  exact parse_any hr
/-- A table in block g, and words. -/
structure PwS (w wr : World) (g : Nat) (X : TabP) (a : Option Addr) (n c : Nat) (l : List Int) : Prop where
  t : Blk wr g 28 [.string ⟨X.name.toArray⟩, .slice X.ca X.cols.length X.cc, .slice X.ia X.ixs.length X.ic, .slice X.ha X.chks.length X.hc]
  rd : TabRd wr X
  r : Rd wr a n c 1 (intVals l)
  b : Below w.heap.size w wr
theorem PwS.step {w wr w' : World} {g : Nat} {X : TabP} {a : Option Addr} {n c : Nat} {l : List Int} (h : PwS w wr g X a n c l) (hb : Below wr.heap.size wr w') : PwS w w' g X a n c l :=
  ⟨h.t.call0 hb, h.rd.below hb, h.r.call0 hb, h.b.trans (hb.mono h.b.size)⟩
theorem PwS.new {w wr : World} {X : TabP} {a : Option Addr} {n c : Nat} {l : List Int} (hX : TabRd wr X) (hr : Rd wr a n c 1 (intVals l)) (hb : Below w.heap.size w wr) : PwS w (wr.alloc (.cells #[.string ⟨X.name.toArray⟩, .slice X.ca X.cols.length X.cc, .slice X.ia X.ixs.length X.ic, .slice X.ha X.chks.length X.hc] 28)) wr.heap.size X a n c l :=
  ⟨Blk.new rfl rfl, hX.below ((Below.refl _ _).alloc (Nat.le_refl _) _), hr.call0 ((Below.refl _ _).alloc (Nat.le_refl _) _), hb.alloc hb.size _⟩

set_option maxRecDepth 20000 in
set_option maxHeartbeats 4000000 in
theorem pw_walk {a : Option Addr} {n c : Nat} {l : List Int} {w : World} (hr : Rd w a n c 1 (intVals l)) : Calls Try.prog 14 #[.slice a n c] w (RetV (.bool true) w) := by
  have hmx := hr.lenMax
  have HR := Box.mk hr
  clear hr
  go_enter Try.func14, Try.ntmps14
  go_wp2_with fail
  refine (sanity_any w).mono ?_
  rintro e w2 ⟨rfl, hb2⟩
  by_cases hn : n ≤ 200
  · generalize ho : parseT l = o
    have HO := Box.mk ho
    clear ho
    have R2 := Box.mk (And.intro (HR.out.call0 hb2) hb2)
    clear hb2
    go_wp2_with fail
    refine (parse_is R2.out.1 HO.out).mono ?_
    cases o with
    | none =>
      rintro e w3 ⟨hb3, X, rfl, hX, hXt⟩
      have R3 := Box.mk (And.intro (R2.out.1.call0 hb3) (R2.out.2.trans (hb3.mono R2.out.2.size)))
      have HX := Box.mk (And.intro hX hXt)
      clear hb3 hX hXt R2
      unfold TabP.v
      go_wp2_with fail
      have P3 := Box.mk (PwS.new HX.out.1 R3.out.1 R3.out.2)
      clear R3
      refine (same_tabs (X := X) (Y := XN) (HX.out.2.trans rfl) P3.out.rd (XN_rd _)).mono ?_
      rintro e w4 ⟨rfl, hb4⟩
      have P4 := Box.mk (P3.out.step hb4)
      clear hb4 P3
      go_wp2_with fail
      go_ret
      exact ⟨rfl, P4.out.b⟩
    | some T =>
      rintro e w3 ⟨hb3, X, rfl, hX, hXt⟩
      obtain ⟨i1, i2, _⟩ := parseT_inv HO.out
      have hXt2 : X.t = T := hXt
      have HT := Box.mk (And.intro (show checkT X.t = 0 from by rw [hXt2]; exact i1) (show (if checkT X.t = 0 then wordsT X.t else []) = l from by rw [hXt2, if_pos i1]; exact i2))
      have R3 := Box.mk (And.intro (R2.out.1.call0 hb3) (R2.out.2.trans (hb3.mono R2.out.2.size)))
      have P3 := Box.mk (PwS.new hX R3.out.1 R3.out.2)
      clear hb3 hX hXt hXt2 i1 i2 R2 R3
      unfold TabP.v
      have x0 := P3.out.t.cellOf (i := 0) rfl
      have x1 := P3.out.t.cellOf (i := 1) rfl
      have x2 := P3.out.t.cellOf (i := 2) rfl
      have x3 := P3.out.t.cellOf (i := 3) rfl
      go_wp2_with fail
      clear x0 x1 x2 x3
      refine (words_is HT.out.1 HT.out.2 P3.out.rd).mono ?_
      rintro e w4 ⟨hb4, a4, n4, c4, rfl, hrd4⟩
      have P4 := Box.mk (P3.out.step hb4)
      have R4 := Box.mk hrd4
      clear hb4 hrd4 P3
      have x0 := P4.out.t.cellOf (i := 0) rfl
      have x1 := P4.out.t.cellOf (i := 1) rfl
      have x2 := P4.out.t.cellOf (i := 2) rfl
      have x3 := P4.out.t.cellOf (i := 3) rfl
      go_wp2_with fail
      clear x0 x1 x2 x3
      refine (chk_is HT.out.1 P4.out.rd).mono ?_
      rintro e w5 ⟨rfl, hb5⟩
      have P5 := Box.mk (P4.out.step hb5)
      have R5 := Box.mk (R4.out.call0 hb5)
      clear hb5 P4 R4
      go_wp2_with fail
      refine (same_is (d := true) (decide_eq_true rfl) R5.out P5.out.r).mono ?_
      rintro e w6 ⟨rfl, hb6⟩
      have P6 := Box.mk (P5.out.step hb6)
      clear hb6 P5
      go_wp2_with fail
      go_ret
      exact ⟨by first | rfl | simp, P6.out.b⟩
  · go_wp2_with fail
    go_ret
    exact ⟨rfl, hb2⟩
end Go.Proofs.Ytgimkipekoabbaa
