/-
  The walk of the reference's Check. No condition.
-/
import Derived.Test.YtgimkipekoabbaaRCheck
namespace Go.Proofs.Ytgimkipekoabbaa
open Go.RowKit

theorem cols_kinds {l : List Col} (h : colsE l = 0) : ∀ c ∈ l, kindB c.kind = true := by
  intro c hc
  obtain ⟨i, hi, rfl⟩ := List.getElem_of_mem hc
  have := firstE_eq_zero h i hi
  unfold colErr at this
  rw [getD_eq hi] at this
  cases hk : kindB l[i].kind with
  | true => rfl
  | false => rw [hk] at this; split at this <;> (try cases this); split at this <;> (try cases this)

theorem rcols_is {zs : List Col} {v : Int} (h : colsE zs = v) {a : Option Addr} {n cap : Nat} {w : World} (hr : Rd w a n cap 3 (recC Col.enc zs)) :
    Calls Try.prog 50 #[.slice a n cap] w (RetV (.int .i64 v) w) := by
  subst h; exact rcolumns_any zs a n cap w hr
theorem rixs_is {zs : List IxP} {N : Nat} {v : Int} (h : ixsE (zs.map IxP.x) N = v) {a : Option Addr} {n cap : Nat} {w : World} (hr : Rd w a n cap 3 (recC IxP.enc zs)) (hns : ∀ p ∈ zs, Rd w p.a p.x.cols.length p.cap 1 (intVals p.x.cols)) :
    Calls Try.prog 51 #[.slice a n cap, .int .i64 N] w (RetV (.int .i64 v) w) := by
  subst h; exact rindexes_any zs N a n cap w hr hns

set_option maxRecDepth 20000 in
set_option maxHeartbeats 4000000 in
theorem rcheck_any (X : TabP) (w : World) (hr : TabRd w X) : Calls Try.prog 20 #[X.v] w (RetV (.int .i64 (checkT X.t)) w) := by
  generalize hE : checkT X.t = E
  have HE := Box.mk hE
  clear hE
  have T1 := Box.mk (TabIn.start hr)
  have mc := hr.cols.lenMax
  have mi := hr.ixs.lenMax
  have mh := hr.chks.lenMax
  clear hr
  unfold TabP.cs at T1
  unfold TabP.v
  go_enter Try.func20, Try.ntmps20
  go_wp2_with fail
  generalize (w.alloc (.cells #[.string ⟨X.name.toArray⟩, .slice X.ca X.cols.length X.cc, .slice X.ia X.ixs.length X.ic, .slice X.ha X.chks.length X.hc] 28)) = W at *
  generalize hg : w.heap.size = g at *
  cases hn : nameB X.name with
  | false =>
    have hX := HE.out.symm.trans (checkT_name hn)
    subst hX
    refine (rname_is hn _).mono ?_
    rintro e w2 ⟨rfl, hb⟩
    have T2 := Box.mk (T1.out.step hb)
    go_wp2_with fail
    go_ret
    exact ⟨rfl, T2.out.below⟩
  | true =>
    refine (rname_is hn _).mono ?_
    rintro e w2 ⟨rfl, hb⟩
    have T2 := Box.mk (T1.out.step hb)
    have x1 := T2.out.c1
    have HN := Box.mk hn
    clear hb hn T1
    by_cases h0 : X.cols.length = 0 ∨ 8 < X.cols.length
    · have hX := HE.out.symm.trans (checkT_cols HN.out h0)
      subst hX
      rcases h0 with h0 | h0
      · have h00 : ((X.cols.length : Int) == 0) = true := by simp [h0]
        clear h0
        go_wp2_with fail
        go_ret
        exact ⟨rfl, T2.out.below⟩
      · have h00 : ((X.cols.length : Int) == 0) = false := by rw [beq_eq_false_iff_ne]; omega
        go_wp2_with fail
        go_ret
        exact ⟨rfl, T2.out.below⟩
    · have h00 : ((X.cols.length : Int) == 0) = false := by rw [beq_eq_false_iff_ne]; omega
      have h08 : X.cols.length ≤ 8 := by omega
      have H0 := Box.mk h0
      clear h0
      go_wp2_with fail
      generalize hc : colsE X.cols = v
      have HC := Box.mk hc
      clear hc
      refine (rcols_is HC.out T2.out.rd.cols).mono ?_
      rintro e w3 ⟨rfl, hb⟩
      have T3 := Box.mk (T2.out.step hb)
      have x1 := T3.out.c1
      have x2 := T3.out.c2
      clear hb T2
      by_cases hv : v = 0
      · have HV := Box.mk (HC.out.trans hv)
        subst hv
        by_cases hi4 : 4 < X.ixs.length
        · have hX := HE.out.symm.trans (checkT_ixs HN.out H0.out HV.out (by show 4 < (X.ixs.map (·.x)).length; rw [List.length_map]; exact hi4))
          subst hX
          go_wp2_with fail
          go_ret
          exact ⟨rfl, T3.out.below⟩
        have HI4 := Box.mk (show ¬ 4 < (X.ixs.map (·.x)).length by rw [List.length_map]; exact hi4)
        have hi5 : X.ixs.length ≤ 4 := by omega
        clear hi4
        go_wp2_with fail
        generalize hc : ixsE (X.ixs.map IxP.x) X.cols.length = v
        have HI := Box.mk hc
        clear hc
        refine (rixs_is HI.out T3.out.rd.ixs T3.out.rd.nums).mono ?_
        rintro e w4 ⟨rfl, hb⟩
        have T4 := Box.mk (T3.out.step hb)
        have x1 := T4.out.c1
        have x3 := T4.out.c3
        clear hb T3
        by_cases hv : v = 0
        · have HV1 := Box.mk (HI.out.trans hv)
          subst hv
          by_cases hh4 : 4 < X.chks.length
          · have hX := HE.out.symm.trans (checkT_chks HN.out H0.out HV.out HI4.out HV1.out hh4)
            subst hX
            go_wp2_with fail
            go_ret
            exact ⟨rfl, T4.out.below⟩
          have hX := HE.out.symm.trans (checkT_chksE HN.out H0.out HV.out HI4.out HV1.out hh4)
          have HX := Box.mk hX
          have hh5 : X.chks.length ≤ 4 := by omega
          clear hh4 hX
          go_wp2_with fail
          refine (rchecks_any X.chks X.cols _ _ _ _ _ _ _ T4.out.rd.chks T4.out.rd.cols (cols_kinds HV.out)).mono ?_
          rintro e w5 ⟨rfl, hb⟩
          have T5 := Box.mk (T4.out.step hb)
          have hX := HX.out
          change E = chksE X.chks X.cols at hX
          generalize chksE X.chks X.cols = v at *
          subst hX
          go_wp2_with fail
          go_ret
          exact ⟨rfl, T5.out.below⟩
        · have hX := HE.out.symm.trans (checkT_ixsE HN.out H0.out HV.out HI4.out (by show ixsE (X.ixs.map IxP.x) X.cols.length ≠ 0; rw [HI.out]; exact hv))
          have hX2 : E = v := hX.trans HI.out
          subst hX2
          have hvv : (E != 0) = true := by simp [hv]
          clear hX
          go_wp2_with fail
          go_ret
          exact ⟨rfl, T4.out.below⟩
      · have hX := HE.out.symm.trans (checkT_colsE HN.out H0.out (by show colsE X.cols ≠ 0; rw [HC.out]; exact hv))
        have hX2 : E = v := hX.trans HC.out
        subst hX2
        have hvv : (E != 0) = true := by simp [hv]
        clear hX
        go_wp2_with fail
        go_ret
        exact ⟨rfl, T3.out.below⟩
end Go.Proofs.Ytgimkipekoabbaa
