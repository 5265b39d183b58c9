/-
  The walk of schema.Check. No condition.
-/
import Derived.Test.YtpgdfhncigmmbaaB20
namespace Go.Proofs.Ytpgdfhncigmmbaa
open Go.RowKit

set_option maxRecDepth 20000 in
set_option maxHeartbeats 8000000 in
theorem check_any (X : TabP) (w : World) (hr : TabRd w X) : Calls Try.prog 54 #[X.v] w (RetV (.int .i64 (checkT X.t)) w) := by
  generalize hE : checkT X.t = E
  have HE := Box.mk hE
  clear hE
  have T1 := Box.mk (TabIn.start hr)
  have mc := hr.cols.lenMax
  have mi := hr.ixs.lenMax
  have mh := hr.chks.lenMax
  clear hr
  unfold TabP.cs at T1
  unfold TabP.v
  go_enter Try.func54, Try.ntmps54
  go_wp2_with fail
  generalize (w.alloc (.cells #[.string ⟨X.name.toArray⟩, .slice X.ca X.cols.length X.cc, .slice X.ia X.ixs.length X.ic, .slice X.ha X.chks.length X.hc] 26)) = W at *
  generalize hg : w.heap.size = g at *
  cases hn : nameB X.name with
  | false =>
    have hX := HE.out.symm.trans (checkT_name hn)
    subst hX
    refine (name_is hn _).mono ?_
    rintro e w2 ⟨rfl, hb⟩
    have T2 := Box.mk (T1.out.step hb)
    go_wp2_with fail
    go_ret
    exact ⟨rfl, T2.out.below⟩
  | true =>
    refine (name_is hn _).mono ?_
    rintro e w2 ⟨rfl, hb⟩
    have T2 := Box.mk (T1.out.step hb)
    have x1 := T2.out.c1
    have HN := Box.mk hn
    clear hb hn T1
    by_cases h0 : X.cols.length = 0 ∨ 8 < X.cols.length
    · have hX := HE.out.symm.trans (checkT_cols HN.out h0)
      subst hX
      rcases h0 with h0 | h0
      · have h00 : ((X.cols.length : Int) == 0) = true := by simp [h0]
        clear h0
        go_wp2_with fail
        go_ret
        exact ⟨rfl, T2.out.below⟩
      · have h00 : ((X.cols.length : Int) == 0) = false := by rw [beq_eq_false_iff_ne]; omega
        go_wp2_with fail
        go_ret
        exact ⟨rfl, T2.out.below⟩
    · have h00 : ((X.cols.length : Int) == 0) = false := by rw [beq_eq_false_iff_ne]; omega
      have h08 : X.cols.length ≤ 8 := by omega
      have H0 := Box.mk h0
      clear h0
      go_wp2_with fail
      go_loopw [28] (fun i wr => ∃ k : Nat, k ≤ X.cols.length ∧ i = .int .i64 k ∧ Box (∀ j, j < k → colErr X.cols j = 0) ∧ Box (TabIn w wr g X)) (fun i _ => X.cols.length - (intOf i).toNat)
      case atStart => exact ⟨0, Nat.zero_le _, rfl, ⟨fun j h => by omega⟩, T2⟩
      case round =>
        obtain ⟨k, hk, rfl, HZ, TR⟩ := hrel
        clear x1 T2 h00
        by_cases hlt : k < X.cols.length
        · obtain ⟨b, off, hca, hgb, hc⟩ := TR.out.rd.cols.recAt Col.enc_len (by omega) k hlt
          have r1 := TR.out.c1
          rw [hca] at r1 ⊢
          have HCA := Box.mk hca
          have HHIT := Box.mk (fun (v : Int) (hv : colErr X.cols k = v) (h0 : v ≠ 0) => show E = v from by
            have h1 : colsE X.cols = v := by rw [← hv]; exact firstE_hit HZ.out hlt (by rw [hv]; exact h0)
            rw [← HE.out, ← h1]; exact checkT_colsE (T := X.t) HN.out H0.out (by show colsE X.cols ≠ 0; rw [h1]; exact h0))
          have RC := Box.mk (fun (w' : World) (T : TabIn w w' g X) => T.rd.cols)
          rw [hca] at RC
          generalize hy : X.cols.getD k default = y at *
          have HY := Box.mk hy
          clear hy hca
          obtain ⟨yn, yk, yu⟩ := y
          have c0 := hc 0 _ rfl
          have c1 := hc 1 _ rfl
          have c2 := hc 2 _ rfl
          simp only [Nat.add_zero] at c0 c1 c2
          have TA := Box.mk (TR.out.alloc (.cells #[.string ⟨yn.toArray⟩, .int .i64 yk, .bool yu] 55))
          have ba := Blk.new (w := wr) (k := wr.heap.size) (ty := 55) (cs := [.string ⟨yn.toArray⟩, .int .i64 yk, .bool yu]) rfl rfl
          clear hc hgb
          go_wp2_with fail
          generalize (wr.alloc (.cells #[.string ⟨yn.toArray⟩, .int .i64 yk, .bool yu] 55)) = wa at *
          generalize wr.heap.size = gy at *
          clear r1 c0 c1 c2 TR
          cases hn : nameB yn with
          | false =>
            have hX := HHIT.out _ (colErr_name HY.out hn) (by decide)
            subst hX
            refine (name_is hn _).mono ?_
            rintro e w3 ⟨rfl, hb⟩
            have T3 := Box.mk (TA.out.step hb)
            go_wp2_with fail
            go_ret
            exact ⟨rfl, T3.out.below⟩
          | true =>
            refine (name_is hn _).mono ?_
            rintro e w3 ⟨rfl, hb⟩
            have T3 := Box.mk (TA.out.step hb)
            replace ba := ba.call0 hb
            have r1 := T3.out.c1
            rw [HCA.out] at r1
            clear hb TA
            have HN2 := Box.mk hn
            clear hn
            cases ht : colTwice X.cols k with
            | true =>
              have hX := HHIT.out _ (colErr_twice HY.out HN2.out ht) (by decide)
              subst hX
              have hcall := Box.mk (crep_is ht (RC.out _ T3.out) hlt)
              clear ht
              go_wp2_with fail
              refine hcall.out.mono ?_
              rintro e w4 ⟨rfl, hb⟩
              have T4 := Box.mk (T3.out.step hb)
              go_wp2_with fail
              go_ret
              exact ⟨rfl, T4.out.below⟩
            | false =>
              have HT := Box.mk ht
              have hcall := Box.mk (crep_is ht (RC.out _ T3.out) hlt)
              clear ht
              go_wp2_with fail
              refine hcall.out.mono ?_
              rintro e w4 ⟨rfl, hb⟩
              have T4 := Box.mk (T3.out.step hb)
              replace ba := ba.call0 hb
              have y1 := ba.cellOf (i := 1) rfl
              clear hb hcall r1 T3 ba
              cases hk3 : kindB yk with
              | false =>
                have hX := HHIT.out _ (colErr_kind HY.out HN2.out HT.out hk3) (by decide)
                subst hX
                have hk4 : yk < 1 ∨ 3 < yk := by unfold kindB at hk3; simp at hk3; omega
                clear hk3
                rcases hk4 with hk4 | hk4
                · go_wp2_with fail
                  go_ret
                  exact ⟨rfl, T4.out.below⟩
                · have hk5 : ¬ yk < 1 := by omega
                  go_wp2_with fail
                  go_ret
                  exact ⟨rfl, T4.out.below⟩
              | true =>
                have HZ2 := Box.mk (all_succ HZ.out (colErr_ok HY.out HN2.out HT.out hk3))
                have hk4 : 1 ≤ yk ∧ yk ≤ 3 := by unfold kindB at hk3; simpa using hk3
                clear hk3
                obtain ⟨hk4, hk5⟩ := hk4
                go_wp2_with fail
                go_roundw
                case rel => exact ⟨k + 1, by omega, by go_num, HZ2, T4⟩
                case measure => simp [intOf]; omega
        · have hX0 := Box.mk (show colsE X.cols = 0 from firstE_zero (fun j hj => HZ.out j (by omega)))
          have x1 := TR.out.c2
          clear HZ
          by_cases hi4 : 4 < X.ixs.length
          · have hX := HE.out.symm.trans (checkT_ixs HN.out H0.out hX0.out (by show 4 < (X.ixs.map (·.x)).length; rw [List.length_map]; exact hi4))
            subst hX
            go_wp2_with fail
            go_ret
            exact ⟨rfl, TR.out.below⟩
          have HI4 := Box.mk (show ¬ 4 < (X.ixs.map (·.x)).length by rw [List.length_map]; exact hi4)
          have hi5 : X.ixs.length ≤ 4 := by omega
          clear hi4
          go_wp2_with fail
          have hk0 := Box.mk hlt
          clear hlt x1 hk
          go_loopw [60] (fun i wr => ∃ k : Nat, k ≤ X.ixs.length ∧ i = .int .i64 k ∧ Box (∀ j, j < k → ixErr (X.ixs.map (·.x)) X.cols.length j = 0) ∧ Box (TabIn w wr g X)) (fun i _ => X.ixs.length - (intOf i).toNat)
          case atStart => exact ⟨0, Nat.zero_le _, rfl, ⟨fun j h => by omega⟩, TR⟩
          case round =>
            clear TR hk0
            obtain ⟨k, hk, rfl, HZ, TR⟩ := hrel
            by_cases hlt : k < X.ixs.length
            · obtain ⟨b, off, hca, hgb, hc⟩ := TR.out.rd.ixs.recAt IxP.enc_len (by omega) k hlt
              have r1 := TR.out.c2
              rw [hca] at r1 ⊢
              have HCA := Box.mk hca
              have HHIT := Box.mk (fun (v : Int) (hv : ixErr (X.ixs.map (·.x)) X.cols.length k = v) (h0 : v ≠ 0) => show E = v from by
                have h1 : ixsE (X.ixs.map (·.x)) X.cols.length = v := by rw [← hv]; exact firstE_hit HZ.out (by rw [List.length_map]; exact hlt) (by rw [hv]; exact h0)
                rw [← HE.out, ← h1]; exact checkT_ixsE (T := X.t) HN.out H0.out hX0.out HI4.out (by show ixsE (X.ixs.map (·.x)) X.cols.length ≠ 0; rw [h1]; exact h0))
              have RC := Box.mk (fun (w' : World) (T : TabIn w w' g X) => T.rd.ixs)
              rw [hca] at RC
              have RN := Box.mk (fun (w' : World) (T : TabIn w w' g X) => T.rd.nums _ (getD_mem hlt))
              have hxx := getD_map_x X.ixs k
              generalize hy : X.ixs.getD k default = y at *
              clear hy hca
              obtain ⟨⟨yn, yc, yu⟩, ya, yp⟩ := y
              have HY := Box.mk hxx
              clear hxx
              have c0 := hc 0 _ rfl
              have c1 := hc 1 _ rfl
              have c2 := hc 2 _ rfl
              simp only [Nat.add_zero] at c0 c1 c2 RN HY
              have mn := (RN.out _ TR.out).lenMax
              have TA := Box.mk (TR.out.alloc (.cells #[.string ⟨yn.toArray⟩, .slice ya yc.length yp, .bool yu] 91))
              have ba := Blk.new (w := wr) (k := wr.heap.size) (ty := 91) (cs := [.string ⟨yn.toArray⟩, .slice ya yc.length yp, .bool yu]) rfl rfl
              clear hc hgb
              go_wp2_with fail
              generalize (wr.alloc (.cells #[.string ⟨yn.toArray⟩, .slice ya yc.length yp, .bool yu] 91)) = wa at *
              generalize wr.heap.size = gy at *
              clear r1 c0 c1 c2 TR
              cases hn : nameB yn with
              | false =>
                have hX := HHIT.out _ (ixErr_name HY.out hn) (by decide)
                subst hX
                refine (name_is hn _).mono ?_
                rintro e w3 ⟨rfl, hb⟩
                have T3 := Box.mk (TA.out.step hb)
                go_wp2_with fail
                go_ret
                exact ⟨rfl, T3.out.below⟩
              | true =>
                refine (name_is hn _).mono ?_
                rintro e w3 ⟨rfl, hb⟩
                have T3 := Box.mk (TA.out.step hb)
                replace ba := ba.call0 hb
                have r1 := T3.out.c2
                rw [HCA.out] at r1
                clear hb TA
                have HN2 := Box.mk hn
                clear hn
                cases ht : ixTwice (X.ixs.map (·.x)) k with
                | true =>
                  have hX := HHIT.out _ (ixErr_twice HY.out HN2.out ht) (by decide)
                  subst hX
                  have hcall := Box.mk (irep_is ht (RC.out _ T3.out) hlt)
                  clear ht
                  go_wp2_with fail
                  refine hcall.out.mono ?_
                  rintro e w4 ⟨rfl, hb⟩
                  have T4 := Box.mk (T3.out.step hb)
                  go_wp2_with fail
                  go_ret
                  exact ⟨rfl, T4.out.below⟩
                | false =>
                  have HT := Box.mk ht
                  have hcall := Box.mk (irep_is ht (RC.out _ T3.out) hlt)
                  clear ht
                  go_wp2_with fail
                  refine hcall.out.mono ?_
                  rintro e w4 ⟨rfl, hb⟩
                  have T4 := Box.mk (T3.out.step hb)
                  replace ba := ba.call0 hb
                  have y1 := ba.cellOf (i := 1) rfl
                  have t1 := T4.out.c1
                  clear hb hcall r1 T3
                  have HPL := Box.mk (fun (h3 : placesB yc X.cols.length = false) => HHIT.out _ (ixErr_place HY.out HN2.out HT.out h3) (by decide))
                  by_cases hz0 : yc.length = 0
                  · have hX := HPL.out (placesB_nil hz0)
                    subst hX
                    have h00 : ((yc.length : Int) == 0) = true := by simp [hz0]
                    clear hz0
                    go_wp2_with fail
                    go_ret
                    exact ⟨rfl, T4.out.below⟩
                  have h00 : ((yc.length : Int) == 0) = false := by rw [beq_eq_false_iff_ne]; omega
                  have hz1 : 0 < yc.length := by omega
                  clear hz0
                  by_cases hz2 : X.cols.length < yc.length
                  · have hX := HPL.out (placesB_long hz2)
                    subst hX
                    go_wp2_with fail
                    go_ret
                    exact ⟨rfl, T4.out.below⟩
                  have hz3 : yc.length ≤ X.cols.length := by omega
                  have hz4 : decide (X.cols.length < yc.length) = false := decide_eq_false (by omega)
                  clear hz2
                  go_wp2_with fail
                  have RY := Box.mk (RN.out _ T4.out)
                  have HPOK := Box.mk (fun (h3 : placesB yc X.cols.length = true) => all_succ HZ.out (ixErr_ok HY.out HN2.out HT.out h3))
                  have BA := Box.mk ba
                  clear RN HZ HY HN2 HT HHIT h00 ba y1 t1
                  go_loopw [92] (fun i wr => ∃ j : Nat, j ≤ yc.length ∧ i = .int .i64 j ∧ Box (∀ m, m < j → placeErr yc X.cols.length m = 0) ∧ wr = w4) (fun i _ => yc.length - (intOf i).toNat)
                  case atStart => exact ⟨0, Nat.zero_le _, rfl, ⟨fun j h => by omega⟩, rfl⟩
                  case round =>
                    obtain ⟨j, hj, rfl, HJ, rfl⟩ := hrel
                    have y1 := BA.out.cellOf (i := 1) rfl
                    have t1 := T4.out.c1
                    by_cases hlj : j < yc.length
                    · obtain ⟨gn, on, hya, hcn⟩ := RY.out.intAtD j hlj
                      have hpre := (RY.out.pre j (by omega))
                      rw [← intVals_take] at hpre
                      have HCC := Box.mk (fun x => contains_any (yc.take j) x ya j yp _ hpre)
                      have hcap := RY.out.hcap
                      rw [hya] at y1 HCC ⊢
                      clear hpre hya
                      generalize hv : yc.getD j 0 = v at *
                      have HV := Box.mk hv
                      clear hv
                      by_cases v0 : v < 0
                      · have hX := HPL.out (placesB_hit HJ.out hlj (by rw [placeErr_neg HV.out v0]; decide))
                        subst hX
                        go_wp2_with fail
                        go_ret
                        exact ⟨rfl, T4.out.below⟩
                      by_cases v1 : (X.cols.length : Int) ≤ v
                      · have hX := HPL.out (placesB_hit HJ.out hlj (by rw [placeErr_far HV.out v1]; decide))
                        subst hX
                        go_wp2_with fail
                        go_ret
                        exact ⟨rfl, T4.out.below⟩
                      have v2 : v < (X.cols.length : Int) := by omega
                      have v3 : 0 ≤ v := by omega
                      clear v1
                      cases hm : decide (v ∈ yc.take j) with
                      | true =>
                        have hX := HPL.out (placesB_hit HJ.out hlj (by rw [placeErr_mem HV.out hm]; decide))
                        subst hX
                        have HC2 := HCC.out v
                        rw [hm] at HC2
                        clear hm HCC
                        go_wp2_with fail
                        refine HC2.mono ?_
                        rintro e w5 ⟨rfl, rfl⟩
                        clear HC2
                        go_wp2_with fail
                        go_ret
                        exact ⟨rfl, T4.out.below⟩
                      | false =>
                        have HJ2 := Box.mk (all_succ HJ.out (placeErr_ok HV.out v3 v2 hm))
                        have HC2 := HCC.out v
                        rw [hm] at HC2
                        clear hm HCC
                        go_wp2_with fail
                        refine HC2.mono ?_
                        rintro e w5 ⟨rfl, rfl⟩
                        clear HC2
                        go_wp2_with fail
                        go_roundw
                        case rel => exact ⟨j + 1, by omega, by go_num, HJ2, trivial⟩
                        case measure => simp [intOf]; omega
                    · have HZ2 := Box.mk (HPOK.out (placesB_all hz1 (fun m hm => HJ.out m (by omega))))
                      go_wp2_with fail
                      go_roundw
                      case rel => exact ⟨k + 1, by omega, by go_num, HZ2, T4⟩
                      case measure => simp [intOf]; omega
            · have hX1 := Box.mk (show ixsE (X.ixs.map (·.x)) X.cols.length = 0 from firstE_zero (fun j hj => HZ.out j (by rw [List.length_map] at hj; omega)))
              have x1 := TR.out.c3
              clear HZ
              by_cases hh4 : 4 < X.chks.length
              · have hX := HE.out.symm.trans (checkT_chks HN.out H0.out hX0.out HI4.out hX1.out hh4)
                subst hX
                go_wp2_with fail
                go_ret
                exact ⟨rfl, TR.out.below⟩
              have HH4 := Box.mk hh4
              have hh5 : X.chks.length ≤ 4 := by omega
              clear hh4
              go_wp2_with fail
              have hk0 := Box.mk hlt
              clear hlt x1 hk
              go_loopw [123] (fun i wr => ∃ k : Nat, k ≤ X.chks.length ∧ i = .int .i64 k ∧ Box (∀ j, j < k → chkErr X.chks X.cols j = 0) ∧ Box (TabIn w wr g X)) (fun i _ => X.chks.length - (intOf i).toNat)
              case atStart => exact ⟨0, Nat.zero_le _, rfl, ⟨fun j h => by omega⟩, TR⟩
              case round =>
                clear TR hk0
                obtain ⟨k, hk, rfl, HZ, TR⟩ := hrel
                by_cases hlt : k < X.chks.length
                · obtain ⟨b, off, hca, hgb, hc⟩ := TR.out.rd.chks.recAt Chk.enc_len (by omega) k hlt
                  rw [hca]
                  have HHIT := Box.mk (fun (v : Int) (hv : chkErr X.chks X.cols k = v) (h0 : v ≠ 0) => show E = v from by
                    have h1 : chksE X.chks X.cols = v := by rw [← hv]; exact firstE_hit HZ.out hlt (by rw [hv]; exact h0)
                    rw [← HE.out, ← h1]; exact checkT_chksE (T := X.t) HN.out H0.out hX0.out HI4.out hX1.out HH4.out)
                  generalize hy : X.chks.getD k default = y at *
                  have HY := Box.mk hy
                  clear hy hca
                  obtain ⟨yc, yo, yk, yn, ys⟩ := y
                  have c0 := hc 0 _ rfl
                  have c1 := hc 1 _ rfl
                  have c2 := hc 2 _ rfl
                  have c3 := hc 3 _ rfl
                  have c4 := hc 4 _ rfl
                  simp only [Nat.add_zero] at c0 c1 c2 c3 c4
                  have TA := Box.mk (TR.out.alloc (.cells #[.int .i64 yc, .int .i64 yo, .int .i64 yk, .int .i64 yn, .string ⟨ys.toArray⟩] 86))
                  have ba := Blk.new (w := wr) (k := wr.heap.size) (ty := 86) (cs := [.int .i64 yc, .int .i64 yo, .int .i64 yk, .int .i64 yn, .string ⟨ys.toArray⟩]) rfl rfl
                  have y0 := ba.cellOf (i := 0) rfl
                  have y1 := ba.cellOf (i := 1) rfl
                  have t1 := TA.out.c1
                  clear hc hgb
                  have hch : Box (chkPlaceB ⟨yc, yo, ⟨yk, yn, ys⟩⟩ X.cols.length = false → E = 1) := ⟨fun h => HHIT.out _ (chkErr_place HY.out h) (by decide)⟩
                  by_cases p0 : yc < 0
                  · have hX := hch.out (by unfold chkPlaceB; exact decide_eq_false (fun h => by simp only at h; omega))
                    subst hX
                    go_wp2_with fail
                    go_ret
                    exact ⟨rfl, TA.out.below⟩
                  by_cases p1 : (X.cols.length : Int) ≤ yc
                  · have hX := hch.out (by unfold chkPlaceB; exact decide_eq_false (fun h => by simp only at h; omega))
                    subst hX
                    go_wp2_with fail
                    go_ret
                    exact ⟨rfl, TA.out.below⟩
                  have p1' : yc < (X.cols.length : Int) := by omega
                  by_cases p2 : yo < 6
                  · have hX := hch.out (by unfold chkPlaceB; exact decide_eq_false (fun h => by simp only at h; omega))
                    subst hX
                    go_wp2_with fail
                    go_ret
                    exact ⟨rfl, TA.out.below⟩
                  by_cases p3 : 11 < yo
                  · have hX := hch.out (by unfold chkPlaceB; exact decide_eq_false (fun h => by simp only at h; omega))
                    subst hX
                    go_wp2_with fail
                    go_ret
                    exact ⟨rfl, TA.out.below⟩
                  have HPL := Box.mk (show chkPlaceB ⟨yc, yo, ⟨yk, yn, ys⟩⟩ X.cols.length = true from by unfold chkPlaceB; exact decide_eq_true ⟨by simp only; omega, by simp only; omega, by simp only; omega, by simp only; omega⟩)
                  obtain ⟨q, rfl⟩ := Int.eq_ofNat_of_zero_le (show 0 ≤ yc by omega)
                  have hq : q < X.cols.length := by omega
                  obtain ⟨b2, off2, hca2, hgb2, hcc⟩ := TA.out.rd.cols.recAt Col.enc_len (by omega) q hq
                  have HTY := Box.mk (show chkTypeB ⟨q, yo, ⟨yk, yn, ys⟩⟩ X.cols = (validB ⟨yk, yn, ys⟩ && decide (yk = (X.cols.getD q default).kind)) from rfl)
                  have HTF := Box.mk (fun (h : chkTypeB ⟨q, yo, ⟨yk, yn, ys⟩⟩ X.cols = false) => HHIT.out _ (chkErr_type HY.out HPL.out h) (by decide))
                  have HTT := Box.mk (fun (h : chkTypeB ⟨q, yo, ⟨yk, yn, ys⟩⟩ X.cols = true) => all_succ HZ.out (chkErr_ok HY.out HPL.out h))
                  have HCK : Box (∀ w', TabIn w w' g X → w'.cell? ⟨b2, off2 + q * 3 + 1, none⟩ = some (.int .i64 (X.cols.getD q default).kind)) := ⟨fun w' T => by
                    obtain ⟨b3, off3, hca3, _, hcc3⟩ := T.rd.cols.recAt Col.enc_len (by omega) q hq
                    rw [hca2] at hca3
                    cases hca3
                    exact hcc3 1 _ rfl⟩
                  generalize (X.cols.getD q default).kind = ck at *
                  have HCA2 := Box.mk hca2
                  clear hca2
                  clear hcc hch HHIT HZ HY HPL p0 p1 hgb2
                  go_wp2_with fail
                  rw [HCA2.out] at t1
                  have HC1 : Box (∀ w', TabIn w w' g X → w'.cell? ⟨g, 1, none⟩ = some (.slice (some ⟨b2, off2, none⟩) X.cols.length X.cc)) := ⟨fun w' T => by rw [← HCA2.out]; exact T.c1⟩
                  generalize (wr.alloc (.cells #[.int .i64 q, .int .i64 yo, .int .i64 yk, .int .i64 yn, .string ⟨ys.toArray⟩] 86)) = wa at *
                  generalize wr.heap.size = gy at *
                  clear c0 c1 c2 c3 c4 TR t1 y0 y1
                  have HS0 : TabIn w wa.drew g X ∧ Blk wa.drew gy 86 [.int .i64 q, .int .i64 yo, .int .i64 yk, .int .i64 yn, .string ⟨ys.toArray⟩] := ⟨TA.out.drewN 1, ba.drew⟩
                  clear ba TA
                  cases hv : validB ⟨yk, yn, ys⟩ with
                  | false =>
                    have hX := HTF.out (by rw [HTY.out, hv]; rfl)
                    subst hX
                    have HV := Box.mk (fun w => valid_is hv w)
                    clear hv
                    refine wp_region_held_drew (S := fun w' => TabIn w w' g X ∧ Blk w' gy 86 [.int .i64 q, .int .i64 yo, .int .i64 yk, .int .i64 yn, .string ⟨ys.toArray⟩]) (by kernel_rfl) HS0 (fun _ => ?_)
                    refine wpAnyH_take (i := 0) (v := ?_) rfl (by kernel_rfl) (by kernel_rfl) (by kernel_rfl) (fun _ _ _ h => h) (yieldsIf_val (by rfl) (fun w' hS => ?_)) HS0 ?_
                    rotate_left
                    · skip
                      go_simp
                      all_goals with_reducible rfl
                    conv =>
                      arg 8
                      simp [go_sem]
                    refine wpAnyH_take (i := 1) (v := ?_) rfl (by kernel_rfl) (by kernel_rfl) (by kernel_rfl) (fun _ _ _ h => h) (yieldsIf_val (by rfl) (fun w' hS => ?_)) HS0 ?_
                    rotate_left
                    · skip
                      have e2 := hS.2.cellOf (i := 2) rfl
                      have e3 := hS.2.cellOf (i := 3) rfl
                      have e4 := hS.2.cellOf (i := 4) rfl
                      go_simp
                      all_goals with_reducible rfl
                    conv =>
                      arg 8
                      simp [go_sem]
                    refine wpAnyH_ready (rs := [2]) (by kernel_rfl) (by simp) (AllReadyH.cons rfl (fun K' hK' => oper_call (by rfl) 55 [.tmp 149] #[59] rfl (vs := [.agg #[.int .i64 yk, .int .i64 yn, .string ⟨ys.toArray⟩]]) rfl Try.func55 nm_valid bd_valid (HV.out _) ?_) AllReadyH.nil)
                    rintro e w5 ⟨rfl, hb5⟩
                    have HS1 := And.intro (HS0.1.step hb5) (HS0.2.call0 hb5)
                    refine ⟨_, rfl, hK'.out _ _ HS1 (fun _ => ?_)⟩
                    clear hK' K'
                    conv =>
                      arg 8
                      simp [go_sem]
                    refine wpAnyH_take (i := 3) (v := ?_) rfl (by kernel_rfl) (by kernel_rfl) (by kernel_rfl) (fun _ _ _ h => h) (yieldsIf_val (by rfl) (fun w' hS => ?_)) HS1 ?_
                    rotate_left
                    · skip
                      go_simp
                      all_goals with_reducible rfl
                    conv =>
                      arg 8
                      simp [go_sem]
                    refine wpAnyH_take (i := 4) (v := ?_) rfl (by kernel_rfl) (by kernel_rfl) (by kernel_rfl) (fun _ _ _ h => h) (yieldsIf_val (by rfl) (fun w' hS => ?_)) HS1 ?_
                    rotate_left
                    · skip
                      go_simp
                      all_goals with_reducible rfl
                    conv =>
                      arg 8
                      simp [go_sem]
                    refine wpAnyH_take (i := 5) (v := undef) rfl (by kernel_rfl) (by kernel_rfl) (by kernel_rfl) (fun _ _ _ h => h) (Or.inr ⟨by rfl, rfl⟩) HS1 ?_
                    conv =>
                      arg 8
                      simp [go_sem]
                    refine wpAnyH_take (i := 6) (v := undef) rfl (by kernel_rfl) (by kernel_rfl) (by kernel_rfl) (fun _ _ _ h => h) (Or.inr ⟨by rfl, rfl⟩) HS1 ?_
                    conv =>
                      arg 8
                      simp [go_sem]
                    refine wpAnyH_take (i := 7) (v := undef) rfl (by kernel_rfl) (by kernel_rfl) (by kernel_rfl) (fun _ _ _ h => h) (Or.inr ⟨by rfl, rfl⟩) HS1 ?_
                    conv =>
                      arg 8
                      simp [go_sem]
                    refine wpAnyH_take (i := 8) (v := undef) rfl (by kernel_rfl) (by kernel_rfl) (by kernel_rfl) (fun _ _ _ h => h) (Or.inr ⟨by rfl, rfl⟩) HS1 ?_
                    conv =>
                      arg 8
                      simp [go_sem]
                    refine wpAnyH_take (i := 9) (v := undef) rfl (by kernel_rfl) (by kernel_rfl) (by kernel_rfl) (fun _ _ _ h => h) (Or.inr ⟨by rfl, rfl⟩) HS1 ?_
                    conv =>
                      arg 8
                      simp [go_sem]
                    refine wpAnyH_take (i := 10) (v := undef) rfl (by kernel_rfl) (by kernel_rfl) (by kernel_rfl) (fun _ _ _ h => h) (Or.inr ⟨by rfl, rfl⟩) HS1 ?_
                    conv =>
                      arg 8
                      simp [go_sem]
                    refine wpAnyH_take (i := 11) (v := undef) rfl (by kernel_rfl) (by kernel_rfl) (by kernel_rfl) (fun _ _ _ h => h) (Or.inr ⟨by rfl, rfl⟩) HS1 ?_
                    conv =>
                      arg 8
                      simp [go_sem]
                    refine wpAnyH_take (i := 12) (v := undef) rfl (by kernel_rfl) (by kernel_rfl) (by kernel_rfl) (fun _ _ _ h => h) (Or.inr ⟨by rfl, rfl⟩) HS1 ?_
                    conv =>
                      arg 8
                      simp [go_sem]
                    refine wpAnyH_take (i := 13) (v := undef) rfl (by kernel_rfl) (by kernel_rfl) (by kernel_rfl) (fun _ _ _ h => h) (Or.inr ⟨by rfl, rfl⟩) HS1 ?_
                    conv =>
                      arg 8
                      simp [go_sem]
                    refine wpAnyH_take (i := 14) (v := undef) rfl (by kernel_rfl) (by kernel_rfl) (by kernel_rfl) (fun _ _ _ h => h) (Or.inr ⟨by rfl, rfl⟩) HS1 ?_
                    conv =>
                      arg 8
                      simp [go_sem]
                    refine wpAnyH_take (i := 15) (v := undef) rfl (by kernel_rfl) (by kernel_rfl) (by kernel_rfl) (fun _ _ _ h => h) (Or.inr ⟨by rfl, rfl⟩) HS1 ?_
                    conv =>
                      arg 8
                      simp [go_sem]
                    refine wpAnyH_take (i := 16) (v := ?_) rfl (by kernel_rfl) (by kernel_rfl) (by kernel_rfl) (fun _ _ _ h => h) (yieldsIf_val (by rfl) (fun w' hS => ?_)) HS1 ?_
                    rotate_left
                    · skip
                      go_simp
                      all_goals with_reducible rfl
                    refine ⟨by kernel_rfl, ?_⟩
                    conv =>
                      arg 5
                      simp [go_sem]
                    go_wp2_with fail
                    go_ret
                    exact ⟨rfl, HS1.1.below⟩
                  | true =>
                    have HV := Box.mk (fun w => valid_is hv w)
                    by_cases hck : yk = ck
                    · have HT2 := Box.mk (HTT.out (by rw [HTY.out, hv, decide_eq_true hck]; rfl))
                      have hkk : (yk != ck) = false := by simp [hck]
                      clear hck hv
                      refine wp_region_held_drew (S := fun w' => TabIn w w' g X ∧ Blk w' gy 86 [.int .i64 q, .int .i64 yo, .int .i64 yk, .int .i64 yn, .string ⟨ys.toArray⟩]) (by kernel_rfl) HS0 (fun _ => ?_)
                      refine wpAnyH_take (i := 0) (v := ?_) rfl (by kernel_rfl) (by kernel_rfl) (by kernel_rfl) (fun _ _ _ h => h) (yieldsIf_val (by rfl) (fun w' hS => ?_)) HS0 ?_
                      rotate_left
                      · skip
                        go_simp
                        all_goals with_reducible rfl
                      conv =>
                        arg 8
                        simp [go_sem]
                      refine wpAnyH_take (i := 1) (v := ?_) rfl (by kernel_rfl) (by kernel_rfl) (by kernel_rfl) (fun _ _ _ h => h) (yieldsIf_val (by rfl) (fun w' hS => ?_)) HS0 ?_
                      rotate_left
                      · skip
                        have e2 := hS.2.cellOf (i := 2) rfl
                        have e3 := hS.2.cellOf (i := 3) rfl
                        have e4 := hS.2.cellOf (i := 4) rfl
                        go_simp
                        all_goals with_reducible rfl
                      conv =>
                        arg 8
                        simp [go_sem]
                      refine wpAnyH_ready (rs := [2]) (by kernel_rfl) (by simp) (AllReadyH.cons rfl (fun K' hK' => oper_call (by rfl) 55 [.tmp 149] #[59] rfl (vs := [.agg #[.int .i64 yk, .int .i64 yn, .string ⟨ys.toArray⟩]]) rfl Try.func55 nm_valid bd_valid (HV.out _) ?_) AllReadyH.nil)
                      rintro e w5 ⟨rfl, hb5⟩
                      have HS1 := And.intro (HS0.1.step hb5) (HS0.2.call0 hb5)
                      refine ⟨_, rfl, hK'.out _ _ HS1 (fun _ => ?_)⟩
                      clear hK' K'
                      conv =>
                        arg 8
                        simp [go_sem]
                      refine wpAnyH_take (i := 3) (v := ?_) rfl (by kernel_rfl) (by kernel_rfl) (by kernel_rfl) (fun _ _ _ h => h) (yieldsIf_val (by rfl) (fun w' hS => ?_)) HS1 ?_
                      rotate_left
                      · skip
                        go_simp
                        all_goals with_reducible rfl
                      conv =>
                        arg 8
                        simp [go_sem]
                      refine wpAnyH_take (i := 4) (v := ?_) rfl (by kernel_rfl) (by kernel_rfl) (by kernel_rfl) (fun _ _ _ h => h) (yieldsIf_val (by rfl) (fun w' hS => ?_)) HS1 ?_
                      rotate_left
                      · skip
                        go_simp
                        all_goals with_reducible rfl
                      conv =>
                        arg 8
                        simp [go_sem]
                      refine wpAnyH_take (i := 5) (v := ?_) rfl (by kernel_rfl) (by kernel_rfl) (by kernel_rfl) (fun _ _ _ h => h) (yieldsIf_val (by rfl) (fun w' hS => ?_)) HS1 ?_
                      rotate_left
                      · skip
                        go_simp
                        all_goals with_reducible rfl
                      conv =>
                        arg 8
                        simp [go_sem]
                      refine wpAnyH_take (i := 6) (v := ?_) rfl (by kernel_rfl) (by kernel_rfl) (by kernel_rfl) (fun _ _ _ h => h) (yieldsIf_val (by rfl) (fun w' hS => ?_)) HS1 ?_
                      rotate_left
                      · skip
                        go_simp
                        all_goals with_reducible rfl
                      conv =>
                        arg 8
                        simp [go_sem]
                      refine wpAnyH_take (i := 7) (v := ?_) rfl (by kernel_rfl) (by kernel_rfl) (by kernel_rfl) (fun _ _ _ h => h) (yieldsIf_val (by rfl) (fun w' hS => ?_)) HS1 ?_
                      rotate_left
                      · skip
                        have e := hS.2.cellOf (i := 2) rfl
                        go_simp
                        all_goals with_reducible rfl
                      conv =>
                        arg 8
                        simp [go_sem]
                      refine wpAnyH_take (i := 8) (v := ?_) rfl (by kernel_rfl) (by kernel_rfl) (by kernel_rfl) (fun _ _ _ h => h) (yieldsIf_val (by rfl) (fun w' hS => ?_)) HS1 ?_
                      rotate_left
                      · skip
                        go_simp
                        all_goals with_reducible rfl
                      conv =>
                        arg 8
                        simp [go_sem]
                      refine wpAnyH_take (i := 9) (v := ?_) rfl (by kernel_rfl) (by kernel_rfl) (by kernel_rfl) (fun _ _ _ h => h) (yieldsIf_val (by rfl) (fun w' hS => ?_)) HS1 ?_
                      rotate_left
                      · skip
                        have e := HC1.out _ hS.1
                        go_simp
                        all_goals with_reducible rfl
                      conv =>
                        arg 8
                        simp [go_sem]
                      refine wpAnyH_take (i := 10) (v := ?_) rfl (by kernel_rfl) (by kernel_rfl) (by kernel_rfl) (fun _ _ _ h => h) (yieldsIf_val (by rfl) (fun w' hS => ?_)) HS1 ?_
                      rotate_left
                      · skip
                        go_simp
                        all_goals with_reducible rfl
                      conv =>
                        arg 8
                        simp [go_sem]
                      refine wpAnyH_take (i := 11) (v := ?_) rfl (by kernel_rfl) (by kernel_rfl) (by kernel_rfl) (fun _ _ _ h => h) (yieldsIf_val (by rfl) (fun w' hS => ?_)) HS1 ?_
                      rotate_left
                      · skip
                        have e := hS.2.cellOf (i := 0) rfl
                        go_simp
                        all_goals with_reducible rfl
                      conv =>
                        arg 8
                        simp [go_sem]
                      refine wpAnyH_take (i := 12) (v := ?_) rfl (by kernel_rfl) (by kernel_rfl) (by kernel_rfl) (fun _ _ _ h => h) (yieldsIf_val (by rfl) (fun w' hS => ?_)) HS1 ?_
                      rotate_left
                      · skip
                        go_simp
                        all_goals with_reducible rfl
                      conv =>
                        arg 8
                        simp [go_sem]
                      refine wpAnyH_take (i := 13) (v := ?_) rfl (by kernel_rfl) (by kernel_rfl) (by kernel_rfl) (fun _ _ _ h => h) (yieldsIf_val (by rfl) (fun w' hS => ?_)) HS1 ?_
                      rotate_left
                      · skip
                        go_simp
                        all_goals with_reducible rfl
                      conv =>
                        arg 8
                        simp [go_sem]
                      refine wpAnyH_take (i := 14) (v := ?_) rfl (by kernel_rfl) (by kernel_rfl) (by kernel_rfl) (fun _ _ _ h => h) (yieldsIf_val (by rfl) (fun w' hS => ?_)) HS1 ?_
                      rotate_left
                      · skip
                        have e := HCK.out _ hS.1
                        go_simp
                        all_goals with_reducible rfl
                      conv =>
                        arg 8
                        simp [go_sem]
                      refine wpAnyH_take (i := 15) (v := ?_) rfl (by kernel_rfl) (by kernel_rfl) (by kernel_rfl) (fun _ _ _ h => h) (yieldsIf_val (by rfl) (fun w' hS => ?_)) HS1 ?_
                      rotate_left
                      · skip
                        go_simp
                        all_goals with_reducible rfl
                      conv =>
                        arg 8
                        simp [go_sem]
                      refine wpAnyH_take (i := 16) (v := ?_) rfl (by kernel_rfl) (by kernel_rfl) (by kernel_rfl) (fun _ _ _ h => h) (yieldsIf_val (by rfl) (fun w' hS => ?_)) HS1 ?_
                      rotate_left
                      · skip
                        go_simp
                        all_goals with_reducible rfl
                      refine ⟨by kernel_rfl, ?_⟩
                      conv =>
                        arg 5
                        simp [go_sem]
                      go_wp2_with fail
                      go_roundw
                      case rel => exact ⟨k + 1, by omega, by go_num, HT2, ⟨HS1.1⟩⟩
                      case measure => simp [intOf]; omega
                    · have hX := HTF.out (by rw [HTY.out, decide_eq_false hck, Bool.and_false])
                      subst hX
                      have hkk : (yk != ck) = true := by simp [hck]
                      clear hck hv
                      refine wp_region_held_drew (S := fun w' => TabIn w w' g X ∧ Blk w' gy 86 [.int .i64 q, .int .i64 yo, .int .i64 yk, .int .i64 yn, .string ⟨ys.toArray⟩]) (by kernel_rfl) HS0 (fun _ => ?_)
                      refine wpAnyH_take (i := 0) (v := ?_) rfl (by kernel_rfl) (by kernel_rfl) (by kernel_rfl) (fun _ _ _ h => h) (yieldsIf_val (by rfl) (fun w' hS => ?_)) HS0 ?_
                      rotate_left
                      · skip
                        go_simp
                        all_goals with_reducible rfl
                      conv =>
                        arg 8
                        simp [go_sem]
                      refine wpAnyH_take (i := 1) (v := ?_) rfl (by kernel_rfl) (by kernel_rfl) (by kernel_rfl) (fun _ _ _ h => h) (yieldsIf_val (by rfl) (fun w' hS => ?_)) HS0 ?_
                      rotate_left
                      · skip
                        have e2 := hS.2.cellOf (i := 2) rfl
                        have e3 := hS.2.cellOf (i := 3) rfl
                        have e4 := hS.2.cellOf (i := 4) rfl
                        go_simp
                        all_goals with_reducible rfl
                      conv =>
                        arg 8
                        simp [go_sem]
                      refine wpAnyH_ready (rs := [2]) (by kernel_rfl) (by simp) (AllReadyH.cons rfl (fun K' hK' => oper_call (by rfl) 55 [.tmp 149] #[59] rfl (vs := [.agg #[.int .i64 yk, .int .i64 yn, .string ⟨ys.toArray⟩]]) rfl Try.func55 nm_valid bd_valid (HV.out _) ?_) AllReadyH.nil)
                      rintro e w5 ⟨rfl, hb5⟩
                      have HS1 := And.intro (HS0.1.step hb5) (HS0.2.call0 hb5)
                      refine ⟨_, rfl, hK'.out _ _ HS1 (fun _ => ?_)⟩
                      clear hK' K'
                      conv =>
                        arg 8
                        simp [go_sem]
                      refine wpAnyH_take (i := 3) (v := ?_) rfl (by kernel_rfl) (by kernel_rfl) (by kernel_rfl) (fun _ _ _ h => h) (yieldsIf_val (by rfl) (fun w' hS => ?_)) HS1 ?_
                      rotate_left
                      · skip
                        go_simp
                        all_goals with_reducible rfl
                      conv =>
                        arg 8
                        simp [go_sem]
                      refine wpAnyH_take (i := 4) (v := ?_) rfl (by kernel_rfl) (by kernel_rfl) (by kernel_rfl) (fun _ _ _ h => h) (yieldsIf_val (by rfl) (fun w' hS => ?_)) HS1 ?_
                      rotate_left
                      · skip
                        go_simp
                        all_goals with_reducible rfl
                      conv =>
                        arg 8
                        simp [go_sem]
                      refine wpAnyH_take (i := 5) (v := ?_) rfl (by kernel_rfl) (by kernel_rfl) (by kernel_rfl) (fun _ _ _ h => h) (yieldsIf_val (by rfl) (fun w' hS => ?_)) HS1 ?_
                      rotate_left
                      · skip
                        go_simp
                        all_goals with_reducible rfl
                      conv =>
                        arg 8
                        simp [go_sem]
                      refine wpAnyH_take (i := 6) (v := ?_) rfl (by kernel_rfl) (by kernel_rfl) (by kernel_rfl) (fun _ _ _ h => h) (yieldsIf_val (by rfl) (fun w' hS => ?_)) HS1 ?_
                      rotate_left
                      · skip
                        go_simp
                        all_goals with_reducible rfl
                      conv =>
                        arg 8
                        simp [go_sem]
                      refine wpAnyH_take (i := 7) (v := ?_) rfl (by kernel_rfl) (by kernel_rfl) (by kernel_rfl) (fun _ _ _ h => h) (yieldsIf_val (by rfl) (fun w' hS => ?_)) HS1 ?_
                      rotate_left
                      · skip
                        have e := hS.2.cellOf (i := 2) rfl
                        go_simp
                        all_goals with_reducible rfl
                      conv =>
                        arg 8
                        simp [go_sem]
                      refine wpAnyH_take (i := 8) (v := ?_) rfl (by kernel_rfl) (by kernel_rfl) (by kernel_rfl) (fun _ _ _ h => h) (yieldsIf_val (by rfl) (fun w' hS => ?_)) HS1 ?_
                      rotate_left
                      · skip
                        go_simp
                        all_goals with_reducible rfl
                      conv =>
                        arg 8
                        simp [go_sem]
                      refine wpAnyH_take (i := 9) (v := ?_) rfl (by kernel_rfl) (by kernel_rfl) (by kernel_rfl) (fun _ _ _ h => h) (yieldsIf_val (by rfl) (fun w' hS => ?_)) HS1 ?_
                      rotate_left
                      · skip
                        have e := HC1.out _ hS.1
                        go_simp
                        all_goals with_reducible rfl
                      conv =>
                        arg 8
                        simp [go_sem]
                      refine wpAnyH_take (i := 10) (v := ?_) rfl (by kernel_rfl) (by kernel_rfl) (by kernel_rfl) (fun _ _ _ h => h) (yieldsIf_val (by rfl) (fun w' hS => ?_)) HS1 ?_
                      rotate_left
                      · skip
                        go_simp
                        all_goals with_reducible rfl
                      conv =>
                        arg 8
                        simp [go_sem]
                      refine wpAnyH_take (i := 11) (v := ?_) rfl (by kernel_rfl) (by kernel_rfl) (by kernel_rfl) (fun _ _ _ h => h) (yieldsIf_val (by rfl) (fun w' hS => ?_)) HS1 ?_
                      rotate_left
                      · skip
                        have e := hS.2.cellOf (i := 0) rfl
                        go_simp
                        all_goals with_reducible rfl
                      conv =>
                        arg 8
                        simp [go_sem]
                      refine wpAnyH_take (i := 12) (v := ?_) rfl (by kernel_rfl) (by kernel_rfl) (by kernel_rfl) (fun _ _ _ h => h) (yieldsIf_val (by rfl) (fun w' hS => ?_)) HS1 ?_
                      rotate_left
                      · skip
                        go_simp
                        all_goals with_reducible rfl
                      conv =>
                        arg 8
                        simp [go_sem]
                      refine wpAnyH_take (i := 13) (v := ?_) rfl (by kernel_rfl) (by kernel_rfl) (by kernel_rfl) (fun _ _ _ h => h) (yieldsIf_val (by rfl) (fun w' hS => ?_)) HS1 ?_
                      rotate_left
                      · skip
                        go_simp
                        all_goals with_reducible rfl
                      conv =>
                        arg 8
                        simp [go_sem]
                      refine wpAnyH_take (i := 14) (v := ?_) rfl (by kernel_rfl) (by kernel_rfl) (by kernel_rfl) (fun _ _ _ h => h) (yieldsIf_val (by rfl) (fun w' hS => ?_)) HS1 ?_
                      rotate_left
                      · skip
                        have e := HCK.out _ hS.1
                        go_simp
                        all_goals with_reducible rfl
                      conv =>
                        arg 8
                        simp [go_sem]
                      refine wpAnyH_take (i := 15) (v := ?_) rfl (by kernel_rfl) (by kernel_rfl) (by kernel_rfl) (fun _ _ _ h => h) (yieldsIf_val (by rfl) (fun w' hS => ?_)) HS1 ?_
                      rotate_left
                      · skip
                        go_simp
                        all_goals with_reducible rfl
                      conv =>
                        arg 8
                        simp [go_sem]
                      refine wpAnyH_take (i := 16) (v := ?_) rfl (by kernel_rfl) (by kernel_rfl) (by kernel_rfl) (fun _ _ _ h => h) (yieldsIf_val (by rfl) (fun w' hS => ?_)) HS1 ?_
                      rotate_left
                      · skip
                        go_simp
                        all_goals with_reducible rfl
                      refine ⟨by kernel_rfl, ?_⟩
                      conv =>
                        arg 5
                        simp [go_sem]
                      go_wp2_with fail
                      go_ret
                      exact ⟨rfl, HS1.1.below⟩
                · have hX := HE.out.symm.trans (checkT_chksE HN.out H0.out hX0.out HI4.out hX1.out HH4.out)
                  have hX2 : E = 0 := hX.trans (firstE_zero (fun j hj => HZ.out j (by change j < X.chks.length at hj; omega)))
                  subst hX2
                  go_wp2_with fail
                  go_ret
                  exact ⟨rfl, TR.out.below⟩
end Go.Proofs.Ytpgdfhncigmmbaa
