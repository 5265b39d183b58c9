/-
  The walk of schema.Fits. No condition.
-/
import Derived.Test.YtpgdfhncigmmbaaB20
import Derived.Test.YtpgdfhncigmmbaaWCheck
import Derived.Test.YtpgdfhncigmmbaaC20
namespace Go.Proofs.Ytpgdfhncigmmbaa
open Go.RowKit

theorem check_is {X : TabP} {v : Int} (h : checkT X.t = v) {w : World} (hr : TabRd w X) : Calls Try.prog 54 #[.agg #[.string ⟨X.name.toArray⟩, .slice X.ca X.cols.length X.cc, .slice X.ia X.ixs.length X.ic, .slice X.ha X.chks.length X.hc]] w (RetV (.int .i64 v) w) := by
  subst h; exact check_any X w hr

theorem nm_compare : (Try.f57.name == "runtime.NumGoroutine") = false := by kernel_rfl
theorem bd_compare : Try.f57.body.isNone = false := by kernel_rfl
theorem nm_holds : (Try.f56.name == "runtime.NumGoroutine") = false := by kernel_rfl
theorem bd_holds : Try.f56.body.isNone = false := by kernel_rfl

set_option maxRecDepth 20000 in
set_option maxHeartbeats 8000000 in
theorem fits_any (X : TabP) (r : List Val) (ra : Option Addr) (rn rc : Nat) (w : World) (hr : TabRd w X) (hrr : Rd w ra rn rc 3 (recC Val.enc r)) :
    Calls Try.prog 30 #[X.v, .slice ra rn rc] w (RetV (.int .i64 (fitsT X.t r)) w) := by
  have hln := hrr.rlen Val.enc_len (by omega)
  generalize hE : fitsT X.t r = E
  have HE := Box.mk hE
  clear hE
  have T1 := Box.mk (TabIn.start hr)
  have R1 := Box.mk (hrr.alloc (.cells X.cs.toArray 26))
  have mc := hr.cols.lenMax
  have mh := hr.chks.lenMax
  have mr := hrr.lenMax
  clear hr hrr
  unfold TabP.cs at T1 R1
  unfold TabP.v
  have u0 := T1.out.c0
  have u1 := T1.out.c1
  have u2 := T1.out.c2
  have u3 := T1.out.c3
  go_enter Try.func30, Try.ntmps30
  go_wp2_with fail
  generalize (w.alloc (.cells #[.string ⟨X.name.toArray⟩, .slice X.ca X.cols.length X.cc, .slice X.ia X.ixs.length X.ic, .slice X.ha X.chks.length X.hc] 26)) = W at *
  generalize hg : w.heap.size = g at *
  generalize hv : checkT X.t = v
  refine (check_is hv T1.out.rd).mono ?_
  rintro e w2 ⟨rfl, hb⟩
  have T2 := Box.mk (T1.out.step hb)
  have R2 := Box.mk (R1.out.call0 hb)
  have x1 := T2.out.c1
  clear hb T1 R1 u0 u1 u2 u3
  by_cases h0 : v = 0
  · subst h0
    have HV := Box.mk hv
    clear hv
    by_cases hl : r.length = X.cols.length
    · have HL := Box.mk hl
      have hrn : rn = X.cols.length := by omega
      have hnn : ((rn : Int) != (X.cols.length : Int)) = false := by simp [hrn]
      have hrl1 : rn ≤ X.cols.length := by omega
      have hrl2 : X.cols.length ≤ rn := by omega
      clear hrn hl
      go_wp2_with fail
      clear hnn x1
      go_loopw [24] (fun i wr => ∃ k : Nat, k ≤ rn ∧ i = .int .i64 k ∧ Box (∀ j, j < k → valErr X.cols r j = 0) ∧ Box (TabIn w wr g X ∧ Rd wr ra rn rc 3 (recC Val.enc r))) (fun i _ => rn - (intOf i).toNat)
      case atStart => exact ⟨0, Nat.zero_le _, rfl, ⟨fun j h => by omega⟩, ⟨T2.out, R2.out⟩⟩
      case round =>
        clear T2 R2
        obtain ⟨k, hk, rfl, HZ, TR⟩ := hrel
        by_cases hlt : k < rn
        · obtain ⟨b, off, rfl, hgb, hc⟩ := TR.out.2.recAt Val.enc_len (by omega) k hlt
          have HHIT := Box.mk (fun (v : Int) (hv : valErr X.cols r k = v) (h0 : v ≠ 0) => show E = v from by
            rw [← HE.out]; exact fitsT_val (T := X.t) HV.out HL.out HZ.out (by omega) hv h0)
          generalize hy : r.getD k default = y at *
          have HY := Box.mk hy
          clear hy
          obtain ⟨yk, yn, ys⟩ := y
          have c0 := hc 0 _ rfl
          have c1 := hc 1 _ rfl
          have c2 := hc 2 _ rfl
          simp only [Nat.add_zero] at c0 c1 c2
          clear hc
          obtain ⟨b2, off2, hca2, hgb2, hcc⟩ := TR.out.1.rd.cols.recAt Col.enc_len (by omega) k (by omega)
          have HCA2 := Box.mk hca2
          have HCK : Box (∀ w', TabIn w w' g X → ∀ j u, (X.cols.getD k default).enc[j]? = some u → w'.cell? ⟨b2, off2 + k * 3 + j, none⟩ = some u) := ⟨fun w' T => by
            obtain ⟨b3, off3, hca3, _, hcc3⟩ := T.rd.cols.recAt Col.enc_len (by omega) k (by omega)
            rw [HCA2.out] at hca3
            cases hca3
            exact hcc3⟩
          have HC1 : Box (∀ w', TabIn w w' g X → w'.cell? ⟨g, 1, none⟩ = some (.slice (some ⟨b2, off2, none⟩) X.cols.length X.cc)) := ⟨fun w' T => by rw [← HCA2.out]; exact T.c1⟩
          clear hca2 hgb2 hcc
          have hkl : k < X.cols.length := by omega
          generalize hcy : X.cols.getD k default = cy at *
          have HCY := Box.mk hcy
          clear hcy
          obtain ⟨cyn, cyk, cyu⟩ := cy
          by_cases hnl : nullB ⟨yk, yn, ys⟩ = true
          · have hy3 : yk = 0 ∧ yn = 0 ∧ ys = [] := by rw [nullB_eq] at hnl; simpa using hnl
            have HNL := Box.mk hnl
            clear hnl
            obtain ⟨rfl, rfl, rfl⟩ := hy3
            have TA := TR.out.1.alloc (.cells #[.int .i64 0, .int .i64 0, .string ⟨#[]⟩] 59)
            have RA := TR.out.2.alloc (.cells #[.int .i64 0, .int .i64 0, .string ⟨#[]⟩] 59)
            have e1 := HC1.out _ TA
            have e2 := HCK.out _ TA 2 _ rfl
            have TB := Box.mk (And.intro TA RA)
            clear TA RA HC1 HCK
            cases cyu with
            | false =>
              have hX := HHIT.out _ (valErr_null HY.out HCY.out HNL.out rfl) (by decide)
              subst hX
              go_wp2_with fail
              go_ret
              exact ⟨rfl, TB.out.1.below⟩
            | true =>
              have HZ2 := Box.mk (all_succ HZ.out (valErr_nullOk HY.out HCY.out HNL.out rfl))
              go_wp2_with fail
              go_roundw
              case rel => exact ⟨k + 1, by omega, by go_num, HZ2, TB⟩
              case measure => simp [intOf]; omega
          have hnl2 : nullB ⟨yk, yn, ys⟩ = false := by simpa using hnl
          have hq := fun w => run_eqV ⟨yk, yn, ys⟩ ⟨0, 0, []⟩ w
          rw [← nullB_eq, hnl2] at hq
          simp only at hq
          have HNL := Box.mk hnl2
          clear hnl hnl2
          go_wp2_with fail
          clear hq
          have HS0 := And.intro (TR.out.1.alloc (.cells #[.int .i64 yk, .int .i64 yn, .string ⟨ys.toArray⟩] 59)) (And.intro (TR.out.2.alloc (.cells #[.int .i64 yk, .int .i64 yn, .string ⟨ys.toArray⟩] 59)) (Blk.new (w := wr) (k := wr.heap.size) (ty := 59) (cs := [.int .i64 yk, .int .i64 yn, .string ⟨ys.toArray⟩]) rfl rfl))
          generalize (wr.alloc (.cells #[.int .i64 yk, .int .i64 yn, .string ⟨ys.toArray⟩] 59)) = wa at *
          generalize wr.heap.size = gy at *
          clear c0 c1 c2 TR
          replace HS0 : TabIn w wa.drew g X ∧ Rd wa.drew (some ⟨b, off, none⟩) rn rc 3 (recC Val.enc r) ∧ Blk wa.drew gy 59 [.int .i64 yk, .int .i64 yn, .string ⟨ys.toArray⟩] := ⟨HS0.1.drewN 1, HS0.2.1.drew, HS0.2.2.drew⟩
          cases hv : validB ⟨yk, yn, ys⟩ with
          | false =>
            have hX := HHIT.out _ (valErr_type HY.out HCY.out HNL.out (by rw [hv]; rfl)) (by decide)
            subst hX
            have HV := Box.mk (fun w => valid_is hv w)
            clear hv
            refine wp_region_held_drew (S := fun w' => TabIn w w' g X ∧ Rd w' (some ⟨b, off, none⟩) rn rc 3 (recC Val.enc r) ∧ Blk w' gy 59 [.int .i64 yk, .int .i64 yn, .string ⟨ys.toArray⟩]) (by kernel_rfl) HS0 (fun _ => ?_)
            refine wpAnyH_take (i := 0) (v := ?_) rfl (by kernel_rfl) (by kernel_rfl) (by kernel_rfl) (fun _ _ _ h => h) (yieldsIf_val (by rfl) (fun w' hS => ?_)) HS0 ?_
            rotate_left
            · skip
              have e0 := hS.2.2.cellOf (i := 0) rfl
              have e1 := hS.2.2.cellOf (i := 1) rfl
              have e2 := hS.2.2.cellOf (i := 2) rfl
              go_simp
              all_goals with_reducible rfl
            conv =>
              arg 8
              simp [go_sem]
            conv =>
              arg 8
              simp [go_sem]
            refine wpAnyH_ready (rs := [1]) (by kernel_rfl) (by simp) (AllReadyH.cons rfl (fun K' hK' => oper_call (by rfl) 55 [.tmp 39] #[59] rfl (vs := [.agg #[.int .i64 yk, .int .i64 yn, .string ⟨ys.toArray⟩]]) rfl Try.func55 nm_valid bd_valid (HV.out _) ?_) AllReadyH.nil)
            rintro e w5 ⟨rfl, hb5⟩
            have HS1 := And.intro (HS0.1.step hb5) (And.intro (HS0.2.1.call0 hb5) (HS0.2.2.call0 hb5))
            refine ⟨_, rfl, hK'.out _ _ HS1 (fun _ => ?_)⟩
            clear hK' K'
            conv =>
              arg 8
              simp [go_sem]
            refine wpAnyH_take (i := 2) (v := ?_) rfl (by kernel_rfl) (by kernel_rfl) (by kernel_rfl) (fun _ _ _ h => h) (yieldsIf_val (by rfl) (fun w' hS => ?_)) HS1 ?_
            rotate_left
            · skip
              go_simp
              all_goals with_reducible rfl
            conv =>
              arg 8
              simp [go_sem]
            refine wpAnyH_take (i := 3) (v := ?_) rfl (by kernel_rfl) (by kernel_rfl) (by kernel_rfl) (fun _ _ _ h => h) (yieldsIf_val (by rfl) (fun w' hS => ?_)) HS1 ?_
            rotate_left
            · skip
              go_simp
              all_goals with_reducible rfl
            conv =>
              arg 8
              simp [go_sem]
            refine wpAnyH_take (i := 4) (v := undef) rfl (by kernel_rfl) (by kernel_rfl) (by kernel_rfl) (fun _ _ _ h => h) (Or.inr ⟨by rfl, rfl⟩) HS1 ?_
            conv =>
              arg 8
              simp [go_sem]
            refine wpAnyH_take (i := 5) (v := undef) rfl (by kernel_rfl) (by kernel_rfl) (by kernel_rfl) (fun _ _ _ h => h) (Or.inr ⟨by rfl, rfl⟩) HS1 ?_
            conv =>
              arg 8
              simp [go_sem]
            refine wpAnyH_take (i := 6) (v := undef) rfl (by kernel_rfl) (by kernel_rfl) (by kernel_rfl) (fun _ _ _ h => h) (Or.inr ⟨by rfl, rfl⟩) HS1 ?_
            conv =>
              arg 8
              simp [go_sem]
            refine wpAnyH_take (i := 7) (v := undef) rfl (by kernel_rfl) (by kernel_rfl) (by kernel_rfl) (fun _ _ _ h => h) (Or.inr ⟨by rfl, rfl⟩) HS1 ?_
            conv =>
              arg 8
              simp [go_sem]
            refine wpAnyH_take (i := 8) (v := undef) rfl (by kernel_rfl) (by kernel_rfl) (by kernel_rfl) (fun _ _ _ h => h) (Or.inr ⟨by rfl, rfl⟩) HS1 ?_
            conv =>
              arg 8
              simp [go_sem]
            refine wpAnyH_take (i := 9) (v := undef) rfl (by kernel_rfl) (by kernel_rfl) (by kernel_rfl) (fun _ _ _ h => h) (Or.inr ⟨by rfl, rfl⟩) HS1 ?_
            conv =>
              arg 8
              simp [go_sem]
            refine wpAnyH_take (i := 10) (v := undef) rfl (by kernel_rfl) (by kernel_rfl) (by kernel_rfl) (fun _ _ _ h => h) (Or.inr ⟨by rfl, rfl⟩) HS1 ?_
            conv =>
              arg 8
              simp [go_sem]
            refine wpAnyH_take (i := 11) (v := undef) rfl (by kernel_rfl) (by kernel_rfl) (by kernel_rfl) (fun _ _ _ h => h) (Or.inr ⟨by rfl, rfl⟩) HS1 ?_
            conv =>
              arg 8
              simp [go_sem]
            refine wpAnyH_take (i := 12) (v := undef) rfl (by kernel_rfl) (by kernel_rfl) (by kernel_rfl) (fun _ _ _ h => h) (Or.inr ⟨by rfl, rfl⟩) HS1 ?_
            conv =>
              arg 8
              simp [go_sem]
            refine wpAnyH_take (i := 13) (v := ?_) rfl (by kernel_rfl) (by kernel_rfl) (by kernel_rfl) (fun _ _ _ h => h) (yieldsIf_val (by rfl) (fun w' hS => ?_)) HS1 ?_
            rotate_left
            · skip
              go_simp
              all_goals with_reducible rfl
            refine ⟨by kernel_rfl, ?_⟩
            conv =>
              arg 5
              simp [go_sem]
            go_wp2_with fail
            go_ret
            exact ⟨rfl, HS1.1.below⟩
          | true =>
            have HV := Box.mk (fun w => valid_is hv w)
            by_cases hck : yk = cyk
            · have HT2 := Box.mk (all_succ HZ.out (valErr_ok HY.out HCY.out HNL.out (by rw [hv, Bool.true_and]; exact decide_eq_true hck)))
              have hkk : (yk != cyk) = false := by simp [hck]
              clear hck hv
              refine wp_region_held_drew (S := fun w' => TabIn w w' g X ∧ Rd w' (some ⟨b, off, none⟩) rn rc 3 (recC Val.enc r) ∧ Blk w' gy 59 [.int .i64 yk, .int .i64 yn, .string ⟨ys.toArray⟩]) (by kernel_rfl) HS0 (fun _ => ?_)
              refine wpAnyH_take (i := 0) (v := ?_) rfl (by kernel_rfl) (by kernel_rfl) (by kernel_rfl) (fun _ _ _ h => h) (yieldsIf_val (by rfl) (fun w' hS => ?_)) HS0 ?_
              rotate_left
              · skip
                have e0 := hS.2.2.cellOf (i := 0) rfl
                have e1 := hS.2.2.cellOf (i := 1) rfl
                have e2 := hS.2.2.cellOf (i := 2) rfl
                go_simp
                all_goals with_reducible rfl
              conv =>
                arg 8
                simp [go_sem]
              conv =>
                arg 8
                simp [go_sem]
              refine wpAnyH_ready (rs := [1]) (by kernel_rfl) (by simp) (AllReadyH.cons rfl (fun K' hK' => oper_call (by rfl) 55 [.tmp 39] #[59] rfl (vs := [.agg #[.int .i64 yk, .int .i64 yn, .string ⟨ys.toArray⟩]]) rfl Try.func55 nm_valid bd_valid (HV.out _) ?_) AllReadyH.nil)
              rintro e w5 ⟨rfl, hb5⟩
              have HS1 := And.intro (HS0.1.step hb5) (And.intro (HS0.2.1.call0 hb5) (HS0.2.2.call0 hb5))
              refine ⟨_, rfl, hK'.out _ _ HS1 (fun _ => ?_)⟩
              clear hK' K'
              conv =>
                arg 8
                simp [go_sem]
              refine wpAnyH_take (i := 2) (v := ?_) rfl (by kernel_rfl) (by kernel_rfl) (by kernel_rfl) (fun _ _ _ h => h) (yieldsIf_val (by rfl) (fun w' hS => ?_)) HS1 ?_
              rotate_left
              · skip
                go_simp
                all_goals with_reducible rfl
              conv =>
                arg 8
                simp [go_sem]
              refine wpAnyH_take (i := 3) (v := ?_) rfl (by kernel_rfl) (by kernel_rfl) (by kernel_rfl) (fun _ _ _ h => h) (yieldsIf_val (by rfl) (fun w' hS => ?_)) HS1 ?_
              rotate_left
              · skip
                go_simp
                all_goals with_reducible rfl
              conv =>
                arg 8
                simp [go_sem]
              refine wpAnyH_take (i := 4) (v := ?_) rfl (by kernel_rfl) (by kernel_rfl) (by kernel_rfl) (fun _ _ _ h => h) (yieldsIf_val (by rfl) (fun w' hS => ?_)) HS1 ?_
              rotate_left
              · skip
                go_simp
                all_goals with_reducible rfl
              conv =>
                arg 8
                simp [go_sem]
              refine wpAnyH_take (i := 5) (v := ?_) rfl (by kernel_rfl) (by kernel_rfl) (by kernel_rfl) (fun _ _ _ h => h) (yieldsIf_val (by rfl) (fun w' hS => ?_)) HS1 ?_
              rotate_left
              · skip
                have e := hS.2.2.cellOf (i := 0) rfl
                go_simp
                all_goals with_reducible rfl
              conv =>
                arg 8
                simp [go_sem]
              refine wpAnyH_take (i := 6) (v := ?_) rfl (by kernel_rfl) (by kernel_rfl) (by kernel_rfl) (fun _ _ _ h => h) (yieldsIf_val (by rfl) (fun w' hS => ?_)) HS1 ?_
              rotate_left
              · skip
                go_simp
                all_goals with_reducible rfl
              conv =>
                arg 8
                simp [go_sem]
              refine wpAnyH_take (i := 7) (v := ?_) rfl (by kernel_rfl) (by kernel_rfl) (by kernel_rfl) (fun _ _ _ h => h) (yieldsIf_val (by rfl) (fun w' hS => ?_)) HS1 ?_
              rotate_left
              · skip
                have e := HC1.out _ hS.1
                go_simp
                all_goals with_reducible rfl
              conv =>
                arg 8
                simp [go_sem]
              refine wpAnyH_take (i := 8) (v := ?_) rfl (by kernel_rfl) (by kernel_rfl) (by kernel_rfl) (fun _ _ _ h => h) (yieldsIf_val (by rfl) (fun w' hS => ?_)) HS1 ?_
              rotate_left
              · skip
                go_simp
                all_goals with_reducible rfl
              conv =>
                arg 8
                simp [go_sem]
              refine wpAnyH_take (i := 9) (v := ?_) rfl (by kernel_rfl) (by kernel_rfl) (by kernel_rfl) (fun _ _ _ h => h) (yieldsIf_val (by rfl) (fun w' hS => ?_)) HS1 ?_
              rotate_left
              · skip
                go_simp
                all_goals with_reducible rfl
              conv =>
                arg 8
                simp [go_sem]
              refine wpAnyH_take (i := 10) (v := ?_) rfl (by kernel_rfl) (by kernel_rfl) (by kernel_rfl) (fun _ _ _ h => h) (yieldsIf_val (by rfl) (fun w' hS => ?_)) HS1 ?_
              rotate_left
              · skip
                go_simp
                all_goals with_reducible rfl
              conv =>
                arg 8
                simp [go_sem]
              refine wpAnyH_take (i := 11) (v := ?_) rfl (by kernel_rfl) (by kernel_rfl) (by kernel_rfl) (fun _ _ _ h => h) (yieldsIf_val (by rfl) (fun w' hS => ?_)) HS1 ?_
              rotate_left
              · skip
                have e := HCK.out _ hS.1 1 _ rfl
                go_simp
                all_goals with_reducible rfl
              conv =>
                arg 8
                simp [go_sem]
              refine wpAnyH_take (i := 12) (v := ?_) rfl (by kernel_rfl) (by kernel_rfl) (by kernel_rfl) (fun _ _ _ h => h) (yieldsIf_val (by rfl) (fun w' hS => ?_)) HS1 ?_
              rotate_left
              · skip
                go_simp
                all_goals with_reducible rfl
              conv =>
                arg 8
                simp [go_sem]
              refine wpAnyH_take (i := 13) (v := ?_) rfl (by kernel_rfl) (by kernel_rfl) (by kernel_rfl) (fun _ _ _ h => h) (yieldsIf_val (by rfl) (fun w' hS => ?_)) HS1 ?_
              rotate_left
              · skip
                go_simp
                all_goals with_reducible rfl
              refine ⟨by kernel_rfl, ?_⟩
              conv =>
                arg 5
                simp [go_sem]
              go_wp2_with fail
              go_roundw
              case rel => exact ⟨k + 1, by omega, by go_num, HT2, ⟨⟨HS1.1, HS1.2.1⟩⟩⟩
              case measure => simp [intOf]; omega
            · have hX := HHIT.out _ (valErr_type HY.out HCY.out HNL.out (by rw [hv, Bool.true_and]; exact decide_eq_false hck)) (by decide)
              subst hX
              have hkk : (yk != cyk) = true := by simp [hck]
              clear hck hv
              refine wp_region_held_drew (S := fun w' => TabIn w w' g X ∧ Rd w' (some ⟨b, off, none⟩) rn rc 3 (recC Val.enc r) ∧ Blk w' gy 59 [.int .i64 yk, .int .i64 yn, .string ⟨ys.toArray⟩]) (by kernel_rfl) HS0 (fun _ => ?_)
              refine wpAnyH_take (i := 0) (v := ?_) rfl (by kernel_rfl) (by kernel_rfl) (by kernel_rfl) (fun _ _ _ h => h) (yieldsIf_val (by rfl) (fun w' hS => ?_)) HS0 ?_
              rotate_left
              · skip
                have e0 := hS.2.2.cellOf (i := 0) rfl
                have e1 := hS.2.2.cellOf (i := 1) rfl
                have e2 := hS.2.2.cellOf (i := 2) rfl
                go_simp
                all_goals with_reducible rfl
              conv =>
                arg 8
                simp [go_sem]
              conv =>
                arg 8
                simp [go_sem]
              refine wpAnyH_ready (rs := [1]) (by kernel_rfl) (by simp) (AllReadyH.cons rfl (fun K' hK' => oper_call (by rfl) 55 [.tmp 39] #[59] rfl (vs := [.agg #[.int .i64 yk, .int .i64 yn, .string ⟨ys.toArray⟩]]) rfl Try.func55 nm_valid bd_valid (HV.out _) ?_) AllReadyH.nil)
              rintro e w5 ⟨rfl, hb5⟩
              have HS1 := And.intro (HS0.1.step hb5) (And.intro (HS0.2.1.call0 hb5) (HS0.2.2.call0 hb5))
              refine ⟨_, rfl, hK'.out _ _ HS1 (fun _ => ?_)⟩
              clear hK' K'
              conv =>
                arg 8
                simp [go_sem]
              refine wpAnyH_take (i := 2) (v := ?_) rfl (by kernel_rfl) (by kernel_rfl) (by kernel_rfl) (fun _ _ _ h => h) (yieldsIf_val (by rfl) (fun w' hS => ?_)) HS1 ?_
              rotate_left
              · skip
                go_simp
                all_goals with_reducible rfl
              conv =>
                arg 8
                simp [go_sem]
              refine wpAnyH_take (i := 3) (v := ?_) rfl (by kernel_rfl) (by kernel_rfl) (by kernel_rfl) (fun _ _ _ h => h) (yieldsIf_val (by rfl) (fun w' hS => ?_)) HS1 ?_
              rotate_left
              · skip
                go_simp
                all_goals with_reducible rfl
              conv =>
                arg 8
                simp [go_sem]
              refine wpAnyH_take (i := 4) (v := ?_) rfl (by kernel_rfl) (by kernel_rfl) (by kernel_rfl) (fun _ _ _ h => h) (yieldsIf_val (by rfl) (fun w' hS => ?_)) HS1 ?_
              rotate_left
              · skip
                go_simp
                all_goals with_reducible rfl
              conv =>
                arg 8
                simp [go_sem]
              refine wpAnyH_take (i := 5) (v := ?_) rfl (by kernel_rfl) (by kernel_rfl) (by kernel_rfl) (fun _ _ _ h => h) (yieldsIf_val (by rfl) (fun w' hS => ?_)) HS1 ?_
              rotate_left
              · skip
                have e := hS.2.2.cellOf (i := 0) rfl
                go_simp
                all_goals with_reducible rfl
              conv =>
                arg 8
                simp [go_sem]
              refine wpAnyH_take (i := 6) (v := ?_) rfl (by kernel_rfl) (by kernel_rfl) (by kernel_rfl) (fun _ _ _ h => h) (yieldsIf_val (by rfl) (fun w' hS => ?_)) HS1 ?_
              rotate_left
              · skip
                go_simp
                all_goals with_reducible rfl
              conv =>
                arg 8
                simp [go_sem]
              refine wpAnyH_take (i := 7) (v := ?_) rfl (by kernel_rfl) (by kernel_rfl) (by kernel_rfl) (fun _ _ _ h => h) (yieldsIf_val (by rfl) (fun w' hS => ?_)) HS1 ?_
              rotate_left
              · skip
                have e := HC1.out _ hS.1
                go_simp
                all_goals with_reducible rfl
              conv =>
                arg 8
                simp [go_sem]
              refine wpAnyH_take (i := 8) (v := ?_) rfl (by kernel_rfl) (by kernel_rfl) (by kernel_rfl) (fun _ _ _ h => h) (yieldsIf_val (by rfl) (fun w' hS => ?_)) HS1 ?_
              rotate_left
              · skip
                go_simp
                all_goals with_reducible rfl
              conv =>
                arg 8
                simp [go_sem]
              refine wpAnyH_take (i := 9) (v := ?_) rfl (by kernel_rfl) (by kernel_rfl) (by kernel_rfl) (fun _ _ _ h => h) (yieldsIf_val (by rfl) (fun w' hS => ?_)) HS1 ?_
              rotate_left
              · skip
                go_simp
                all_goals with_reducible rfl
              conv =>
                arg 8
                simp [go_sem]
              refine wpAnyH_take (i := 10) (v := ?_) rfl (by kernel_rfl) (by kernel_rfl) (by kernel_rfl) (fun _ _ _ h => h) (yieldsIf_val (by rfl) (fun w' hS => ?_)) HS1 ?_
              rotate_left
              · skip
                go_simp
                all_goals with_reducible rfl
              conv =>
                arg 8
                simp [go_sem]
              refine wpAnyH_take (i := 11) (v := ?_) rfl (by kernel_rfl) (by kernel_rfl) (by kernel_rfl) (fun _ _ _ h => h) (yieldsIf_val (by rfl) (fun w' hS => ?_)) HS1 ?_
              rotate_left
              · skip
                have e := HCK.out _ hS.1 1 _ rfl
                go_simp
                all_goals with_reducible rfl
              conv =>
                arg 8
                simp [go_sem]
              refine wpAnyH_take (i := 12) (v := ?_) rfl (by kernel_rfl) (by kernel_rfl) (by kernel_rfl) (fun _ _ _ h => h) (yieldsIf_val (by rfl) (fun w' hS => ?_)) HS1 ?_
              rotate_left
              · skip
                go_simp
                all_goals with_reducible rfl
              conv =>
                arg 8
                simp [go_sem]
              refine wpAnyH_take (i := 13) (v := ?_) rfl (by kernel_rfl) (by kernel_rfl) (by kernel_rfl) (fun _ _ _ h => h) (yieldsIf_val (by rfl) (fun w' hS => ?_)) HS1 ?_
              rotate_left
              · skip
                go_simp
                all_goals with_reducible rfl
              refine ⟨by kernel_rfl, ?_⟩
              conv =>
                arg 5
                simp [go_sem]
              go_wp2_with fail
              go_ret
              exact ⟨rfl, HS1.1.below⟩
        · have HZ0 := Box.mk (show ∀ j, j < r.length → valErr X.cols r j = 0 from fun j hj => HZ.out j (by omega))
          have x3 := TR.out.1.c3
          clear HZ
          go_wp2_with fail
          have hk0 := Box.mk hlt
          clear hlt x3 hk
          go_loopw [57] (fun i wr => ∃ k : Nat, k ≤ X.chks.length ∧ i = .int .i64 k ∧ Box (∀ j, j < k → holdErr X.chks r j = 0) ∧ Box (TabIn w wr g X ∧ Rd wr ra rn rc 3 (recC Val.enc r))) (fun i _ => X.chks.length - (intOf i).toNat)
          case atStart => exact ⟨0, Nat.zero_le _, rfl, ⟨fun j h => by omega⟩, TR⟩
          case round =>
            clear TR hk0
            obtain ⟨k, hk, rfl, HZ, TR⟩ := hrel
            by_cases hlt : k < X.chks.length
            · obtain ⟨b, off, hca, hgb, hc⟩ := TR.out.1.rd.chks.recAt Chk.enc_len (by omega) k hlt
              rw [hca]
              have HHIT := Box.mk (fun (hv : holdErr X.chks r k = 201) => show E = 201 from by
                rw [← HE.out]; exact fitsT_hold (T := X.t) HV.out HL.out HZ0.out HZ.out hlt hv)
              have hok := (checkT_ok HV.out).chk hlt
              change 0 ≤ (X.chks.getD k default).col ∧ (X.chks.getD k default).col < X.cols.length ∧ _ at hok
              generalize hy : X.chks.getD k default = y at *
              have HY := Box.mk hy
              clear hy hca
              obtain ⟨yc, yo, yk, yn, ys⟩ := y
              have c0 := hc 0 _ rfl
              have c1 := hc 1 _ rfl
              have c2 := hc 2 _ rfl
              have c3 := hc 3 _ rfl
              have c4 := hc 4 _ rfl
              simp only [Nat.add_zero] at c0 c1 c2 c3 c4
              obtain ⟨q, rfl⟩ := Int.eq_ofNat_of_zero_le hok.1
              have hq : q < rn := by have := hok.2.1; simp only at this; omega
              clear hok hc hgb
              obtain ⟨b2, off2, rfl, hgb2, hcc⟩ := TR.out.2.recAt Val.enc_len (by omega) q hq
              have T2 := TR.out.1.alloc (.cells #[.int .i64 q, .int .i64 yo, .int .i64 yk, .int .i64 yn, .string ⟨ys.toArray⟩] 86)
              have R2 := TR.out.2.alloc (.cells #[.int .i64 q, .int .i64 yo, .int .i64 yk, .int .i64 yn, .string ⟨ys.toArray⟩] 86)
              have ba := Blk.new (w := wr) (k := wr.heap.size) (ty := 86) (cs := [.int .i64 q, .int .i64 yo, .int .i64 yk, .int .i64 yn, .string ⟨ys.toArray⟩]) rfl rfl
              have y0 := ba.cellOf (i := 0) rfl
              generalize hv : r.getD q default = v at *
              have HVQ := Box.mk hv
              clear hv
              obtain ⟨vk, vn, vs⟩ := v
              have d0 := Lib.cell?_alloc_some (.cells #[.int .i64 q, .int .i64 yo, .int .i64 yk, .int .i64 yn, .string ⟨ys.toArray⟩] 86) (hcc 0 _ rfl)
              have d1 := Lib.cell?_alloc_some (.cells #[.int .i64 q, .int .i64 yo, .int .i64 yk, .int .i64 yn, .string ⟨ys.toArray⟩] 86) (hcc 1 _ rfl)
              have d2 := Lib.cell?_alloc_some (.cells #[.int .i64 q, .int .i64 yo, .int .i64 yk, .int .i64 yn, .string ⟨ys.toArray⟩] 86) (hcc 2 _ rfl)
              simp only [Nat.add_zero] at d0 d1 d2
              clear hcc hgb2
              go_upto_region 18 with fail
              generalize (wr.alloc (.cells #[.int .i64 q, .int .i64 yo, .int .i64 yk, .int .i64 yn, .string ⟨ys.toArray⟩] 86)) = wa at *
              generalize wr.heap.size = gy at *
              clear c0 c1 c2 c3 c4 TR
              go_upto_region 19 with fail
              have HS0 := And.intro (T2.alloc (.cells #[.int .i64 vk, .int .i64 vn, .string ⟨vs.toArray⟩] 59)) (And.intro (R2.alloc (.cells #[.int .i64 vk, .int .i64 vn, .string ⟨vs.toArray⟩] 59)) (And.intro (ba.alloc (.cells #[.int .i64 vk, .int .i64 vn, .string ⟨vs.toArray⟩] 59)) (Blk.new (w := wa) (k := wa.heap.size) (ty := 59) (cs := [.int .i64 vk, .int .i64 vn, .string ⟨vs.toArray⟩]) rfl rfl)))
              generalize (wa.alloc (.cells #[.int .i64 vk, .int .i64 vn, .string ⟨vs.toArray⟩] 59)) = wb at *
              generalize wa.heap.size = gv at *
              clear d0 d1 d2 y0 ba T2 R2
              replace HS0 : TabIn w wb.drew g X ∧ Rd wb.drew (some ⟨b2, off2, none⟩) rn rc 3 (recC Val.enc r) ∧ Blk wb.drew gy 86 [.int .i64 q, .int .i64 yo, .int .i64 yk, .int .i64 yn, .string ⟨ys.toArray⟩] ∧ Blk wb.drew gv 59 [.int .i64 vk, .int .i64 vn, .string ⟨vs.toArray⟩] := ⟨HS0.1.drewN 1, HS0.2.1.drew, HS0.2.2.1.drew, HS0.2.2.2.drew⟩
              by_cases hvk : vk = 0
              · have HT2 := Box.mk (all_succ HZ.out (holdErr_null HY.out HVQ.out hvk))
                have hkk : (vk != 0) = false := by simp [hvk]
                clear hvk
                refine wp_region_held_drew (S := fun w' => TabIn w w' g X ∧ Rd w' (some ⟨b2, off2, none⟩) rn rc 3 (recC Val.enc r) ∧ Blk w' gy 86 [.int .i64 q, .int .i64 yo, .int .i64 yk, .int .i64 yn, .string ⟨ys.toArray⟩] ∧ Blk w' gv 59 [.int .i64 vk, .int .i64 vn, .string ⟨vs.toArray⟩]) (by kernel_rfl) HS0 (fun _ => ?_)
                refine wpAnyH_take (i := 0) (v := ?_) rfl (by kernel_rfl) (by kernel_rfl) (by kernel_rfl) (fun _ _ _ h => h) (yieldsIf_val (by rfl) (fun w' hS => ?_)) HS0 ?_
                rotate_left
                · skip
                  go_simp
                  all_goals with_reducible rfl
                conv =>
                  arg 8
                  simp [go_sem]
                refine wpAnyH_take (i := 1) (v := ?_) rfl (by kernel_rfl) (by kernel_rfl) (by kernel_rfl) (fun _ _ _ h => h) (yieldsIf_val (by rfl) (fun w' hS => ?_)) HS0 ?_
                rotate_left
                · skip
                  have e0 := hS.2.2.2.cellOf (i := 0) rfl
                  go_simp
                  all_goals with_reducible rfl
                conv =>
                  arg 8
                  simp [go_sem]
                refine wpAnyH_take (i := 2) (v := ?_) rfl (by kernel_rfl) (by kernel_rfl) (by kernel_rfl) (fun _ _ _ h => h) (yieldsIf_val (by rfl) (fun w' hS => ?_)) HS0 ?_
                rotate_left
                · skip
                  go_simp
                  all_goals with_reducible rfl
                conv =>
                  arg 8
                  simp [go_sem]
                refine wpAnyH_take (i := 3) (v := ?_) rfl (by kernel_rfl) (by kernel_rfl) (by kernel_rfl) (fun _ _ _ h => h) (yieldsIf_val (by rfl) (fun w' hS => ?_)) HS0 ?_
                rotate_left
                · skip
                  go_simp
                  all_goals with_reducible rfl
                conv =>
                  arg 8
                  simp [go_sem]
                refine wpAnyH_take (i := 4) (v := undef) rfl (by kernel_rfl) (by kernel_rfl) (by kernel_rfl) (fun _ _ _ h => h) (Or.inr ⟨by rfl, rfl⟩) HS0 ?_
                conv =>
                  arg 8
                  simp [go_sem]
                refine wpAnyH_take (i := 5) (v := undef) rfl (by kernel_rfl) (by kernel_rfl) (by kernel_rfl) (fun _ _ _ h => h) (Or.inr ⟨by rfl, rfl⟩) HS0 ?_
                conv =>
                  arg 8
                  simp [go_sem]
                refine wpAnyH_take (i := 6) (v := undef) rfl (by kernel_rfl) (by kernel_rfl) (by kernel_rfl) (fun _ _ _ h => h) (Or.inr ⟨by rfl, rfl⟩) HS0 ?_
                conv =>
                  arg 8
                  simp [go_sem]
                refine wpAnyH_take (i := 7) (v := undef) rfl (by kernel_rfl) (by kernel_rfl) (by kernel_rfl) (fun _ _ _ h => h) (Or.inr ⟨by rfl, rfl⟩) HS0 ?_
                conv =>
                  arg 8
                  simp [go_sem]
                refine wpAnyH_take (i := 8) (v := undef) rfl (by kernel_rfl) (by kernel_rfl) (by kernel_rfl) (fun _ _ _ h => h) (Or.inr ⟨by rfl, rfl⟩) HS0 ?_
                conv =>
                  arg 8
                  simp [go_sem]
                refine wpAnyH_take (i := 9) (v := undef) rfl (by kernel_rfl) (by kernel_rfl) (by kernel_rfl) (fun _ _ _ h => h) (Or.inr ⟨by rfl, rfl⟩) HS0 ?_
                conv =>
                  arg 8
                  simp [go_sem]
                refine wpAnyH_take (i := 10) (v := undef) rfl (by kernel_rfl) (by kernel_rfl) (by kernel_rfl) (fun _ _ _ h => h) (Or.inr ⟨by rfl, rfl⟩) HS0 ?_
                conv =>
                  arg 8
                  simp [go_sem]
                refine wpAnyH_take (i := 11) (v := undef) rfl (by kernel_rfl) (by kernel_rfl) (by kernel_rfl) (fun _ _ _ h => h) (Or.inr ⟨by rfl, rfl⟩) HS0 ?_
                conv =>
                  arg 8
                  simp [go_sem]
                refine wpAnyH_take (i := 12) (v := ?_) rfl (by kernel_rfl) (by kernel_rfl) (by kernel_rfl) (fun _ _ _ h => h) (yieldsIf_val (by rfl) (fun w' hS => ?_)) HS0 ?_
                rotate_left
                · skip
                  go_simp
                  all_goals with_reducible rfl
                refine ⟨by kernel_rfl, ?_⟩
                conv =>
                  arg 5
                  simp [go_sem]
                go_wp2_with fail
                go_roundw
                case rel => exact ⟨k + 1, by omega, by go_num, HT2, ⟨⟨HS0.1, HS0.2.1⟩⟩⟩
                case measure => simp [intOf]; omega
              have hkk : (vk != 0) = true := by simp [hvk]
              have HCMP := Box.mk (fun w => compare_any ⟨vk, vn, vs⟩ ⟨yk, yn, ys⟩ w)
              simp only [Val.v] at HCMP
              have HNO := Box.mk (fun (h2 : holdsB yo (cmpV ⟨vk, vn, vs⟩ ⟨yk, yn, ys⟩) = false) => HHIT.out (holdErr_no HY.out HVQ.out hvk h2))
              have HYES := Box.mk (fun (h2 : holdsB yo (cmpV ⟨vk, vn, vs⟩ ⟨yk, yn, ys⟩) = true) => all_succ HZ.out (holdErr_ok HY.out HVQ.out h2))
              clear hvk HHIT
              generalize cmpV ⟨vk, vn, vs⟩ ⟨yk, yn, ys⟩ = cv at *
              have HHO := Box.mk (fun w => holds_any yo cv w)
              cases hh : holdsB yo cv with
              | false =>
                have hX := HNO.out hh
                subst hX
                rw [hh] at HHO
                clear hh
                refine wp_region_held_drew (S := fun w' => TabIn w w' g X ∧ Rd w' (some ⟨b2, off2, none⟩) rn rc 3 (recC Val.enc r) ∧ Blk w' gy 86 [.int .i64 q, .int .i64 yo, .int .i64 yk, .int .i64 yn, .string ⟨ys.toArray⟩] ∧ Blk w' gv 59 [.int .i64 vk, .int .i64 vn, .string ⟨vs.toArray⟩]) (by kernel_rfl) HS0 (fun _ => ?_)
                refine wpAnyH_take (i := 0) (v := ?_) rfl (by kernel_rfl) (by kernel_rfl) (by kernel_rfl) (fun _ _ _ h => h) (yieldsIf_val (by rfl) (fun w' hS => ?_)) HS0 ?_
                rotate_left
                · skip
                  go_simp
                  all_goals with_reducible rfl
                conv =>
                  arg 8
                  simp [go_sem]
                refine wpAnyH_take (i := 1) (v := ?_) rfl (by kernel_rfl) (by kernel_rfl) (by kernel_rfl) (fun _ _ _ h => h) (yieldsIf_val (by rfl) (fun w' hS => ?_)) HS0 ?_
                rotate_left
                · skip
                  have e0 := hS.2.2.2.cellOf (i := 0) rfl
                  go_simp
                  all_goals with_reducible rfl
                conv =>
                  arg 8
                  simp [go_sem]
                refine wpAnyH_take (i := 2) (v := ?_) rfl (by kernel_rfl) (by kernel_rfl) (by kernel_rfl) (fun _ _ _ h => h) (yieldsIf_val (by rfl) (fun w' hS => ?_)) HS0 ?_
                rotate_left
                · skip
                  go_simp
                  all_goals with_reducible rfl
                conv =>
                  arg 8
                  simp [go_sem]
                refine wpAnyH_take (i := 3) (v := ?_) rfl (by kernel_rfl) (by kernel_rfl) (by kernel_rfl) (fun _ _ _ h => h) (yieldsIf_val (by rfl) (fun w' hS => ?_)) HS0 ?_
                rotate_left
                · skip
                  go_simp
                  all_goals with_reducible rfl
                conv =>
                  arg 8
                  simp [go_sem]
                refine wpAnyH_take (i := 4) (v := ?_) rfl (by kernel_rfl) (by kernel_rfl) (by kernel_rfl) (fun _ _ _ h => h) (yieldsIf_val (by rfl) (fun w' hS => ?_)) HS0 ?_
                rotate_left
                · skip
                  go_simp
                  all_goals with_reducible rfl
                conv =>
                  arg 8
                  simp [go_sem]
                refine wpAnyH_take (i := 5) (v := ?_) rfl (by kernel_rfl) (by kernel_rfl) (by kernel_rfl) (fun _ _ _ h => h) (yieldsIf_val (by rfl) (fun w' hS => ?_)) HS0 ?_
                rotate_left
                · skip
                  have e := hS.2.2.1.cellOf (i := 1) rfl
                  go_simp
                  all_goals with_reducible rfl
                conv =>
                  arg 8
                  simp [go_sem]
                refine wpAnyH_take (i := 6) (v := ?_) rfl (by kernel_rfl) (by kernel_rfl) (by kernel_rfl) (fun _ _ _ h => h) (yieldsIf_val (by rfl) (fun w' hS => ?_)) HS0 ?_
                rotate_left
                · skip
                  have e0 := hS.2.2.2.cellOf (i := 0) rfl
                  have e1 := hS.2.2.2.cellOf (i := 1) rfl
                  have e2 := hS.2.2.2.cellOf (i := 2) rfl
                  go_simp
                  all_goals with_reducible rfl
                conv =>
                  arg 8
                  simp [go_sem]
                refine wpAnyH_take (i := 7) (v := ?_) rfl (by kernel_rfl) (by kernel_rfl) (by kernel_rfl) (fun _ _ _ h => h) (yieldsIf_val (by rfl) (fun w' hS => ?_)) HS0 ?_
                rotate_left
                · skip
                  go_simp
                  all_goals with_reducible rfl
                conv =>
                  arg 8
                  simp [go_sem]
                refine wpAnyH_take (i := 8) (v := ?_) rfl (by kernel_rfl) (by kernel_rfl) (by kernel_rfl) (fun _ _ _ h => h) (yieldsIf_val (by rfl) (fun w' hS => ?_)) HS0 ?_
                rotate_left
                · skip
                  have e0 := hS.2.2.1.cellOf (i := 2) rfl
                  have e1 := hS.2.2.1.cellOf (i := 3) rfl
                  have e2 := hS.2.2.1.cellOf (i := 4) rfl
                  go_simp
                  all_goals with_reducible rfl
                conv =>
                  arg 8
                  simp [go_sem]
                conv =>
                  arg 8
                  simp [go_sem]
                refine wpAnyH_ready (rs := [9]) (by kernel_rfl) (by simp) (AllReadyH.cons rfl (fun K' hK' => oper_call (by rfl) 57 [.tmp 72, .tmp 74] #[59, 59] rfl (vs := [.agg #[.int .i64 vk, .int .i64 vn, .string ⟨vs.toArray⟩], .agg #[.int .i64 yk, .int .i64 yn, .string ⟨ys.toArray⟩]]) rfl Try.func57 nm_compare bd_compare (HCMP.out _) ?_) AllReadyH.nil)
                rintro e w5 ⟨rfl, hb5⟩
                have HS1 := And.intro (HS0.1.step hb5) (And.intro (HS0.2.1.call0 hb5) (And.intro (HS0.2.2.1.call0 hb5) (HS0.2.2.2.call0 hb5)))
                refine ⟨_, rfl, hK'.out _ _ HS1 (fun _ => ?_)⟩
                clear hK' K'
                conv =>
                  arg 8
                  simp [go_sem]
                conv =>
                  arg 8
                  simp [go_sem]
                refine wpAnyH_ready (rs := [10]) (by kernel_rfl) (by simp) (AllReadyH.cons rfl (fun K' hK' => oper_call (by rfl) 56 [.tmp 71, .tmp 75] #[3, 3] rfl (vs := [.int .i64 yo, .int .i64 cv]) rfl Try.func56 nm_holds bd_holds (HHO.out _) ?_) AllReadyH.nil)
                rintro e w6 ⟨rfl, rfl⟩
                have HS2 := HS1
                refine ⟨_, rfl, hK'.out _ _ HS2 (fun _ => ?_)⟩
                clear hK' K'
                conv =>
                  arg 8
                  simp [go_sem]
                refine wpAnyH_take (i := 11) (v := ?_) rfl (by kernel_rfl) (by kernel_rfl) (by kernel_rfl) (fun _ _ _ h => h) (yieldsIf_val (by rfl) (fun w' hS => ?_)) HS2 ?_
                rotate_left
                · skip
                  go_simp
                  all_goals with_reducible rfl
                conv =>
                  arg 8
                  simp [go_sem]
                refine wpAnyH_take (i := 12) (v := ?_) rfl (by kernel_rfl) (by kernel_rfl) (by kernel_rfl) (fun _ _ _ h => h) (yieldsIf_val (by rfl) (fun w' hS => ?_)) HS2 ?_
                rotate_left
                · skip
                  go_simp
                  all_goals with_reducible rfl
                refine ⟨by kernel_rfl, ?_⟩
                conv =>
                  arg 5
                  simp [go_sem]
                go_wp2_with fail
                go_ret
                exact ⟨rfl, HS2.1.below⟩
              | true =>
                have HT2 := Box.mk (HYES.out hh)
                rw [hh] at HHO
                clear hh
                refine wp_region_held_drew (S := fun w' => TabIn w w' g X ∧ Rd w' (some ⟨b2, off2, none⟩) rn rc 3 (recC Val.enc r) ∧ Blk w' gy 86 [.int .i64 q, .int .i64 yo, .int .i64 yk, .int .i64 yn, .string ⟨ys.toArray⟩] ∧ Blk w' gv 59 [.int .i64 vk, .int .i64 vn, .string ⟨vs.toArray⟩]) (by kernel_rfl) HS0 (fun _ => ?_)
                refine wpAnyH_take (i := 0) (v := ?_) rfl (by kernel_rfl) (by kernel_rfl) (by kernel_rfl) (fun _ _ _ h => h) (yieldsIf_val (by rfl) (fun w' hS => ?_)) HS0 ?_
                rotate_left
                · skip
                  go_simp
                  all_goals with_reducible rfl
                conv =>
                  arg 8
                  simp [go_sem]
                refine wpAnyH_take (i := 1) (v := ?_) rfl (by kernel_rfl) (by kernel_rfl) (by kernel_rfl) (fun _ _ _ h => h) (yieldsIf_val (by rfl) (fun w' hS => ?_)) HS0 ?_
                rotate_left
                · skip
                  have e0 := hS.2.2.2.cellOf (i := 0) rfl
                  go_simp
                  all_goals with_reducible rfl
                conv =>
                  arg 8
                  simp [go_sem]
                refine wpAnyH_take (i := 2) (v := ?_) rfl (by kernel_rfl) (by kernel_rfl) (by kernel_rfl) (fun _ _ _ h => h) (yieldsIf_val (by rfl) (fun w' hS => ?_)) HS0 ?_
                rotate_left
                · skip
                  go_simp
                  all_goals with_reducible rfl
                conv =>
                  arg 8
                  simp [go_sem]
                refine wpAnyH_take (i := 3) (v := ?_) rfl (by kernel_rfl) (by kernel_rfl) (by kernel_rfl) (fun _ _ _ h => h) (yieldsIf_val (by rfl) (fun w' hS => ?_)) HS0 ?_
                rotate_left
                · skip
                  go_simp
                  all_goals with_reducible rfl
                conv =>
                  arg 8
                  simp [go_sem]
                refine wpAnyH_take (i := 4) (v := ?_) rfl (by kernel_rfl) (by kernel_rfl) (by kernel_rfl) (fun _ _ _ h => h) (yieldsIf_val (by rfl) (fun w' hS => ?_)) HS0 ?_
                rotate_left
                · skip
                  go_simp
                  all_goals with_reducible rfl
                conv =>
                  arg 8
                  simp [go_sem]
                refine wpAnyH_take (i := 5) (v := ?_) rfl (by kernel_rfl) (by kernel_rfl) (by kernel_rfl) (fun _ _ _ h => h) (yieldsIf_val (by rfl) (fun w' hS => ?_)) HS0 ?_
                rotate_left
                · skip
                  have e := hS.2.2.1.cellOf (i := 1) rfl
                  go_simp
                  all_goals with_reducible rfl
                conv =>
                  arg 8
                  simp [go_sem]
                refine wpAnyH_take (i := 6) (v := ?_) rfl (by kernel_rfl) (by kernel_rfl) (by kernel_rfl) (fun _ _ _ h => h) (yieldsIf_val (by rfl) (fun w' hS => ?_)) HS0 ?_
                rotate_left
                · skip
                  have e0 := hS.2.2.2.cellOf (i := 0) rfl
                  have e1 := hS.2.2.2.cellOf (i := 1) rfl
                  have e2 := hS.2.2.2.cellOf (i := 2) rfl
                  go_simp
                  all_goals with_reducible rfl
                conv =>
                  arg 8
                  simp [go_sem]
                refine wpAnyH_take (i := 7) (v := ?_) rfl (by kernel_rfl) (by kernel_rfl) (by kernel_rfl) (fun _ _ _ h => h) (yieldsIf_val (by rfl) (fun w' hS => ?_)) HS0 ?_
                rotate_left
                · skip
                  go_simp
                  all_goals with_reducible rfl
                conv =>
                  arg 8
                  simp [go_sem]
                refine wpAnyH_take (i := 8) (v := ?_) rfl (by kernel_rfl) (by kernel_rfl) (by kernel_rfl) (fun _ _ _ h => h) (yieldsIf_val (by rfl) (fun w' hS => ?_)) HS0 ?_
                rotate_left
                · skip
                  have e0 := hS.2.2.1.cellOf (i := 2) rfl
                  have e1 := hS.2.2.1.cellOf (i := 3) rfl
                  have e2 := hS.2.2.1.cellOf (i := 4) rfl
                  go_simp
                  all_goals with_reducible rfl
                conv =>
                  arg 8
                  simp [go_sem]
                conv =>
                  arg 8
                  simp [go_sem]
                refine wpAnyH_ready (rs := [9]) (by kernel_rfl) (by simp) (AllReadyH.cons rfl (fun K' hK' => oper_call (by rfl) 57 [.tmp 72, .tmp 74] #[59, 59] rfl (vs := [.agg #[.int .i64 vk, .int .i64 vn, .string ⟨vs.toArray⟩], .agg #[.int .i64 yk, .int .i64 yn, .string ⟨ys.toArray⟩]]) rfl Try.func57 nm_compare bd_compare (HCMP.out _) ?_) AllReadyH.nil)
                rintro e w5 ⟨rfl, hb5⟩
                have HS1 := And.intro (HS0.1.step hb5) (And.intro (HS0.2.1.call0 hb5) (And.intro (HS0.2.2.1.call0 hb5) (HS0.2.2.2.call0 hb5)))
                refine ⟨_, rfl, hK'.out _ _ HS1 (fun _ => ?_)⟩
                clear hK' K'
                conv =>
                  arg 8
                  simp [go_sem]
                conv =>
                  arg 8
                  simp [go_sem]
                refine wpAnyH_ready (rs := [10]) (by kernel_rfl) (by simp) (AllReadyH.cons rfl (fun K' hK' => oper_call (by rfl) 56 [.tmp 71, .tmp 75] #[3, 3] rfl (vs := [.int .i64 yo, .int .i64 cv]) rfl Try.func56 nm_holds bd_holds (HHO.out _) ?_) AllReadyH.nil)
                rintro e w6 ⟨rfl, rfl⟩
                have HS2 := HS1
                refine ⟨_, rfl, hK'.out _ _ HS2 (fun _ => ?_)⟩
                clear hK' K'
                conv =>
                  arg 8
                  simp [go_sem]
                refine wpAnyH_take (i := 11) (v := ?_) rfl (by kernel_rfl) (by kernel_rfl) (by kernel_rfl) (fun _ _ _ h => h) (yieldsIf_val (by rfl) (fun w' hS => ?_)) HS2 ?_
                rotate_left
                · skip
                  go_simp
                  all_goals with_reducible rfl
                conv =>
                  arg 8
                  simp [go_sem]
                refine wpAnyH_take (i := 12) (v := ?_) rfl (by kernel_rfl) (by kernel_rfl) (by kernel_rfl) (fun _ _ _ h => h) (yieldsIf_val (by rfl) (fun w' hS => ?_)) HS2 ?_
                rotate_left
                · skip
                  go_simp
                  all_goals with_reducible rfl
                refine ⟨by kernel_rfl, ?_⟩
                conv =>
                  arg 5
                  simp [go_sem]
                go_wp2_with fail
                go_roundw
                case rel => exact ⟨k + 1, by omega, by go_num, HT2, ⟨⟨HS2.1, HS2.2.1⟩⟩⟩
                case measure => simp [intOf]; omega
            · have hX2 : E = 0 := HE.out.symm.trans (fitsT_ok (T := X.t) HV.out HL.out HZ0.out (fun j hj => HZ.out j (by change j < X.chks.length at hj; omega)))
              subst hX2
              go_wp2_with fail
              go_ret
              exact ⟨rfl, TR.out.1.below⟩
    · have hX := HE.out.symm.trans (fitsT_len (T := X.t) HV.out hl)
      subst hX
      have hnn : ((rn : Int) != (X.cols.length : Int)) = true := by simp only [bne_iff_ne]; omega
      go_wp2_with fail
      go_ret
      exact ⟨rfl, T2.out.below⟩
  · have hX := HE.out.symm.trans (fitsT_check hv h0)
    subst hX
    have hvv : (E != 0) = true := by simp [h0]
    clear hv
    go_wp2_with fail
    go_ret
    exact ⟨rfl, T2.out.below⟩
end Go.Proofs.Ytpgdfhncigmmbaa
