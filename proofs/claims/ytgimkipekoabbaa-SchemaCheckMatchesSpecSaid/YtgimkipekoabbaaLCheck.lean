/-
  The walk of SchemaCheckMatchesSpec. No condition.
-/
import Derived.Test.YtgimkipekoabbaaWFew
import Derived.Test.YtgimkipekoabbaaRCheckT
namespace Go.Proofs.Ytgimkipekoabbaa
open Go.RowKit

theorem nm_check : (Try.f19.name == "runtime.NumGoroutine") = false := by kernel_rfl
theorem bd_check : Try.f19.body.isNone = false := by kernel_rfl
theorem nm_rcheck : (Try.f20.name == "runtime.NumGoroutine") = false := by kernel_rfl
theorem bd_rcheck : Try.f20.body.isNone = false := by kernel_rfl
theorem rcheck_is {X : TabP} {v : Int} (h : checkT X.t = v) {w : World} (hr : TabRd w X) : Calls Try.prog 20 #[.agg #[.string ⟨X.name.toArray⟩, .slice X.ca X.cols.length X.cc, .slice X.ia X.ixs.length X.ic, .slice X.ha X.chks.length X.hc]] w (RetV (.int .i64 v) w) := by
  subst h; exact rcheck_any X w hr

set_option maxRecDepth 20000 in
set_option maxHeartbeats 4000000 in
theorem check_walk (X : TabP) (w : World) (hr : TabRd w X) : Calls Try.prog 4 #[X.v] w (RetV (.bool true) w) := by
  generalize hv : checkT X.t = v
  have HV := Box.mk hv
  clear hv
  generalize hf : fewB X.t = fb
  have HF := Box.mk hf
  clear hf
  have T1 := Box.mk (TabIn.start hr)
  clear hr
  unfold TabP.cs at T1
  unfold TabP.v
  go_enter Try.func4, Try.ntmps4
  go_wp2_with fail
  generalize (w.alloc (.cells #[.string ⟨X.name.toArray⟩, .slice X.ca X.cols.length X.cc, .slice X.ia X.ixs.length X.ic, .slice X.ha X.chks.length X.hc] 28)) = W at *
  generalize hg : w.heap.size = g at *
  have HG := Box.mk hg
  clear hg
  refine (sanity_any W).mono ?_
  rintro e w2 ⟨rfl, hb⟩
  have T2 := Box.mk (T1.out.step hb)
  clear hb T1
  have x0 := T2.out.c0
  have x1 := T2.out.c1
  have x2 := T2.out.c2
  have x3 := T2.out.c3
  go_wp2_with fail
  refine (few_is HF.out T2.out.rd).mono ?_
  rintro e w3 ⟨rfl, hb⟩
  have T3 := Box.mk (T2.out.step hb)
  clear hb T2 x0 x1 x2 x3
  cases fb with
  | false =>
    go_wp2_with fail
    go_ret
    exact ⟨rfl, HG.out ▸ T3.out.below⟩
  | true =>
    go_wp2_with fail
    have HS0 : TabIn w w3.drew g X := T3.out.drewN 1
    refine wp_region_held_drew (S := fun w' => TabIn w w' g X) (by kernel_rfl) HS0 (fun _ => ?_)
    refine wpAnyH_take (i := 0) (v := ?_) rfl (by kernel_rfl) (by kernel_rfl) (by kernel_rfl) (fun _ _ _ h => h) (yieldsIf_val (by rfl) (fun w' hS => ?_)) HS0 ?_
    rotate_left
    · skip
      go_simp
      all_goals with_reducible rfl
    conv =>
      arg 8
      simp [go_sem]
    refine wpAnyH_take (i := 1) (v := ?_) rfl (by kernel_rfl) (by kernel_rfl) (by kernel_rfl) (fun _ _ _ h => h) (yieldsIf_val (by rfl) (fun w' hS => ?_)) HS0 ?_
    rotate_left
    · skip
      go_simp
      all_goals with_reducible rfl
    conv =>
      arg 8
      simp [go_sem]
    refine wpAnyH_take (i := 2) (v := ?_) rfl (by kernel_rfl) (by kernel_rfl) (by kernel_rfl) (fun _ _ _ h => h) (yieldsIf_val (by rfl) (fun w' hS => ?_)) HS0 ?_
    rotate_left
    · skip
      have e0 := hS.c0
      have e1 := hS.c1
      have e2 := hS.c2
      have e3 := hS.c3
      go_simp
      all_goals with_reducible rfl
    conv =>
      arg 8
      simp [go_sem]
    refine wpAnyH_take (i := 4) (v := ?_) rfl (by kernel_rfl) (by kernel_rfl) (by kernel_rfl) (fun _ _ _ h => h) (yieldsIf_val (by rfl) (fun w' hS => ?_)) HS0 ?_
    rotate_left
    · skip
      have e0 := hS.c0
      have e1 := hS.c1
      have e2 := hS.c2
      have e3 := hS.c3
      go_simp
      all_goals with_reducible rfl
    conv =>
      arg 8
      simp [go_sem]
    conv =>
      arg 8
      simp [go_sem]
    refine wpAnyH_ready (rs := [3]) (by kernel_rfl) (by simp) (AllReadyH.cons rfl (fun K' hK' => oper_call (by rfl) 19 [.tmp 11] #[28] rfl (vs := [.agg #[.string ⟨X.name.toArray⟩, .slice X.ca X.cols.length X.cc, .slice X.ia X.ixs.length X.ic, .slice X.ha X.chks.length X.hc]]) rfl Try.func19 nm_check bd_check (check_is HV.out HS0.rd) ?_) AllReadyH.nil)
    rintro e w5 ⟨rfl, hb5⟩
    have HS1 := HS0.step hb5
    refine ⟨_, rfl, hK'.out _ _ HS1 (fun _ => ?_)⟩
    clear hK' K'
    conv =>
      arg 8
      simp [go_sem]
    conv =>
      arg 8
      simp [go_sem]
    refine wpAnyH_ready (rs := [5]) (by kernel_rfl) (by simp) (AllReadyH.cons rfl (fun K' hK' => oper_call (by rfl) 20 [.tmp 13] #[28] rfl (vs := [.agg #[.string ⟨X.name.toArray⟩, .slice X.ca X.cols.length X.cc, .slice X.ia X.ixs.length X.ic, .slice X.ha X.chks.length X.hc]]) rfl Try.func20 nm_rcheck bd_rcheck (rcheck_is HV.out HS1.rd) ?_) AllReadyH.nil)
    rintro e w6 ⟨rfl, hb6⟩
    have HS2 := HS1.step hb6
    refine ⟨_, rfl, hK'.out _ _ HS2 (fun _ => ?_)⟩
    clear hK' K'
    conv =>
      arg 8
      simp [go_sem]
    refine wpAnyH_take (i := 6) (v := ?_) rfl (by kernel_rfl) (by kernel_rfl) (by kernel_rfl) (fun _ _ _ h => h) (yieldsIf_val (by rfl) (fun w' hS => ?_)) HS2 ?_
    rotate_left
    · skip
      go_simp
      all_goals with_reducible rfl
    conv =>
      arg 8
      simp [go_sem]
    refine wpAnyH_take (i := 7) (v := ?_) rfl (by kernel_rfl) (by kernel_rfl) (by kernel_rfl) (fun _ _ _ h => h) (yieldsIf_val (by rfl) (fun w' hS => ?_)) HS2 ?_
    rotate_left
    · skip
      go_simp
      all_goals with_reducible rfl
    conv =>
      arg 8
      simp [go_sem]
    refine wpAnyH_take (i := 8) (v := ?_) rfl (by kernel_rfl) (by kernel_rfl) (by kernel_rfl) (fun _ _ _ h => h) (yieldsIf_val (by rfl) (fun w' hS => ?_)) HS2 ?_
    rotate_left
    · skip
      go_simp
      all_goals with_reducible rfl
    refine ⟨by kernel_rfl, ?_⟩
    conv =>
      arg 5
      simp [go_sem]
    go_wp2_with fail
    go_ret
    exact ⟨rfl, HG.out ▸ HS2.below⟩
end Go.Proofs.Ytgimkipekoabbaa
