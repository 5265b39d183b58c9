/-
  The walk of SchemaFitsMatchesSpec. No condition.
-/
import Derived.Test.YtgimkipekoabbaaE20
import Derived.Test.YtgimkipekoabbaaF20
import Derived.Test.YtgimkipekoabbaaLSep
namespace Go.Proofs.Ytgimkipekoabbaa
open Go.RowKit

theorem rfits_is {X : TabP} {r : List Val} {v : Int} (h : fitsT X.t r = v) {ra : Option Addr} {rn rc : Nat} {w : World} (hr : TabRd w X) (hrr : Rd w ra rn rc 3 (recC Val.enc r)) : Calls Try.prog 29 #[.agg #[.string ⟨X.name.toArray⟩, .slice X.ca X.cols.length X.cc, .slice X.ia X.ixs.length X.ic, .slice X.ha X.chks.length X.hc], .slice ra rn rc] w (RetV (.int .i64 v) w) := by
  subst h; exact rfits_any X r ra rn rc w hr hrr
/-- What Extend returns, to read. -/
def RetRow (m : Nat) (l : List Val) (w : World) (e : Ending) (w' : World) : Prop := Below w.heap.size w w' ∧ ∃ a cap, e = .returned (.slice a m cap) ∧ Rd w' a m cap 3 (recC Val.enc l)
theorem RetOwn.row {m : Nat} {l : List Val} {w w' : World} {e : Ending} (h : RetOwn 40 3 m (recC Val.enc l) w e w') : RetRow m l w e w' := by
  obtain ⟨h1, a, c, h2, h3⟩ := h
  exact ⟨h1, a, c, h2, Rd.ofOwn h3⟩
theorem extend_is {X : TabP} {r l : List Val} {m : Nat} (h1 : extT X.cols.length r = l) {ra : Option Addr} {rn rc : Nat} (h2 : max X.cols.length rn = m) {w : World} (hr : TabRd w X) (hrr : Rd w ra rn rc 3 (recC Val.enc r)) (hn : rn ≤ 1000) (hc : X.cols.length ≤ 1000) : Calls Try.prog 31 #[.agg #[.string ⟨X.name.toArray⟩, .slice X.ca X.cols.length X.cc, .slice X.ia X.ixs.length X.ic, .slice X.ha X.chks.length X.hc], .slice ra rn rc] w (RetRow m l w) := by
  subst h1 h2; exact (extend_any X r ra rn rc w hr hrr hn hc).mono fun _ _ h => h.row
theorem rextend_is {X : TabP} {r l : List Val} {m : Nat} (h1 : extT X.cols.length r = l) {ra : Option Addr} {rn rc : Nat} (h2 : max X.cols.length rn = m) {w : World} (hr : TabRd w X) (hrr : Rd w ra rn rc 3 (recC Val.enc r)) (hn : rn ≤ 1000) (hc : X.cols.length ≤ 1000) : Calls Try.prog 32 #[.agg #[.string ⟨X.name.toArray⟩, .slice X.ca X.cols.length X.cc, .slice X.ia X.ixs.length X.ic, .slice X.ha X.chks.length X.hc], .slice ra rn rc] w (RetRow m l w) := by
  subst h1 h2; exact (rextend_any X r ra rn rc w hr hrr hn hc).mono fun _ _ h => h.row
theorem sameRow_is {l m : List Val} {d : Bool} (h : decide (l = m) = d) {a b : Option Addr} {n n2 cap cap2 : Nat} {w : World} (h1 : Rd w a n cap 3 (recC Val.enc l)) (h2 : Rd w b n2 cap2 3 (recC Val.enc m)) :
    Calls Try.prog 30 #[.slice a n cap, .slice b n2 cap2] w (RetV (.bool d) w) := by
  subst h
  refine (sameRow_any l m a b n n2 cap cap2 w h1 h2).mono ?_
  rintro e w' ⟨rfl, q, rfl⟩
  exact ⟨rfl, below_drewN (Below.refl _ _) q⟩
theorem nm_sfits : (Try.f24.name == "runtime.NumGoroutine") = false := by kernel_rfl
theorem bd_sfits : Try.f24.body.isNone = false := by kernel_rfl
theorem nm_rfits : (Try.f29.name == "runtime.NumGoroutine") = false := by kernel_rfl
theorem bd_rfits : Try.f29.body.isNone = false := by kernel_rfl
theorem nm_sext : (Try.f31.name == "runtime.NumGoroutine") = false := by kernel_rfl
theorem bd_sext : Try.f31.body.isNone = false := by kernel_rfl
theorem nm_rext : (Try.f32.name == "runtime.NumGoroutine") = false := by kernel_rfl
theorem bd_rext : Try.f32.body.isNone = false := by kernel_rfl
theorem nm_srow : (Try.f30.name == "runtime.NumGoroutine") = false := by kernel_rfl
theorem bd_srow : Try.f30.body.isNone = false := by kernel_rfl
set_option maxRecDepth 20000 in
set_option maxHeartbeats 4000000 in
theorem fits_walk (X : TabP) (r : List Val) (ra : Option Addr) (rn rc : Nat) (w : World) (hr : TabRd w X) (hrr : Rd w ra rn rc 3 (recC Val.enc r)) : Calls Try.prog 8 #[X.v, .slice ra rn rc] w (RetV (.bool true) w) := by
  generalize hf : fewB X.t = fb
  have HF := Box.mk hf
  clear hf
  generalize hv : fitsT X.t r = v
  generalize hx : extT X.cols.length r = xr
  generalize hm : max X.cols.length rn = m
  have HV := Box.mk (And.intro hv (And.intro hx hm))
  clear hv hx hm
  have T1 := Box.mk (TabIn.start hr)
  have R1 := Box.mk (hrr.alloc (.cells X.cs.toArray 28))
  have mr := hrr.lenMax
  clear hr hrr
  unfold TabP.cs at T1 R1
  unfold TabP.v
  go_enter Try.func8, Try.ntmps8
  go_wp2_with fail
  generalize (w.alloc (.cells #[.string ⟨X.name.toArray⟩, .slice X.ca X.cols.length X.cc, .slice X.ia X.ixs.length X.ic, .slice X.ha X.chks.length X.hc] 28)) = W at *
  generalize hg : w.heap.size = g at *
  have HG := Box.mk hg
  clear hg
  refine (sanity_any W).mono ?_
  rintro e w2 ⟨rfl, hb⟩
  have T2 := Box.mk (T1.out.step hb)
  have R2 := Box.mk (R1.out.call0 hb)
  clear hb T1 R1
  have x0 := T2.out.c0
  have x1 := T2.out.c1
  have x2 := T2.out.c2
  have x3 := T2.out.c3
  go_wp2_with fail
  refine (few_is HF.out T2.out.rd).mono ?_
  rintro e w3 ⟨rfl, hb⟩
  have T3 := Box.mk (T2.out.step hb)
  have R3 := Box.mk (R2.out.call0 hb)
  clear hb T2 R2 x0 x1 x2 x3
  cases fb with
  | false =>
    go_wp2_with fail
    go_ret
    exact ⟨rfl, HG.out ▸ T3.out.below⟩
  | true =>
    by_cases hl : 20 < rn
    · go_wp2_with fail
      go_ret
      exact ⟨rfl, HG.out ▸ T3.out.below⟩
    have hl20 : rn ≤ 20 := by omega
    clear hl
    have hc20 : X.cols.length ≤ 1000 := by
      have := (fewB_true HF.out).1
      change X.cols.length ≤ 20 at this
      omega
    go_wp2_with fail
    have HS0 : TabIn w w3.drew g X ∧ Rd w3.drew ra rn rc 3 (recC Val.enc r) := ⟨T3.out.drewN 1, R3.out.drew⟩
    clear T3 R3
    refine wp_region_held_drew (S := fun w' => TabIn w w' g X ∧ Rd w' ra rn rc 3 (recC Val.enc r)) (by kernel_rfl) HS0 (fun _ => ?_)
    refine wpAnyH_take (i := 0) (v := ?_) rfl (by kernel_rfl) (by kernel_rfl) (by kernel_rfl) (fun _ _ _ h => h) (yieldsIf_val (by rfl) (fun w' hS => ?_)) HS0 ?_
    rotate_left
    · skip
      go_simp
      all_goals with_reducible rfl
    conv =>
      arg 8
      simp [go_sem]
    refine wpAnyH_take (i := 1) (v := ?_) rfl (by kernel_rfl) (by kernel_rfl) (by kernel_rfl) (fun _ _ _ h => h) (yieldsIf_val (by rfl) (fun w' hS => ?_)) HS0 ?_
    rotate_left
    · skip
      go_simp
      all_goals with_reducible rfl
    conv =>
      arg 8
      simp [go_sem]
    refine wpAnyH_take (i := 2) (v := ?_) rfl (by kernel_rfl) (by kernel_rfl) (by kernel_rfl) (fun _ _ _ h => h) (yieldsIf_val (by rfl) (fun w' hS => ?_)) HS0 ?_
    rotate_left
    · skip
      have e0 := hS.1.c0
      have e1 := hS.1.c1
      have e2 := hS.1.c2
      have e3 := hS.1.c3
      go_simp
      all_goals with_reducible rfl
    conv =>
      arg 8
      simp [go_sem]
    refine wpAnyH_take (i := 3) (v := ?_) rfl (by kernel_rfl) (by kernel_rfl) (by kernel_rfl) (fun _ _ _ h => h) (yieldsIf_val (by rfl) (fun w' hS => ?_)) HS0 ?_
    rotate_left
    · skip
      go_simp
      all_goals with_reducible rfl
    conv =>
      arg 8
      simp [go_sem]
    refine wpAnyH_take (i := 5) (v := ?_) rfl (by kernel_rfl) (by kernel_rfl) (by kernel_rfl) (fun _ _ _ h => h) (yieldsIf_val (by rfl) (fun w' hS => ?_)) HS0 ?_
    rotate_left
    · skip
      have e0 := hS.1.c0
      have e1 := hS.1.c1
      have e2 := hS.1.c2
      have e3 := hS.1.c3
      go_simp
      all_goals with_reducible rfl
    conv =>
      arg 8
      simp [go_sem]
    refine wpAnyH_take (i := 6) (v := ?_) rfl (by kernel_rfl) (by kernel_rfl) (by kernel_rfl) (fun _ _ _ h => h) (yieldsIf_val (by rfl) (fun w' hS => ?_)) HS0 ?_
    rotate_left
    · skip
      go_simp
      all_goals with_reducible rfl
    conv =>
      arg 8
      simp [go_sem]
    conv =>
      arg 8
      simp [go_sem]
    refine wpAnyH_ready (rs := [4]) (by kernel_rfl) (by simp) (AllReadyH.cons rfl (fun K' hK' => oper_call (by rfl) 24 [.tmp 18, .tmp 19] #[28, 37] rfl (vs := [.agg #[.string ⟨X.name.toArray⟩, .slice X.ca X.cols.length X.cc, .slice X.ia X.ixs.length X.ic, .slice X.ha X.chks.length X.hc], .slice ra rn rc]) rfl Try.func24 nm_sfits bd_sfits (fits_is HV.out.1 HS0.1.rd HS0.2) ?_) AllReadyH.nil)
    rintro e w5 ⟨rfl, hb5⟩
    have HT1 := And.intro (HS0.1.step hb5) (HS0.2.call0 hb5)
    refine ⟨_, rfl, hK'.out _ _ HT1 (fun _ => ?_)⟩
    clear hK' K'
    conv =>
      arg 8
      simp [go_sem]
    conv =>
      arg 8
      simp [go_sem]
    refine wpAnyH_ready (rs := [7]) (by kernel_rfl) (by simp) (AllReadyH.cons rfl (fun K' hK' => oper_call (by rfl) 29 [.tmp 21, .tmp 22] #[28, 37] rfl (vs := [.agg #[.string ⟨X.name.toArray⟩, .slice X.ca X.cols.length X.cc, .slice X.ia X.ixs.length X.ic, .slice X.ha X.chks.length X.hc], .slice ra rn rc]) rfl Try.func29 nm_rfits bd_rfits (rfits_is HV.out.1 HT1.1.rd HT1.2) ?_) AllReadyH.nil)
    rintro e w6 ⟨rfl, hb5⟩
    have HT2 := And.intro (HT1.1.step hb5) (HT1.2.call0 hb5)
    refine ⟨_, rfl, hK'.out _ _ HT2 (fun _ => ?_)⟩
    clear hK' K'
    conv =>
      arg 8
      simp [go_sem]
    refine wpAnyH_take (i := 8) (v := ?_) rfl (by kernel_rfl) (by kernel_rfl) (by kernel_rfl) (fun _ _ _ h => h) (yieldsIf_val (by rfl) (fun w' hS => ?_)) HT2 ?_
    rotate_left
    · skip
      go_simp
      all_goals with_reducible rfl
    conv =>
      arg 8
      simp [go_sem]
    refine wpAnyH_take (i := 9) (v := ?_) rfl (by kernel_rfl) (by kernel_rfl) (by kernel_rfl) (fun _ _ _ h => h) (yieldsIf_val (by rfl) (fun w' hS => ?_)) HT2 ?_
    rotate_left
    · skip
      go_simp
      all_goals with_reducible rfl
    conv =>
      arg 8
      simp [go_sem]
    refine wpAnyH_take (i := 10) (v := ?_) rfl (by kernel_rfl) (by kernel_rfl) (by kernel_rfl) (fun _ _ _ h => h) (yieldsIf_val (by rfl) (fun w' hS => ?_)) HT2 ?_
    rotate_left
    · skip
      go_simp
      all_goals with_reducible rfl
    conv =>
      arg 8
      simp [go_sem]
    refine wpAnyH_take (i := 11) (v := ?_) rfl (by kernel_rfl) (by kernel_rfl) (by kernel_rfl) (fun _ _ _ h => h) (yieldsIf_val (by rfl) (fun w' hS => ?_)) HT2 ?_
    rotate_left
    · skip
      have e0 := hS.1.c0
      have e1 := hS.1.c1
      have e2 := hS.1.c2
      have e3 := hS.1.c3
      go_simp
      all_goals with_reducible rfl
    conv =>
      arg 8
      simp [go_sem]
    refine wpAnyH_take (i := 12) (v := ?_) rfl (by kernel_rfl) (by kernel_rfl) (by kernel_rfl) (fun _ _ _ h => h) (yieldsIf_val (by rfl) (fun w' hS => ?_)) HT2 ?_
    rotate_left
    · skip
      go_simp
      all_goals with_reducible rfl
    conv =>
      arg 8
      simp [go_sem]
    refine wpAnyH_take (i := 14) (v := ?_) rfl (by kernel_rfl) (by kernel_rfl) (by kernel_rfl) (fun _ _ _ h => h) (yieldsIf_val (by rfl) (fun w' hS => ?_)) HT2 ?_
    rotate_left
    · skip
      have e0 := hS.1.c0
      have e1 := hS.1.c1
      have e2 := hS.1.c2
      have e3 := hS.1.c3
      go_simp
      all_goals with_reducible rfl
    conv =>
      arg 8
      simp [go_sem]
    refine wpAnyH_take (i := 15) (v := ?_) rfl (by kernel_rfl) (by kernel_rfl) (by kernel_rfl) (fun _ _ _ h => h) (yieldsIf_val (by rfl) (fun w' hS => ?_)) HT2 ?_
    rotate_left
    · skip
      go_simp
      all_goals with_reducible rfl
    conv =>
      arg 8
      simp [go_sem]
    conv =>
      arg 8
      simp [go_sem]
    refine wpAnyH_ready (rs := [13]) (by kernel_rfl) (by simp) (AllReadyH.cons rfl (fun K' hK' => oper_call (by rfl) 31 [.tmp 27, .tmp 28] #[28, 37] rfl (vs := [.agg #[.string ⟨X.name.toArray⟩, .slice X.ca X.cols.length X.cc, .slice X.ia X.ixs.length X.ic, .slice X.ha X.chks.length X.hc], .slice ra rn rc]) rfl Try.func31 nm_sext bd_sext (extend_is HV.out.2.1 HV.out.2.2 HT2.1.rd HT2.2 (by omega) hc20) ?_) AllReadyH.nil)
    rintro e w7 ⟨hb5, a7, c7, rfl, hrd7⟩
    have E7 := Box.mk hrd7
    clear hrd7
    have HT3 := And.intro (HT2.1.step hb5) (HT2.2.call0 hb5)
    refine ⟨_, rfl, hK'.out _ _ HT3 (fun _ => ?_)⟩
    clear hK' K'
    conv =>
      arg 8
      simp [go_sem]
    conv =>
      arg 8
      simp [go_sem]
    refine wpAnyH_ready (rs := [16]) (by kernel_rfl) (by simp) (AllReadyH.cons rfl (fun K' hK' => oper_call (by rfl) 32 [.tmp 30, .tmp 31] #[28, 37] rfl (vs := [.agg #[.string ⟨X.name.toArray⟩, .slice X.ca X.cols.length X.cc, .slice X.ia X.ixs.length X.ic, .slice X.ha X.chks.length X.hc], .slice ra rn rc]) rfl Try.func32 nm_rext bd_rext (rextend_is HV.out.2.1 HV.out.2.2 HT3.1.rd HT3.2 (by omega) hc20) ?_) AllReadyH.nil)
    rintro e w8 ⟨hb5, a8, c8, rfl, hrd8⟩
    have E8 := Box.mk (And.intro (E7.out.call0 hb5) hrd8)
    clear hrd8
    have HT4 := And.intro (HT3.1.step hb5) (HT3.2.call0 hb5)
    refine ⟨_, rfl, hK'.out _ _ HT4 (fun _ => ?_)⟩
    clear hK' K'
    conv =>
      arg 8
      simp [go_sem]
    conv =>
      arg 8
      simp [go_sem]
    refine wpAnyH_ready (rs := [17]) (by kernel_rfl) (by simp) (AllReadyH.cons rfl (fun K' hK' => oper_call (by rfl) 30 [.tmp 29, .tmp 32] #[37, 37] rfl (vs := [.slice a7 m c7, .slice a8 m c8]) rfl Try.func30 nm_srow bd_srow (sameRow_is (d := true) (decide_eq_true rfl) E8.out.1 E8.out.2) ?_) AllReadyH.nil)
    rintro e w9 ⟨rfl, hb5⟩
    have HT5 := And.intro (HT4.1.step hb5) (HT4.2.call0 hb5)
    refine ⟨_, rfl, hK'.out _ _ HT5 (fun _ => ?_)⟩
    clear hK' K'
    conv =>
      arg 8
      simp [go_sem]
    refine wpAnyH_take (i := 18) (v := ?_) rfl (by kernel_rfl) (by kernel_rfl) (by kernel_rfl) (fun _ _ _ h => h) (yieldsIf_val (by rfl) (fun w' hS => ?_)) HT5 ?_
    rotate_left
    · skip
      go_simp
      all_goals with_reducible rfl
    conv =>
      arg 8
      simp [go_sem]
    refine wpAnyH_take (i := 19) (v := ?_) rfl (by kernel_rfl) (by kernel_rfl) (by kernel_rfl) (fun _ _ _ h => h) (yieldsIf_val (by rfl) (fun w' hS => ?_)) HT5 ?_
    rotate_left
    · skip
      go_simp
      all_goals with_reducible rfl
    conv =>
      arg 8
      simp [go_sem]
    refine ⟨by kernel_rfl, ?_⟩
    conv =>
      arg 5
      simp [go_sem]
    go_wp2_with fail
    go_ret
    exact ⟨by first | rfl | simp, HG.out ▸ HT5.1.below⟩
end Go.Proofs.Ytgimkipekoabbaa
