/-
  The walk of RowReadsWhatItWrote. No condition.
-/
import Derived.Test.YtpgdfhncigmmbaaLGrw
namespace Go.Proofs.Ytpgdfhncigmmbaa
open Go.RowKit

theorem oper_append_full {P : Program} {w : World} {ops : Array Oper} {o : Oper} {a : Act} {K : Act → World → Prop} {Q : Exit → Act → World → Prop} (hgd : Region.wanted o (yielded ops a.tmps) = true) (s x : Operand) (t tx : TypeId)
    (ho : o.op = .call { callee := .builtin .append, args := #[s, x], argTypes := #[t, tx] })
    {e : TypeId} {z : Value} {size bytes : Nat} (hT : SlT P t e z size bytes) (htx : P.underlying tx = some (.slice e) ∨ P.underlying tx = some .string)
    {a0 : Option Addr} {n : Nat} {xs : List Value} (hs : a.eval s = .slice a0 n n) (hrd : Rd w a0 n n size xs)
    {xv : Value} {m : Nat} {news : List Value} (hx : a.eval x = xv) (hsrc : Src P w xv m size news)
    (hbytes : (n + m) * bytes ≤ 140737488355328) (h63 : n + m ≤ maxLen)
    (h : ∀ a' cap' w', Rd w' a' (n + m) cap' size (xs ++ news) → Below w.heap.size w w' → K (a.put o.dst (.slice a' (n + m) cap')) w') : if Region.wanted o (yielded ops a.tmps) = true then Oper.wp P o a w K Q else K (a.put o.dst undef) w := by
  rw [if_pos hgd]
  obtain ⟨a', cap', w', hr, h2, h3⟩ := run_append_full (P := P) w t tx o.type e hT htx a0 n xs hrd xv m news hsrc hbytes h63
  unfold Oper.wp execOp
  simp only [ho, resolve, invoke, builtin, Sem.run_bind, Sem.run_pure, Result.andThen_ok, List.map_toArray, List.map_cons, List.map_nil, hs, hx, hr]
  exact h a' cap' w' h2 h3
theorem nm_dec : (Try.f14.name == "runtime.NumGoroutine") = false := by kernel_rfl
theorem bd_dec : Try.f14.body.isNone = false := by kernel_rfl

set_option maxRecDepth 100000 in
set_option maxHeartbeats 8000000 in
theorem reads_walk {X : TabP} {r : List Val} {more : List Int} {a b : Option Addr} {n c m d : Nat} {cu : Nat} {w : World} (hX : TabRd w X) (hr : Rd w a n c 3 (recC Val.enc r)) (hm : Rd w b m d 1 (intVals more)) (hcu : cu < 256) : Calls Try.prog 5 #[X.v, .slice a n c, .slice b m d, .int .u8 (cu : Int)] w (RetV (.bool true) w) := by
  have hln := hr.rlen Val.enc_len (by omega)
  have hnm := hr.lenMax
  have hmm := hm.lenMax
  have T1 := Box.mk (TabIn.start hX)
  have HR := Box.mk hr
  have HM := Box.mk hm
  clear hX hr hm
  unfold TabP.cs at T1
  unfold TabP.v
  have u0 := T1.out.c0
  have u1 := T1.out.c1
  have u2 := T1.out.c2
  have u3 := T1.out.c3
  generalize hV : validT X.t [⟨a, c, r⟩] = dd
  have HV := Box.mk hV
  clear hV
  go_enter Try.func5, Try.ntmps5
  go_upto_region 1 with fail
  generalize (w.alloc (.cells #[.string ⟨X.name.toArray⟩, .slice X.ca X.cols.length X.cc, .slice X.ia X.ixs.length X.ic, .slice X.ha X.chks.length X.hc] 26)) = W at *
  have T2 := Box.mk (T1.out.alloc (.cells #[.slice a n c] 28))
  have R2 := Box.mk (Blk.new (w := W) (k := W.heap.size) (ty := 28) (cs := [.slice a n c]) rfl rfl)
  clear T1
  go_wp2_with fail
  clear u0 u1 u2 u3
  generalize (W.alloc (.cells #[.slice a n c] 28)) = w2 at *
  refine (valid1_is HV.out T2.out.rd (HR.out.below T2.out.below (Nat.le_refl _)) R2.out).mono ?_
  rintro e w3 ⟨rfl, hb3⟩
  have T3 := Box.mk (T2.out.step hb3)
  clear hb3 T2 R2
  cases dd with
  | false =>
    go_wp2_with fail
    refine (sanity_any w3).mono ?_
    rintro e w4 ⟨rfl, hb4⟩
    have T4 := Box.mk (T3.out.step hb4)
    clear hb4
    go_wp2_with fail
    go_ret
    exact ⟨rfl, T4.out.below⟩
  | true =>
    obtain ⟨_, hck, hrt⟩ := validT_true HV.out
    obtain ⟨hok, h20⟩ := rightB_true (hrt _ (List.mem_singleton_self _))
    have HOK := Box.mk (And.intro hck hok)
    have hn20 : n ≤ 20 := by rw [← hln]; exact h20
    have hX8 : X.cols.length ≤ 8 := (checkT_ok hck).cols8
    clear hck hok hrt h20
    by_cases hm20 : 20 < m
    · go_wp2_with fail
      refine (sanity_any w3).mono ?_
      rintro e w4 ⟨rfl, hb4⟩
      have T4 := Box.mk (T3.out.step hb4)
      clear hb4
      go_wp2_with fail
      go_ret
      exact ⟨rfl, T4.out.below⟩
    · have u0 := T3.out.c0
      have u1 := T3.out.c1
      have u2 := T3.out.c2
      have u3 := T3.out.c3
      generalize hL : encR X.t r = L
      generalize hE : fitsT X.t r = E
      obtain ⟨lm, hlm⟩ : ∃ lm, L.length = lm := ⟨_, rfl⟩
      have HEN := Box.mk (And.intro hL (And.intro hE hlm))
      clear hL hE hlm
      go_wp2_with fail
      refine (encode_is HEN.out.1 HEN.out.2.1 HEN.out.2.2 T3.out.rd (HR.out.below T3.out.below (Nat.le_refl _))).mono ?_
      rintro e w4 ⟨hb4, a4, c4, rfl, hown4⟩
      have T4 := Box.mk (T3.out.step hb4)
      have R4 := Box.mk (Rd.ofOwn hown4)
      clear hb4 hown4 T3 u0 u1 u2 u3
      by_cases hE0 : E = 0
      · subst hE0
        have hLw : L = wordsR r := by rw [← HEN.out.1]; exact if_pos HEN.out.2.1
        have hfw := fits_words HEN.out.2.1
        have HD := Box.mk (show decT X.t (L ++ more) = some (r, lm) from by rw [hLw, decT_back HEN.out.2.1, ← hLw, HEN.out.2.2])
        have hlm1 : 1 ≤ lm := by rw [← HEN.out.2.2, hLw]; exact hfw.1
        have hlm : lm ≤ 73 := by rw [← HEN.out.2.2, hLw]; exact hfw.2
        have HSZ := Box.mk (show (wordsR r).length = lm from by rw [← hLw, HEN.out.2.2])
        obtain ⟨k, hk⟩ : ∃ k, cu % lm = k := ⟨_, rfl⟩
        have hkl : k < lm := by rw [← hk]; exact Nat.mod_lt _ (by omega)
        have HK := Box.mk hk
        have HD2 := Box.mk (show decT X.t (L.take k) = none from by rw [hLw]; exact decT_cut HEN.out.2.1 (by rw [← hLw, HEN.out.2.2]; exact hkl))
        have hcap := R4.out.hcap
        have hcmx := R4.out.hmax
        unfold maxLen at hcmx
        clear hk hLw hfw
        go_upto_region 7 with fail
        have HS0 : TabIn w w4.drew w.heap.size X ∧ Rd w4.drew a4 lm c4 1 (intVals L) := ⟨T4.out.step (Below.refl _ _).drew, R4.out.drew⟩
        clear T4 R4
        refine wp_region_held_drew (S := fun w' => TabIn w w' w.heap.size X ∧ Rd w' a4 lm c4 1 (intVals L)) (by kernel_rfl) HS0 (fun _ => ?_)
        refine wpAnyH_take (i := 0) (v := ?_) rfl (by kernel_rfl) (by kernel_rfl) (by kernel_rfl) (fun _ _ _ h => h) (yieldsIf_val (by rfl) (fun w' hS => ?_)) HS0 ?_
        rotate_left
        · skip
          have e0 := hS.1.c0
          have e1 := hS.1.c1
          have e2 := hS.1.c2
          have e3 := hS.1.c3
          go_simp
          all_goals with_reducible rfl
        conv =>
          arg 8
          simp [go_sem]
        refine wpAnyH_take (i := 1) (v := ?_) rfl (by kernel_rfl) (by kernel_rfl) (by kernel_rfl) (fun _ _ _ h => h) (yieldsIf_val (by rfl) (fun w' hS => ?_)) HS0 ?_
        rotate_left
        · skip
          go_simp
          all_goals with_reducible rfl
        conv =>
          arg 8
          simp [go_sem]
        refine wpAnyH_take (i := 2) (v := ?_) rfl (by kernel_rfl) (by kernel_rfl) (by kernel_rfl) (fun _ _ _ h => h) (yieldsIf_val (by rfl) (fun w' hS => ?_)) HS0 ?_
        rotate_left
        · skip
          go_simp
          all_goals with_reducible rfl
        conv =>
          arg 8
          simp [go_sem]
        refine wpAnyH_take (i := 3) (v := ?_) rfl (by kernel_rfl) (by kernel_rfl) (by kernel_rfl) (fun _ _ _ h => h) (yieldsIf_val (by rfl) (fun w' hS => ?_)) HS0 ?_
        rotate_left
        · skip
          go_simp
          all_goals with_reducible rfl
        conv =>
          arg 8
          simp [go_sem]
        refine wpAnyH_take (i := 4) (v := ?_) rfl (by kernel_rfl) (by kernel_rfl) (by kernel_rfl) (fun _ _ _ h => h) (yieldsIf_val (by rfl) (fun w' hS => ?_)) HS0 ?_
        rotate_left
        · skip
          go_simp
          all_goals with_reducible rfl
        conv =>
          arg 8
          simp [go_sem]
        refine wpAnyH_take (i := 5) (v := ?_) rfl (by kernel_rfl) (by kernel_rfl) (by kernel_rfl) (fun _ _ _ h => h) (yieldsIf_val (by rfl) (fun w' hS => ?_)) HS0 ?_
        rotate_left
        · skip
          go_simp
          all_goals with_reducible rfl
        conv =>
          arg 8
          simp [go_sem]
        refine wpAnyH_take (i := 6) (v := ?_) rfl (by kernel_rfl) (by kernel_rfl) (by kernel_rfl) (fun _ _ _ h => h) (yieldsIf_val (by rfl) (fun w' hS => ?_)) HS0 ?_
        rotate_left
        · skip
          have q0 : (lm : Int) ≤ (lm : Int) := Int.le_refl _
          have q1 : (lm : Int) ≤ (c4 : Int) := by omega
          have q2 : (0 : Int) ≤ (lm : Int) := by omega
          go_simp
          all_goals with_reducible rfl
        conv =>
          arg 8
          simp [go_sem]
        refine wpAnyH_take (i := 7) (v := ?_) rfl (by kernel_rfl) (by kernel_rfl) (by kernel_rfl) (fun _ _ _ h => h) (yieldsIf_val (by rfl) (fun w' hS => ?_)) HS0 ?_
        rotate_left
        · skip
          go_simp
          all_goals with_reducible rfl
        conv =>
          arg 8
          simp [go_sem]
        conv =>
          arg 8
          simp [go_sem]
        have SRC := Box.mk (Src.ofRd (P := Try.prog) ((HM.out.below HS0.1.below (Nat.le_refl _)) ) (intVals_one _))
        refine wpAnyH_ready (rs := [8]) (by kernel_rfl) (by simp) (AllReadyH.cons rfl (fun K' hK' => oper_append_full (by rfl) (.tmp 46) (.tmp 47) 29 29 rfl sl_int (.inl sl_int.ht) rfl HS0.2.full rfl SRC.out (by omega) (by unfold maxLen; omega) ?_) AllReadyH.nil)
        intro a5 c5 w5 hrd5 hb5
        have HT1 := And.intro (HS0.1.step hb5) (HS0.2.call0 hb5)
        refine hK'.out _ _ HT1 (fun _ => ?_)
        clear hK' K'
        conv =>
          arg 8
          simp [go_sem]
        conv =>
          arg 8
          simp [go_sem]
        have RDD := Box.mk (show Rd w5 a5 (lm + m) c5 1 (intVals (L ++ more)) from by rw [show intVals (L ++ more) = intVals L ++ intVals more from by simp [intVals]]; exact hrd5)
        refine wpAnyH_ready (rs := [9]) (by kernel_rfl) (by simp) (AllReadyH.cons rfl (fun K' hK' => oper_call (by rfl) 14 [.tmp 40, .tmp 48] #[26, 29] rfl (vs := [.agg #[.string ⟨X.name.toArray⟩, .slice X.ca X.cols.length X.cc, .slice X.ia X.ixs.length X.ic, .slice X.ha X.chks.length X.hc], .slice a5 (lm + m) c5]) rfl Try.func14 nm_dec bd_dec (decode_is (m := n) HD.out rfl rfl rfl hln HT1.1.rd RDD.out (by omega) hX8) ?_) AllReadyH.nil)
        rintro e w6 ⟨hb6, a6, c6, rfl, hown6⟩
        have HT2 := And.intro (HT1.1.step hb6) (HT1.2.call0 hb6)
        refine ⟨_, rfl, hK'.out _ _ HT2 (fun _ => ?_)⟩
        clear hK' K'
        conv =>
          arg 8
          simp [go_sem]
        refine wpAnyH_take (i := 10) (v := ?_) rfl (by kernel_rfl) (by kernel_rfl) (by kernel_rfl) (fun _ _ _ h => h) (yieldsIf_val (by rfl) (fun w' hS => ?_)) HT2 ?_
        rotate_left
        · skip
          go_simp
          all_goals with_reducible rfl
        conv =>
          arg 8
          simp [go_sem]
        refine wpAnyH_take (i := 11) (v := ?_) rfl (by kernel_rfl) (by kernel_rfl) (by kernel_rfl) (fun _ _ _ h => h) (yieldsIf_val (by rfl) (fun w' hS => ?_)) HT2 ?_
        rotate_left
        · skip
          go_simp
          all_goals with_reducible rfl
        conv =>
          arg 8
          simp [go_sem]
        refine wpAnyH_take (i := 12) (v := ?_) rfl (by kernel_rfl) (by kernel_rfl) (by kernel_rfl) (fun _ _ _ h => h) (yieldsIf_val (by rfl) (fun w' hS => ?_)) HT2 ?_
        rotate_left
        · skip
          go_simp
          all_goals with_reducible rfl
        conv =>
          arg 8
          simp [go_sem]
        refine wpAnyH_take (i := 13) (v := ?_) rfl (by kernel_rfl) (by kernel_rfl) (by kernel_rfl) (fun _ _ _ h => h) (yieldsIf_val (by rfl) (fun w' hS => ?_)) HT2 ?_
        rotate_left
        · skip
          go_simp
          all_goals with_reducible rfl
        conv =>
          arg 8
          simp [go_sem]
        refine wpAnyH_take (i := 14) (v := ?_) rfl (by kernel_rfl) (by kernel_rfl) (by kernel_rfl) (fun _ _ _ h => h) (yieldsIf_val (by rfl) (fun w' hS => ?_)) HT2 ?_
        rotate_left
        · skip
          go_simp
          all_goals with_reducible rfl
        conv =>
          arg 8
          simp [go_sem]
        refine wpAnyH_take (i := 15) (v := ?_) rfl (by kernel_rfl) (by kernel_rfl) (by kernel_rfl) (fun _ _ _ h => h) (yieldsIf_val (by rfl) (fun w' hS => ?_)) HT2 ?_
        rotate_left
        · skip
          go_simp
          all_goals with_reducible rfl
        conv =>
          arg 8
          simp [go_sem]
        refine wpAnyH_take (i := 16) (v := ?_) rfl (by kernel_rfl) (by kernel_rfl) (by kernel_rfl) (fun _ _ _ h => h) (yieldsIf_val (by rfl) (fun w' hS => ?_)) HT2 ?_
        rotate_left
        · skip
          go_simp
          all_goals with_reducible rfl
        conv =>
          arg 8
          simp [go_sem]
        refine ⟨by kernel_rfl, ?_⟩
        conv =>
          arg 5
          simp [go_sem]
        have HSE := HT2
        have hrdx := Rd.ofOwn hown6
        have hdn : decN (some (r, lm)) = lm := rfl
        have T6 := Box.mk HSE.1
        have R6 := Box.mk HSE.2
        have X6 := Box.mk hrdx
        clear HSE hrdx
        go_wp2_with fail
        refine (size_is HSZ.out (HR.out.below T6.out.below (Nat.le_refl _)) hn20 HOK.out.2).mono ?_
        rintro e w7 ⟨rfl, hb7⟩
        have T7 := Box.mk (T6.out.step hb7)
        have R7 := Box.mk (R6.out.call0 hb7)
        have X7 := Box.mk (X6.out.call0 hb7)
        clear hb7 T6 R6 X6
        have t1 : ((lm : Int) == 0) = false := by simp; omega
        have t2 : decide (73 < lm) = false := decide_eq_false (by omega)
        have t3 : decide ((73 : Int) < (lm : Int)) = false := decide_eq_false (by omega)
        have t4 : ((lm : Int) != (lm : Int)) = false := by simp
        go_upto_region 10 with fail
        have HS1 : TabIn w w7.drew w.heap.size X ∧ Rd w7.drew a4 lm c4 1 (intVals L) ∧ Rd w7.drew a6 n c6 3 (recC Val.enc r) := ⟨T7.out.step (Below.refl _ _).drew, R7.out.drew, X7.out.drew⟩
        clear T7 R7 X7
        refine wp_region_held_drew (S := fun w' => TabIn w w' w.heap.size X ∧ Rd w' a4 lm c4 1 (intVals L) ∧ Rd w' a6 n c6 3 (recC Val.enc r)) (by kernel_rfl) HS1 (fun _ => ?_)
        refine wpAnyH_take (i := 0) (v := ?_) rfl (by kernel_rfl) (by kernel_rfl) (by kernel_rfl) (fun _ _ _ h => h) (yieldsIf_val (by rfl) (fun w' hS => ?_)) HS1 ?_
        rotate_left
        · skip
          have e0 := hS.1.c0
          have e1 := hS.1.c1
          have e2 := hS.1.c2
          have e3 := hS.1.c3
          go_simp
          all_goals with_reducible rfl
        conv =>
          arg 8
          simp [go_sem]
        refine wpAnyH_take (i := 1) (v := ?_) rfl (by kernel_rfl) (by kernel_rfl) (by kernel_rfl) (fun _ _ _ h => h) (yieldsIf_val (by rfl) (fun w' hS => ?_)) HS1 ?_
        rotate_left
        · skip
          go_simp
          all_goals with_reducible rfl
        conv =>
          arg 8
          simp [go_sem]
        refine wpAnyH_take (i := 2) (v := ?_) rfl (by kernel_rfl) (by kernel_rfl) (by kernel_rfl) (fun _ _ _ h => h) (yieldsIf_val (by rfl) (fun w' hS => ?_)) HS1 ?_
        rotate_left
        · skip
          go_simp
          all_goals with_reducible rfl
        conv =>
          arg 8
          simp [go_sem]
        refine wpAnyH_take (i := 3) (v := ?_) rfl (by kernel_rfl) (by kernel_rfl) (by kernel_rfl) (fun _ _ _ h => h) (yieldsIf_val (by rfl) (fun w' hS => ?_)) HS1 ?_
        rotate_left
        · skip
          have q : IntKind.i64.wrap (cu : Int) = (cu : Int) := by rw [IntKind.wrap_i64]; omega
          go_simp
          all_goals with_reducible rfl
        conv =>
          arg 8
          simp [go_sem]
        refine wpAnyH_take (i := 4) (v := ?_) rfl (by kernel_rfl) (by kernel_rfl) (by kernel_rfl) (fun _ _ _ h => h) (yieldsIf_val (by rfl) (fun w' hS => ?_)) HS1 ?_
        rotate_left
        · skip
          go_simp
          all_goals with_reducible rfl
        conv =>
          arg 8
          simp [go_sem]
        refine wpAnyH_take (i := 5) (v := ?_) rfl (by kernel_rfl) (by kernel_rfl) (by kernel_rfl) (fun _ _ _ h => h) (yieldsIf_val (by rfl) (fun w' hS => ?_)) HS1 ?_
        rotate_left
        · skip
          go_simp
          all_goals with_reducible rfl
        conv =>
          arg 8
          simp [go_sem]
        refine wpAnyH_take (i := 6) (v := ?_) rfl (by kernel_rfl) (by kernel_rfl) (by kernel_rfl) (fun _ _ _ h => h) (yieldsIf_val (by rfl) (fun w' hS => ?_)) HS1 ?_
        rotate_left
        · skip
          have t0 : ((lm : Int) == 0) = false := by simp; omega
          have t00 : (lm : Int) ≠ 0 := by omega
          have q : (cu : Int).tmod (lm : Int) = (k : Int) := by rw [Int.tmod_eq_emod_of_nonneg (by omega), ← HK.out]; push_cast; rfl
          have q2 : IntKind.i64.wrap (k : Int) = (k : Int) := by rw [IntKind.wrap_i64]; omega
          go_simp
          all_goals with_reducible rfl
        conv =>
          arg 8
          simp [go_sem]
        refine wpAnyH_take (i := 7) (v := ?_) rfl (by kernel_rfl) (by kernel_rfl) (by kernel_rfl) (fun _ _ _ h => h) (yieldsIf_val (by rfl) (fun w' hS => ?_)) HS1 ?_
        rotate_left
        · skip
          have q0 : (0 : Int) ≤ (k : Int) := by omega
          have q1 : (k : Int) ≤ (c4 : Int) := by omega
          have q2 : (k : Int) ≤ (lm : Int) := by omega
          go_simp
          all_goals with_reducible rfl
        conv =>
          arg 8
          simp [go_sem]
        conv =>
          arg 8
          simp [go_sem]
        refine wpAnyH_ready (rs := [8]) (by kernel_rfl) (by simp) (AllReadyH.cons rfl (fun K' hK' => oper_call (by rfl) 14 [.tmp 69, .tmp 76] #[26, 29] rfl (vs := [.agg #[.string ⟨X.name.toArray⟩, .slice X.ca X.cols.length X.cc, .slice X.ia X.ixs.length X.ic, .slice X.ha X.chks.length X.hc], .slice a4 k c4]) rfl Try.func14 nm_dec bd_dec (decode_is (m := 0) HD2.out rfl rfl rfl rfl HS1.1.rd (show Rd _ a4 k c4 1 (intVals (L.take k)) from by rw [intVals_take]; exact HS1.2.1.pre k (by omega)) (by omega) hX8) ?_) AllReadyH.nil)
        rintro e w9 ⟨hb9, a9, c9, rfl, _⟩
        have HT3 := And.intro (HS1.1.step hb9) (And.intro (HS1.2.1.call0 hb9) (HS1.2.2.call0 hb9))
        refine ⟨_, rfl, hK'.out _ _ HT3 (fun _ => ?_)⟩
        clear hK' K'
        conv =>
          arg 8
          simp [go_sem]
        refine wpAnyH_take (i := 9) (v := ?_) rfl (by kernel_rfl) (by kernel_rfl) (by kernel_rfl) (fun _ _ _ h => h) (yieldsIf_val (by rfl) (fun w' hS => ?_)) HT3 ?_
        rotate_left
        · skip
          go_simp
          all_goals with_reducible rfl
        conv =>
          arg 8
          simp [go_sem]
        refine wpAnyH_take (i := 10) (v := ?_) rfl (by kernel_rfl) (by kernel_rfl) (by kernel_rfl) (fun _ _ _ h => h) (yieldsIf_val (by rfl) (fun w' hS => ?_)) HT3 ?_
        rotate_left
        · skip
          go_simp
          all_goals with_reducible rfl
        conv =>
          arg 8
          simp [go_sem]
        refine wpAnyH_take (i := 11) (v := ?_) rfl (by kernel_rfl) (by kernel_rfl) (by kernel_rfl) (fun _ _ _ h => h) (yieldsIf_val (by rfl) (fun w' hS => ?_)) HT3 ?_
        rotate_left
        · skip
          go_simp
          all_goals with_reducible rfl
        conv =>
          arg 8
          simp [go_sem]
        refine wpAnyH_take (i := 12) (v := ?_) rfl (by kernel_rfl) (by kernel_rfl) (by kernel_rfl) (fun _ _ _ h => h) (yieldsIf_val (by rfl) (fun w' hS => ?_)) HT3 ?_
        rotate_left
        · skip
          go_simp
          all_goals with_reducible rfl
        conv =>
          arg 8
          simp [go_sem]
        refine wpAnyH_take (i := 13) (v := ?_) rfl (by kernel_rfl) (by kernel_rfl) (by kernel_rfl) (fun _ _ _ h => h) (yieldsIf_val (by rfl) (fun w' hS => ?_)) HT3 ?_
        rotate_left
        · skip
          go_simp
          all_goals with_reducible rfl
        conv =>
          arg 8
          simp [go_sem]
        refine wpAnyH_take (i := 14) (v := ?_) rfl (by kernel_rfl) (by kernel_rfl) (by kernel_rfl) (fun _ _ _ h => h) (yieldsIf_val (by rfl) (fun w' hS => ?_)) HT3 ?_
        rotate_left
        · skip
          go_simp
          all_goals with_reducible rfl
        conv =>
          arg 8
          simp [go_sem]
        refine wpAnyH_take (i := 15) (v := ?_) rfl (by kernel_rfl) (by kernel_rfl) (by kernel_rfl) (fun _ _ _ h => h) (yieldsIf_val (by rfl) (fun w' hS => ?_)) HT3 ?_
        rotate_left
        · skip
          go_simp
          all_goals with_reducible rfl
        conv =>
          arg 8
          simp [go_sem]
        refine ⟨by kernel_rfl, ?_⟩
        conv =>
          arg 5
          simp [go_sem]
        have HSF := HT3
        have T9 := Box.mk HSF.1
        have X9 := Box.mk HSF.2.2
        clear HSF
        go_wp2_with fail
        refine (sanity_any _).mono ?_
        rintro e w10 ⟨rfl, hb10⟩
        have T10 := Box.mk (T9.out.step hb10)
        have X10 := Box.mk (X9.out.call0 hb10)
        clear hb10 T9 X9
        go_wp2_with fail
        refine (rsame_is (d := true) (x := r) (y := r) (by simp) X10.out (HR.out.below T10.out.below (Nat.le_refl _)) (by omega) (by omega)).mono ?_
        rintro e w11 ⟨rfl, hb11⟩
        have T11 := Box.mk (T10.out.step hb11)
        clear hb11
        go_wp2_with fail
        go_ret
        exact ⟨by first | rfl | simp, T11.out.below⟩
      · have hEb : (E != 0) = true := by simp [hE0]
        clear hE0
        go_wp2_with fail
        refine (sanity_any _).mono ?_
        rintro e w7 ⟨rfl, hb7⟩
        have T7 := Box.mk (T4.out.step hb7)
        clear hb7
        go_wp2_with fail
        go_ret
        exact ⟨rfl, T7.out.below⟩
theorem reads_walkI {X : TabP} {r : List Val} {more : List Int} {a b : Option Addr} {n c m d : Nat} {cu : Int} {w : World} (hX : TabRd w X) (hr : Rd w a n c 3 (recC Val.enc r)) (hm : Rd w b m d 1 (intVals more)) (hcu : 0 ≤ cu ∧ cu < 256) : Calls Try.prog 5 #[X.v, .slice a n c, .slice b m d, .int .u8 cu] w (RetV (.bool true) w) := by
  obtain ⟨k, rfl⟩ := Int.eq_ofNat_of_zero_le hcu.1
  exact reads_walk hX hr hm (by omega)
end Go.Proofs.Ytpgdfhncigmmbaa
