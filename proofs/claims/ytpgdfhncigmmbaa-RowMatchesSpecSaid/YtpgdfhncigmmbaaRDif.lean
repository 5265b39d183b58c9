/-
  The walks of the reference's Diff, Same, Right and Valid, and of the law's table. No condition.
-/
import Derived.Test.YtpgdfhncigmmbaaWDif
namespace Go.Proofs.Ytpgdfhncigmmbaa
open Go.RowKit

theorem run_neq_val {P : Program} {t : TypeId} {a : Act} {o : Oper} {u v r : Value} {w : World} (x y : Operand) (yt : TypeId) (ho : o.op = .binOp .neq t x y yt) (hx : a.eval x = u) (hy : a.eval y = v) (hg : (eqGuard .neq t x y u v).run P w = .ok () w) (h : (binOp .neq t u v).run P w = .ok r w) : (execOp a.eval o).run P w = .ok (.value r) w := by
  unfold execOp
  simp only [ho, hx, hy, Sem.run_bind, hg, h, Result.andThen_ok, Sem.run_pure]
set_option maxRecDepth 100000 in
set_option maxHeartbeats 8000000 in
theorem rdiff_any {x y : List Val} {a b : Option Addr} {n c m d : Nat} {w : World} (ha : Rd w a n c 3 (recC Val.enc x)) (hb : Rd w b m d 3 (recC Val.enc y)) (hn : n ≤ 1000) (hm : m ≤ 1000) : Calls Try.prog 29 #[.slice a n c, .slice b m d] w (RetL (diffR x y) w) := by
  have hln := ha.rlen Val.enc_len (by omega)
  have hlm := hb.rlen Val.enc_len (by omega)
  have HA := Box.mk ha
  have HB' := Box.mk hb
  clear ha hb
  obtain ⟨M, hM⟩ : ∃ M, max n m = M := ⟨_, rfl⟩
  have hM1 : M ≤ 1000 := by omega
  have HMX := Box.mk hM
  clear hM
  go_enter Try.func29, Try.ntmps29
  go_wp2_with fail
  go_loopw [5, 6] (fun v i wr => ∃ (k : Nat) (a2 : Option Addr) (L c2 : Nat), k ≤ M ∧ i = .int .i64 k ∧ v = .slice a2 L c2 ∧ Box (L = (diffUp x y k).length ∧ Own w.heap.size wr [RowP 3 1 a2 L c2 (intVals (diffUp x y k))] ∧ Below w.heap.size w wr)) (fun _ i _ => M - (intOf i).toNat)
  case atStart => exact ⟨0, none, 0, 0, Nat.zero_le _, rfl, rfl, ⟨rfl, (Own.start w).nilRow _ _, Below.refl _ _⟩⟩
  case round =>
    obtain ⟨k, a2, L, c2, hk, rfl, rfl, HB⟩ := hrel
    by_cases hlt : k < M
    · have hL : L ≤ k := by rw [HB.out.1]; exact diffUp_len x y k
      have HLE := Box.mk HB.out.1
      have HO := Box.mk HB.out.2
      clear HB
      have HS0 : Below wr.heap.size wr wr.drew := (Below.refl _ _).drew
      by_cases hna : n ≤ k
      · have tA : decide (k < n) = false := decide_eq_false (by omega)
        have tB : decide (k < m) = true := decide_eq_true (by have := HMX.out; omega)
        go_upto_region 5 with fail
        clear tA tB
        have HD := Box.mk (dif_a (a := x) (b := y) (k := k) (by omega))
        have HN := Box.mk hna
        clear hna
        refine wp_region_held_drew (S := fun w' => Below wr.heap.size wr w') (by kernel_rfl) HS0 (fun _ => ?_)
        refine wpAnyH_take (i := 0) (v := ?_) rfl (by kernel_rfl) (by kernel_rfl) (by kernel_rfl) (fun _ _ _ h => h) (yieldsIf_val (by rfl) (fun w' hS => ?_)) HS0 ?_
        rotate_left
        · skip
          go_simp
          all_goals with_reducible rfl
        conv =>
          arg 8
          simp [go_sem]
        refine wpAnyH_take (i := 1) (v := ?_) rfl (by kernel_rfl) (by kernel_rfl) (by kernel_rfl) (fun _ _ _ h => h) (yieldsIf_val (by rfl) (fun w' hS => ?_)) HS0 ?_
        rotate_left
        · skip
          go_simp
          all_goals with_reducible rfl
        conv =>
          arg 8
          simp [go_sem]
        refine wpAnyH_take (i := 2) (v := ?_) rfl (by kernel_rfl) (by kernel_rfl) (by kernel_rfl) (fun _ _ _ h => h) (yieldsIf_val (by rfl) (fun w' hS => ?_)) HS0 ?_
        rotate_left
        · skip
          go_simp
          all_goals with_reducible rfl
        conv =>
          arg 8
          simp [go_sem]
        refine wpAnyH_take (i := 3) (v := ?_) rfl (by kernel_rfl) (by kernel_rfl) (by kernel_rfl) (fun _ _ _ h => h) (yieldsIf_val (by rfl) (fun w' hS => ?_)) HS0 ?_
        rotate_left
        · skip
          have q : decide (n ≤ k) = true := decide_eq_true HN.out
          go_simp
          all_goals with_reducible rfl
        conv =>
          arg 8
          simp [go_sem]
        refine wpAnyH_take (i := 4) (v := ?_) rfl (by kernel_rfl) (by kernel_rfl) (by kernel_rfl) (fun _ _ _ h => h) (yieldsIf_val (by rfl) (fun w' hS => ?_)) HS0 ?_
        rotate_left
        · skip
          go_simp
          all_goals with_reducible rfl
        conv =>
          arg 8
          simp [go_sem]
        refine wpAnyH_take (i := 5) (v := undef) rfl (by kernel_rfl) (by kernel_rfl) (by kernel_rfl) (fun _ _ _ h => h) (Or.inr ⟨by rfl, rfl⟩) HS0 ?_
        conv =>
          arg 8
          simp [go_sem]
        refine wpAnyH_take (i := 6) (v := undef) rfl (by kernel_rfl) (by kernel_rfl) (by kernel_rfl) (fun _ _ _ h => h) (Or.inr ⟨by rfl, rfl⟩) HS0 ?_
        conv =>
          arg 8
          simp [go_sem]
        refine wpAnyH_take (i := 7) (v := undef) rfl (by kernel_rfl) (by kernel_rfl) (by kernel_rfl) (fun _ _ _ h => h) (Or.inr ⟨by rfl, rfl⟩) HS0 ?_
        conv =>
          arg 8
          simp [go_sem]
        refine wpAnyH_take (i := 8) (v := undef) rfl (by kernel_rfl) (by kernel_rfl) (by kernel_rfl) (fun _ _ _ h => h) (Or.inr ⟨by rfl, rfl⟩) HS0 ?_
        conv =>
          arg 8
          simp [go_sem]
        refine wpAnyH_take (i := 9) (v := ?_) rfl (by kernel_rfl) (by kernel_rfl) (by kernel_rfl) (fun _ _ _ h => h) (yieldsIf_val (by rfl) (fun w' hS => ?_)) HS0 ?_
        rotate_left
        · skip
          go_simp
          all_goals with_reducible rfl
        conv =>
          arg 8
          simp [go_sem]
        refine wpAnyH_take (i := 10) (v := ?_) rfl (by kernel_rfl) (by kernel_rfl) (by kernel_rfl) (fun _ _ _ h => h) (yieldsIf_val (by rfl) (fun w' hS => ?_)) HS0 ?_
        rotate_left
        · skip
          go_simp
          all_goals with_reducible rfl
        conv =>
          arg 8
          simp [go_sem]
        refine wpAnyH_take (i := 11) (v := undef) rfl (by kernel_rfl) (by kernel_rfl) (by kernel_rfl) (fun _ _ _ h => h) (Or.inr ⟨by rfl, rfl⟩) HS0 ?_
        conv =>
          arg 8
          simp [go_sem]
        refine wpAnyH_take (i := 12) (v := undef) rfl (by kernel_rfl) (by kernel_rfl) (by kernel_rfl) (fun _ _ _ h => h) (Or.inr ⟨by rfl, rfl⟩) HS0 ?_
        conv =>
          arg 8
          simp [go_sem]
        refine wpAnyH_take (i := 13) (v := undef) rfl (by kernel_rfl) (by kernel_rfl) (by kernel_rfl) (fun _ _ _ h => h) (Or.inr ⟨by rfl, rfl⟩) HS0 ?_
        conv =>
          arg 8
          simp [go_sem]
        refine wpAnyH_take (i := 14) (v := undef) rfl (by kernel_rfl) (by kernel_rfl) (by kernel_rfl) (fun _ _ _ h => h) (Or.inr ⟨by rfl, rfl⟩) HS0 ?_
        conv =>
          arg 8
          simp [go_sem]
        refine wpAnyH_take (i := 15) (v := undef) rfl (by kernel_rfl) (by kernel_rfl) (by kernel_rfl) (fun _ _ _ h => h) (Or.inr ⟨by rfl, rfl⟩) HS0 ?_
        conv =>
          arg 8
          simp [go_sem]
        refine wpAnyH_take (i := 16) (v := undef) rfl (by kernel_rfl) (by kernel_rfl) (by kernel_rfl) (fun _ _ _ h => h) (Or.inr ⟨by rfl, rfl⟩) HS0 ?_
        conv =>
          arg 8
          simp [go_sem]
        refine wpAnyH_take (i := 17) (v := undef) rfl (by kernel_rfl) (by kernel_rfl) (by kernel_rfl) (fun _ _ _ h => h) (Or.inr ⟨by rfl, rfl⟩) HS0 ?_
        conv =>
          arg 8
          simp [go_sem]
        refine wpAnyH_take (i := 18) (v := undef) rfl (by kernel_rfl) (by kernel_rfl) (by kernel_rfl) (fun _ _ _ h => h) (Or.inr ⟨by rfl, rfl⟩) HS0 ?_
        conv =>
          arg 8
          simp [go_sem]
        refine wpAnyH_take (i := 19) (v := undef) rfl (by kernel_rfl) (by kernel_rfl) (by kernel_rfl) (fun _ _ _ h => h) (Or.inr ⟨by rfl, rfl⟩) HS0 ?_
        conv =>
          arg 8
          simp [go_sem]
        refine wpAnyH_take (i := 20) (v := ?_) rfl (by kernel_rfl) (by kernel_rfl) (by kernel_rfl) (fun _ _ _ h => h) (yieldsIf_val (by rfl) (fun w' hS => ?_)) HS0 ?_
        rotate_left
        · skip
          go_simp
          all_goals with_reducible rfl
        conv =>
          arg 8
          simp [go_sem]
        refine ⟨by kernel_rfl, ?_⟩
        conv =>
          arg 5
          simp [go_sem]
        generalize wr.drew = w5 at *
        have HSE := HS0
        have O5 := Box.mk (And.intro (HO.out.1.below HSE) (HO.out.2.trans (HSE.mono HO.out.2.size)))
        have HO1 := Box.mk (And.intro (O5.out.1.new [.int .i64 (k : Int)] 3) (O5.out.2.alloc O5.out.2.size (.cells #[.int .i64 (k : Int)] 3)))
        have HRW := Box.mk (HO1.out.1.row 0 rfl)
        clear HSE
        go_wp2_with (at_builtin; refine wpList_append_src rfl _ _ 29 29 rfl sl_int (.inl sl_int.ht) rfl HRW.out rfl (Src.oneNew _ _ _ rfl) (by omega) (by unfold maxLen; omega) (by simp) ?_; intro a3 c3 w3 hown3 hgr3 hnew3; have HG := Box.mk (HO1.out.1.grown 0 rfl hown3 hgr3 hnew3); clear hown3 hgr3 hnew3)
        exact ⟨⟨k + 1, a3, L + 1, c3, by omega, by go_num, rfl, ⟨by rw [diffUp_hit HD.out, List.length_append, ← HLE.out]; rfl, by rw [diffUp_hit HD.out, show intVals (diffUp x y k ++ [(k : Int)]) = intVals (diffUp x y k) ++ [.int .i64 (k : Int)] from by simp [intVals]]; exact HG.out.1.drop 1, HO1.out.2.trans HG.out.2⟩⟩, by simp [intOf]; omega⟩
        done
      · have tA : decide (k < n) = true := decide_eq_true (by omega)
        go_upto_region 5 with fail
        clear tA
        by_cases hma : m ≤ k
        · have HD := Box.mk (dif_b (a := x) (b := y) (k := k) (by omega))
          have HN := Box.mk (show k < n by omega)
          have HM := Box.mk hma
          clear hna hma
          refine wp_region_held_drew (S := fun w' => Below wr.heap.size wr w') (by kernel_rfl) HS0 (fun _ => ?_)
          refine wpAnyH_take (i := 0) (v := ?_) rfl (by kernel_rfl) (by kernel_rfl) (by kernel_rfl) (fun _ _ _ h => h) (yieldsIf_val (by rfl) (fun w' hS => ?_)) HS0 ?_
          rotate_left
          · skip
            go_simp
            all_goals with_reducible rfl
          conv =>
            arg 8
            simp [go_sem]
          refine wpAnyH_take (i := 1) (v := ?_) rfl (by kernel_rfl) (by kernel_rfl) (by kernel_rfl) (fun _ _ _ h => h) (yieldsIf_val (by rfl) (fun w' hS => ?_)) HS0 ?_
          rotate_left
          · skip
            go_simp
            all_goals with_reducible rfl
          conv =>
            arg 8
            simp [go_sem]
          refine wpAnyH_take (i := 2) (v := ?_) rfl (by kernel_rfl) (by kernel_rfl) (by kernel_rfl) (fun _ _ _ h => h) (yieldsIf_val (by rfl) (fun w' hS => ?_)) HS0 ?_
          rotate_left
          · skip
            go_simp
            all_goals with_reducible rfl
          conv =>
            arg 8
            simp [go_sem]
          refine wpAnyH_take (i := 3) (v := ?_) rfl (by kernel_rfl) (by kernel_rfl) (by kernel_rfl) (fun _ _ _ h => h) (yieldsIf_val (by rfl) (fun w' hS => ?_)) HS0 ?_
          rotate_left
          · skip
            have h := HN.out
            have q : decide (n ≤ k) = false := decide_eq_false (by omega)
            go_simp
            all_goals with_reducible rfl
          conv =>
            arg 8
            simp [go_sem]
          refine wpAnyH_take (i := 4) (v := ?_) rfl (by kernel_rfl) (by kernel_rfl) (by kernel_rfl) (fun _ _ _ h => h) (yieldsIf_val (by rfl) (fun w' hS => ?_)) HS0 ?_
          rotate_left
          · skip
            go_simp
            all_goals with_reducible rfl
          conv =>
            arg 8
            simp [go_sem]
          refine wpAnyH_take (i := 5) (v := ?_) rfl (by kernel_rfl) (by kernel_rfl) (by kernel_rfl) (fun _ _ _ h => h) (yieldsIf_val (by rfl) (fun w' hS => ?_)) HS0 ?_
          rotate_left
          · skip
            go_simp
            all_goals with_reducible rfl
          conv =>
            arg 8
            simp [go_sem]
          refine wpAnyH_take (i := 6) (v := ?_) rfl (by kernel_rfl) (by kernel_rfl) (by kernel_rfl) (fun _ _ _ h => h) (yieldsIf_val (by rfl) (fun w' hS => ?_)) HS0 ?_
          rotate_left
          · skip
            go_simp
            all_goals with_reducible rfl
          conv =>
            arg 8
            simp [go_sem]
          refine wpAnyH_take (i := 7) (v := ?_) rfl (by kernel_rfl) (by kernel_rfl) (by kernel_rfl) (fun _ _ _ h => h) (yieldsIf_val (by rfl) (fun w' hS => ?_)) HS0 ?_
          rotate_left
          · skip
            go_simp
            all_goals with_reducible rfl
          conv =>
            arg 8
            simp [go_sem]
          refine wpAnyH_take (i := 8) (v := ?_) rfl (by kernel_rfl) (by kernel_rfl) (by kernel_rfl) (fun _ _ _ h => h) (yieldsIf_val (by rfl) (fun w' hS => ?_)) HS0 ?_
          rotate_left
          · skip
            have q : decide (m ≤ k) = true := decide_eq_true HM.out
            go_simp
            all_goals with_reducible rfl
          conv =>
            arg 8
            simp [go_sem]
          refine wpAnyH_take (i := 9) (v := ?_) rfl (by kernel_rfl) (by kernel_rfl) (by kernel_rfl) (fun _ _ _ h => h) (yieldsIf_val (by rfl) (fun w' hS => ?_)) HS0 ?_
          rotate_left
          · skip
            go_simp
            all_goals with_reducible rfl
          conv =>
            arg 8
            simp [go_sem]
          refine wpAnyH_take (i := 10) (v := ?_) rfl (by kernel_rfl) (by kernel_rfl) (by kernel_rfl) (fun _ _ _ h => h) (yieldsIf_val (by rfl) (fun w' hS => ?_)) HS0 ?_
          rotate_left
          · skip
            go_simp
            all_goals with_reducible rfl
          conv =>
            arg 8
            simp [go_sem]
          refine wpAnyH_take (i := 11) (v := undef) rfl (by kernel_rfl) (by kernel_rfl) (by kernel_rfl) (fun _ _ _ h => h) (Or.inr ⟨by rfl, rfl⟩) HS0 ?_
          conv =>
            arg 8
            simp [go_sem]
          refine wpAnyH_take (i := 12) (v := undef) rfl (by kernel_rfl) (by kernel_rfl) (by kernel_rfl) (fun _ _ _ h => h) (Or.inr ⟨by rfl, rfl⟩) HS0 ?_
          conv =>
            arg 8
            simp [go_sem]
          refine wpAnyH_take (i := 13) (v := undef) rfl (by kernel_rfl) (by kernel_rfl) (by kernel_rfl) (fun _ _ _ h => h) (Or.inr ⟨by rfl, rfl⟩) HS0 ?_
          conv =>
            arg 8
            simp [go_sem]
          refine wpAnyH_take (i := 14) (v := undef) rfl (by kernel_rfl) (by kernel_rfl) (by kernel_rfl) (fun _ _ _ h => h) (Or.inr ⟨by rfl, rfl⟩) HS0 ?_
          conv =>
            arg 8
            simp [go_sem]
          refine wpAnyH_take (i := 15) (v := undef) rfl (by kernel_rfl) (by kernel_rfl) (by kernel_rfl) (fun _ _ _ h => h) (Or.inr ⟨by rfl, rfl⟩) HS0 ?_
          conv =>
            arg 8
            simp [go_sem]
          refine wpAnyH_take (i := 16) (v := undef) rfl (by kernel_rfl) (by kernel_rfl) (by kernel_rfl) (fun _ _ _ h => h) (Or.inr ⟨by rfl, rfl⟩) HS0 ?_
          conv =>
            arg 8
            simp [go_sem]
          refine wpAnyH_take (i := 17) (v := undef) rfl (by kernel_rfl) (by kernel_rfl) (by kernel_rfl) (fun _ _ _ h => h) (Or.inr ⟨by rfl, rfl⟩) HS0 ?_
          conv =>
            arg 8
            simp [go_sem]
          refine wpAnyH_take (i := 18) (v := undef) rfl (by kernel_rfl) (by kernel_rfl) (by kernel_rfl) (fun _ _ _ h => h) (Or.inr ⟨by rfl, rfl⟩) HS0 ?_
          conv =>
            arg 8
            simp [go_sem]
          refine wpAnyH_take (i := 19) (v := undef) rfl (by kernel_rfl) (by kernel_rfl) (by kernel_rfl) (fun _ _ _ h => h) (Or.inr ⟨by rfl, rfl⟩) HS0 ?_
          conv =>
            arg 8
            simp [go_sem]
          refine wpAnyH_take (i := 20) (v := ?_) rfl (by kernel_rfl) (by kernel_rfl) (by kernel_rfl) (fun _ _ _ h => h) (yieldsIf_val (by rfl) (fun w' hS => ?_)) HS0 ?_
          rotate_left
          · skip
            go_simp
            all_goals with_reducible rfl
          conv =>
            arg 8
            simp [go_sem]
          refine ⟨by kernel_rfl, ?_⟩
          conv =>
            arg 5
            simp [go_sem]
          generalize wr.drew = w5 at *
          have HSE := HS0
          have O5 := Box.mk (And.intro (HO.out.1.below HSE) (HO.out.2.trans (HSE.mono HO.out.2.size)))
          have HO1 := Box.mk (And.intro (O5.out.1.new [.int .i64 (k : Int)] 3) (O5.out.2.alloc O5.out.2.size (.cells #[.int .i64 (k : Int)] 3)))
          have HRW := Box.mk (HO1.out.1.row 0 rfl)
          clear HSE
          go_wp2_with (at_builtin; refine wpList_append_src rfl _ _ 29 29 rfl sl_int (.inl sl_int.ht) rfl HRW.out rfl (Src.oneNew _ _ _ rfl) (by omega) (by unfold maxLen; omega) (by simp) ?_; intro a3 c3 w3 hown3 hgr3 hnew3; have HG := Box.mk (HO1.out.1.grown 0 rfl hown3 hgr3 hnew3); clear hown3 hgr3 hnew3)
          exact ⟨⟨k + 1, a3, L + 1, c3, by omega, by go_num, rfl, ⟨by rw [diffUp_hit HD.out, List.length_append, ← HLE.out]; rfl, by rw [diffUp_hit HD.out, show intVals (diffUp x y k ++ [(k : Int)]) = intVals (diffUp x y k) ++ [.int .i64 (k : Int)] from by simp [intVals]]; exact HG.out.1.drop 1, HO1.out.2.trans HG.out.2⟩⟩, by simp [intOf]; omega⟩
          done
        · have hkn : k < n := by omega
          have hkm : k < m := by omega
          clear hna hma
          obtain ⟨g, off, rfl, _, hc⟩ := (HA.out.below HO.out.2 (Nat.le_refl _)).recAt Val.enc_len (by omega) k hkn
          obtain ⟨g2, off2, rfl, _, hc2⟩ := (HB'.out.below HO.out.2 (Nat.le_refl _)).recAt Val.enc_len (by omega) k hkm
          have HDC := Box.mk (fun (X Y : Val) (hx : x.getD k default = X) (hy : y.getD k default = Y) => show difB x y k = !decide (X = Y) from by
            unfold difB
            rw [decide_eq_false (by omega), decide_eq_false (by omega), hx, hy]; simp)
          generalize hx : x.getD k default = X at *
          generalize hy : y.getD k default = Y at *
          have HDD := Box.mk (HDC.out X Y rfl rfl)
          have HCC := Box.mk (fun w => run_neqV X Y w)
          generalize decide (X = Y) = C at *
          obtain ⟨xk, xn, xs⟩ := X
          obtain ⟨yk, yn, ys⟩ := Y
          have c0 := hc 0 _ rfl
          have c1 := hc 1 _ rfl
          have c2' := hc 2 _ rfl
          have d0 := hc2 0 _ rfl
          have d1 := hc2 1 _ rfl
          have d2 := hc2 2 _ rfl
          simp only [Nat.add_zero] at c0 c1 c2' d0 d1 d2 HCC
          clear hc hc2 hx hy HDC
          refine wp_region_held_drew (S := fun w' => Below wr.heap.size wr w') (by kernel_rfl) HS0 (fun _ => ?_)
          refine wpAnyH_take (i := 0) (v := ?_) rfl (by kernel_rfl) (by kernel_rfl) (by kernel_rfl) (fun _ _ _ h => h) (yieldsIf_val (by rfl) (fun w' hS => ?_)) HS0 ?_
          rotate_left
          · skip
            go_simp
            all_goals with_reducible rfl
          conv =>
            arg 8
            simp [go_sem]
          refine wpAnyH_take (i := 1) (v := ?_) rfl (by kernel_rfl) (by kernel_rfl) (by kernel_rfl) (fun _ _ _ h => h) (yieldsIf_val (by rfl) (fun w' hS => ?_)) HS0 ?_
          rotate_left
          · skip
            go_simp
            all_goals with_reducible rfl
          conv =>
            arg 8
            simp [go_sem]
          refine wpAnyH_take (i := 2) (v := ?_) rfl (by kernel_rfl) (by kernel_rfl) (by kernel_rfl) (fun _ _ _ h => h) (yieldsIf_val (by rfl) (fun w' hS => ?_)) HS0 ?_
          rotate_left
          · skip
            go_simp
            all_goals with_reducible rfl
          conv =>
            arg 8
            simp [go_sem]
          refine wpAnyH_take (i := 3) (v := ?_) rfl (by kernel_rfl) (by kernel_rfl) (by kernel_rfl) (fun _ _ _ h => h) (yieldsIf_val (by rfl) (fun w' hS => ?_)) HS0 ?_
          rotate_left
          · skip
            have q : decide (n ≤ k) = false := decide_eq_false (by omega)
            go_simp
            all_goals with_reducible rfl
          conv =>
            arg 8
            simp [go_sem]
          refine wpAnyH_take (i := 4) (v := ?_) rfl (by kernel_rfl) (by kernel_rfl) (by kernel_rfl) (fun _ _ _ h => h) (yieldsIf_val (by rfl) (fun w' hS => ?_)) HS0 ?_
          rotate_left
          · skip
            go_simp
            all_goals with_reducible rfl
          conv =>
            arg 8
            simp [go_sem]
          refine wpAnyH_take (i := 5) (v := ?_) rfl (by kernel_rfl) (by kernel_rfl) (by kernel_rfl) (fun _ _ _ h => h) (yieldsIf_val (by rfl) (fun w' hS => ?_)) HS0 ?_
          rotate_left
          · skip
            go_simp
            all_goals with_reducible rfl
          conv =>
            arg 8
            simp [go_sem]
          refine wpAnyH_take (i := 6) (v := ?_) rfl (by kernel_rfl) (by kernel_rfl) (by kernel_rfl) (fun _ _ _ h => h) (yieldsIf_val (by rfl) (fun w' hS => ?_)) HS0 ?_
          rotate_left
          · skip
            go_simp
            all_goals with_reducible rfl
          conv =>
            arg 8
            simp [go_sem]
          refine wpAnyH_take (i := 7) (v := ?_) rfl (by kernel_rfl) (by kernel_rfl) (by kernel_rfl) (fun _ _ _ h => h) (yieldsIf_val (by rfl) (fun w' hS => ?_)) HS0 ?_
          rotate_left
          · skip
            go_simp
            all_goals with_reducible rfl
          conv =>
            arg 8
            simp [go_sem]
          refine wpAnyH_take (i := 8) (v := ?_) rfl (by kernel_rfl) (by kernel_rfl) (by kernel_rfl) (fun _ _ _ h => h) (yieldsIf_val (by rfl) (fun w' hS => ?_)) HS0 ?_
          rotate_left
          · skip
            have q : decide (m ≤ k) = false := decide_eq_false (by omega)
            go_simp
            all_goals with_reducible rfl
          conv =>
            arg 8
            simp [go_sem]
          refine wpAnyH_take (i := 9) (v := ?_) rfl (by kernel_rfl) (by kernel_rfl) (by kernel_rfl) (fun _ _ _ h => h) (yieldsIf_val (by rfl) (fun w' hS => ?_)) HS0 ?_
          rotate_left
          · skip
            go_simp
            all_goals with_reducible rfl
          conv =>
            arg 8
            simp [go_sem]
          refine wpAnyH_take (i := 10) (v := ?_) rfl (by kernel_rfl) (by kernel_rfl) (by kernel_rfl) (fun _ _ _ h => h) (yieldsIf_val (by rfl) (fun w' hS => ?_)) HS0 ?_
          rotate_left
          · skip
            go_simp
            all_goals with_reducible rfl
          conv =>
            arg 8
            simp [go_sem]
          refine wpAnyH_take (i := 11) (v := ?_) rfl (by kernel_rfl) (by kernel_rfl) (by kernel_rfl) (fun _ _ _ h => h) (yieldsIf_val (by rfl) (fun w' hS => ?_)) HS0 ?_
          rotate_left
          · skip
            go_simp
            all_goals with_reducible rfl
          conv =>
            arg 8
            simp [go_sem]
          refine wpAnyH_take (i := 12) (v := ?_) rfl (by kernel_rfl) (by kernel_rfl) (by kernel_rfl) (fun _ _ _ h => h) (yieldsIf_val (by rfl) (fun w' hS => ?_)) HS0 ?_
          rotate_left
          · skip
            go_simp
            all_goals with_reducible rfl
          conv =>
            arg 8
            simp [go_sem]
          refine wpAnyH_take (i := 13) (v := ?_) rfl (by kernel_rfl) (by kernel_rfl) (by kernel_rfl) (fun _ _ _ h => h) (yieldsIf_val (by rfl) (fun w' hS => ?_)) HS0 ?_
          rotate_left
          · skip
            have q0 : (0 : Int) ≤ (k : Int) := by omega
            have q1 : (k : Int) < (n : Int) := by omega
            have q2 : (k : Int) < (m : Int) := by omega
            go_simp
            all_goals with_reducible rfl
          conv =>
            arg 8
            simp [go_sem]
          refine wpAnyH_take (i := 14) (v := ?_) rfl (by kernel_rfl) (by kernel_rfl) (by kernel_rfl) (fun _ _ _ h => h) (yieldsIf_val (by rfl) (fun w' hS => ?_)) HS0 ?_
          rotate_left
          · skip
            have e0 := (hS.cell (p := ⟨g, off + k * 3, none⟩) (cell_block_lt c0)).trans c0
            have e1 := (hS.cell (p := ⟨g, off + k * 3 + 1, none⟩) (cell_block_lt c1)).trans c1
            have e2 := (hS.cell (p := ⟨g, off + k * 3 + 2, none⟩) (cell_block_lt c2')).trans c2'
            go_simp
            all_goals with_reducible rfl
          conv =>
            arg 8
            simp [go_sem]
          refine wpAnyH_take (i := 15) (v := ?_) rfl (by kernel_rfl) (by kernel_rfl) (by kernel_rfl) (fun _ _ _ h => h) (yieldsIf_val (by rfl) (fun w' hS => ?_)) HS0 ?_
          rotate_left
          · skip
            go_simp
            all_goals with_reducible rfl
          conv =>
            arg 8
            simp [go_sem]
          refine wpAnyH_take (i := 16) (v := ?_) rfl (by kernel_rfl) (by kernel_rfl) (by kernel_rfl) (fun _ _ _ h => h) (yieldsIf_val (by rfl) (fun w' hS => ?_)) HS0 ?_
          rotate_left
          · skip
            go_simp
            all_goals with_reducible rfl
          conv =>
            arg 8
            simp [go_sem]
          refine wpAnyH_take (i := 17) (v := ?_) rfl (by kernel_rfl) (by kernel_rfl) (by kernel_rfl) (fun _ _ _ h => h) (yieldsIf_val (by rfl) (fun w' hS => ?_)) HS0 ?_
          rotate_left
          · skip
            have q0 : (0 : Int) ≤ (k : Int) := by omega
            have q1 : (k : Int) < (n : Int) := by omega
            have q2 : (k : Int) < (m : Int) := by omega
            go_simp
            all_goals with_reducible rfl
          conv =>
            arg 8
            simp [go_sem]
          refine wpAnyH_take (i := 18) (v := ?_) rfl (by kernel_rfl) (by kernel_rfl) (by kernel_rfl) (fun _ _ _ h => h) (yieldsIf_val (by rfl) (fun w' hS => ?_)) HS0 ?_
          rotate_left
          · skip
            have e0 := (hS.cell (p := ⟨g2, off2 + k * 3, none⟩) (cell_block_lt d0)).trans d0
            have e1 := (hS.cell (p := ⟨g2, off2 + k * 3 + 1, none⟩) (cell_block_lt d1)).trans d1
            have e2 := (hS.cell (p := ⟨g2, off2 + k * 3 + 2, none⟩) (cell_block_lt d2)).trans d2
            go_simp
            all_goals with_reducible rfl
          conv =>
            arg 8
            simp [go_sem]
          refine wpAnyH_take (i := 19) (v := .bool (!C)) rfl (by kernel_rfl) (by kernel_rfl) (by kernel_rfl) (fun _ _ _ h => h) (yieldsIf_val (by rfl) (fun w' hS => run_neq_val (.tmp 33) (.tmp 37) 59 rfl rfl rfl (run_eqGuard_no (by kernel_rfl) w') (HCC.out w'))) HS0 ?_
          conv =>
            arg 8
            simp [go_sem]
          refine wpAnyH_take (i := 20) (v := ?_) rfl (by kernel_rfl) (by kernel_rfl) (by kernel_rfl) (fun _ _ _ h => h) (yieldsIf_val (by rfl) (fun w' hS => ?_)) HS0 ?_
          rotate_left
          · skip
            go_simp
            all_goals with_reducible rfl
          conv =>
            arg 8
            simp [go_sem]
          refine ⟨by kernel_rfl, ?_⟩
          conv =>
            arg 5
            simp [go_sem]
          have HSE := HS0
          clear HS0 c0 c1 c2' d0 d1 d2
          generalize wr.drew = w5 at *
          cases C with
          | true =>
            have HD := Box.mk (show difB x y k = false from by rw [HDD.out]; rfl)
            have H5 := Box.mk (And.intro (HO.out.1.below HSE) (HO.out.2.trans (HSE.mono HO.out.2.size)))
            clear HSE
            go_wp2_with fail
            exact ⟨⟨k + 1, a2, L, c2, by omega, by go_num, rfl, ⟨by rw [diffUp_miss HD.out]; exact HLE.out, by rw [diffUp_miss HD.out]; exact H5.out.1, H5.out.2⟩⟩, by simp [intOf]; omega⟩
          | false =>
            have HD := Box.mk (show difB x y k = true from by rw [HDD.out]; rfl)
            have O5 := Box.mk (And.intro (HO.out.1.below HSE) (HO.out.2.trans (HSE.mono HO.out.2.size)))
            have HO1 := Box.mk (And.intro (O5.out.1.new [.int .i64 (k : Int)] 3) (O5.out.2.alloc O5.out.2.size (.cells #[.int .i64 (k : Int)] 3)))
            have HRW := Box.mk (HO1.out.1.row 0 rfl)
            clear HSE
            go_wp2_with (at_builtin; refine wpList_append_src rfl _ _ 29 29 rfl sl_int (.inl sl_int.ht) rfl HRW.out rfl (Src.oneNew _ _ _ rfl) (by omega) (by unfold maxLen; omega) (by simp) ?_; intro a3 c3 w3 hown3 hgr3 hnew3; have HG := Box.mk (HO1.out.1.grown 0 rfl hown3 hgr3 hnew3); clear hown3 hgr3 hnew3)
            exact ⟨⟨k + 1, a3, L + 1, c3, by omega, by go_num, rfl, ⟨by rw [diffUp_hit HD.out, List.length_append, ← HLE.out]; rfl, by rw [diffUp_hit HD.out, show intVals (diffUp x y k ++ [(k : Int)]) = intVals (diffUp x y k) ++ [.int .i64 (k : Int)] from by simp [intVals]]; exact HG.out.1.drop 1, HO1.out.2.trans HG.out.2⟩⟩, by simp [intOf]; omega⟩
            done
    · obtain rfl : k = M := by omega
      have hR : diffUp x y k = diffR x y := by unfold diffR; rw [hln, hlm, HMX.out]
      rw [hR] at HB
      obtain ⟨⟨rfl, O, hb⟩⟩ := HB
      have HF := Box.mk (And.intro O hb)
      clear O hb hR
      have tA : decide (k < n) = false := decide_eq_false (by have := HMX.out; omega)
      have tB : decide (k < m) = false := decide_eq_false (by have := HMX.out; omega)
      go_wp2_with fail
      go_ret
      exact ⟨HF.out.2, a2, c2, rfl, HF.out.1.rowB 0 rfl⟩
end Go.Proofs.Ytpgdfhncigmmbaa
