/-
  The walk of row.words. No condition.
-/
import Derived.Test.YtpgdfhncigmmbaaWSize
namespace Go.Proofs.Ytpgdfhncigmmbaa
open Go.RowKit

theorem Own.rowB {B : Nat} {w : World} {l : List HP} (O : Own B w l) (i : Nat) {e : TypeId} {size : Nat} {a : Option Addr} {n cap : Nat} {xs : List Value} (hi : l[i]? = some (RowP e size a n cap xs)) : w.ownsRow B e size (.slice a n cap) n xs := by
  obtain ⟨F, ⟨h1, rfl⟩, h2⟩ := O.get i hi
  obtain ⟨hl, hd⟩ := h1
  refine ⟨hl, ?_⟩
  rcases hd with hn | ⟨g, c, cur, hv, hbg, hh, rest⟩
  · exact .inl hn
  · refine .inr ⟨g, c, cur, hv, h2 g ?_, hh, rest⟩
    simp only [Value.slice.injEq] at hv
    rw [hv.1]; simp [Value.ownBlock]
theorem own_head {w : World} {base e size n c : Nat} {a : Option Addr} {xs : List Value} (h : w.ownsRow base e size (.slice a n c) n xs) (hn : 0 < n) : ∃ g, a = some ⟨g, 0, none⟩ := by
  rcases h.2 with ⟨h', h0⟩ | ⟨g, c', cur, h', _⟩
  · omega
  · simp only [Value.slice.injEq] at h'
    exact ⟨g, h'.1⟩
theorem wrap_pow (k : Nat) (hk : k ≤ 20) : IntKind.i64.wrap ((2 : Int) ^ k) = ((2 ^ k : Nat) : Int) := by
  have h1 : 2 ^ k ≤ 2 ^ 20 := Nat.pow_le_pow_right (by omega) hk
  have h2 : (2 : Nat) ^ 20 = 1048576 := by decide
  have h3 : ((2 ^ k : Nat) : Int) = (2 : Int) ^ k := by push_cast; rfl
  rw [IntKind.wrap_i64, ← h3]
  generalize 2 ^ k = P at *
  omega
theorem nm_pack : (Try.f20.name == "runtime.NumGoroutine") = false := by kernel_rfl
theorem bd_pack : Try.f20.body.isNone = false := by kernel_rfl
theorem oneI (x : Int) : ∀ u ∈ [Value.int .i64 x], u.oneCell' = true := by intro u hu; simp at hu; subst hu; rfl

set_option maxRecDepth 20000 in
set_option maxHeartbeats 8000000 in
theorem words_any {r : List Val} {a : Option Addr} {n c : Nat} {w : World} (hr : Rd w a n c 3 (recC Val.enc r)) (hn : n ≤ 20) (hok : OkR r) : Calls Try.prog 36 #[.slice a n c] w (RetL (wordsR r) w) := by
  have hln := hr.rlen Val.enc_len (by omega)
  have HR := Box.mk hr
  have HOK := Box.mk hok
  clear hr hok
  go_enter Try.func36, Try.ntmps36
  go_wp2_with fail
  have H0 := Box.mk (And.intro (((Own.start w).new [.int .i64 ((n : Int) * 256)] 3)) ((Below.refl w.heap.size w).alloc (Nat.le_refl _) (.cells #[.int .i64 ((n : Int) * 256)] 3)))
  have HZ := Box.mk (show intVals (wordsUp r 0) = [.int .i64 ((n : Int) * 256)] from by rw [wordsUp_zero, hln]; simp [intVals]; omega)
  go_loopw [3, 12] (fun v i wr => ∃ (k : Nat) (a2 : Option Addr) (L c2 : Nat), k ≤ n ∧ i = .int .i64 k ∧ v = .slice a2 L c2 ∧ Box (L = (wordsUp r k).length ∧ Own w.heap.size wr [RowP 3 1 a2 L c2 (intVals (wordsUp r k))] ∧ Below w.heap.size w wr)) (fun _ i _ => n - (intOf i).toNat)
  case atStart => exact ⟨0, _, 1, 1, Nat.zero_le _, rfl, rfl, ⟨by rw [wordsUp_zero]; rfl, (Own.start w).newRow ((Below.refl w.heap.size w).alloc (Nat.le_refl _) _) (own_new (base := w.heap.size) (Blk.new rfl (by rw [HZ.out])) (Nat.le_refl _) (by rw [HZ.out]; rfl) (by unfold maxLen; omega)) (Nat.le_refl _), H0.out.2⟩⟩
  case round =>
    clear H0
    obtain ⟨k, a2, L, c2, hk, rfl, rfl, HB⟩ := hrel
    by_cases hlt : k < n
    · have hL : L ≤ 1 + 9 * k := by rw [HB.out.1]; exact wordsUp_len HOK.out k (by omega)
      have hL0 : 0 < L := by rw [HB.out.1]; exact wordsUp_pos r k
      obtain ⟨g, off, rfl, hgb, hc⟩ := (HR.out.below HB.out.2.2 (Nat.le_refl _)).recAt Val.enc_len (by omega) k hlt
      have hv := HOK.out.at (k := k) (by omega)
      generalize hy : r.getD k default = y at *
      have HY := Box.mk hy
      clear hy
      rcases okV_cases hv with rfl | ⟨x, rfl, hx⟩ | ⟨s, rfl, hs⟩ | ⟨x, rfl, hx⟩
      · have c0 := hc 0 _ rfl
        have c1 := hc 1 _ rfl
        have c2' := hc 2 _ rfl
        simp only [Nat.add_zero] at c0 c1 c2'
        have HN := Box.mk (And.intro (show L = (wordsUp r (k + 1)).length from by rw [wordsUp_nullLen (by omega) HY.out rfl]; exact HB.out.1) (wordsUp_set (r := r) (k := k) (by omega) HY.out rfl))
        obtain ⟨go, rfl⟩ := own_head (HB.out.2.1.row 0 rfl) hL0
        have O1 := HB.out.2.1.new [.int .i64 0, .int .i64 0, .string ⟨#[]⟩] 59
        have B1 := HB.out.2.2.alloc HB.out.2.2.size (.cells #[.int .i64 0, .int .i64 0, .string ⟨#[]⟩] 59)
        have HO1 := Box.mk (And.intro O1 B1)
        have hnb := nullsN_bd r (k := k) (by omega)
        generalize hnn : nullsN r k = N at *
        have HNN := Box.mk hnn
        have hpk : 2 ^ k ≤ 2 ^ 20 := Nat.pow_le_pow_right (by omega) (show k ≤ 20 by omega)
        have hpk2 : (2 : Nat) ^ 20 = 1048576 := by decide
        have HS := Box.mk (wrap_pow k (by omega))
        generalize hP : 2 ^ k = P at *
        have HPP := Box.mk hP
        obtain ⟨x0, hx0⟩ : ∃ x0 : Int, ((256 * r.length + N : Nat) : Int) = x0 := ⟨_, rfl⟩
        obtain ⟨x1, hx1⟩ : ∃ x1 : Int, ((256 * r.length + (N + P) : Nat) : Int) = x1 := ⟨_, rfl⟩
        have HX1 := Box.mk (show IntKind.i64.wrap (x0 + (P : Int)) = x1 from by rw [IntKind.wrap_i64]; omega)
        rw [hx1] at HN
        have HX0 := Box.mk hx0
        clear hx0 hx1
        clear O1 B1 hc hgb hv hnn hP
        go_upto_region 8 with fail
        generalize (wr.alloc (.cells #[.int .i64 0, .int .i64 0, .string ⟨#[]⟩] 59)) = wa at *
        generalize wr.heap.size = gv at *
        obtain ⟨cur, hbk, hcl, hown, hgr⟩ := own_store1 (HO1.out.1.drew.row 0 rfl) 0 (by rw [intVals_length, ← HB.out.1]; exact hL0) (.int .i64 x1)
        have hh0 := Box.mk hbk
        have HC := Box.mk (show wa.drew.cell? ⟨go, 0, none⟩ = some (.int .i64 x0) from ((Rd.ofOwn (HO1.out.1.drew.row 0 rfl)).hcell _ rfl 0 _ (by rw [wordsUp_head, HNN.out, HX0.out])))
        have HG := Box.mk (And.intro hcl (HO1.out.1.drew.grown 0 rfl hown hgr (fun ad had => .inl had)))
        have HRL := Box.mk (show r.length ≤ 20 by omega)
        clear hbk hown hgr hcl
        refine wp_region_held_drew (S := fun _ => True) (by kernel_rfl) trivial (fun _ => ?_)
        refine wpAnyH_take (i := 0) (v := ?_) rfl (by kernel_rfl) (by kernel_rfl) (by kernel_rfl) (fun _ _ _ h => h) (yieldsIf_val (by rfl) (fun w' hS => ?_)) trivial ?_
        rotate_left
        · skip
          go_simp
          all_goals with_reducible rfl
        conv =>
          arg 8
          simp [go_sem]
        refine wpAnyH_take (i := 1) (v := ?_) rfl (by kernel_rfl) (by kernel_rfl) (by kernel_rfl) (fun _ _ _ h => h) (yieldsIf_val (by rfl) (fun w' hS => ?_)) trivial ?_
        rotate_left
        · skip
          have q0 : (0 : Int) < (L : Int) := by omega
          go_simp
          all_goals with_reducible rfl
        conv =>
          arg 8
          simp [go_sem]
        refine wpAnyH_take (i := 3) (v := ?_) rfl (by kernel_rfl) (by kernel_rfl) (by kernel_rfl) (fun _ _ _ h => h) (yieldsIf_val (by rfl) (fun w' hS => ?_)) trivial ?_
        rotate_left
        · skip
          go_simp
          all_goals with_reducible rfl
        conv =>
          arg 8
          simp [go_sem]
        refine wpAnyH_take (i := 4) (v := ?_) rfl (by kernel_rfl) (by kernel_rfl) (by kernel_rfl) (fun _ _ _ h => h) (yieldsIf_val (by rfl) (fun w' hS => ?_)) trivial ?_
        rotate_left
        · skip
          have q0 : (0 : Int) ≤ (k : Int) := by omega
          have q := HS.out
          go_simp
          all_goals with_reducible rfl
        conv =>
          arg 8
          simp [go_sem]
        conv =>
          arg 8
          simp [go_sem]
        refine wpAnyH_ready (rs := [2]) (by kernel_rfl) (by simp) ?_
        refine AllReadyH.cons rfl (fun K' hK' => ?_) AllReadyH.nil
        refine oper_load1 (by rfl) 3 (.tmp 32) rfl (by kernel_rfl) rfl HC.out ?_
        refine hK'.out _ _ trivial (fun _ => ?_)
        clear hK' K'
        conv =>
          arg 8
          simp [go_sem]
        refine wpAnyH_take (i := 5) (v := ?_) rfl (by kernel_rfl) (by kernel_rfl) (by kernel_rfl) (fun _ _ _ h => h) (yieldsIf_val (by rfl) (fun w' hS => ?_)) trivial ?_
        rotate_left
        · skip
          have q := HX1.out
          go_simp
          all_goals with_reducible rfl
        conv =>
          arg 8
          simp [go_sem]
        refine wpAnyH_take (i := 6) (v := ?_) rfl (by kernel_rfl) (by kernel_rfl) (by kernel_rfl) (fun _ _ _ h => h) (yieldsIf_val (by rfl) (fun w' hS => ?_)) trivial ?_
        rotate_left
        · skip
          have q0 : (0 : Int) < (L : Int) := by omega
          go_simp
          all_goals with_reducible rfl
        conv =>
          arg 8
          simp [go_sem]
        conv =>
          arg 8
          simp [go_sem]
        refine wpAnyH_ready (rs := [7]) (by kernel_rfl) (by simp) ?_
        refine AllReadyH.cons rfl (fun K' hK' => ?_) AllReadyH.nil
        have hcl := HG.out.1
        refine oper_store_part (by rfl) 3 (.tmp 37) (.tmp 36) rfl rfl (size := 1) (off := 0) (by kernel_rfl) hh0.out hcl rfl (cs := [.int .i64 x1]) rfl rfl (oneI _) ?_
        refine hK'.out _ _ trivial (fun _ => ?_)
        clear hK' K'
        conv =>
          arg 8
          simp [go_sem]
        refine ⟨by kernel_rfl, ?_⟩
        conv =>
          arg 5
          simp [go_sem]
        obtain ⟨O8, B8⟩ := HG.out.2
        have H8 := Box.mk (And.intro O8 (HO1.out.2.drew.trans B8))
        clear O8 B8
        generalize (wa.drew.setRow go (splice cur 0 [.int .i64 x1]).toArray) = w8 at *
        go_wp2_with fail
        go_roundw
        case rel => exact ⟨k + 1, some ⟨go, 0, none⟩, L, c2, by omega, by go_num, rfl, ⟨HN.out.1, by have O := H8.out.1.drop 1; rw [← HN.out.2]; exact O, H8.out.2⟩⟩
        case measure => simp [intOf]; omega
        done
      · have c0 := hc 0 _ rfl
        have c1 := hc 1 _ rfl
        have c2' := hc 2 _ rfl
        simp only [Nat.add_zero] at c0 c1 c2'
        have HN := Box.mk (show wordsUp r k ++ [x + 549755813888] = wordsUp r (k + 1) from by rw [wordsUp_succ (by omega) HY.out (by show (1 : Int) ≠ 0; decide), valR_int])
        have HO0 := Box.mk (And.intro (HB.out.2.1.new [.int .i64 1, .int .i64 x, .string ⟨#[]⟩] 59) (HB.out.2.2.alloc HB.out.2.2.size (.cells #[.int .i64 1, .int .i64 x, .string ⟨#[]⟩] 59)))
        clear hc hgb hv
        go_upto_region 10 with fail
        generalize (wr.alloc (.cells #[.int .i64 1, .int .i64 x, .string ⟨#[]⟩] 59)) = wa at *
        generalize wr.heap.size = gv at *
        clear c0 c1 c2'
        have c1 := (HO0.out.1.blk 1 rfl).1.cellOf (i := 1) rfl
        have HO1 := Box.mk (And.intro (HO0.out.1.new [.int .i64 (x + 549755813888)] 3) (HO0.out.2.alloc HO0.out.2.size (.cells #[.int .i64 (x + 549755813888)] 3)))
        have HRW := Box.mk (HO1.out.1.row 0 rfl)
        go_wp2_with (at_builtin; refine wpList_append_src rfl _ _ 29 29 rfl sl_int (.inl sl_int.ht) rfl HRW.out rfl (Src.oneNew _ _ _ rfl) (by omega) (by unfold maxLen; omega) (by simp) ?_; intro a3 c3 w3 hown3 hgr3 hnew3)
        have HO3 := HO1.out.1.grown 0 rfl hown3 hgr3 hnew3
        go_roundw
        case rel => exact ⟨k + 1, a3, L + 1, c3, by omega, by go_num, rfl, ⟨by rw [← HN.out, List.length_append, ← HB.out.1]; rfl, by have O := (HO3.1.drop 2).drop 1; rw [← HN.out, show intVals (wordsUp r k ++ [x + 549755813888]) = intVals (wordsUp r k) ++ [.int .i64 (x + 549755813888)] from by simp [intVals]]; exact O, HO1.out.2.trans (HO3.2)⟩⟩
        case measure => simp [intOf]; omega
      · have c0 := hc 0 _ rfl
        have c1 := hc 1 _ rfl
        have c2' := hc 2 _ rfl
        simp only [Nat.add_zero] at c0 c1 c2'
        have hsz : (⟨s.toArray⟩ : ByteArray).size = s.length := str_size s
        have HN := Box.mk (show intVals (wordsUp r k) ++ [.int .i64 (s.length : Int)] ++ intVals (textW s) = intVals (wordsUp r (k + 1)) from by rw [wordsUp_succ (by omega) HY.out (by show (2 : Int) ≠ 0; decide), valR_text]; simp [intVals])
        have HNL := Box.mk (show L + 1 + (textW s).length = (wordsUp r (k + 1)).length from by rw [wordsUp_succ (by omega) HY.out (by show (2 : Int) ≠ 0; decide), valR_text, List.length_append, List.length_append, ← HB.out.1]; simp; omega)
        have hTL : (textW s).length ≤ 8 := by rw [textW_length]; unfold nWords; omega
        have HO1 := Box.mk (And.intro (HB.out.2.1.new [.int .i64 2, .int .i64 0, .string ⟨s.toArray⟩] 59).drew (HB.out.2.2.alloc HB.out.2.2.size (.cells #[.int .i64 2, .int .i64 0, .string ⟨s.toArray⟩] 59)).drew)
        clear hc hgb hv
        go_upto_region 6 with fail
        generalize (wr.alloc (.cells #[.int .i64 2, .int .i64 0, .string ⟨s.toArray⟩] 59)) = wa at *
        generalize wr.heap.size = gv at *
        clear c0 c1 c2'
        refine wp_region_held_drew (S := fun w' => Blk w' gv 59 [.int .i64 2, .int .i64 0, .string ⟨s.toArray⟩]) (by kernel_rfl) (HO1.out.1.blk 1 rfl).1 (fun _ => ?_)
        refine wpAnyH_take (i := 0) (v := ?_) rfl (by kernel_rfl) (by kernel_rfl) (by kernel_rfl) (fun _ _ _ h => h) (yieldsIf_val (by rfl) (fun w' hS => ?_)) ((HO1.out.1.blk 1 rfl).1) ?_
        rotate_left
        · skip
          go_simp
          all_goals with_reducible rfl
        conv =>
          arg 8
          simp [go_sem]
        refine wpAnyH_take (i := 1) (v := ?_) rfl (by kernel_rfl) (by kernel_rfl) (by kernel_rfl) (fun _ _ _ h => h) (yieldsIf_val (by rfl) (fun w' hS => ?_)) ((HO1.out.1.blk 1 rfl).1) ?_
        rotate_left
        · skip
          go_simp
          all_goals with_reducible rfl
        conv =>
          arg 8
          simp [go_sem]
        refine wpAnyH_take (i := 2) (v := ?_) rfl (by kernel_rfl) (by kernel_rfl) (by kernel_rfl) (fun _ _ _ h => h) (yieldsIf_val (by rfl) (fun w' hS => ?_)) ((HO1.out.1.blk 1 rfl).1) ?_
        rotate_left
        · skip
          have q := hS.cellOf (i := 2) rfl
          go_simp
          all_goals with_reducible rfl
        conv =>
          arg 8
          simp [go_sem]
        refine wpAnyH_take (i := 3) (v := ?_) rfl (by kernel_rfl) (by kernel_rfl) (by kernel_rfl) (fun _ _ _ h => h) (yieldsIf_val (by rfl) (fun w' hS => ?_)) ((HO1.out.1.blk 1 rfl).1) ?_
        rotate_left
        · skip
          have q := hsz
          go_simp
          all_goals with_reducible rfl
        conv =>
          arg 8
          simp [go_sem]
        refine wpAnyH_take (i := 6) (v := ?_) rfl (by kernel_rfl) (by kernel_rfl) (by kernel_rfl) (fun _ _ _ h => h) (yieldsIf_val (by rfl) (fun w' hS => ?_)) ((HO1.out.1.blk 1 rfl).1) ?_
        rotate_left
        · skip
          go_simp
          all_goals with_reducible rfl
        conv =>
          arg 8
          simp [go_sem]
        refine wpAnyH_take (i := 7) (v := ?_) rfl (by kernel_rfl) (by kernel_rfl) (by kernel_rfl) (fun _ _ _ h => h) (yieldsIf_val (by rfl) (fun w' hS => ?_)) ((HO1.out.1.blk 1 rfl).1) ?_
        rotate_left
        · skip
          have q := hS.cellOf (i := 2) rfl
          go_simp
          all_goals with_reducible rfl
        conv =>
          arg 8
          simp [go_sem]
        conv =>
          arg 8
          simp [go_sem]
        refine wpAnyH_ready (rs := [4]) (by kernel_rfl) (by simp) ?_
        refine AllReadyH.cons rfl (fun K' hK' => ?_) AllReadyH.nil
        refine oper_litA (by rfl) 29 (.tmp 22) rfl sl_int (cs := [.int .i64 (s.length : Int)]) rfl rfl (by omega) (by omega) ?_
        have HO1 := Box.mk (And.intro (HO1.out.1.new [.int .i64 (s.length : Int)] 3) (HO1.out.2.alloc (Nat.le_trans HO1.out.2.size (Nat.le_refl _)) (.cells #[.int .i64 (s.length : Int)] 3)))
        have HT2 := (HO1.out.1.blk 1 rfl).1
        refine hK'.out _ _ HT2 (fun _ => ?_)
        clear hK' K'
        conv =>
          arg 8
          simp [go_sem]
        conv =>
          arg 8
          simp [go_sem]
        refine wpAnyH_ready (rs := [5]) (by kernel_rfl) (by simp) ?_
        refine AllReadyH.cons rfl (fun K' hK' => ?_) AllReadyH.nil
        have HSR := Box.mk (Src.ofRd (P := Try.prog) (rd_rec (enc := fun x : Int => [Value.int .i64 x]) (l := [(s.length : Int)]) (fun _ => rfl) (HO1.out.1.blk 2 rfl).1 (by simp [maxLen])) (oneI _))
        refine oper_append2 (by rfl) (.tmp 19) (.tmp 23) 29 29 rfl sl_int (.inl sl_int.ht) rfl (HO1.out.1.row 0 rfl) rfl HSR.out (by simp; omega) (by simp [maxLen]; omega) (by omega) ?_
        intro a7 c7 w7 hown7 hgr7 hnew7
        have HX := HO1.out.1.grown 0 rfl hown7 hgr7 hnew7
        have HO3 := Box.mk (And.intro HX.1 (HO1.out.2.trans HX.2))
        clear HX hown7 hgr7 hnew7 HSR
        have HT4 := (HO3.out.1.blk 1 rfl).1
        refine hK'.out _ _ HT4 (fun _ => ?_)
        clear hK' K'
        conv =>
          arg 8
          simp [go_sem]
        conv =>
          arg 8
          simp [go_sem]
        refine wpAnyH_ready (rs := [8]) (by kernel_rfl) (by simp) ?_
        refine AllReadyH.cons rfl (fun K' hK' => ?_) AllReadyH.nil
        refine oper_call (by rfl) 20 [.tmp 26] #[9] rfl (vs := [.string ⟨s.toArray⟩]) rfl Try.func20 nm_pack bd_pack (pack_any s _ (by omega)) ?_
        rintro e w6 ⟨hb6, ap, cp, rfl, hown6⟩
        have HO5 := Box.mk (And.intro (HO3.out.1.newRow hb6 hown6 (Nat.le_refl _)) (HO3.out.2.trans (hb6.mono HO3.out.2.size)))
        clear hb6 hown6
        have HT6 := (HO5.out.1.blk 1 rfl).1
        refine ⟨_, rfl, hK'.out _ _ HT6 (fun _ => ?_)⟩
        clear hK' K'
        conv =>
          arg 8
          simp [go_sem]
        conv =>
          arg 8
          simp [go_sem]
        refine wpAnyH_ready (rs := [9]) (by kernel_rfl) (by simp) ?_
        refine AllReadyH.cons rfl (fun K' hK' => ?_) AllReadyH.nil
        have HSR := Box.mk (Src.ofRd (P := Try.prog) (Rd.ofOwn (HO5.out.1.row 3 rfl)) (intVals_one _))
        refine oper_append2 (by rfl) (.tmp 24) (.tmp 27) 29 29 rfl sl_int (.inl sl_int.ht) rfl (HO5.out.1.row 0 rfl) rfl HSR.out (by omega) (by unfold maxLen; omega) (by omega) ?_
        intro a9 c9 w9 hown9 hgr9 hnew9
        have HX := HO5.out.1.grown 0 rfl hown9 hgr9 hnew9
        have HO7 := Box.mk (And.intro HX.1 (HO5.out.2.trans HX.2))
        clear HX hown9 hgr9 hnew9 HSR
        have HT8 := (HO7.out.1.blk 1 rfl).1
        refine hK'.out _ _ HT8 (fun _ => ?_)
        clear hK' K'
        conv =>
          arg 8
          simp [go_sem]
        refine wpAnyH_take (i := 10) (v := ?_) rfl (by kernel_rfl) (by kernel_rfl) (by kernel_rfl) (fun _ _ _ h => h) (yieldsIf_val (by rfl) (fun w' hS => ?_)) (HT8) ?_
        rotate_left
        · skip
          go_simp
          all_goals with_reducible rfl
        conv =>
          arg 8
          simp [go_sem]
        refine ⟨by kernel_rfl, ?_⟩
        conv =>
          arg 5
          simp [go_sem]
        have H8 := Box.mk (And.intro HO7.out.1 HO7.out.2)
        go_wp2_with fail
        go_roundw
        case rel => exact ⟨k + 1, a9, L + 1 + (textW s).length, c9, by omega, by go_num, rfl, ⟨HNL.out, by have O := ((H8.out.1.drop 3).drop 2).drop 1; rw [← HN.out]; exact O, H8.out.2⟩⟩
        case measure => simp [intOf]; omega
        done
      · have c0 := hc 0 _ rfl
        have c1 := hc 1 _ rfl
        have c2' := hc 2 _ rfl
        simp only [Nat.add_zero] at c0 c1 c2'
        have HN := Box.mk (show wordsUp r k ++ [x] = wordsUp r (k + 1) from by rw [wordsUp_succ (by omega) HY.out (by show (3 : Int) ≠ 0; decide), valR_bool])
        have HO0 := Box.mk (And.intro (HB.out.2.1.new [.int .i64 3, .int .i64 x, .string ⟨#[]⟩] 59) (HB.out.2.2.alloc HB.out.2.2.size (.cells #[.int .i64 3, .int .i64 x, .string ⟨#[]⟩] 59)))
        clear hc hgb hv
        go_upto_region 12 with fail
        generalize (wr.alloc (.cells #[.int .i64 3, .int .i64 x, .string ⟨#[]⟩] 59)) = wa at *
        generalize wr.heap.size = gv at *
        clear c0 c1 c2'
        have c1 := (HO0.out.1.blk 1 rfl).1.cellOf (i := 1) rfl
        have HO1 := Box.mk (And.intro (HO0.out.1.new [.int .i64 x] 3) (HO0.out.2.alloc HO0.out.2.size (.cells #[.int .i64 x] 3)))
        have HRW := Box.mk (HO1.out.1.row 0 rfl)
        go_wp2_with (at_builtin; refine wpList_append_src rfl _ _ 29 29 rfl sl_int (.inl sl_int.ht) rfl HRW.out rfl (Src.oneNew _ _ _ rfl) (by omega) (by unfold maxLen; omega) (by simp) ?_; intro a3 c3 w3 hown3 hgr3 hnew3)
        have HO3 := HO1.out.1.grown 0 rfl hown3 hgr3 hnew3
        go_roundw
        case rel => exact ⟨k + 1, a3, L + 1, c3, by omega, by go_num, rfl, ⟨by rw [← HN.out, List.length_append, ← HB.out.1]; rfl, by have O := (HO3.1.drop 2).drop 1; rw [← HN.out, show intVals (wordsUp r k ++ [x]) = intVals (wordsUp r k) ++ [.int .i64 x] from by simp [intVals]]; exact O, HO1.out.2.trans (HO3.2)⟩⟩
        case measure => simp [intOf]; omega
    · obtain rfl : k = n := by omega
      have hz := HB.out
      rw [show wordsUp r k = wordsR r from by unfold wordsR; rw [hln]] at hz
      obtain ⟨rfl, O, hb⟩ := hz
      have HF := Box.mk (And.intro O hb)
      clear O hb HB
      go_wp2_with fail
      go_ret
      exact ⟨HF.out.2, a2, c2, rfl, HF.out.1.rowB 0 rfl⟩
end Go.Proofs.Ytpgdfhncigmmbaa
