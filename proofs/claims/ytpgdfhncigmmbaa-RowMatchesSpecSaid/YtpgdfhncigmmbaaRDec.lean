/-
  The walk of the reference's Decode. No condition.
-/
import Derived.Test.YtpgdfhncigmmbaaROne
namespace Go.Proofs.Ytpgdfhncigmmbaa
open Go.RowKit

theorem RetOne.uni {O : Option (Val × List Int)} {l : List Int} {w w' : World} {e : Ending} (h : RetOne O l w e w') : Below w.heap.size w w' ∧ ∃ (x : Val) (N : Nat), e = .returned (.tuple #[x.v, .int .i64 N]) ∧ N ≤ l.length ∧ ((O = some (x, l.drop N) ∧ 0 < N) ∨ (O = none ∧ N = 0)) := by
  obtain ⟨hb, ⟨x, N, h1, h2, h3, h4⟩ | ⟨h1, h2⟩⟩ := h
  · exact ⟨hb, x, N, h4, h3, .inl ⟨h1, h2⟩⟩
  · exact ⟨hb, ⟨0, 0, []⟩, 0, h2, Nat.zero_le _, .inr ⟨h1, rfl⟩⟩
theorem one_is {kd : Int} {l : List Int} {O : Option (Val × List Int)} (h : rdV kd l = O) {a : Option Addr} {n c : Nat} {w : World} (hr : Rd w a n c 1 (intVals l)) (hn : n ≤ 1000) : Calls Try.prog 43 #[.int .i64 kd, .slice a n c] w (fun e w' => Below w.heap.size w w' ∧ ∃ (x : Val) (N : Nat), e = .returned (.tuple #[x.v, .int .i64 N]) ∧ N ≤ l.length ∧ ((O = some (x, l.drop N) ∧ 0 < N) ∨ (O = none ∧ N = 0))) := by
  subst h
  exact (one_any hr hn).mono fun e w' he => RetOne.uni he
theorem RetDec.nil {O : Option (List Val × Nat)} (h : O = none) {w w' : World} (hb : Below w.heap.size w w') : RetDec O w (.returned (.tuple #[.slice none 0 0, .int .i64 0, .int .i64 3])) w' := by
  subst h
  exact ⟨hb, none, 0, rfl, World.ownsRow_nil _ _ _ _⟩
theorem decT_out {T : Tab} {x : Int} {t : List Int} (h : x < 0 ∨ lim40 ≤ x) : decT T (x :: t) = none := by
  unfold decT; rw [rdW_out h]; rfl
theorem nm_one : (Try.f43.name == "runtime.NumGoroutine") = false := by kernel_rfl
theorem bd_one : Try.f43.body.isNone = false := by kernel_rfl

set_option maxRecDepth 100000 in
set_option maxHeartbeats 8000000 in
theorem rdecode_any (X : TabP) (l : List Int) (la : Option Addr) (ln lc : Nat) (w : World) (hX : TabRd w X) (hr : Rd w la ln lc 1 (intVals l)) (hn : ln ≤ 1000) (hc8 : X.cols.length ≤ 8) : Calls Try.prog 15 #[X.v, .slice la ln lc] w (RetDec (decT X.t l) w) := by
  generalize hO : decT X.t l = O
  have HO := Box.mk hO
  have H0 := Box.mk (And.intro ((Own.start w).new X.cs 26) ((Below.refl w.heap.size w).alloc (Nat.le_refl _) (.cells X.cs.toArray 26)))
  have HL := Box.mk hr
  have HX := Box.mk hX
  have hln := hr.ilen
  have hcm := hX.cols.lenMax
  clear hO hr hX
  unfold TabP.cs at H0
  unfold TabP.v
  cases l with
  | nil =>
    obtain rfl : ln = 0 := by rw [← hln]; rfl
    have HN := Box.mk (show O = none from by rw [← HO.out]; rfl)
    go_enter Try.func15, Try.ntmps15
    go_wp2_with fail
    refine bodyPost_ret (results_tmp3 rfl _ _ _) rfl ?_
    exact RetDec.nil HN.out H0.out.2
  | cons x t =>
    have hn1 : 1 ≤ ln := by rw [← hln]; simp
    have htl : t.length = ln - 1 := by rw [← hln]; simp
    obtain ⟨g, off, rfl, hc0⟩ := HL.out.intAtD 0 (by omega)
    rw [Nat.add_zero, show (x :: t).getD 0 0 = x from rfl] at hc0
    have HC0 := Box.mk hc0
    have c0 := (H0.out.2.cell (p := ⟨g, off, none⟩) (cell_block_lt HC0.out)).trans HC0.out
    have tn : ((ln : Int) == 0) = false := by simp; omega
    clear hc0
    go_enter Try.func15, Try.ntmps15
    go_upto_region 1 with fail
    generalize (w.alloc (.cells #[.string ⟨X.name.toArray⟩, .slice X.ca X.cols.length X.cc, .slice X.ia X.ixs.length X.ic, .slice X.ha X.chks.length X.hc] 26)) = w1 at *
    have u1 := (H0.out.1.blk 0 rfl).1.cellOf (i := 1) rfl
    cases hwb : wordB x with
    | false =>
      have HN := Box.mk (show O = none from by rw [← HO.out]; exact decT_out (wordB_false hwb))
      have HWB := Box.mk hwb
      clear hwb
      go_wp2_with fail
      refine (rword_is HWB.out _).mono ?_
      rintro e w5 ⟨rfl, rfl⟩
      go_wp2_with fail
      refine bodyPost_ret (results_tmp3 rfl _ _ _) rfl ?_
      exact RetDec.nil HN.out H0.out.2
    | true =>
      obtain ⟨hx0, hx1⟩ := wordB_true hwb
      have HWB := Box.mk hwb
      obtain ⟨H, rfl⟩ := Int.eq_ofNat_of_zero_le hx0
      have HW := Box.mk (rdW_cons (l := t) hx0 hx1)
      unfold lim40 at hx1
      clear hwb hx0
      go_wp2_with fail
      refine (rword_is HWB.out _).mono ?_
      rintro e w5 ⟨rfl, rfl⟩
      obtain ⟨N, hN⟩ : ∃ N, H / 256 = N := ⟨_, rfl⟩
      obtain ⟨U, hU⟩ : ∃ U, H % 256 = U := ⟨_, rfl⟩
      have q1 : (H : Int) / 256 = (N : Int) := by omega
      have q2 : (H : Int) % 256 = (U : Int) := by omega
      have q3 : (H : Int).tmod 256 = (U : Int) := by rw [Int.tmod_eq_emod_of_nonneg (by omega)]; exact q2
      have hU256 : U < 256 := by omega
      have hNb : N < 4294967296 := by omega
      have HNU := Box.mk (And.intro hN hU)
      clear hN hU
      by_cases hA : N < 1
      · have HN := Box.mk (show O = none from by rw [← HO.out]; exact decT_bad HW.out (.inl (by rw [HNU.out.1]; exact hA)))
        obtain rfl : N = 0 := by omega
        clear hx1 hA
        go_wp2_with fail
        refine bodyPost_ret (results_tmp3 rfl _ _ _) rfl ?_
        exact RetDec.nil HN.out H0.out.2
      · have tA : decide ((N : Int) < 1) = false := decide_eq_false (by omega)
        by_cases hB : X.cols.length < N
        · have HN := Box.mk (show O = none from by rw [← HO.out]; exact decT_bad HW.out (.inr (.inl (by rw [HNU.out.1]; exact hB))))
          have tB : decide (X.cols.length < N) = true := decide_eq_true hB
          clear hx1 hA hB
          go_wp2_with fail
          refine bodyPost_ret (results_tmp3 rfl _ _ _) rfl ?_
          exact RetDec.nil HN.out H0.out.2
        · have tB : decide (X.cols.length < N) = false := decide_eq_false hB
          have hB1 : N ≤ X.cols.length := by omega
          have hP0 : 0 < 2 ^ N := Nat.two_pow_pos N
          have HS := wrap_pow N (by omega)
          by_cases hC : 2 ^ N ≤ U
          · have HN := Box.mk (show O = none from by
              rw [← HO.out]
              exact decT_bad HW.out (.inr (.inr (by rw [HNU.out.1, HNU.out.2]; have := Nat.div_pos hC hP0; omega))))
            generalize 2 ^ N = P at *
            have tC : decide (P ≤ U) = true := decide_eq_true hC
            clear hx1 hA hB hC hP0
            go_wp2_with fail
            refine bodyPost_ret (results_tmp3 rfl _ _ _) rfl ?_
            exact RetDec.nil HN.out H0.out.2
          · have HGO := Box.mk (show (decTo X.cols N U t X.cols.length).map (fun p => (p.1, (((H : Int) :: t).length - p.2.length))) = O from by
              rw [← HO.out, decT_go HW.out (by
                rw [HNU.out.1, HNU.out.2]
                have h0 : U / 2 ^ N = 0 := Nat.div_eq_of_lt (by omega)
                rintro (h | h | h)
                · exact hA h
                · exact hB h
                · exact h h0), HNU.out.1, HNU.out.2]; rfl)
            generalize hP : 2 ^ N = P at *
            have tC : decide (P ≤ U) = false := decide_eq_false hC
            clear hx1 hA hB hC hP0 hP
            go_wp2_with fail
            clear tA tB tC HS q1 q2 q3 hNb c0 u1
            go_loopw [9, 10, 11] (fun v p i wr => ∃ j : Nat, j ≤ X.cols.length ∧ i = .int .i64 j ∧ ∃ (vs : List Val) (a : Option Addr) (c k : Nat), v = .slice a j c ∧ p = .int .i64 k ∧ 1 ≤ k ∧ k ≤ ln ∧ Box (decTo X.cols N U t j = some (vs, ((H : Int) :: t).drop k) ∧ Own w.heap.size wr [BlkP w.heap.size 26 [.string ⟨X.name.toArray⟩, .slice X.ca X.cols.length X.cc, .slice X.ia X.ixs.length X.ic, .slice X.ha X.chks.length X.hc], RowP 59 3 a j c (recC Val.enc vs)] ∧ Below w.heap.size w wr)) (fun _ _ i _ => X.cols.length - (intOf i).toNat)
            case atStart => exact ⟨0, Nat.zero_le _, rfl, [], none, 0, 1, rfl, rfl, Nat.le_refl _, hn1, ⟨rfl, H0.out.1.newRow (Below.refl _ _) (World.ownsRow_nil _ _ _ _) (Nat.le_refl _), H0.out.2⟩⟩
            case round =>
              clear H0
              obtain ⟨j, hj, rfl, vs, a, c, k, rfl, rfl, hk1, hkl, HB⟩ := hrel
              have u1 := (HB.out.2.1.blk 0 rfl).1.cellOf (i := 1) rfl
              by_cases hlt : j < X.cols.length
              · obtain ⟨b, of2, hca, hgb, hc⟩ := HX.out.cols.recAt Col.enc_len (by omega) j hlt
                have HDIE := Box.mk (show decTo X.cols N U t (j + 1) = none → O = none from fun hI => by
                  rw [← HGO.out, decTo_lt hI hlt]; rfl)
                generalize hy : X.cols.getD j default = y at *
                have HY := Box.mk hy
                obtain ⟨yn, yk, yu⟩ := y
                have HCC := Box.mk (And.intro (hc 1 _ rfl) (hc 2 _ rfl))
                have c2 := (HB.out.2.2.cell (p := ⟨b, of2 + j * 3 + 2, none⟩) (cell_block_lt HCC.out.2)).trans HCC.out.2
                have HCA := Box.mk hca
                rw [hca] at u1
                clear hy hc hgb hca
                have hvl : vs.length = j := decTo_len HB.out.1
                obtain ⟨D, hD⟩ : ∃ D, U / 2 ^ j = D := ⟨_, rfl⟩
                have qD : (U : Int) / 2 ^ j = (D : Int) := by rw [← hD]; push_cast; rfl
                obtain ⟨E, hE⟩ : ∃ E, D % 2 = E := ⟨_, rfl⟩
                have qE : (D : Int).tmod 2 = (E : Int) := by rw [Int.tmod_eq_emod_of_nonneg (by omega)]; omega
                have qE2 : (D : Int) % 2 = (E : Int) := by omega
                have hE2 : E < 2 := by omega
                have hD256 : D ≤ 256 := by rw [← hD]; exact Nat.le_trans (Nat.div_le_self _ _) (by omega)
                have HE := Box.mk (show U / 2 ^ j % 2 = E from by rw [hD]; exact hE)
                clear hE hD
                by_cases hjn : N ≤ j
                · have tN : decide (N ≤ j) = true := decide_eq_true hjn
                  have HNUL := Box.mk (show N ≤ j ∨ U / 2 ^ j % 2 = 1 from .inl hjn)
                  clear hjn qE qE2 qD
                  cases yu with
                  | false =>
                    have HN := Box.mk (HDIE.out (decTo_nonull HB.out.1 HNUL.out (by rw [HY.out])))
                    go_wp2_with fail
                    refine bodyPost_ret (results_tmp3 rfl _ _ _) rfl ?_
                    exact RetDec.nil HN.out HB.out.2.2
                  | true =>
                    have HOA := Box.mk (And.intro (HB.out.2.1.new [.int .i64 0, .int .i64 0, .string ⟨#[]⟩] 59) (HB.out.2.2.alloc HB.out.2.2.size (.cells #[.int .i64 0, .int .i64 0, .string ⟨#[]⟩] 59)))
                    have SRC := Box.mk (Src.ofRd (P := Try.prog) (rd_newAt (w := wr) (arr := #[.int .i64 0, .int .i64 0, .string ⟨#[]⟩]) (cs := recC Val.enc [zval]) (e := 59) (n := 1) (g := wr.heap.size) (size := 3) rfl rfl rfl (by simp [maxLen])) (recC_one Val.enc_one _))
                    go_wp2_with (first | (with_reducible show wpList _ _ _ _ _ _; refine wpList_lit_one rfl 28 (.tmp 77) rfl sl_row (cs := [.int .i64 0, .int .i64 0, .string ⟨#[]⟩]) rfl rfl (by omega) (by omega) ?_) | (at_builtin; refine wpList_append_src rfl _ _ 28 28 rfl sl_row (.inl sl_row.ht) rfl (HOA.out.1.row 1 rfl) rfl SRC.out (by omega) (by unfold maxLen; omega) (by simp) ?_; intro a3 c3 w3 hown3 hgr3 hnew3; have HG := Box.mk (HOA.out.1.grown 1 rfl hown3 hgr3 hnew3); clear hown3 hgr3 hnew3))
                    refine ⟨⟨j + 1, hlt, by go_num, vs ++ [zval], a3, c3, k, rfl, rfl, hk1, hkl, ⟨decTo_null HB.out.1 HNUL.out (by rw [HY.out]), ?_, HOA.out.2.trans HG.out.2⟩⟩, by simp [intOf]; omega⟩
                    rw [recC_append]; exact HG.out.1.drop 2
                · have tN : decide (N ≤ j) = false := decide_eq_false hjn
                  by_cases hE1 : E = 1
                  · have tE : ((E : Int) == 1) = true := by rw [hE1]; rfl
                    have HNUL := Box.mk (show N ≤ j ∨ U / 2 ^ j % 2 = 1 from .inr (by rw [HE.out]; exact hE1))
                    clear hjn hE1
                    cases yu with
                    | false =>
                      have HN := Box.mk (HDIE.out (decTo_nonull HB.out.1 HNUL.out (by rw [HY.out])))
                      go_wp2_with fail
                      refine bodyPost_ret (results_tmp3 rfl _ _ _) rfl ?_
                      exact RetDec.nil HN.out HB.out.2.2
                    | true =>
                      have HOA := Box.mk (And.intro (HB.out.2.1.new [.int .i64 0, .int .i64 0, .string ⟨#[]⟩] 59) (HB.out.2.2.alloc HB.out.2.2.size (.cells #[.int .i64 0, .int .i64 0, .string ⟨#[]⟩] 59)))
                      have SRC := Box.mk (Src.ofRd (P := Try.prog) (rd_newAt (w := wr) (arr := #[.int .i64 0, .int .i64 0, .string ⟨#[]⟩]) (cs := recC Val.enc [zval]) (e := 59) (n := 1) (g := wr.heap.size) (size := 3) rfl rfl rfl (by simp [maxLen])) (recC_one Val.enc_one _))
                      go_wp2_with (first | (with_reducible show wpList _ _ _ _ _ _; refine wpList_lit_one rfl 28 (.tmp 77) rfl sl_row (cs := [.int .i64 0, .int .i64 0, .string ⟨#[]⟩]) rfl rfl (by omega) (by omega) ?_) | (at_builtin; refine wpList_append_src rfl _ _ 28 28 rfl sl_row (.inl sl_row.ht) rfl (HOA.out.1.row 1 rfl) rfl SRC.out (by omega) (by unfold maxLen; omega) (by simp) ?_; intro a3 c3 w3 hown3 hgr3 hnew3; have HG := Box.mk (HOA.out.1.grown 1 rfl hown3 hgr3 hnew3); clear hown3 hgr3 hnew3))
                      refine ⟨⟨j + 1, hlt, by go_num, vs ++ [zval], a3, c3, k, rfl, rfl, hk1, hkl, ⟨decTo_null HB.out.1 HNUL.out (by rw [HY.out]), ?_, HOA.out.2.trans HG.out.2⟩⟩, by simp [intOf]; omega⟩
                      rw [recC_append]; exact HG.out.1.drop 2
                  · have tE : ((E : Int) == 1) = false := by
                      have : E = 0 := by omega
                      rw [this]; rfl
                    have HNO := Box.mk (show ¬ (N ≤ j ∨ U / 2 ^ j % 2 = 1) from fun h => by
                      rcases h with h | h
                      · exact hjn h
                      · rw [HE.out] at h; exact hE1 h)
                    clear hjn hE1
                    have hcap := HL.out.hcap
                    have hsub := HL.out.sub k ln lc hkl (Nat.le_refl _) hcap (Nat.le_refl _)
                    simp only [Nat.mul_one] at hsub
                    obtain ⟨a', ha'⟩ : ∃ A, (if lc = k then some (⟨g, off, none⟩ : Addr) else some (⟨g, off + k, none⟩ : Addr)) = A := ⟨_, rfl⟩
                    have ha2 : (if lc = k then some (⟨g, off, none⟩ : Addr) else (some (⟨g, off, none⟩ : Addr)).map (·.add k)) = a' := by rw [← ha']; simp [Addr.add, show k ≠ 0 from by omega]
                    rw [ha2] at hsub
                    have hxs : (List.drop k (intVals ((H : Int) :: t))).take (ln - k) = intVals (((H : Int) :: t).drop k) := by
                      rw [List.take_of_length_le (by rw [List.length_drop, intVals_length]; omega)]
                      simp [intVals, List.map_drop]
                    rw [hxs] at hsub
                    have HSUB := Box.mk hsub
                    clear hxs ha2 hsub
                    go_upto_region 17 with fail
                    clear tN tE qE qE2 qD c2 u1
                    have HS1 := Box.mk (And.intro HB.out.2.2.drew HB.out.2.1.drew)
                    have HS0 : Below w.heap.size w wr.drew ∧ Blk wr.drew w.heap.size 26 [.string ⟨X.name.toArray⟩, .slice X.ca X.cols.length X.cc, .slice X.ia X.ixs.length X.ic, .slice X.ha X.chks.length X.hc] := ⟨HS1.out.1, (HS1.out.2.blk 0 rfl).1⟩
                    refine wp_region_held_drew (S := fun w' => Below w.heap.size w w' ∧ Blk w' w.heap.size 26 [.string ⟨X.name.toArray⟩, .slice X.ca X.cols.length X.cc, .slice X.ia X.ixs.length X.ic, .slice X.ha X.chks.length X.hc]) (by kernel_rfl) HS0 (fun _ => ?_)
                    generalize wr.drew = wd at *
                    refine wpAnyH_take (i := 0) (v := ?_) rfl (by kernel_rfl) (by kernel_rfl) (by kernel_rfl) (fun _ _ _ h => h) (yieldsIf_val (by rfl) (fun w' hS => ?_)) (HS0) ?_
                    rotate_left
                    · skip
                      go_simp
                      all_goals with_reducible rfl
                    conv =>
                      arg 8
                      simp [go_sem]
                    refine wpAnyH_take (i := 1) (v := ?_) rfl (by kernel_rfl) (by kernel_rfl) (by kernel_rfl) (fun _ _ _ h => h) (yieldsIf_val (by rfl) (fun w' hS => ?_)) (HS0) ?_
                    rotate_left
                    · skip
                      have q := hS.2.cellOf (i := 1) rfl
                      have q2 := HCA.out
                      go_simp
                      all_goals with_reducible rfl
                    conv =>
                      arg 8
                      simp [go_sem]
                    refine wpAnyH_take (i := 2) (v := ?_) rfl (by kernel_rfl) (by kernel_rfl) (by kernel_rfl) (fun _ _ _ h => h) (yieldsIf_val (by rfl) (fun w' hS => ?_)) (HS0) ?_
                    rotate_left
                    · skip
                      go_simp
                      all_goals with_reducible rfl
                    conv =>
                      arg 8
                      simp [go_sem]
                    refine wpAnyH_take (i := 3) (v := ?_) rfl (by kernel_rfl) (by kernel_rfl) (by kernel_rfl) (fun _ _ _ h => h) (yieldsIf_val (by rfl) (fun w' hS => ?_)) (HS0) ?_
                    rotate_left
                    · skip
                      have q0 : (0 : Int) ≤ (j : Int) := by omega
                      have q1 : (j : Int) < (X.cols.length : Int) := by omega
                      have q2 := HCA.out
                      go_simp
                      all_goals with_reducible rfl
                    conv =>
                      arg 8
                      simp [go_sem]
                    refine wpAnyH_take (i := 4) (v := ?_) rfl (by kernel_rfl) (by kernel_rfl) (by kernel_rfl) (fun _ _ _ h => h) (yieldsIf_val (by rfl) (fun w' hS => ?_)) (HS0) ?_
                    rotate_left
                    · skip
                      go_simp
                      all_goals with_reducible rfl
                    conv =>
                      arg 8
                      simp [go_sem]
                    refine wpAnyH_take (i := 5) (v := ?_) rfl (by kernel_rfl) (by kernel_rfl) (by kernel_rfl) (fun _ _ _ h => h) (yieldsIf_val (by rfl) (fun w' hS => ?_)) (HS0) ?_
                    rotate_left
                    · skip
                      have q := (hS.1.cell (p := ⟨b, of2 + j * 3 + 1, none⟩) (cell_block_lt HCC.out.1)).trans HCC.out.1
                      go_simp
                      all_goals with_reducible rfl
                    conv =>
                      arg 8
                      simp [go_sem]
                    refine wpAnyH_take (i := 6) (v := ?_) rfl (by kernel_rfl) (by kernel_rfl) (by kernel_rfl) (fun _ _ _ h => h) (yieldsIf_val (by rfl) (fun w' hS => ?_)) (HS0) ?_
                    rotate_left
                    · skip
                      go_simp
                      all_goals with_reducible rfl
                    conv =>
                      arg 8
                      simp [go_sem]
                    refine wpAnyH_take (i := 7) (v := ?_) rfl (by kernel_rfl) (by kernel_rfl) (by kernel_rfl) (fun _ _ _ h => h) (yieldsIf_val (by rfl) (fun w' hS => ?_)) (HS0) ?_
                    rotate_left
                    · skip
                      go_simp
                      all_goals with_reducible rfl
                    conv =>
                      arg 8
                      simp [go_sem]
                    refine wpAnyH_take (i := 8) (v := ?_) rfl (by kernel_rfl) (by kernel_rfl) (by kernel_rfl) (fun _ _ _ h => h) (yieldsIf_val (by rfl) (fun w' hS => ?_)) (HS0) ?_
                    rotate_left
                    · skip
                      have q0 : (0 : Int) ≤ (k : Int) := by omega
                      have q1 : (k : Int) ≤ (ln : Int) := by omega
                      go_simp
                      all_goals with_reducible rfl
                    conv =>
                      arg 8
                      simp [go_sem]
                    conv =>
                      arg 8
                      simp [go_sem]
                    refine wpAnyH_ready (rs := [9, 13]) (by kernel_rfl) (by simp) ?_
                    refine AllReadyH.cons rfl (fun K' hK' => ?_) (AllReadyH.cons rfl (fun K' hK' => ?_) AllReadyH.nil)
                    · refine oper_call (by rfl) 43 [.tmp 86, .tmp 89] #[3, 29] rfl (vs := [.int .i64 yk, .slice a' (ln - k) (lc - k)]) rfl Try.func43 nm_one bd_one (one_is (O := rdV yk (((H : Int) :: t).drop k)) rfl (HSUB.out.below HS1.out.1 (Nat.le_refl _)) (by omega)) ?_
                      rintro e w7 ⟨hb7, ⟨vk, vn, vs2⟩, N7, rfl, hN7, hcase⟩
                      have HCS := Box.mk (And.intro hN7 hcase)
                      have HO1 := Box.mk (And.intro (HS1.out.1.trans (hb7.mono HS1.out.1.size)) (HS1.out.2.below hb7))
                      clear hb7 hN7 hcase
                      have HT2 := And.intro HO1.out.1 (HO1.out.2.blk 0 rfl).1
                      refine ⟨_, rfl, hK'.out _ _ HT2 (fun _ => ?_)⟩
                      clear hK' K'
                      conv =>
                        arg 8
                        simp [go_sem]
                      refine wpAnyH_take (i := 10) (v := ?_) rfl (by kernel_rfl) (by kernel_rfl) (by kernel_rfl) (fun _ _ _ h => h) (yieldsIf_val (by rfl) (fun w' hS => ?_)) (HT2) ?_
                      rotate_left
                      · skip
                        go_simp
                        all_goals with_reducible rfl
                      conv =>
                        arg 8
                        simp [go_sem]
                      refine wpAnyH_take (i := 11) (v := ?_) rfl (by kernel_rfl) (by kernel_rfl) (by kernel_rfl) (fun _ _ _ h => h) (yieldsIf_val (by rfl) (fun w' hS => ?_)) (HT2) ?_
                      rotate_left
                      · skip
                        go_simp
                        all_goals with_reducible rfl
                      conv =>
                        arg 8
                        simp [go_sem]
                      refine wpAnyH_take (i := 12) (v := ?_) rfl (by kernel_rfl) (by kernel_rfl) (by kernel_rfl) (fun _ _ _ h => h) (yieldsIf_val (by rfl) (fun w' hS => ?_)) (HT2) ?_
                      rotate_left
                      · skip
                        go_simp
                        all_goals with_reducible rfl
                      conv =>
                        arg 8
                        simp [go_sem]
                      conv =>
                        arg 8
                        simp [go_sem]
                      refine wpAnyH_ready (rs := [13]) (by kernel_rfl) (by simp) ?_
                      refine AllReadyH.cons rfl (fun K' hK' => ?_) AllReadyH.nil
                      refine oper_alloc (by rfl) 59 rfl (z := .agg #[.int .i64 0, .int .i64 0, .string ⟨#[]⟩]) (zc := #[.int .i64 0, .int .i64 0, .string ⟨#[]⟩]) (by kernel_rfl) rfl ?_
                      have HO3 := Box.mk (And.intro (HO1.out.1.alloc HO1.out.1.size (.cells #[.int .i64 0, .int .i64 0, .string ⟨#[]⟩] 59)) (HO1.out.2.new [.int .i64 0, .int .i64 0, .string ⟨#[]⟩] 59))
                      have HT4 := And.intro HO3.out.1 (HO3.out.2.blk 0 rfl).1
                      refine hK'.out _ _ HT4 (fun _ => ?_)
                      clear hK' K'
                      conv =>
                        arg 8
                        simp [go_sem]
                      conv =>
                        arg 8
                        simp [go_sem]
                      refine wpAnyH_ready (rs := [14]) (by kernel_rfl) (by simp) ?_
                      refine AllReadyH.cons rfl (fun K' hK' => ?_) AllReadyH.nil
                      refine oper_store_row (by rfl) 59 (.tmp 13) (.tmp 91) rfl rfl (by kernel_rfl) (HO3.out.2.blk 2 rfl).1 rfl rfl (cs := [.int .i64 vk, .int .i64 vn, .string ⟨vs2.toArray⟩]) rfl rfl (val_one _ _ _) ?_
                      have HX8 := HO3.out.2.setRow 2 rfl [.int .i64 vk, .int .i64 vn, .string ⟨vs2.toArray⟩]
                      have HO5 := Box.mk (And.intro (HO3.out.1.trans HX8.2) HX8.1)
                      clear HX8
                      have HT6 := And.intro HO5.out.1 (HO5.out.2.blk 0 rfl).1
                      refine hK'.out _ _ HT6 (fun _ => ?_)
                      clear hK' K'
                      conv =>
                        arg 8
                        simp [go_sem]
                      refine wpAnyH_take (i := 15) (v := ?_) rfl (by kernel_rfl) (by kernel_rfl) (by kernel_rfl) (fun _ _ _ h => h) (yieldsIf_val (by rfl) (fun w' hS => ?_)) (HT6) ?_
                      rotate_left
                      · skip
                        go_simp
                        all_goals with_reducible rfl
                      conv =>
                        arg 8
                        simp [go_sem]
                      refine ⟨by kernel_rfl, ?_⟩
                      conv =>
                        arg 5
                        simp [go_sem]
                      have H8 := Box.mk (And.intro HO5.out.1 HO5.out.2)
                      generalize ((w7.alloc (.cells #[.int .i64 0, .int .i64 0, .string ⟨#[]⟩] 59)).setRow w7.heap.size [.int .i64 vk, .int .i64 vn, .string ⟨vs2.toArray⟩].toArray) = w8 at *
                      with_reducible rcases HCS.out with ⟨hN7, ⟨h1, h2⟩ | ⟨h1, rfl⟩⟩
                      · rw [List.drop_drop] at h1
                        rw [List.length_drop, hln] at hN7
                        have HRX := Box.mk (decTo_val HB.out.1 HNO.out (by rw [HY.out]; exact h1))
                        have ts : ((N7 : Int) == 0) = false := by simp; omega
                        clear h1
                        have x0 := (H8.out.2.blk 2 rfl).1.cellOf (i := 0) rfl
                        have x1 := (H8.out.2.blk 2 rfl).1.cellOf (i := 1) rfl
                        have x2 := (H8.out.2.blk 2 rfl).1.cellOf (i := 2) rfl
                        go_upto_region 20 with fail
                        have HOA := Box.mk (And.intro (H8.out.2.new [.int .i64 vk, .int .i64 vn, .string ⟨vs2.toArray⟩] 59) (H8.out.1.alloc H8.out.1.size (.cells #[.int .i64 vk, .int .i64 vn, .string ⟨vs2.toArray⟩] 59)))
                        have SRC := Box.mk (Src.ofRd (P := Try.prog) (rd_newAt (w := w8) (arr := #[.int .i64 vk, .int .i64 vn, .string ⟨vs2.toArray⟩]) (cs := recC Val.enc [⟨vk, vn, vs2⟩]) (e := 59) (n := 1) (g := w8.heap.size) (size := 3) rfl rfl rfl (by simp [maxLen])) (recC_one Val.enc_one _))
                        go_wp2_with (first | (with_reducible show wpList _ _ _ _ _ _; refine wpList_lit_one rfl 28 (.tmp 96) rfl sl_row (cs := [.int .i64 vk, .int .i64 vn, .string ⟨vs2.toArray⟩]) rfl rfl (by omega) (by omega) ?_) | (at_builtin; refine wpList_append_src rfl _ _ 28 28 rfl sl_row (.inl sl_row.ht) rfl (HOA.out.1.row 1 rfl) rfl SRC.out (by omega) (by unfold maxLen; omega) (by simp) ?_; intro a3 c3 w3 hown3 hgr3 hnew3; have HG := Box.mk (HOA.out.1.grown 1 rfl hown3 hgr3 hnew3); clear hown3 hgr3 hnew3))
                        refine ⟨⟨j + 1, hlt, by go_num, vs ++ [⟨vk, vn, vs2⟩], a3, c3, k + N7, rfl, by go_num, by omega, by omega, ⟨HRX.out, ?_, HOA.out.2.trans HG.out.2⟩⟩, by simp [intOf]; omega⟩
                        rw [recC_append]; exact (HG.out.1.drop 3).drop 2
                      · have HN := Box.mk (HDIE.out (decTo_noval HB.out.1 HNO.out (by rw [HY.out]; exact h1)))
                        clear h1
                        go_wp2_with fail
                        refine bodyPost_ret (results_tmp3 rfl _ _ _) rfl ?_
                        exact RetDec.nil HN.out H8.out.1
                    · refine oper_alloc (by rfl) 59 rfl (z := .agg #[.int .i64 0, .int .i64 0, .string ⟨#[]⟩]) (zc := #[.int .i64 0, .int .i64 0, .string ⟨#[]⟩]) (by kernel_rfl) rfl ?_
                      have HO7 := Box.mk (And.intro (HS1.out.1.alloc HS1.out.1.size (.cells #[.int .i64 0, .int .i64 0, .string ⟨#[]⟩] 59)) (HS1.out.2.new [.int .i64 0, .int .i64 0, .string ⟨#[]⟩] 59))
                      have HT8 := And.intro HO7.out.1 (HO7.out.2.blk 0 rfl).1
                      refine hK'.out _ _ HT8 (fun _ => ?_)
                      clear hK' K'
                      conv =>
                        arg 8
                        simp [go_sem]
                      conv =>
                        arg 8
                        simp [go_sem]
                      refine wpAnyH_ready (rs := [9]) (by kernel_rfl) (by simp) ?_
                      refine AllReadyH.cons rfl (fun K' hK' => ?_) AllReadyH.nil
                      refine oper_call (by rfl) 43 [.tmp 86, .tmp 89] #[3, 29] rfl (vs := [.int .i64 yk, .slice a' (ln - k) (lc - k)]) rfl Try.func43 nm_one bd_one (one_is (O := rdV yk (((H : Int) :: t).drop k)) rfl (HSUB.out.below HO7.out.1 (Nat.le_refl _)) (by omega)) ?_
                      rintro e w7 ⟨hb7, ⟨vk, vn, vs2⟩, N7, rfl, hN7, hcase⟩
                      have HCS := Box.mk (And.intro hN7 hcase)
                      have HO9 := Box.mk (And.intro (HO7.out.1.trans (hb7.mono HO7.out.1.size)) (HO7.out.2.below hb7))
                      clear hb7 hN7 hcase
                      have HT10 := And.intro HO9.out.1 (HO9.out.2.blk 0 rfl).1
                      refine ⟨_, rfl, hK'.out _ _ HT10 (fun _ => ?_)⟩
                      clear hK' K'
                      conv =>
                        arg 8
                        simp [go_sem]
                      refine wpAnyH_take (i := 10) (v := ?_) rfl (by kernel_rfl) (by kernel_rfl) (by kernel_rfl) (fun _ _ _ h => h) (yieldsIf_val (by rfl) (fun w' hS => ?_)) (HT10) ?_
                      rotate_left
                      · skip
                        go_simp
                        all_goals with_reducible rfl
                      conv =>
                        arg 8
                        simp [go_sem]
                      refine wpAnyH_take (i := 11) (v := ?_) rfl (by kernel_rfl) (by kernel_rfl) (by kernel_rfl) (fun _ _ _ h => h) (yieldsIf_val (by rfl) (fun w' hS => ?_)) (HT10) ?_
                      rotate_left
                      · skip
                        go_simp
                        all_goals with_reducible rfl
                      conv =>
                        arg 8
                        simp [go_sem]
                      refine wpAnyH_take (i := 12) (v := ?_) rfl (by kernel_rfl) (by kernel_rfl) (by kernel_rfl) (fun _ _ _ h => h) (yieldsIf_val (by rfl) (fun w' hS => ?_)) (HT10) ?_
                      rotate_left
                      · skip
                        go_simp
                        all_goals with_reducible rfl
                      conv =>
                        arg 8
                        simp [go_sem]
                      conv =>
                        arg 8
                        simp [go_sem]
                      refine wpAnyH_ready (rs := [14]) (by kernel_rfl) (by simp) ?_
                      refine AllReadyH.cons rfl (fun K' hK' => ?_) AllReadyH.nil
                      refine oper_store_row (by rfl) 59 (.tmp 13) (.tmp 91) rfl rfl (by kernel_rfl) (HO9.out.2.blk 2 rfl).1 rfl rfl (cs := [.int .i64 vk, .int .i64 vn, .string ⟨vs2.toArray⟩]) rfl rfl (val_one _ _ _) ?_
                      have HX8 := HO9.out.2.setRow 2 rfl [.int .i64 vk, .int .i64 vn, .string ⟨vs2.toArray⟩]
                      have HO11 := Box.mk (And.intro (HO9.out.1.trans HX8.2) HX8.1)
                      clear HX8
                      have HT12 := And.intro HO11.out.1 (HO11.out.2.blk 0 rfl).1
                      refine hK'.out _ _ HT12 (fun _ => ?_)
                      clear hK' K'
                      conv =>
                        arg 8
                        simp [go_sem]
                      refine wpAnyH_take (i := 15) (v := ?_) rfl (by kernel_rfl) (by kernel_rfl) (by kernel_rfl) (fun _ _ _ h => h) (yieldsIf_val (by rfl) (fun w' hS => ?_)) (HT12) ?_
                      rotate_left
                      · skip
                        go_simp
                        all_goals with_reducible rfl
                      conv =>
                        arg 8
                        simp [go_sem]
                      refine ⟨by kernel_rfl, ?_⟩
                      conv =>
                        arg 5
                        simp [go_sem]
                      have H8 := Box.mk (And.intro HO11.out.1 HO11.out.2)
                      generalize (w7.setRow wd.heap.size [.int .i64 vk, .int .i64 vn, .string ⟨vs2.toArray⟩].toArray) = w8 at *
                      with_reducible rcases HCS.out with ⟨hN7, ⟨h1, h2⟩ | ⟨h1, rfl⟩⟩
                      · rw [List.drop_drop] at h1
                        rw [List.length_drop, hln] at hN7
                        have HRX := Box.mk (decTo_val HB.out.1 HNO.out (by rw [HY.out]; exact h1))
                        have ts : ((N7 : Int) == 0) = false := by simp; omega
                        clear h1
                        have x0 := (H8.out.2.blk 2 rfl).1.cellOf (i := 0) rfl
                        have x1 := (H8.out.2.blk 2 rfl).1.cellOf (i := 1) rfl
                        have x2 := (H8.out.2.blk 2 rfl).1.cellOf (i := 2) rfl
                        go_upto_region 20 with fail
                        have HOA := Box.mk (And.intro (H8.out.2.new [.int .i64 vk, .int .i64 vn, .string ⟨vs2.toArray⟩] 59) (H8.out.1.alloc H8.out.1.size (.cells #[.int .i64 vk, .int .i64 vn, .string ⟨vs2.toArray⟩] 59)))
                        have SRC := Box.mk (Src.ofRd (P := Try.prog) (rd_newAt (w := w8) (arr := #[.int .i64 vk, .int .i64 vn, .string ⟨vs2.toArray⟩]) (cs := recC Val.enc [⟨vk, vn, vs2⟩]) (e := 59) (n := 1) (g := w8.heap.size) (size := 3) rfl rfl rfl (by simp [maxLen])) (recC_one Val.enc_one _))
                        go_wp2_with (first | (with_reducible show wpList _ _ _ _ _ _; refine wpList_lit_one rfl 28 (.tmp 96) rfl sl_row (cs := [.int .i64 vk, .int .i64 vn, .string ⟨vs2.toArray⟩]) rfl rfl (by omega) (by omega) ?_) | (at_builtin; refine wpList_append_src rfl _ _ 28 28 rfl sl_row (.inl sl_row.ht) rfl (HOA.out.1.row 1 rfl) rfl SRC.out (by omega) (by unfold maxLen; omega) (by simp) ?_; intro a3 c3 w3 hown3 hgr3 hnew3; have HG := Box.mk (HOA.out.1.grown 1 rfl hown3 hgr3 hnew3); clear hown3 hgr3 hnew3))
                        refine ⟨⟨j + 1, hlt, by go_num, vs ++ [⟨vk, vn, vs2⟩], a3, c3, k + N7, rfl, by go_num, by omega, by omega, ⟨HRX.out, ?_, HOA.out.2.trans HG.out.2⟩⟩, by simp [intOf]; omega⟩
                        rw [recC_append]; exact (HG.out.1.drop 3).drop 2
                      · have HN := Box.mk (HDIE.out (decTo_noval HB.out.1 HNO.out (by rw [HY.out]; exact h1)))
                        clear h1
                        go_wp2_with fail
                        refine bodyPost_ret (results_tmp3 rfl _ _ _) rfl ?_
                        exact RetDec.nil HN.out H8.out.1
                    done
              · obtain rfl : j = X.cols.length := by omega
                have hX := HGO.out
                rw [HB.out.1] at hX
                have HF := Box.mk (show decV O = vs ∧ decN O = k ∧ decE O = 0 ∧ vs.length = X.cols.length from by
                  rw [← hX]
                  refine ⟨rfl, ?_, rfl, decTo_len HB.out.1⟩
                  show ((H : Int) :: t).length - (((H : Int) :: t).drop k).length = k
                  rw [List.length_drop]; omega)
                clear hX HGO
                go_wp2_with fail
                refine bodyPost_ret (results_tmp3 rfl _ _ _) rfl ?_
                refine ⟨HB.out.2.2, a, c, by rw [HF.out.1, HF.out.2.1, HF.out.2.2.1, HF.out.2.2.2]; rfl, ?_⟩
                rw [HF.out.1, HF.out.2.2.2]; exact HB.out.2.1.rowB 1 rfl
end Go.Proofs.Ytpgdfhncigmmbaa
