/-
  The walk of row.Decode. No condition.
-/
import Derived.Test.YtpgdfhncigmmbaaDSt
namespace Go.Proofs.Ytpgdfhncigmmbaa
open Go.RowKit

/-- A call of a Go function that may panic, as one operation. -/
theorem oper_callP {P : Program} {w : World} {ops : Array Oper} {o : Oper} {a : Act} {K : Act → World → Prop} {Q : Exit → Act → World → Prop} (hgd : Region.wanted o (yielded ops a.tmps) = true) (f : FuncId) (xs : List Operand) (ts : Array TypeId)
    (ho : o.op = .call { callee := .value (.func f), args := xs.toArray, argTypes := ts }) {vs : List Value} (hvs : xs.map a.eval = vs) {fn : Func} (hfn : P.funcs[f]? = some fn) (hn : (fn.name == "runtime.NumGoroutine") = false) (hbd : fn.body.isNone = false) {R : Ending → World → Prop} (hc : Calls P f vs.toArray w R)
    (h : ∀ e w', R e w' → (∃ v, e = .returned v ∧ K (a.put o.dst v) w') ∨ ∃ c, e = .panicked c ∧ Q (.panic c) a w') : if Region.wanted o (yielded ops a.tmps) = true then Oper.wp P o a w K Q else K (a.put o.dst undef) w := by
  rw [if_pos hgd]
  have hr : (execOp a.eval o).run P w = .ok (.enter f vs.toArray) w := by
    unfold execOp
    simp [ho, resolve, invoke, hvs, Act.eval, Deferred.ofValue, callFunc, hfn]
    rw [if_neg (by simpa using hn), if_neg (by intro h; rw [h] at hbd; cases hbd)]
  unfold Oper.wp
  rw [hr, Oper.upon_enter]
  exact hc.mono fun e w' he => by
    rcases h e w' he with ⟨v, rfl, hk⟩ | ⟨c, rfl, hk⟩
    · exact hk
    · exact hk
theorem decTo_null {cols : List Col} {n nulls j : Nat} {l lk : List Int} {vs : List Val} (h : decTo cols n nulls l j = some (vs, lk)) (h1 : n ≤ j ∨ nulls / 2 ^ j % 2 = 1) (h2 : (cols.getD j default).null = true) : decTo cols n nulls l (j + 1) = some (vs ++ [zval], lk) := by
  unfold decTo; rw [h]; simp only [Option.bind_some]; rw [if_pos h1, if_pos h2]
theorem decTo_nonull {cols : List Col} {n nulls j : Nat} {l lk : List Int} {vs : List Val} (h : decTo cols n nulls l j = some (vs, lk)) (h1 : n ≤ j ∨ nulls / 2 ^ j % 2 = 1) (h2 : (cols.getD j default).null = false) : decTo cols n nulls l (j + 1) = none := by
  unfold decTo; rw [h]; simp only [Option.bind_some]; rw [if_pos h1, h2]; rfl
theorem decTo_val {cols : List Col} {n nulls j : Nat} {l lk l' : List Int} {vs : List Val} {v : Val} (h : decTo cols n nulls l j = some (vs, lk)) (h1 : ¬ (n ≤ j ∨ nulls / 2 ^ j % 2 = 1)) (h2 : rdV (cols.getD j default).kind lk = some (v, l')) : decTo cols n nulls l (j + 1) = some (vs ++ [v], l') := by
  unfold decTo; rw [h]; simp only [Option.bind_some]; rw [if_neg h1, h2]; rfl
theorem decTo_noval {cols : List Col} {n nulls j : Nat} {l lk : List Int} {vs : List Val} (h : decTo cols n nulls l j = some (vs, lk)) (h1 : ¬ (n ≤ j ∨ nulls / 2 ^ j % 2 = 1)) (h2 : rdV (cols.getD j default).kind lk = none) : decTo cols n nulls l (j + 1) = none := by
  unfold decTo; rw [h]; simp only [Option.bind_some]; rw [if_neg h1, h2]; rfl
/-- Decode's cells where the row has grown and its cell is not yet written. -/
structure DPu (w wr : World) (X : TabP) (la : Option Addr) (ln lc : Nat) (k : Nat) (a0 : Option Addr) (m0 c0 : Nat) (a : Option Addr) (m c : Nat) (vs : List Val) : Prop where
  o : Own w.heap.size wr [BlkP w.heap.size 26 X.cs, BlkP (w.heap.size + 1) 28 [.slice a0 m0 c0], BlkP (w.heap.size + 2) 3 [.int .i64 0], BlkP (w.heap.size + 3) 33 [.int .i64 0],
    BlkP (w.heap.size + 4) 68 [.slice la ln lc, .int .i64 k], RowP 59 3 a m c (recC Val.enc vs)]
  b : Below w.heap.size w wr
  le : k ≤ ln
variable {w wr : World} {X : TabP} {la : Option Addr} {ln lc : Nat} {l : List Int} {k : Nat} {a : Option Addr} {m c : Nat} {vs : List Val}
theorem DSt.push (h : DSt w wr X la ln lc l k a m c vs) {w3 : World} {a3 : Option Addr} {c3 m3 : Nat} {us : List Value} (hown : w3.ownsRow 0 59 3 (.slice a3 m3 c3) m3 (recC Val.enc vs ++ us)) (hgr : wr.grownBy w3 (Value.slice a m c).ownBlock) (hnew : ∀ ad, a3 = some ad → (a = some ad ∨ wr.heap.size ≤ ad.block)) (v : Val) (hu : us = recC Val.enc [v]) :
    DPu w w3 X la ln lc k a m c a3 m3 c3 (vs ++ [v]) := by
  subst hu
  rw [← recC_append] at hown
  obtain ⟨h1, h2⟩ := h.o.grown 5 rfl hown hgr hnew
  exact ⟨h1, h.b.trans h2, h.le⟩
theorem DPu.cell {a0 : Option Addr} {m0 c0 : Nat} (h : DPu w wr X la ln lc k a0 m0 c0 a m c vs) : DSt w (wr.setCell ⟨w.heap.size + 1, 0, none⟩ (.slice a m c)) X la ln lc l k a m c vs := by
  obtain ⟨h1, h2⟩ := h.o.setCell 1 rfl 0 (.slice a m c)
  exact ⟨h1, h.b.trans h2, h.le⟩
theorem DPu.row {a0 : Option Addr} {m0 c0 : Nat} (h : DPu w wr X la ln lc k a0 m0 c0 a m c vs) (ds : List Value) (hd : ds = [.slice a m c]) : DSt w (wr.setRow (w.heap.size + 1) ds.toArray) X la ln lc l k a m c vs := by
  subst hd
  obtain ⟨h1, h2⟩ := h.o.setRow 1 rfl [.slice a m c]
  exact ⟨h1, h.b.trans h2, h.le⟩
theorem nm_val : (Try.f41.name == "runtime.NumGoroutine") = false := by kernel_rfl
theorem bd_val : Try.f41.body.isNone = false := by kernel_rfl
theorem decT_bad {T : Tab} {l lh : List Int} {H : Nat} (h : rdW lim40 l = some ((H : Int), lh)) (hb : H / 256 < 1 ∨ T.cols.length < H / 256 ∨ H % 256 / 2 ^ (H / 256) ≠ 0) : decT T l = none := by
  unfold decT; rw [h]; simp only [Option.bind_some]
  rw [show ((H : Int) / 256).toNat = H / 256 from by omega, show ((H : Int) % 256).toNat = H % 256 from by omega, if_pos hb]
theorem decT_go {T : Tab} {l lh : List Int} {H : Nat} (h : rdW lim40 l = some ((H : Int), lh)) (hb : ¬ (H / 256 < 1 ∨ T.cols.length < H / 256 ∨ H % 256 / 2 ^ (H / 256) ≠ 0)) : decT T l = (decTo T.cols (H / 256) (H % 256) lh T.cols.length).map fun p => (p.1, l.length - p.2.length) := by
  unfold decT; rw [h]; simp only [Option.bind_some]
  rw [show ((H : Int) / 256).toNat = H / 256 from by omega, show ((H : Int) % 256).toNat = H % 256 from by omega, if_neg hb]

set_option maxRecDepth 100000 in
set_option maxHeartbeats 8000000 in
theorem decode_any (X : TabP) (l : List Int) (la : Option Addr) (ln lc : Nat) (w : World) (hX : TabRd w X) (hr : Rd w la ln lc 1 (intVals l)) (hn : ln ≤ 1000) (hc8 : X.cols.length ≤ 8) : Calls Try.prog 14 #[X.v, .slice la ln lc] w (RetDec (decT X.t l) w) := by
  generalize hO : decT X.t l = O
  have HO := Box.mk hO
  have H0 := Box.mk (DSt.start (w := w) X la ln lc l)
  have HL := Box.mk hr
  have HX := Box.mk hX
  have hln := hr.ilen
  have hcm := hX.cols.lenMax
  clear hO hr hX
  unfold TabP.cs at H0
  unfold TabP.v
  have hmf : ∀ (fn : Fn) (first cap : Array Value) (w : World), (Instr.makeFunc fn first cap).run Try.prog w = .ok (.func fn first cap) w := fun _ _ _ _ => rfl
  go_enter_defers Try.func14, Try.ntmps14
  go_wp2_with fail
  generalize (((((w.alloc (.cells #[.string ⟨X.name.toArray⟩, .slice X.ca X.cols.length X.cc, .slice X.ia X.ixs.length X.ic, .slice X.ha X.chks.length X.hc] 26)).alloc (.cells #[.slice none 0 0] 28)).alloc (.cells #[.int .i64 0] 3)).alloc (.cells #[.int .i64 0] 33)).alloc (.cells #[.slice la ln lc, .int .i64 0] 68)) = w1 at *
  cases hw : rdW lim40 l with
  | none =>
    refine (word_no (H0.out.rdr HL.out) hw).mono ?_
    rintro e w2 ⟨rfl, hb2⟩
    obtain rfl : O = none := by rw [← HO.out]; unfold decT; rw [hw]; rfl
    go_wp2_with fail
    exact (H0.out.ddc hb2).dies _ rfl rfl rfl
  | some q =>
    obtain ⟨h, lh⟩ := q
    refine (word_ok (H0.out.rdr HL.out) (by omega) hw).mono ?_
    rintro e w2 ⟨rfl, hr2, hb2⟩
    have H2 := Box.mk (H0.out.call hr2 hb2)
    obtain ⟨hlh, hm0, hm1⟩ := rdW_some hw
    have hl1 : lh = l.drop 1 := by rw [hlh]; rfl
    obtain ⟨H, rfl⟩ := Int.eq_ofNat_of_zero_le hm0
    have HW := Box.mk hw
    unfold lim40 at hm1
    clear hr2 hb2 hw hm0 hlh H0
    subst hl1
    obtain ⟨N, hN⟩ : ∃ N, H / 256 = N := ⟨_, rfl⟩
    obtain ⟨U, hU⟩ : ∃ U, H % 256 = U := ⟨_, rfl⟩
    have q1 : (H : Int) / 256 = (N : Int) := by omega
    have q2 : (H : Int) % 256 = (U : Int) := by omega
    have q3 : (H : Int).tmod 256 = (U : Int) := by rw [Int.tmod_eq_emod_of_nonneg (by omega)]; exact q2
    have hU256 : U < 256 := by omega
    have hNb : N < 4294967296 := by omega
    have HNU := Box.mk (And.intro hN hU)
    clear hN hU
    have u1 := (H2.out.o.blk 0 rfl).1.cellOf (i := 1) rfl
    by_cases hA : N < 1
    · obtain rfl : O = none := by rw [← HO.out]; exact decT_bad HW.out (.inl (by rw [HNU.out.1]; exact hA))
      obtain rfl : N = 0 := by omega
      go_wp2_with fail
      exact H2.out.dd.dies _ rfl rfl rfl
    · have hA1 : 1 ≤ N := by omega
      have hA2 : (1 : Int) ≤ (N : Int) := by omega
      by_cases hB : X.cols.length < N
      · obtain rfl : O = none := by rw [← HO.out]; exact decT_bad HW.out (.inr (.inl (by rw [HNU.out.1]; exact hB)))
        clear hA
        go_wp2_with fail
        exact H2.out.dd.dies _ rfl rfl rfl
      · have hB1 : N ≤ X.cols.length := by omega
        obtain ⟨D, hD⟩ : ∃ D, U / 2 ^ N = D := ⟨_, rfl⟩
        have qD : (U : Int) / 2 ^ N = (D : Int) := by rw [← hD]; push_cast; rfl
        have HD := Box.mk hD
        clear hD
        by_cases hC : D = 0
        · rw [hC] at HD
          have tA : decide ((N : Int) < 1) = false := decide_eq_false (by omega)
          have tB : decide (X.cols.length < N) = false := decide_eq_false (by omega)
          have HGO := Box.mk (show (decTo X.cols N U (l.drop 1) X.cols.length).map (fun p => (p.1, l.length - p.2.length)) = O from by
            rw [← HO.out, decT_go HW.out (by rw [HNU.out.1, HNU.out.2, HD.out]; simp; exact ⟨by omega, hB1⟩), HNU.out.1, HNU.out.2]; rfl)
          have tD : ((D : Int) != 0) = false := by rw [hC]; rfl
          clear hA hB hC hA1 hA2
          go_wp2_with fail
          clear tA tB tD qD q1 q2 q3 hm1 hNb
          go_loopw [43] (fun i wr => ∃ j : Nat, j ≤ X.cols.length ∧ i = .int .i64 j ∧ ∃ (vs : List Val) (a : Option Addr) (c k : Nat), Box (decTo X.cols N U (l.drop 1) j = some (vs, l.drop k) ∧ DSt w wr X la ln lc l k a j c vs)) (fun i _ => X.cols.length - (intOf i).toNat)
          case atStart => exact ⟨0, Nat.zero_le _, rfl, [], none, 0, 1, ⟨And.intro rfl H2.out⟩⟩
          case round =>
            clear H2 u1
            obtain ⟨j, hj, rfl, vs, a, c, k, HB⟩ := hrel
            by_cases hlt : j < X.cols.length
            · obtain ⟨b, off, hca, hgb, hc⟩ := (HX.out.cols.below HB.out.2.b (Nat.le_refl _)).recAt Col.enc_len (by omega) j hlt
              have HDIE := Box.mk (show decTo X.cols N U (l.drop 1) (j + 1) = none → O = none from fun hI => by
                rw [← HGO.out, decTo_lt hI hlt]; rfl)
              have u1 := (HB.out.2.o.blk 0 rfl).1.cellOf (i := 1) rfl
              generalize hy : X.cols.getD j default = y at *
              have HY := Box.mk hy
              obtain ⟨yn, yk, yu⟩ := y
              have c0 := hc 0 _ rfl
              have c1 := hc 1 _ rfl
              have c2 := hc 2 _ rfl
              simp only [Nat.add_zero] at c0 c1 c2
              have hgc : w.heap.size + 5 ≤ wr.heap.size := (HB.out.2.o.blk 4 rfl).1.lt
              have HNE := Box.mk (show ∀ k, (Value.slice a j c).ownBlock = some k → k ≠ wr.heap.size from fun k hk => by have := ((HB.out.2.o.row 5 rfl).lt k hk).2; omega)
              have HS1 := Box.mk (And.intro (HB.out.2.step ((Below.refl _ _).alloc (Nat.le_refl _) (.cells #[.string ⟨yn.toArray⟩, .int .i64 yk, .bool yu] 55))) (Blk.new (w := wr) (k := wr.heap.size) (ty := 55) (cs := [.string ⟨yn.toArray⟩, .int .i64 yk, .bool yu]) rfl rfl))
              rw [hca] at *
              clear hy hc hgb
              go_upto_region 10 with fail
              generalize (wr.alloc (.cells #[.string ⟨yn.toArray⟩, .int .i64 yk, .bool yu] 55)) = wa at *
              generalize wr.heap.size = gc at *
              clear c0 c1 c2 u1
              have c2 := HS1.out.2.cellOf (i := 2) rfl
              have d0 := (HS1.out.1.o.blk 1 rfl).1.cellOf (i := 0) rfl
              have hvl : vs.length = j := decTo_len HB.out.1
              obtain ⟨E, hE⟩ : ∃ E, U / 2 ^ j % 2 = E := ⟨_, rfl⟩
              have qE : bits .and .i64 ((U : Int) / 2 ^ j) 1 = (E : Int) := by rw [i64_and1, ← hE]; push_cast; rfl
              have hE2 : E < 2 := by omega
              have HE := Box.mk hE
              clear hE
              by_cases hjn : N ≤ j
              · have tN : decide (N ≤ j) = true := decide_eq_true hjn
                have HNUL := Box.mk (show N ≤ j ∨ U / 2 ^ j % 2 = 1 from .inl hjn)
                clear hjn qE
                cases yu with
                | false =>
                  obtain rfl := HDIE.out (decTo_nonull HB.out.1 HNUL.out (by rw [HY.out]))
                  go_wp2_with fail
                  exact HS1.out.1.dd.dies _ rfl rfl rfl
                | true =>
                  have HOA := Box.mk (HS1.out.1.step ((Below.refl _ _).alloc (Nat.le_refl _) (.cells #[.int .i64 0, .int .i64 0, .string ⟨#[]⟩] 59)))
                  have SRC := Box.mk (Src.ofRd (P := Try.prog) (rd_newAt (w := wa) (arr := #[.int .i64 0, .int .i64 0, .string ⟨#[]⟩]) (cs := recC Val.enc [zval]) (e := 59) (n := 1) (g := wa.heap.size) (size := 3) rfl rfl rfl (by simp [maxLen])) (recC_one Val.enc_one _))
                  go_wp2_with (first | (with_reducible show wpList _ _ _ _ _ _; refine wpList_lit_one rfl 28 (.tmp 67) rfl sl_row (cs := [.int .i64 0, .int .i64 0, .string ⟨#[]⟩]) rfl rfl (by omega) (by omega) ?_) | (at_builtin; refine wpList_append_src rfl _ _ 28 28 rfl sl_row (.inl sl_row.ht) rfl (HOA.out.o.row 5 rfl) rfl SRC.out (by omega) (by unfold maxLen; omega) (by simp) ?_; intro a3 c3 w3 hown3 hgr3 hnew3; have HP := Box.mk (HOA.out.push hown3 hgr3 hnew3 zval rfl); have x1 := (HP.out.o.blk 1 rfl).1.cellOf (i := 0) rfl; have f1 := (HP.out.o.blk 1 rfl).1.free 0; clear hown3 hgr3 hnew3))
                  exact ⟨⟨j + 1, hlt, by go_num, vs ++ [zval], a3, c3, k, ⟨And.intro (decTo_null HB.out.1 HNUL.out (by rw [HY.out])) HP.out.cell⟩⟩, by simp [intOf]; omega⟩
              · have tN : decide (N ≤ j) = false := decide_eq_false hjn
                by_cases hE1 : E = 1
                · have tE : ((E : Int) == 1) = true := by rw [hE1]; rfl
                  have HNUL := Box.mk (show N ≤ j ∨ U / 2 ^ j % 2 = 1 from .inr (by rw [HE.out]; exact hE1))
                  clear hjn hE1
                  cases yu with
                  | false =>
                    obtain rfl := HDIE.out (decTo_nonull HB.out.1 HNUL.out (by rw [HY.out]))
                    go_wp2_with fail
                    exact HS1.out.1.dd.dies _ rfl rfl rfl
                  | true =>
                    have HOA := Box.mk (HS1.out.1.step ((Below.refl _ _).alloc (Nat.le_refl _) (.cells #[.int .i64 0, .int .i64 0, .string ⟨#[]⟩] 59)))
                    have SRC := Box.mk (Src.ofRd (P := Try.prog) (rd_newAt (w := wa) (arr := #[.int .i64 0, .int .i64 0, .string ⟨#[]⟩]) (cs := recC Val.enc [zval]) (e := 59) (n := 1) (g := wa.heap.size) (size := 3) rfl rfl rfl (by simp [maxLen])) (recC_one Val.enc_one _))
                    go_wp2_with (first | (with_reducible show wpList _ _ _ _ _ _; refine wpList_lit_one rfl 28 (.tmp 67) rfl sl_row (cs := [.int .i64 0, .int .i64 0, .string ⟨#[]⟩]) rfl rfl (by omega) (by omega) ?_) | (at_builtin; refine wpList_append_src rfl _ _ 28 28 rfl sl_row (.inl sl_row.ht) rfl (HOA.out.o.row 5 rfl) rfl SRC.out (by omega) (by unfold maxLen; omega) (by simp) ?_; intro a3 c3 w3 hown3 hgr3 hnew3; have HP := Box.mk (HOA.out.push hown3 hgr3 hnew3 zval rfl); have x1 := (HP.out.o.blk 1 rfl).1.cellOf (i := 0) rfl; have f1 := (HP.out.o.blk 1 rfl).1.free 0; clear hown3 hgr3 hnew3))
                    exact ⟨⟨j + 1, hlt, by go_num, vs ++ [zval], a3, c3, k, ⟨And.intro (decTo_null HB.out.1 HNUL.out (by rw [HY.out])) HP.out.cell⟩⟩, by simp [intOf]; omega⟩
                · have tE : ((E : Int) == 1) = false := by
                    have : E = 0 := by omega
                    rw [this]; rfl
                  have HNO := Box.mk (show ¬ (N ≤ j ∨ U / 2 ^ j % 2 = 1) from fun h => by
                    rcases h with h | h
                    · exact hjn h
                    · rw [HE.out] at h; exact hE1 h)
                  clear hjn hE1 d0
                  go_upto_region 15 with fail
                  clear tN tE qE c2
                  refine wp_region_held_drew (S := fun w' => Blk w' gc 55 [.string ⟨yn.toArray⟩, .int .i64 yk, .bool yu]) (by kernel_rfl) HS1.out.2.drew (fun _ => ?_)
                  have HC := Box.mk HS1.out.1.drew
                  refine wpAnyH_take (i := 1) (v := ?_) rfl (by kernel_rfl) (by kernel_rfl) (by kernel_rfl) (fun c a w h => dec_put (by decide) (by decide) (by decide) h) (yieldsIf_val (by rfl) (fun w' hS => ?_)) (HS1.out.2.drew) ?_
                  rotate_left
                  · skip
                    go_simp
                    all_goals with_reducible rfl
                  conv =>
                    arg 8
                    simp [go_sem]
                  refine wpAnyH_take (i := 2) (v := ?_) rfl (by kernel_rfl) (by kernel_rfl) (by kernel_rfl) (fun c a w h => dec_put (by decide) (by decide) (by decide) h) (yieldsIf_val (by rfl) (fun w' hS => ?_)) (HS1.out.2.drew) ?_
                  rotate_left
                  · skip
                    go_simp
                    all_goals with_reducible rfl
                  conv =>
                    arg 8
                    simp [go_sem]
                  refine wpAnyH_take (i := 3) (v := ?_) rfl (by kernel_rfl) (by kernel_rfl) (by kernel_rfl) (fun c a w h => dec_put (by decide) (by decide) (by decide) h) (yieldsIf_val (by rfl) (fun w' hS => ?_)) (HS1.out.2.drew) ?_
                  rotate_left
                  · skip
                    have q := hS.cellOf (i := 1) rfl
                    go_simp
                    all_goals with_reducible rfl
                  conv =>
                    arg 8
                    simp [go_sem]
                  conv =>
                    arg 8
                    simp [go_sem]
                  refine wpAnyH_ready (rs := [0, 4]) (by kernel_rfl) (by simp) ?_
                  refine AllReadyH.cons rfl (fun K' hK' => ?_) (AllReadyH.cons rfl (fun K' hK' => ?_) AllReadyH.nil)
                  · refine oper_load1 (by rfl) 28 (.tmp 4) rfl (by kernel_rfl) rfl ((HC.out.o.blk 1 rfl).1.cellOf (i := 0) rfl) ?_
                    have HT1 := HS1.out.2.drew
                    refine hK'.out _ _ HT1 (fun _ => ?_)
                    clear hK' K'
                    conv =>
                      arg 8
                      simp [go_sem]
                    conv =>
                      arg 8
                      simp [go_sem]
                    refine wpAnyH_ready (rs := [4]) (by kernel_rfl) (by simp) ?_
                    refine AllReadyH.cons rfl (fun K' hK' => ?_) AllReadyH.nil
                    refine oper_callP (by rfl) 41 [.tmp 71, .tmp 73] #[66, 3] rfl (vs := [.pointer (some ⟨w.heap.size + 1 + 1 + 1 + 1, 0, none⟩), .int .i64 yk]) rfl Try.func41 nm_val bd_val (value_rd (HC.out.rdr HL.out) (by omega) hn) ?_
                    rintro e w6 ⟨hb6, ⟨⟨vk, vn, vs2⟩, k2, ho6, rfl, hr6⟩ | ⟨ho6, rfl⟩⟩
                    rotate_left
                    · refine .inr ⟨_, rfl, ?_⟩
                      obtain rfl := HDIE.out (decTo_noval HB.out.1 HNO.out (by rw [HY.out]; exact ho6))
                      exact (HC.out.ddc hb6).dies _ rfl rfl rfl
                    have HD6 := Box.mk (HC.out.call hr6 hb6)
                    have HRX := Box.mk (decTo_val HB.out.1 HNO.out (by rw [HY.out]; exact ho6))
                    have HT2 := Blk.but (HT1) hb6 (by simp; omega)
                    refine .inl ⟨.agg #[.int .i64 vk, .int .i64 vn, .string ⟨vs2.toArray⟩], rfl, hK'.out _ _ HT2 (fun _ => ?_)⟩
                    clear hK' K'
                    conv =>
                      arg 8
                      simp [go_sem]
                    conv =>
                      arg 8
                      simp [go_sem]
                    refine wpAnyH_ready (rs := [5]) (by kernel_rfl) (by simp) ?_
                    refine AllReadyH.cons rfl (fun K' hK' => ?_) AllReadyH.nil
                    refine oper_litA (by rfl) 28 (.tmp 74) rfl sl_row (cs := [.int .i64 vk, .int .i64 vn, .string ⟨vs2.toArray⟩]) rfl rfl (by omega) (by omega) ?_
                    have SRC := Box.mk (Src.ofRd (P := Try.prog) (rd_newAt (w := w6) (arr := #[.int .i64 vk, .int .i64 vn, .string ⟨vs2.toArray⟩]) (cs := recC Val.enc [⟨vk, vn, vs2⟩]) (e := 59) (n := 1) (g := w6.heap.size) (size := 3) rfl rfl rfl (by simp [maxLen])) (recC_one Val.enc_one _))
                    have HD7 := Box.mk (HD6.out.step ((Below.refl _ _).alloc (Nat.le_refl _) (.cells #[.int .i64 vk, .int .i64 vn, .string ⟨vs2.toArray⟩] 59)))
                    have HT3 := Blk.alloc (HT2) (.cells #[.int .i64 vk, .int .i64 vn, .string ⟨vs2.toArray⟩] 59)
                    refine hK'.out _ _ HT3 (fun _ => ?_)
                    clear hK' K'
                    conv =>
                      arg 8
                      simp [go_sem]
                    conv =>
                      arg 8
                      simp [go_sem]
                    refine wpAnyH_ready (rs := [6]) (by kernel_rfl) (by simp) ?_
                    refine AllReadyH.cons rfl (fun K' hK' => ?_) AllReadyH.nil
                    refine oper_append2 (by rfl) (.tmp 70) (.tmp 75) 28 28 rfl sl_row (.inl sl_row.ht) rfl (HD7.out.o.row 5 rfl) rfl SRC.out (by show (j + 1) * _ ≤ _; omega) (by show j + 1 ≤ _; unfold maxLen; omega) (by omega) ?_
                    intro a7 c7 w7 hown7 hgr7 hnew7
                    have HP := Box.mk (HD7.out.push hown7 hgr7 hnew7 ⟨vk, vn, vs2⟩ rfl)
                    have HT4 := Blk.grown (HT3) hgr7 (fun e => HNE.out _ e rfl)
                    refine hK'.out _ _ HT4 (fun _ => ?_)
                    clear hK' K'
                    conv =>
                      arg 8
                      simp [go_sem]
                    conv =>
                      arg 8
                      simp [go_sem]
                    refine wpAnyH_ready (rs := [7]) (by kernel_rfl) (by simp) ?_
                    refine AllReadyH.cons rfl (fun K' hK' => ?_) AllReadyH.nil
                    refine oper_store_part (by rfl) 28 (.tmp 4) (.tmp 76) rfl rfl (size := 1) (off := 0) (by kernel_rfl) (HP.out.o.blk 1 rfl).1 (by simp) rfl (cs := [.slice a7 (j + 1) c7]) rfl rfl (oneS _ _ _) ?_
                    have HT5 := Blk.rowOther (HT4) (show gc ≠ w.heap.size + 1 from by omega) (splice [.slice a j c] 0 [.slice a7 (j + 1) c7]).toArray
                    refine hK'.out _ _ HT5 (fun _ => ?_)
                    clear hK' K'
                    conv =>
                      arg 8
                      simp [go_sem]
                    refine ⟨by kernel_rfl, ?_⟩
                    conv =>
                      arg 5
                      simp [go_sem]
                    have H8 := Box.mk (HP.out.row (l := l) (splice [.slice a j c] 0 [.slice a7 (j + 1) c7]) rfl)
                    generalize (w7.setRow (w.heap.size + 1) (splice [.slice a j c] 0 [.slice a7 (j + 1) c7]).toArray) = w8 at *
                    go_wp2_with fail
                    exact ⟨⟨j + 1, hlt, by go_num, vs ++ [⟨vk, vn, vs2⟩], a7, c7, k2, ⟨And.intro HRX.out H8.out⟩⟩, by simp [intOf]; omega⟩
                  · refine oper_callP (by rfl) 41 [.tmp 71, .tmp 73] #[66, 3] rfl (vs := [.pointer (some ⟨w.heap.size + 1 + 1 + 1 + 1, 0, none⟩), .int .i64 yk]) rfl Try.func41 nm_val bd_val (value_rd (HC.out.rdr HL.out) (by omega) hn) ?_
                    rintro e w6 ⟨hb6, ⟨⟨vk, vn, vs2⟩, k2, ho6, rfl, hr6⟩ | ⟨ho6, rfl⟩⟩
                    rotate_left
                    · refine .inr ⟨_, rfl, ?_⟩
                      obtain rfl := HDIE.out (decTo_noval HB.out.1 HNO.out (by rw [HY.out]; exact ho6))
                      exact (HC.out.ddc hb6).dies _ rfl rfl rfl
                    have HD6 := Box.mk (HC.out.call hr6 hb6)
                    have HRX := Box.mk (decTo_val HB.out.1 HNO.out (by rw [HY.out]; exact ho6))
                    have HT6 := Blk.but (HS1.out.2.drew) hb6 (by simp; omega)
                    refine .inl ⟨.agg #[.int .i64 vk, .int .i64 vn, .string ⟨vs2.toArray⟩], rfl, hK'.out _ _ HT6 (fun _ => ?_)⟩
                    clear hK' K'
                    conv =>
                      arg 8
                      simp [go_sem]
                    conv =>
                      arg 8
                      simp [go_sem]
                    refine wpAnyH_ready (rs := [0, 5]) (by kernel_rfl) (by simp) ?_
                    refine AllReadyH.cons rfl (fun K' hK' => ?_) (AllReadyH.cons rfl (fun K' hK' => ?_) AllReadyH.nil)
                    · refine oper_load1 (by rfl) 28 (.tmp 4) rfl (by kernel_rfl) rfl ((HD6.out.o.blk 1 rfl).1.cellOf (i := 0) rfl) ?_
                      have HT7 := HT6
                      refine hK'.out _ _ HT7 (fun _ => ?_)
                      clear hK' K'
                      conv =>
                        arg 8
                        simp [go_sem]
                      conv =>
                        arg 8
                        simp [go_sem]
                      refine wpAnyH_ready (rs := [5]) (by kernel_rfl) (by simp) ?_
                      refine AllReadyH.cons rfl (fun K' hK' => ?_) AllReadyH.nil
                      refine oper_litA (by rfl) 28 (.tmp 74) rfl sl_row (cs := [.int .i64 vk, .int .i64 vn, .string ⟨vs2.toArray⟩]) rfl rfl (by omega) (by omega) ?_
                      have SRC := Box.mk (Src.ofRd (P := Try.prog) (rd_newAt (w := w6) (arr := #[.int .i64 vk, .int .i64 vn, .string ⟨vs2.toArray⟩]) (cs := recC Val.enc [⟨vk, vn, vs2⟩]) (e := 59) (n := 1) (g := w6.heap.size) (size := 3) rfl rfl rfl (by simp [maxLen])) (recC_one Val.enc_one _))
                      have HD7 := Box.mk (HD6.out.step ((Below.refl _ _).alloc (Nat.le_refl _) (.cells #[.int .i64 vk, .int .i64 vn, .string ⟨vs2.toArray⟩] 59)))
                      have HT8 := Blk.alloc (HT7) (.cells #[.int .i64 vk, .int .i64 vn, .string ⟨vs2.toArray⟩] 59)
                      refine hK'.out _ _ HT8 (fun _ => ?_)
                      clear hK' K'
                      conv =>
                        arg 8
                        simp [go_sem]
                      conv =>
                        arg 8
                        simp [go_sem]
                      refine wpAnyH_ready (rs := [6]) (by kernel_rfl) (by simp) ?_
                      refine AllReadyH.cons rfl (fun K' hK' => ?_) AllReadyH.nil
                      refine oper_append2 (by rfl) (.tmp 70) (.tmp 75) 28 28 rfl sl_row (.inl sl_row.ht) rfl (HD7.out.o.row 5 rfl) rfl SRC.out (by show (j + 1) * _ ≤ _; omega) (by show j + 1 ≤ _; unfold maxLen; omega) (by omega) ?_
                      intro a7 c7 w7 hown7 hgr7 hnew7
                      have HP := Box.mk (HD7.out.push hown7 hgr7 hnew7 ⟨vk, vn, vs2⟩ rfl)
                      have HT9 := Blk.grown (HT8) hgr7 (fun e => HNE.out _ e rfl)
                      refine hK'.out _ _ HT9 (fun _ => ?_)
                      clear hK' K'
                      conv =>
                        arg 8
                        simp [go_sem]
                      conv =>
                        arg 8
                        simp [go_sem]
                      refine wpAnyH_ready (rs := [7]) (by kernel_rfl) (by simp) ?_
                      refine AllReadyH.cons rfl (fun K' hK' => ?_) AllReadyH.nil
                      refine oper_store_part (by rfl) 28 (.tmp 4) (.tmp 76) rfl rfl (size := 1) (off := 0) (by kernel_rfl) (HP.out.o.blk 1 rfl).1 (by simp) rfl (cs := [.slice a7 (j + 1) c7]) rfl rfl (oneS _ _ _) ?_
                      have HT10 := Blk.rowOther (HT9) (show gc ≠ w.heap.size + 1 from by omega) (splice [.slice a j c] 0 [.slice a7 (j + 1) c7]).toArray
                      refine hK'.out _ _ HT10 (fun _ => ?_)
                      clear hK' K'
                      conv =>
                        arg 8
                        simp [go_sem]
                      refine ⟨by kernel_rfl, ?_⟩
                      conv =>
                        arg 5
                        simp [go_sem]
                      have H8 := Box.mk (HP.out.row (l := l) (splice [.slice a j c] 0 [.slice a7 (j + 1) c7]) rfl)
                      generalize (w7.setRow (w.heap.size + 1) (splice [.slice a j c] 0 [.slice a7 (j + 1) c7]).toArray) = w8 at *
                      go_wp2_with fail
                      exact ⟨⟨j + 1, hlt, by go_num, vs ++ [⟨vk, vn, vs2⟩], a7, c7, k2, ⟨And.intro HRX.out H8.out⟩⟩, by simp [intOf]; omega⟩
                    · refine oper_litA (by rfl) 28 (.tmp 74) rfl sl_row (cs := [.int .i64 vk, .int .i64 vn, .string ⟨vs2.toArray⟩]) rfl rfl (by omega) (by omega) ?_
                      have SRC := Box.mk (Src.ofRd (P := Try.prog) (rd_newAt (w := w6) (arr := #[.int .i64 vk, .int .i64 vn, .string ⟨vs2.toArray⟩]) (cs := recC Val.enc [⟨vk, vn, vs2⟩]) (e := 59) (n := 1) (g := w6.heap.size) (size := 3) rfl rfl rfl (by simp [maxLen])) (recC_one Val.enc_one _))
                      have HD7 := Box.mk (HD6.out.step ((Below.refl _ _).alloc (Nat.le_refl _) (.cells #[.int .i64 vk, .int .i64 vn, .string ⟨vs2.toArray⟩] 59)))
                      have HT11 := Blk.alloc (HT6) (.cells #[.int .i64 vk, .int .i64 vn, .string ⟨vs2.toArray⟩] 59)
                      refine hK'.out _ _ HT11 (fun _ => ?_)
                      clear hK' K'
                      conv =>
                        arg 8
                        simp [go_sem]
                      conv =>
                        arg 8
                        simp [go_sem]
                      refine wpAnyH_ready (rs := [0]) (by kernel_rfl) (by simp) ?_
                      refine AllReadyH.cons rfl (fun K' hK' => ?_) AllReadyH.nil
                      refine oper_load1 (by rfl) 28 (.tmp 4) rfl (by kernel_rfl) rfl ((HD7.out.o.blk 1 rfl).1.cellOf (i := 0) rfl) ?_
                      have HT12 := HT11
                      refine hK'.out _ _ HT12 (fun _ => ?_)
                      clear hK' K'
                      conv =>
                        arg 8
                        simp [go_sem]
                      conv =>
                        arg 8
                        simp [go_sem]
                      refine wpAnyH_ready (rs := [6]) (by kernel_rfl) (by simp) ?_
                      refine AllReadyH.cons rfl (fun K' hK' => ?_) AllReadyH.nil
                      refine oper_append2 (by rfl) (.tmp 70) (.tmp 75) 28 28 rfl sl_row (.inl sl_row.ht) rfl (HD7.out.o.row 5 rfl) rfl SRC.out (by show (j + 1) * _ ≤ _; omega) (by show j + 1 ≤ _; unfold maxLen; omega) (by omega) ?_
                      intro a7 c7 w7 hown7 hgr7 hnew7
                      have HP := Box.mk (HD7.out.push hown7 hgr7 hnew7 ⟨vk, vn, vs2⟩ rfl)
                      have HT13 := Blk.grown (HT12) hgr7 (fun e => HNE.out _ e rfl)
                      refine hK'.out _ _ HT13 (fun _ => ?_)
                      clear hK' K'
                      conv =>
                        arg 8
                        simp [go_sem]
                      conv =>
                        arg 8
                        simp [go_sem]
                      refine wpAnyH_ready (rs := [7]) (by kernel_rfl) (by simp) ?_
                      refine AllReadyH.cons rfl (fun K' hK' => ?_) AllReadyH.nil
                      refine oper_store_part (by rfl) 28 (.tmp 4) (.tmp 76) rfl rfl (size := 1) (off := 0) (by kernel_rfl) (HP.out.o.blk 1 rfl).1 (by simp) rfl (cs := [.slice a7 (j + 1) c7]) rfl rfl (oneS _ _ _) ?_
                      have HT14 := Blk.rowOther (HT13) (show gc ≠ w.heap.size + 1 from by omega) (splice [.slice a j c] 0 [.slice a7 (j + 1) c7]).toArray
                      refine hK'.out _ _ HT14 (fun _ => ?_)
                      clear hK' K'
                      conv =>
                        arg 8
                        simp [go_sem]
                      refine ⟨by kernel_rfl, ?_⟩
                      conv =>
                        arg 5
                        simp [go_sem]
                      have H8 := Box.mk (HP.out.row (l := l) (splice [.slice a j c] 0 [.slice a7 (j + 1) c7]) rfl)
                      generalize (w7.setRow (w.heap.size + 1) (splice [.slice a j c] 0 [.slice a7 (j + 1) c7]).toArray) = w8 at *
                      go_wp2_with fail
                      exact ⟨⟨j + 1, hlt, by go_num, vs ++ [⟨vk, vn, vs2⟩], a7, c7, k2, ⟨And.intro HRX.out H8.out⟩⟩, by simp [intOf]; omega⟩
                  done
            · obtain rfl : j = X.cols.length := by omega
              have hX := HGO.out
              rw [HB.out.1] at hX
              have hvl : vs.length = X.cols.length := decTo_len HB.out.1
              have HF := Box.mk (show decV O = vs ∧ decN O = k ∧ decE O = 0 ∧ vs.length = X.cols.length from by
                rw [← hX]
                refine ⟨rfl, ?_, rfl, hvl⟩
                show l.length - (l.drop k).length = k
                have := HB.out.2.le
                rw [List.length_drop]; omega)
              have H9 := Box.mk HB.out.2.drew
              clear hX HGO
              go_upto_region 17 with fail
              refine wp_region_held_drew (S := fun w' => Blk w' (w.heap.size + 1) 28 [.slice a X.cols.length c] ∧ Blk w' (w.heap.size + 4) 68 [.slice la ln lc, .int .i64 k]) (by kernel_rfl) (And.intro (H9.out.o.blk 1 rfl).1 (H9.out.o.blk 4 rfl).1) (fun _ => ?_)
              have HC := Box.mk (And.intro H9.out.o H9.out.b)
              refine wpAnyH_take (i := 0) (v := ?_) rfl (by kernel_rfl) (by kernel_rfl) (by kernel_rfl) (fun c a w h => dec_put (by decide) (by decide) (by decide) h) (yieldsIf_val (by rfl) (fun w' hS => ?_)) (And.intro (H9.out.o.blk 1 rfl).1 (H9.out.o.blk 4 rfl).1) ?_
              rotate_left
              · skip
                have q := hS.1.cellOf (i := 0) rfl
                go_simp
                all_goals with_reducible rfl
              conv =>
                arg 8
                simp [go_sem]
              refine wpAnyH_take (i := 1) (v := ?_) rfl (by kernel_rfl) (by kernel_rfl) (by kernel_rfl) (fun c a w h => dec_put (by decide) (by decide) (by decide) h) (yieldsIf_val (by rfl) (fun w' hS => ?_)) (And.intro (H9.out.o.blk 1 rfl).1 (H9.out.o.blk 4 rfl).1) ?_
              rotate_left
              · skip
                go_simp
                all_goals with_reducible rfl
              conv =>
                arg 8
                simp [go_sem]
              refine wpAnyH_take (i := 2) (v := ?_) rfl (by kernel_rfl) (by kernel_rfl) (by kernel_rfl) (fun c a w h => dec_put (by decide) (by decide) (by decide) h) (yieldsIf_val (by rfl) (fun w' hS => ?_)) (And.intro (H9.out.o.blk 1 rfl).1 (H9.out.o.blk 4 rfl).1) ?_
              rotate_left
              · skip
                go_simp
                all_goals with_reducible rfl
              conv =>
                arg 8
                simp [go_sem]
              refine wpAnyH_take (i := 3) (v := ?_) rfl (by kernel_rfl) (by kernel_rfl) (by kernel_rfl) (fun c a w h => dec_put (by decide) (by decide) (by decide) h) (yieldsIf_val (by rfl) (fun w' hS => ?_)) (And.intro (H9.out.o.blk 1 rfl).1 (H9.out.o.blk 4 rfl).1) ?_
              rotate_left
              · skip
                go_simp
                all_goals with_reducible rfl
              conv =>
                arg 8
                simp [go_sem]
              refine wpAnyH_take (i := 4) (v := ?_) rfl (by kernel_rfl) (by kernel_rfl) (by kernel_rfl) (fun c a w h => dec_put (by decide) (by decide) (by decide) h) (yieldsIf_val (by rfl) (fun w' hS => ?_)) (And.intro (H9.out.o.blk 1 rfl).1 (H9.out.o.blk 4 rfl).1) ?_
              rotate_left
              · skip
                have q := hS.2.cellOf (i := 1) rfl
                go_simp
                all_goals with_reducible rfl
              conv =>
                arg 8
                simp [go_sem]
              conv =>
                arg 8
                simp [go_sem]
              refine wpAnyH_ready (rs := [5]) (by kernel_rfl) (by simp) ?_
              refine AllReadyH.cons rfl (fun K' hK' => ?_) AllReadyH.nil
              refine oper_store_part (by rfl) 28 (.tmp 4) (.tmp 78) rfl rfl (size := 1) (off := 0) (by kernel_rfl) (HC.out.1.blk 1 rfl).1 (by simp) rfl (cs := [.slice a X.cols.length c]) rfl rfl (oneS _ _ _) ?_
              rw [show splice ([.slice a X.cols.length c] : List Value) 0 [.slice a X.cols.length c] = [.slice a X.cols.length c] from rfl]
              have HX := HC.out.1.setRow 1 rfl [.slice a X.cols.length c]
              have HO15 := Box.mk (And.intro HX.1 (HC.out.2.trans HX.2))
              have HT16 := And.intro (HO15.out.1.blk 1 rfl).1 (HO15.out.1.blk 4 rfl).1
              refine hK'.out _ _ HT16 (fun _ => ?_)
              clear hK' K'
              conv =>
                arg 8
                simp [go_sem]
              conv =>
                arg 8
                simp [go_sem]
              refine wpAnyH_ready (rs := [6]) (by kernel_rfl) (by simp) ?_
              refine AllReadyH.cons rfl (fun K' hK' => ?_) AllReadyH.nil
              refine oper_store_part (by rfl) 3 (.tmp 5) (.tmp 82) rfl rfl (size := 1) (off := 0) (by kernel_rfl) (HO15.out.1.blk 2 rfl).1 (by simp) rfl (cs := [.int .i64 k]) rfl rfl (oneI _) ?_
              rw [show splice ([.int .i64 0] : List Value) 0 [.int .i64 k] = [.int .i64 k] from rfl]
              have HX := HO15.out.1.setRow 2 rfl [.int .i64 k]
              have HO17 := Box.mk (And.intro HX.1 (HO15.out.2.trans HX.2))
              have HT18 := And.intro (HO17.out.1.blk 1 rfl).1 (HO17.out.1.blk 4 rfl).1
              refine hK'.out _ _ HT18 (fun _ => ?_)
              clear hK' K'
              conv =>
                arg 8
                simp [go_sem]
              conv =>
                arg 8
                simp [go_sem]
              refine wpAnyH_ready (rs := [7]) (by kernel_rfl) (by simp) ?_
              refine AllReadyH.cons rfl (fun K' hK' => ?_) AllReadyH.nil
              refine oper_store_part (by rfl) 33 (.tmp 6) (.const (.int .i64 0)) rfl rfl (size := 1) (off := 0) (by kernel_rfl) (HO17.out.1.blk 3 rfl).1 (by simp) rfl (cs := [.int .i64 0]) rfl rfl (oneI _) ?_
              rw [show splice ([.int .i64 0] : List Value) 0 [.int .i64 0] = [.int .i64 0] from rfl]
              have HX := HO17.out.1.setRow 3 rfl [.int .i64 0]
              have HO19 := Box.mk (And.intro HX.1 (HO17.out.2.trans HX.2))
              have HT20 := And.intro (HO19.out.1.blk 1 rfl).1 (HO19.out.1.blk 4 rfl).1
              refine hK'.out _ _ HT20 (fun _ => ?_)
              clear hK' K'
              conv =>
                arg 8
                simp [go_sem]
              refine ⟨by kernel_rfl, ?_⟩
              conv =>
                arg 5
                simp [go_sem]
              go_wp2_with fail
              exact dec_done ((HO19.out.1.drop 4).drop 0) HO19.out.2 HF.out _ rfl rfl rfl
              done
        · obtain rfl : O = none := by rw [← HO.out]; exact decT_bad HW.out (.inr (.inr (by rw [HNU.out.1, HNU.out.2, HD.out]; exact hC)))
          have tC : ((D : Int) != 0) = true := by simp; exact hC
          clear hA hB
          go_wp2_with fail
          exact H2.out.dd.dies _ rfl rfl rfl
end Go.Proofs.Ytpgdfhncigmmbaa
