/-
  The walk of GroupIsOneByOne: it returns true and keeps what was there. No condition.
-/
import Derived.Test.YtkloafpoldmpkaaOne
namespace Go.Proofs.Ytkloafpoldmpkaa
open Go.RowKit

set_option maxRecDepth 20000 in
set_option maxHeartbeats 8000000 in
theorem oneByOne_walk (most room delay : Int) (a : Option Addr) (n cap : Nat) (ws : List Int) (w : World) (hrd : Rd w a n cap 1 (intVals ws)) :
    Calls Try.prog 3 #[.int .i64 most, .int .i64 room, .int .i64 delay, .slice a n cap] w (RetBool true w) := by
  have hmax := hrd.lenMax
  have hln := Box.mk hrd.ilen
  have HR := Box.mk hrd; clear hrd
  have HC := Box.mk (begun_own (Own.start w) most room delay)
  have hm0 : 0 ≤ most % 16 ∧ most % 16 ≤ 15 := by omega
  have hr0 : 0 ≤ room % 256 ∧ room % 256 ≤ 255 := by omega
  have hd0 : 0 ≤ delay % 32 ∧ delay % 32 ≤ 31 := by omega
  generalize most % 16 = mm at *
  generalize room % 256 = rr at *
  generalize delay % 32 = dd at *
  obtain ⟨hm1, hm2⟩ := hm0
  obtain ⟨hr1, hr2⟩ := hr0
  obtain ⟨hd1, hd2⟩ := hd0
  by_cases h60 : 60 < n
  · go_enter Try.func3, Try.ntmps3
    go_wp2_with fail
    refine HC.out.mono ?_
    rintro e w1 ⟨g, rfl, O1, B1⟩
    go_wp2_with fail
    refine (new_own O1 1 256 0 1 (by decide)).mono ?_
    rintro e w2 ⟨h, rfl, O2, B2⟩
    replace B2 := B1.trans B2
    go_wp2_with fail
    refine (sanity_own O2).mono ?_
    rintro e w3 ⟨rfl, O3, B3⟩
    replace B3 := B2.trans B3
    go_wp2_with fail
    go_ret
    exact ⟨rfl, B3⟩
  · go_enter Try.func3, Try.ntmps3
    go_wp2_with fail
    refine HC.out.mono ?_
    rintro e w1 ⟨g, rfl, O1, B1⟩
    go_wp2_with fail
    refine (new_own O1 1 256 0 1 (by decide)).mono ?_
    rintro e w2 ⟨h, rfl, O2, B2⟩
    replace B2 := B1.trans B2
    have O3 : Own w.heap.size w2 [GrpP g (QS (1 + mm) (1 + rr) dd (fun j => 1 + (ws.getD j 0 % 256) % (1 + rr)) 0 0), GrpP h (QS 1 256 0 (fun j => 1 + (ws.getD j 0 % 256) % (1 + rr)) 0 0), RowP 65 2 none 0 0 [], RowP 65 2 none 0 0 []] := (O2.nilRow 65 2).nilRow 65 2
    clear O1 O2 B1 HC
    have HW : Box (∀ j, 1 ≤ 1 + (ws.getD j 0 % 256) % (1 + rr) ∧ 1 + (ws.getD j 0 % 256) % (1 + rr) ≤ 1 + rr) := ⟨fun j => by
      have h1 : 0 ≤ (ws.getD j 0 % 256) % (1 + rr) := Int.emod_nonneg _ (by omega)
      have h2 : (ws.getD j 0 % 256) % (1 + rr) < 1 + rr := Int.emod_lt_of_pos _ (by omega)
      omega⟩
    obtain ⟨W, hW⟩ : ∃ W : Nat → Int, W = fun j => 1 + (ws.getD j 0 % 256) % (1 + rr) := ⟨_, rfl⟩
    rw [← hW] at O3
    have HWW := Box.mk hW; clear hW
    go_wp2_with fail
    go_loopw [13, 14, 54] (fun va vb vi wr => ∃ (i k : Nat) (a1 b1 : Option Addr) (c1 d1 : Nat), i ≤ n ∧ k ≤ i ∧ vi = .int .i64 i ∧ va = .slice a1 k c1 ∧ vb = .slice b1 i d1 ∧
      Own w.heap.size wr [GrpP g (QS (1 + mm) (1 + rr) dd W k i), GrpP h (QS 1 256 0 W i i), RowP 65 2 a1 k c1 (repC (upTo k)), RowP 65 2 b1 i d1 (repC (upTo i))] ∧ Below w.heap.size w wr) (fun _ _ vi _ => n - (intOf vi).toNat)
    case atStart => exact ⟨0, 0, none, none, 0, 0, Nat.zero_le _, Nat.le_refl _, rfl, rfl, rfl, O3, B2⟩
    case round =>
      obtain ⟨i, k, a1, b1, c1, d1, hi, hk, rfl, rfl, rfl, O, BW⟩ := hrel
      by_cases hl : i < n
      · obtain ⟨bw, off, rfl, hc⟩ := (HR.out.below BW (Nat.le_refl _)).intAtD i hl
        have m2 := i64_and255 (ws.getD i 0)
        have hw := HW.out i
        have hwi : W i = 1 + (ws.getD i 0 % 256) % (1 + rr) := by rw [HWW.out]
        rw [← hwi] at hw
        have hge : 0 ≤ ws.getD i 0 % 256 := by omega
        have hlt : ws.getD i 0 % 256 ≤ 255 := by omega
        have hAg := Box.mk (ask_to O 0 rfl (i : Int) (W i) (i : Int) (QS_ask hk (by omega) hw.1 hw.2) (in64 _ (by omega)))
        have HWI := Box.mk hwi; clear hwi
        generalize ws.getD i 0 % 256 = y at *
        generalize ws.getD i 0 = x at *
        have hy1 : 0 ≤ y % (1 + rr) := Int.emod_nonneg _ (by omega)
        have hy2 : y % (1 + rr) < 1 + rr := Int.emod_lt_of_pos _ (by omega)
        go_wp2_with fail
        rw [← HWI.out]
        clear hy1 hy2 hc m2
        refine hAg.out.mono ?_
        clear hAg
        rintro e w4 ⟨rfl, O4, B4⟩
        replace O4 : Own w.heap.size w4 [GrpP g (QS (1 + mm) (1 + rr) dd W k (i + 1)), GrpP h (QS 1 256 0 W i i), RowP 65 2 a1 k c1 (repC (upTo k)), RowP 65 2 b1 i d1 (repC (upTo i))] := O4
        replace B4 := BW.trans B4
        have hAh := Box.mk (ask_to O4 1 rfl (i : Int) (W i) (i : Int) (QS_ask (Nat.le_refl i) (by omega) hw.1 (by omega)) (in64 _ (by omega)))
        clear O BW
        go_wp2_with fail
        refine hAh.out.mono ?_
        clear hAh O4
        rintro e w5 ⟨rfl, O5, B5⟩
        replace O5 : Own w.heap.size w5 [GrpP g (QS (1 + mm) (1 + rr) dd W k (i + 1)), GrpP h (QS 1 256 0 W i (i + 1)), RowP 65 2 a1 k c1 (repC (upTo k)), RowP 65 2 b1 i d1 (repC (upTo i))] := O5
        replace B5 := B4.trans B5
        clear B4
        cases hd : (QS (1 + mm) (1 + rr) dd W k (i + 1)).due (i : Int) with
        | false =>
          have ht : (QS (1 + mm) (1 + rr) dd W k (i + 1)).tryCut (i : Int) = QS (1 + mm) (1 + rr) dd W k (i + 1) := by unfold GS.tryCut; rw [hd]; rfl
          have hCut := Box.mk (cut_to O5 0 rfl (i : Int) hd ht rfl rfl)
          clear hd ht
          generalize (QS (1 + mm) (1 + rr) dd W k (i + 1)).cutFirst (i : Int) = cf at *
          generalize (QS (1 + mm) (1 + rr) dd W k (i + 1)).cutTxs (i : Int) = ct at *
          go_wp2_with fail
          refine hCut.out.mono ?_
          clear hCut
          rintro e w6 ⟨a6, c6, rfl, O6, B6⟩
          replace B6 := B5.trans B6
          replace O6 := O6.drop 4
          replace O6 : Own w.heap.size w6 [GrpP g (QS (1 + mm) (1 + rr) dd W k (i + 1)), GrpP h (QS 1 256 0 W i (i + 1)), RowP 65 2 a1 k c1 (repC (upTo k)), RowP 65 2 b1 i d1 (repC (upTo i))] := O6
          clear O5 B5
          go_wp2_with ((with_reducible show wpList _ _ _ _ _ _); refine wpList_store_fresh (o := ⟨none, .store 32 (.tmp 17) (.tmp 82), _, _, _, _⟩) (cs := [.int .i64 cf, .slice a6 ct.length c6]) rfl 32 _ _ rfl rfl agg32.info rfl rfl rfl rfl (by simp [Value.oneCell']) ?_)
          have O7 := O6.alloc (.cells #[.int .i64 cf, .slice a6 ct.length c6] 32)
          have B7 := B6.alloc O6.base (.cells #[.int .i64 cf, .slice a6 ct.length c6] 32)
          clear O6 B6
          generalize (w6.alloc (.cells #[.int .i64 cf, .slice a6 ct.length c6] 32)) = w7 at *
          have hCh := Box.mk (cut_to O7 1 rfl (S := QS 1 256 0 W i (i + 1)) (d := true) (i : Int) (QS_due_one (by omega) _) rfl rfl rfl)
          go_wp2_with fail
          refine hCh.out.mono ?_
          clear hCh
          rintro e w8 ⟨a8, c8, rfl, O8, B8⟩
          replace B8 := B7.trans B8
          replace O8 := O8.drop 4
          have ht : (QS 1 256 0 W i (i + 1)).tryCut (i : Int) = (QS 1 256 0 W i (i + 1)).cut := by unfold GS.tryCut; rw [QS_due_one (by omega) _]; rfl
          rw [ht] at O8
          clear ht O7 B7
          replace O8 : Own w.heap.size w8 [GrpP g (QS (1 + mm) (1 + rr) dd W k (i + 1)), GrpP h (QS 1 256 0 W i (i + 1)).cut, RowP 65 2 a1 k c1 (repC (upTo k)), RowP 65 2 b1 i d1 (repC (upTo i))] := O8
          generalize (QS 1 256 0 W i (i + 1)).cutFirst (i : Int) = cf2 at *
          generalize (QS 1 256 0 W i (i + 1)).cutTxs (i : Int) = ct2 at *
          go_wp2_with ((with_reducible show wpList _ _ _ _ _ _); refine wpList_store_fresh (o := ⟨none, .store 32 (.tmp 19) (.tmp 93), _, _, _, _⟩) (cs := [.int .i64 cf2, .slice a8 ct2.length c8]) rfl 32 _ _ rfl rfl agg32.info rfl rfl rfl rfl (by simp [Value.oneCell']) ?_)
          have O9 := O8.alloc (.cells #[.int .i64 cf2, .slice a8 ct2.length c8] 32)
          have B9 := B8.alloc O8.base (.cells #[.int .i64 cf2, .slice a8 ct2.length c8] 32)
          clear O8 B8
          generalize (w8.alloc (.cells #[.int .i64 cf2, .slice a8 ct2.length c8] 32)) = w9 at *
          refine (done_to O9 1 rfl rfl rfl).mono ?_
          rintro e w10 ⟨a10, c10, rfl, O10, B10⟩
          replace B10 := B9.trans B10
          have hrs : (QS 1 256 0 W i (i + 1)).cut.reps = [((i : Int), (i : Int) + 1)] := by rw [QS_reps, QS_front_one (by omega)]; rfl
          have hds : (QS 1 256 0 W i (i + 1)).cut.done = QS 1 256 0 W (i + 1) (i + 1) := by rw [QS_cut, QS_front_one (by omega)]
          rw [hrs, hds] at O10
          rw [hrs]
          clear hrs hds O9 B9
          replace O10 : Own w.heap.size w10 [GrpP g (QS (1 + mm) (1 + rr) dd W k (i + 1)), GrpP h (QS 1 256 0 W (i + 1) (i + 1)), RowP 65 2 a1 k c1 (repC (upTo k)), RowP 65 2 b1 i d1 (repC (upTo i)), RowP 65 2 a10 1 c10 (repC [((i : Int), (i : Int) + 1)])] := O10
          have rb := O10.row 3 rfl
          have rs := Src.ofRd (P := Try.prog) (Rd.ofOwn (O10.row 4 rfl)) (repC_one _)
          go_wp2_with (at_builtin; refine wpList_append_src rfl _ _ 28 28 rfl sl28 (.inl sl28.ht) rfl rb rfl rs (by omega) (by unfold maxLen; omega) (Nat.zero_le _) ?_; intro a11 c11 w11 hown11 hgr11 hla11)
          rw [← repC_append, show upTo i ++ [((i : Int), (i : Int) + 1)] = upTo (i + 1) from (upTo_add i 1).symm] at hown11
          obtain ⟨O11, B11⟩ := O10.grown 3 rfl hown11 hgr11 hla11
          replace O11 := O11.drop 4
          replace B11 := B10.trans B11
          replace O11 : Own w.heap.size w11 [GrpP g (QS (1 + mm) (1 + rr) dd W k (i + 1)), GrpP h (QS 1 256 0 W (i + 1) (i + 1)), RowP 65 2 a1 k c1 (repC (upTo k)), RowP 65 2 a11 (i + 1) c11 (repC (upTo (i + 1)))] := O11
          clear rb rs hown11 hgr11 hla11 O10 B10
          go_roundw
          case rel => exact ⟨i + 1, k, a1, a11, c1, c11, by omega, by omega, by go_num, rfl, rfl, O11, B11⟩
          case measure => simp [intOf]; omega
        | true =>
          have ht : (QS (1 + mm) (1 + rr) dd W k (i + 1)).tryCut (i : Int) = (QS (1 + mm) (1 + rr) dd W k (i + 1)).cut := by unfold GS.tryCut; rw [hd]; rfl
          have hCut := Box.mk (cut_to O5 0 rfl (i : Int) hd ht rfl rfl)
          clear hd ht
          generalize (QS (1 + mm) (1 + rr) dd W k (i + 1)).cutFirst (i : Int) = cf at *
          generalize (QS (1 + mm) (1 + rr) dd W k (i + 1)).cutTxs (i : Int) = ct at *
          go_wp2_with fail
          refine hCut.out.mono ?_
          clear hCut
          rintro e w6 ⟨a6, c6, rfl, O6, B6⟩
          replace B6 := B5.trans B6
          replace O6 := O6.drop 4
          replace O6 : Own w.heap.size w6 [GrpP g (QS (1 + mm) (1 + rr) dd W k (i + 1)).cut, GrpP h (QS 1 256 0 W i (i + 1)), RowP 65 2 a1 k c1 (repC (upTo k)), RowP 65 2 b1 i d1 (repC (upTo i))] := O6
          clear O5 B5
          go_wp2_with ((with_reducible show wpList _ _ _ _ _ _); refine wpList_store_fresh (o := ⟨none, .store 32 (.tmp 17) (.tmp 82), _, _, _, _⟩) (cs := [.int .i64 cf, .slice a6 ct.length c6]) rfl 32 _ _ rfl rfl agg32.info rfl rfl rfl rfl (by simp [Value.oneCell']) ?_)
          have O6a := O6.alloc (.cells #[.int .i64 cf, .slice a6 ct.length c6] 32)
          have B6a := B6.alloc O6.base (.cells #[.int .i64 cf, .slice a6 ct.length c6] 32)
          clear O6 B6
          generalize (w6.alloc (.cells #[.int .i64 cf, .slice a6 ct.length c6] 32)) = w6a at *
          refine (done_to O6a 0 rfl rfl rfl).mono ?_
          rintro e w6b ⟨a6b, c6b, rfl, O6b, B6b⟩
          replace B6b := B6a.trans B6b
          have hfl := (QS (1 + mm) (1 + rr) dd W k (i + 1)).front_le
          rw [QS_len] at hfl
          have hrs := QS_reps (mo := 1 + mm) (ro := 1 + rr) (de := dd) (W := W) (k := k) (i := i + 1)
          have hds := QS_cut (mo := 1 + mm) (ro := 1 + rr) (de := dd) (W := W) (k := k) (i := i + 1)
          generalize (QS (1 + mm) (1 + rr) dd W k (i + 1)).front = f at *
          rw [hrs, hds] at O6b
          rw [hrs]
          clear hrs hds O6a B6a
          have hup := upTo_add k f
          have hlen : ((List.range f).map fun (j : Nat) => (((k + j : Nat) : Int), ((k + j : Nat) : Int) + 1)).length = f := by simp
          generalize ((List.range f).map fun (j : Nat) => (((k + j : Nat) : Int), ((k + j : Nat) : Int) + 1)) = nr at *
          rw [hlen] at O6b ⊢
          replace O6b : Own w.heap.size w6b [GrpP g (QS (1 + mm) (1 + rr) dd W (k + f) (i + 1)), GrpP h (QS 1 256 0 W i (i + 1)), RowP 65 2 a1 k c1 (repC (upTo k)), RowP 65 2 b1 i d1 (repC (upTo i)), RowP 65 2 a6b f c6b (repC nr)] := O6b
          have ra := O6b.row 2 rfl
          have rs := Src.ofRd (P := Try.prog) (Rd.ofOwn (O6b.row 4 rfl)) (repC_one _)
          have hup' := Box.mk hup
          have hlen' := Box.mk hlen
          clear hup hlen
          go_wp2_with (at_builtin; refine wpList_append_src rfl _ _ 28 28 rfl sl28 (.inl sl28.ht) rfl ra rfl rs (by omega) (by unfold maxLen; omega) (Nat.zero_le _) ?_; intro a2 c2 w7 hown7 hgr7 hla7; rw [← repC_append, ← hup'.out] at hown7; obtain ⟨O7, B7⟩ := O6b.grown 2 rfl hown7 hgr7 hla7; replace O7 := O7.drop 4; replace B7 := B6b.trans B7; replace O7 : Own w.heap.size w7 [GrpP g (QS (1 + mm) (1 + rr) dd W (k + f) (i + 1)), GrpP h (QS 1 256 0 W i (i + 1)), RowP 65 2 a2 (k + f) c2 (repC (upTo (k + f))), RowP 65 2 b1 i d1 (repC (upTo i))] := O7; clear ra rs hown7 hgr7 hla7 O6b B6b)
          have hkf : k + f ≤ i + 1 := by omega
          clear hup' hlen' hfl
          generalize k + f = k2 at *
          have hCh := Box.mk (cut_to O7 1 rfl (S := QS 1 256 0 W i (i + 1)) (d := true) (i : Int) (QS_due_one (by omega) _) rfl rfl rfl)
          go_wp2_with fail
          refine hCh.out.mono ?_
          clear hCh
          rintro e w8 ⟨a8, c8, rfl, O8, B8⟩
          replace B8 := B7.trans B8
          replace O8 := O8.drop 4
          have ht : (QS 1 256 0 W i (i + 1)).tryCut (i : Int) = (QS 1 256 0 W i (i + 1)).cut := by unfold GS.tryCut; rw [QS_due_one (by omega) _]; rfl
          rw [ht] at O8
          clear ht O7 B7
          replace O8 : Own w.heap.size w8 [GrpP g (QS (1 + mm) (1 + rr) dd W k2 (i + 1)), GrpP h (QS 1 256 0 W i (i + 1)).cut, RowP 65 2 a2 k2 c2 (repC (upTo k2)), RowP 65 2 b1 i d1 (repC (upTo i))] := O8
          generalize (QS 1 256 0 W i (i + 1)).cutFirst (i : Int) = cf2 at *
          generalize (QS 1 256 0 W i (i + 1)).cutTxs (i : Int) = ct2 at *
          go_wp2_with ((with_reducible show wpList _ _ _ _ _ _); refine wpList_store_fresh (o := ⟨none, .store 32 (.tmp 19) (.tmp 93), _, _, _, _⟩) (cs := [.int .i64 cf2, .slice a8 ct2.length c8]) rfl 32 _ _ rfl rfl agg32.info rfl rfl rfl rfl (by simp [Value.oneCell']) ?_)
          have O9 := O8.alloc (.cells #[.int .i64 cf2, .slice a8 ct2.length c8] 32)
          have B9 := B8.alloc O8.base (.cells #[.int .i64 cf2, .slice a8 ct2.length c8] 32)
          clear O8 B8
          generalize (w8.alloc (.cells #[.int .i64 cf2, .slice a8 ct2.length c8] 32)) = w9 at *
          refine (done_to O9 1 rfl rfl rfl).mono ?_
          rintro e w10 ⟨a10, c10, rfl, O10, B10⟩
          replace B10 := B9.trans B10
          have hrs : (QS 1 256 0 W i (i + 1)).cut.reps = [((i : Int), (i : Int) + 1)] := by rw [QS_reps, QS_front_one (by omega)]; rfl
          have hds : (QS 1 256 0 W i (i + 1)).cut.done = QS 1 256 0 W (i + 1) (i + 1) := by rw [QS_cut, QS_front_one (by omega)]
          rw [hrs, hds] at O10
          rw [hrs]
          clear hrs hds O9 B9
          replace O10 : Own w.heap.size w10 [GrpP g (QS (1 + mm) (1 + rr) dd W k2 (i + 1)), GrpP h (QS 1 256 0 W (i + 1) (i + 1)), RowP 65 2 a2 k2 c2 (repC (upTo k2)), RowP 65 2 b1 i d1 (repC (upTo i)), RowP 65 2 a10 1 c10 (repC [((i : Int), (i : Int) + 1)])] := O10
          have rb := O10.row 3 rfl
          have rs := Src.ofRd (P := Try.prog) (Rd.ofOwn (O10.row 4 rfl)) (repC_one _)
          go_wp2_with (at_builtin; refine wpList_append_src rfl _ _ 28 28 rfl sl28 (.inl sl28.ht) rfl rb rfl rs (by omega) (by unfold maxLen; omega) (Nat.zero_le _) ?_; intro a11 c11 w11 hown11 hgr11 hla11)
          rw [← repC_append, show upTo i ++ [((i : Int), (i : Int) + 1)] = upTo (i + 1) from (upTo_add i 1).symm] at hown11
          obtain ⟨O11, B11⟩ := O10.grown 3 rfl hown11 hgr11 hla11
          replace O11 := O11.drop 4
          replace B11 := B10.trans B11
          replace O11 : Own w.heap.size w11 [GrpP g (QS (1 + mm) (1 + rr) dd W k2 (i + 1)), GrpP h (QS 1 256 0 W (i + 1) (i + 1)), RowP 65 2 a2 k2 c2 (repC (upTo k2)), RowP 65 2 a11 (i + 1) c11 (repC (upTo (i + 1)))] := O11
          clear rb rs hown11 hgr11 hla11 O10 B10
          go_roundw
          case rel => exact ⟨i + 1, k2, a2, a11, c2, c11, by omega, by omega, by go_num, rfl, rfl, O11, B11⟩
          case measure => simp [intOf]; omega
      · obtain rfl : i = n := by omega
        have hOKb := Box.mk HWW.out
        go_wp2_with fail
        clear B2 O3
        obtain ⟨wz, rfl⟩ : ∃ wz : World, wz = wr := ⟨_, rfl⟩
        go_loopw [13, 21] (fun va vj wx => ∃ (j k : Nat) (a1 : Option Addr) (c1 : Nat), j ≤ k ∧ k ≤ i ∧ va = .slice a1 k c1 ∧ vj = .int .i64 j ∧
          Own w.heap.size wx [GrpP g (QS (1 + mm) (1 + rr) dd W k i), GrpP h (QS 1 256 0 W i i), RowP 65 2 a1 k c1 (repC (upTo k)), RowP 65 2 b1 i d1 (repC (upTo i))] ∧ Below w.heap.size w wx) (fun va _ _ => match va with | .slice _ k _ => i - k | _ => 0)
        case atStart => exact ⟨0, k, a1, c1, Nat.zero_le _, hk, rfl, rfl, O, BW⟩
        case round =>
          clear O BW hk
          obtain ⟨j, k, a1, c1, hj, hk, rfl, rfl, O, BW⟩ := hrel
          by_cases hki : k < i
          · have hfp := QS_front_pos (Own.ok O 0 rfl) hki
            have hDue := Box.mk (due_to O 0 rfl 1000 (QS_due_end hki (by omega) (by omega)))
            go_wp2_with fail
            refine hDue.out.mono ?_
            clear hDue
            rintro e w3 ⟨rfl, nq, rfl⟩
            replace O := O.drewN nq
            replace BW := below_drewN BW nq
            generalize wr.drewN nq = w3 at *
            have ht : (QS (1 + mm) (1 + rr) dd W k i).tryCut 1000 = (QS (1 + mm) (1 + rr) dd W k i).cut := by unfold GS.tryCut; rw [QS_due_end hki (by omega) (by omega)]; rfl
            have hCut := Box.mk (cut_to O 0 rfl 1000 (QS_due_end hki (by omega) (by omega)) ht rfl rfl)
            clear ht
            generalize (QS (1 + mm) (1 + rr) dd W k i).cutFirst 1000 = cf at *
            generalize (QS (1 + mm) (1 + rr) dd W k i).cutTxs 1000 = ct at *
            go_wp2_with fail
            refine hCut.out.mono ?_
            clear hCut
            rintro e w6 ⟨a6, c6, rfl, O6, B6⟩
            replace B6 := BW.trans B6
            replace O6 := O6.drop 4
            replace O6 : Own w.heap.size w6 [GrpP g (QS (1 + mm) (1 + rr) dd W k i).cut, GrpP h (QS 1 256 0 W i i), RowP 65 2 a1 k c1 (repC (upTo k)), RowP 65 2 b1 i d1 (repC (upTo i))] := O6
            clear O BW
            go_wp2_with fail
            refine (done_to O6 0 rfl rfl rfl).mono ?_
            rintro e w6b ⟨a6b, c6b, rfl, O6b, B6b⟩
            replace B6b := B6.trans B6b
            have hfl := (QS (1 + mm) (1 + rr) dd W k i).front_le
            rw [QS_len] at hfl
            have hrs := QS_reps (mo := 1 + mm) (ro := 1 + rr) (de := dd) (W := W) (k := k) (i := i)
            have hds := QS_cut (mo := 1 + mm) (ro := 1 + rr) (de := dd) (W := W) (k := k) (i := i)
            generalize (QS (1 + mm) (1 + rr) dd W k i).front = f at *
            rw [hrs, hds] at O6b
            rw [hrs]
            clear hrs hds O6 B6
            have hup := upTo_add k f
            have hlen : ((List.range f).map fun (j : Nat) => (((k + j : Nat) : Int), ((k + j : Nat) : Int) + 1)).length = f := by simp
            generalize ((List.range f).map fun (j : Nat) => (((k + j : Nat) : Int), ((k + j : Nat) : Int) + 1)) = nr at *
            rw [hlen] at O6b ⊢
            replace O6b : Own w.heap.size w6b [GrpP g (QS (1 + mm) (1 + rr) dd W (k + f) i), GrpP h (QS 1 256 0 W i i), RowP 65 2 a1 k c1 (repC (upTo k)), RowP 65 2 b1 i d1 (repC (upTo i)), RowP 65 2 a6b f c6b (repC nr)] := O6b
            have ra := O6b.row 2 rfl
            have rs := Src.ofRd (P := Try.prog) (Rd.ofOwn (O6b.row 4 rfl)) (repC_one _)
            have hup' := Box.mk hup
            have hlen' := Box.mk hlen
            clear hup hlen
            go_wp2_with (at_builtin; refine wpList_append_src rfl _ _ 28 28 rfl sl28 (.inl sl28.ht) rfl ra rfl rs (by omega) (by unfold maxLen; omega) (Nat.zero_le _) ?_; intro a2 c2 w7 hown7 hgr7 hla7; rw [← repC_append, ← hup'.out] at hown7; obtain ⟨O7, B7⟩ := O6b.grown 2 rfl hown7 hgr7 hla7; replace O7 := O7.drop 4; replace B7 := B6b.trans B7; replace O7 : Own w.heap.size w7 [GrpP g (QS (1 + mm) (1 + rr) dd W (k + f) i), GrpP h (QS 1 256 0 W i i), RowP 65 2 a2 (k + f) c2 (repC (upTo (k + f))), RowP 65 2 b1 i d1 (repC (upTo i))] := O7; clear ra rs hown7 hgr7 hla7 O6b B6b)
            go_roundw
            case rel => exact ⟨j + 1, k + f, a2, c2, by omega, by omega, rfl, by go_num, O7, B7⟩
            case measure => simp; omega
          · obtain rfl : k = i := by omega
            have hDue := Box.mk (due_to O 0 rfl 1000 (QS_due_none 1000))
            go_wp2_with fail
            refine hDue.out.mono ?_
            clear hDue
            rintro e w3 ⟨rfl, nq, rfl⟩
            replace O := O.drewN nq
            replace BW := below_drewN BW nq
            generalize wr.drewN nq = w3 at *
            go_wp2_with fail
            refine (sanity_own O).mono ?_
            rintro e w4 ⟨rfl, O4, B4⟩
            replace B4 := BW.trans B4
            clear O BW
            have hS := sameReports_any (upTo k) (upTo k) a1 b1 k k c1 d1 w4 (Rd.ofOwn (O4.row 2 rfl)) (Rd.ofOwn (O4.row 3 rfl))
            rw [decide_eq_true rfl] at hS
            have HS := Box.mk hS; clear hS
            have hkk : ((k : Int) == (k : Int)) = true := by simp
            go_wp2_with fail
            refine HS.out.mono ?_
            rintro e w5 ⟨rfl, n5, rfl⟩
            go_wp2_with fail
            go_ret
            exact ⟨rfl, below_drewN B4 _⟩
end Go.Proofs.Ytkloafpoldmpkaa
