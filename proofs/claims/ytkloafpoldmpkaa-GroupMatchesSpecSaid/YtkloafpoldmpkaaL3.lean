/-
  The walk of GroupMatchesSpec: it returns true and keeps what was there. No condition.
-/
import Derived.Test.YtkloafpoldmpkaaRef5
import Derived.Test.YtkloafpoldmpkaaHeld
import Derived.Outline
import Derived.Deep.CutBlock
import Derived.Deep.CutRange
namespace Go.Proofs.Ytkloafpoldmpkaa
open Go.RowKit

structure Op4 where
  kind : Int
  tx : Int
  words : Int
  tick : Int
deriving Inhabited
def opC (l : List Op4) : List Value := (l.map fun x => [Value.int .i64 x.kind, Value.int .i64 x.tx, Value.int .i64 x.words, Value.int .i64 x.tick]).flatten
theorem opC_length (l : List Op4) : (opC l).length = l.length * 4 := by
  induction l with
  | nil => rfl
  | cons r q ih => unfold opC at ih ⊢; rw [List.map_cons, List.flatten_cons, List.length_append, ih, List.length_cons]; simp; omega
theorem opC_at (l : List Op4) (k : Nat) (hk : k < l.length) : ((opC l).drop (k * 4)).take 4 = [.int .i64 (l.getD k default).kind, .int .i64 (l.getD k default).tx, .int .i64 (l.getD k default).words, .int .i64 (l.getD k default).tick] := by
  induction l generalizing k with
  | nil => simp at hk
  | cons r q ih =>
    cases k with
    | zero => rfl
    | succ k =>
      have := ih k (by simpa using hk)
      rw [show (k + 1) * 4 = k * 4 + 1 + 1 + 1 + 1 from by omega]
      unfold opC at this ⊢
      simp only [List.map_cons, List.flatten_cons, List.cons_append, List.nil_append, List.drop_succ_cons, this]
      rfl
theorem Rd.opAt {w : World} {a : Option Addr} {n cap : Nat} {l : List Op4} (h : Rd w a n cap 4 (opC l)) (k : Nat) (hk : k < n) :
    ∃ g off, a = some ⟨g, off, none⟩ ∧ ∀ j u, [Value.int .i64 (l.getD k default).kind, .int .i64 (l.getD k default).tx, .int .i64 (l.getD k default).words, .int .i64 (l.getD k default).tick][j]? = some u → w.cell? ((⟨g, off + k * 4, none⟩ : Addr).add j) = some u := by
  have hl : l.length = n := by have := h.hlen; rw [opC_length] at this; omega
  have h0 := opC_at l k (by omega)
  have ha : ∀ (b off j : Nat), (⟨b, off, none⟩ : Addr).add j = ⟨b, off + j, none⟩ := fun b off j => by unfold Addr.add; split <;> simp_all
  cases a with
  | none =>
    have := h.hnil rfl
    rw [this] at h0; simp at h0
  | some ad =>
    have hne : (opC l) ≠ [] := fun e => by rw [e] at h0; simp at h0
    obtain ⟨y, ys, hy⟩ := List.exists_cons_of_ne_nil hne
    have c0 := h.hcell ad rfl 0 y (by rw [hy]; rfl)
    have hs : ad.spot = none := by
      have := spot_none c0
      simpa [Addr.add] using this
    obtain ⟨b, off, sp⟩ := ad
    simp only at hs
    subst hs
    refine ⟨b, off, rfl, fun j u hu => ?_⟩
    rw [← h0, List.getElem?_take] at hu
    split at hu
    · rw [List.getElem?_drop] at hu
      have := h.hcell _ rfl _ _ hu
      rw [ha] at this
      rw [ha, Nat.add_assoc]; exact this
    · cases hu

theorem agg47 : AggT Try.prog 47 4 := ⟨by kernel_rfl, by kernel_rfl⟩
theorem sameBt_self (f : Int) (l : List Int) : sameBt f f l l = true := by unfold sameBt; simp
theorem nm10 : (Try.f10.name == "runtime.NumGoroutine") = false := by kernel_rfl
theorem bd10 : Try.f10.body.isNone = false := by kernel_rfl
theorem nm24 : (Try.f24.name == "runtime.NumGoroutine") = false := by kernel_rfl
theorem bd24 : Try.f24.body.isNone = false := by kernel_rfl
theorem nm22 : (Try.f22.name == "runtime.NumGoroutine") = false := by kernel_rfl
theorem bd22 : Try.f22.body.isNone = false := by kernel_rfl
theorem nm23 : (Try.f23.name == "runtime.NumGoroutine") = false := by kernel_rfl
theorem bd23 : Try.f23.body.isNone = false := by kernel_rfl
theorem nm20 : (Try.f20.name == "runtime.NumGoroutine") = false := by kernel_rfl
theorem bd20 : Try.f20.body.isNone = false := by kernel_rfl
theorem nm16 : (Try.f16.name == "runtime.NumGoroutine") = false := by kernel_rfl
theorem bd16 : Try.f16.body.isNone = false := by kernel_rfl
theorem nm27 : (Try.f27.name == "runtime.NumGoroutine") = false := by kernel_rfl
theorem bd27 : Try.f27.body.isNone = false := by kernel_rfl
theorem nm26 : (Try.f26.name == "runtime.NumGoroutine") = false := by kernel_rfl
theorem bd26 : Try.f26.body.isNone = false := by kernel_rfl
theorem nm28 : (Try.f28.name == "runtime.NumGoroutine") = false := by kernel_rfl
theorem bd28 : Try.f28.body.isNone = false := by kernel_rfl
theorem nm13 : (Try.f13.name == "runtime.NumGoroutine") = false := by kernel_rfl
theorem bd13 : Try.f13.body.isNone = false := by kernel_rfl
theorem nm29 : (Try.f29.name == "runtime.NumGoroutine") = false := by kernel_rfl
theorem bd29 : Try.f29.body.isNone = false := by kernel_rfl

set_option maxRecDepth 20000 in
set_option maxHeartbeats 16000000 in
theorem matches_walk (most room delay next tick : Int) (a : Option Addr) (n cap : Nat) (ws : List Op4) (w : World) (hrd : Rd w a n cap 4 (opC ws)) (hws : ∀ x ∈ ws, In64 x.tx) :
    Calls Try.prog 5 #[.int .i64 most, .int .i64 room, .int .i64 delay, .int .i64 next, .slice a n cap, .int .i64 tick] w (RetBool true w) := by
  have hmax := hrd.lenMax
  have HR := Box.mk hrd; clear hrd
  have HWS := Box.mk hws; clear hws
  cases hr : right most room delay next with
  | false =>
    have hN := Box.mk (new_wrong most room delay next w hr)
    have hRt := Box.mk (ref_right most room delay next w)
    rw [hr] at hRt
    clear hr
    go_enter Try.func5, Try.ntmps5
    go_wp2_with fail
    refine hN.out.mono ?_
    rintro e w1 ⟨rfl, rfl⟩
    go_wp2_with fail
    refine hRt.out.mono ?_
    rintro e w2 ⟨rfl, rfl⟩
    go_wp2_with fail
    refine (sanity_own (Own.start w2)).mono ?_
    rintro e w3 ⟨rfl, O3, B3⟩
    go_wp2_with fail
    go_ret
    exact ⟨rfl, B3⟩
  | true =>
    have hN := Box.mk (new_own (Own.start w) most room delay next hr)
    have hRt := Box.mk (fun w1 => ref_right most room delay next w1)
    rw [hr] at hRt
    clear hr
    by_cases h100 : 100 < n
    · go_enter Try.func5, Try.ntmps5
      go_wp2_with fail
      refine hN.out.mono ?_
      rintro e w1 ⟨g, rfl, O1, B1⟩
      go_wp2_with fail
      refine (hRt.out w1).mono ?_
      rintro e w2 ⟨rfl, rfl⟩
      go_wp2_with fail
      refine (sanity_own O1).mono ?_
      rintro e w3 ⟨rfl, O3, B3⟩
      go_wp2_with fail
      go_ret
      exact ⟨rfl, B1.trans B3⟩
    · go_enter Try.func5, Try.ntmps5
      go_wp2_with fail
      refine hN.out.mono ?_
      rintro e w1 ⟨g, rfl, O1, B1⟩
      go_wp2_with fail
      refine (hRt.out w1).mono ?_
      rintro e w2 ⟨rfl, rfl⟩
      clear hN hRt
      go_wp2_with fail
      refine (ref_new O1 most room delay next).mono ?_
      rintro e w3 ⟨r, la, lc, ta, tc, rfl, O3, B3⟩
      replace B3 := B1.trans B3
      generalize hS0 : GS.new most room delay next = S0 at *
      clear hS0 O1 B1
      replace O3 : Own w.heap.size w3 (RefL r la lc ta tc S0 ++ [GrpP g S0]) := O3
      go_wp2_with fail
      go_loopw [51] (fun vi wr => ∃ (i : Nat) (S : GS) (la : Option Addr) (lc : Nat) (ta : Option Addr) (tc : Nat), i ≤ n ∧ vi = .int .i64 i ∧ Own w.heap.size wr (RefL r la lc ta tc S ++ [GrpP g S]) ∧ Below w.heap.size w wr) (fun vi _ => n - (intOf vi).toNat)
      case atStart => exact ⟨0, S0, la, lc, ta, tc, Nat.zero_le _, rfl, O3, B3⟩
      case round =>
        clear O3 B3
        obtain ⟨i, S, la, lc, ta, tc, hi, rfl, O, BW⟩ := hrel
        by_cases hl : i < n
        · obtain ⟨bw, off, rfl, hc⟩ := (HR.out.below BW (Nat.le_refl _)).opAt i hl
          have hin : In64 (ws.getD i default).tx := by
            have hwl : ws.length = n := by have := HR.out.hlen; rw [opC_length] at this; omega
            rw [List.getD_eq_getElem?_getD, List.getElem?_eq_getElem (by omega)]
            exact HWS.out _ (List.getElem_mem _)
          have HIN := Box.mk hin; clear hin
          generalize ws.getD i default = x at *
          obtain ⟨kd, tx, wd, tk⟩ := x
          simp only at hc HIN
          have HC := Box.mk hc; clear hc
          go_upto_block 2 with (first
            | ((with_reducible show wpList _ _ _ _ _ _); refine wpList_load_agg (o := ⟨some 54, _, _, _, _, _⟩) rfl 47 _ rfl agg47 rfl (cs := [.int .i64 kd, .int .i64 tx, .int .i64 wd, .int .i64 tk]) rfl HC.out ?_)
            | ((with_reducible show wpList _ _ _ _ _ _); refine wpList_store_fresh (o := ⟨none, .store 47 (.tmp 16) (.tmp 54), _, _, _, _⟩) (cs := [.int .i64 kd, .int .i64 tx, .int .i64 wd, .int .i64 tk]) rfl 47 _ _ rfl rfl agg47.info rfl rfl rfl rfl (by simp [Value.oneCell']) ?_))
          clear HC
          have O1 := O.new [.int .i64 kd, .int .i64 tx, .int .i64 wd, .int .i64 tk] 47
          have B1 := BW.alloc O.base (.cells #[.int .i64 kd, .int .i64 tx, .int .i64 wd, .int .i64 tk] 47)
          replace O1 : Own w.heap.size (wr.alloc (.cells #[.int .i64 kd, .int .i64 tx, .int .i64 wd, .int .i64 tk] 47)) (RefL r la lc ta tc S ++ [GrpP g S, BlkP wr.heap.size 47 [.int .i64 kd, .int .i64 tx, .int .i64 wd, .int .i64 tk]]) := O1
          clear O BW
          generalize (wr.alloc (.cells #[.int .i64 kd, .int .i64 tx, .int .i64 wd, .int .i64 tk] 47)) = w4 at *
          generalize wr.heap.size = kx at *
          have HOK := Box.mk (O1.ok 3 rfl)
          go_cut [17, 18, 19, 20, 51] from 52 to 164 (fun _ _ _ _ s51 wx => s51 = .int .i64 i ∧ ∃ (S : GS) (la : Option Addr) (lc : Nat) (ta : Option Addr) (tc : Nat), Own w.heap.size wx (RefL r la lc ta tc S ++ [GrpP g S]) ∧ Below w.heap.size w wx)
          case first =>
            by_cases h0 : kd = 0
            · have k0 : (kd == 0) = true := by simp [h0]
              clear h0
              have x3 := (O1.blk 4 rfl).1.cellOf (i := 3) rfl
              have hC := Box.mk (cut_own O1 3 rfl tk)
              unfold RetCutO at hC
              have hRc := Box.mk (fun (w9 : World) (l : List HP) (O : Own w.heap.size w9 (RefL r la lc ta tc S ++ l)) => ref_cut O HOK.out tk)
              unfold RetRefC at hRc
              have hok2 : (S.tryCut tk).OK := by
                unfold GS.tryCut
                split
                · exact GS.cut_ok HOK.out
                · exact HOK.out
              clear hok2
              have hdd : (S.due tk != S.due tk) = false := by simp
              generalize S.due tk = du at *
              generalize S.cutFirst tk = cf at *
              generalize S.cutTxs tk = ct at *
              generalize S.tryCut tk = S2 at *
              go_wp2_with fail
              refine hC.out.mono ?_
              rintro e w5 ⟨a5, c5, rfl, O5, B5⟩
              replace B5 := B1.trans B5
              replace O5 : Own w.heap.size w5 (RefL r la lc ta tc S ++ [GrpP g S2, BlkP kx 47 [.int .i64 kd, .int .i64 tx, .int .i64 wd, .int .i64 tk], RdP 1 a5 ct.length c5 (intVals ct)]) := O5
              clear hC O1 B1 x3
              have x3 := ((O5.blk 4 rfl).1.alloc (.cells #[.int .i64 cf, .slice a5 ct.length c5] 32)).cellOf (i := 3) rfl
              go_wp2_with ((with_reducible show wpList _ _ _ _ _ _); refine wpList_store_fresh (o := ⟨none, .store 32 (.tmp 17) (.tmp 81), _, _, _, _⟩) (cs := [.int .i64 cf, .slice a5 ct.length c5]) rfl 32 _ _ rfl rfl agg32.info rfl rfl rfl rfl (by simp [Value.oneCell']) ?_)
              have O6 := O5.new [.int .i64 cf, .slice a5 ct.length c5] 32
              have B6 := B5.alloc O5.base (.cells #[.int .i64 cf, .slice a5 ct.length c5] 32)
              replace O6 : Own w.heap.size (w5.alloc (.cells #[.int .i64 cf, .slice a5 ct.length c5] 32)) (RefL r la lc ta tc S ++ [GrpP g S2, BlkP kx 47 [.int .i64 kd, .int .i64 tx, .int .i64 wd, .int .i64 tk], RdP 1 a5 ct.length c5 (intVals ct), BlkP w5.heap.size 32 [.int .i64 cf, .slice a5 ct.length c5]]) := O6
              clear O5 B5 x3
              generalize (w5.alloc (.cells #[.int .i64 cf, .slice a5 ct.length c5] 32)) = w6 at *
              generalize w5.heap.size = kb at *
              refine (hRc.out w6 _ O6).mono ?_
              rintro e w7 ⟨la, lc, ta, tc, a7, c7, rfl, O7, R7, B7⟩
              replace B7 := B6.trans B7
              clear hRc O6 B6
              have bk := (O7.blk 6 rfl).1.alloc (.cells #[.int .i64 cf, .slice a7 ct.length c7] 32)
              go_wp2_with (first
                | ((with_reducible show wpList _ _ _ _ _ _); refine wpList_store_fresh (o := ⟨none, .store 32 (.tmp 19) (.tmp 88), _, _, _, _⟩) (cs := [.int .i64 cf, .slice a7 ct.length c7]) rfl 32 _ _ rfl rfl agg32.info rfl rfl rfl rfl (by simp [Value.oneCell']) ?_)
                | ((with_reducible show wpList _ _ _ _ _ _); refine wpList_load_agg (o := ⟨some 94, _, _, _, _, _⟩) rfl 32 _ rfl agg32 rfl (cs := [.int .i64 cf, .slice a5 ct.length c5]) rfl bk.agg ?_)
                | ((with_reducible show wpList _ _ _ _ _ _); refine wpList_load_agg (o := ⟨some 95, _, _, _, _, _⟩) rfl 32 _ rfl agg32 rfl (cs := [.int .i64 cf, .slice a7 ct.length c7]) rfl (block_cells (heap_alloc_new _ _) 0 _ (fun j hj => by simp)) ?_))
              have hSB := sameBatch_any cf cf ct ct a5 a7 ct.length ct.length c5 c7 (w7.alloc (.cells #[.int .i64 cf, .slice a7 ct.length c7] 32)) ((O7.rd 5 rfl).alloc _) (R7.alloc _)
              rw [sameBt_self] at hSB
              refine hSB.mono ?_
              rintro e w8 ⟨rfl, hb8⟩
              have O8 := ((O7.alloc (.cells #[.int .i64 cf, .slice a7 ct.length c7] 32)).below hb8)
              have B8 := (B7.alloc O7.base (.cells #[.int .i64 cf, .slice a7 ct.length c7] 32)).trans (hb8.mono (O7.alloc _).base)
              clear hSB O7 B7 R7 bk hb8
              go_wp2_with fail
              go_meet
              exact ⟨rfl, S2, la, lc, ta, tc, ((O8.drop 6).drop 5).drop 4, B8⟩
            · have k0 : (kd == 0) = false := by simp [h0]
              clear h0
              by_cases h1 : kd = 1
              · have k1 : (kd == 1) = true := by simp [h1]
                clear h1
                have hD := Box.mk (done_to O1 3 rfl rfl rfl)
                go_wp2_with fail
                refine hD.out.mono ?_
                rintro e w5 ⟨a5, c5, rfl, O5, B5⟩
                replace B5 := B1.trans B5
                replace O5 : Own w.heap.size w5 (RefL r la lc ta tc S ++ [GrpP g S.done, BlkP kx 47 [.int .i64 kd, .int .i64 tx, .int .i64 wd, .int .i64 tk], RowP 65 2 a5 S.reps.length c5 (repC S.reps)]) := O5
                clear hD O1 B1
                go_wp2_with fail
                refine (ref_done O5 HOK.out).mono ?_
                rintro e w6 ⟨la, lc, a6, c6, rfl, O6, B6⟩
                replace B6 := B5.trans B6
                have hl6 : S.reps.length = S.txs.length := by simp [GS.reps]
                have hS := sameReports_any S.reps S.reps a5 a6 S.reps.length S.txs.length c5 c6 w6 (Rd.ofOwn (O6.row 6 rfl)) (Rd.ofOwn (O6.row 0 rfl))
                rw [decide_eq_true rfl] at hS
                have HS := Box.mk hS
                clear hS hl6 O5 B5
                go_wp2_with fail
                refine HS.out.mono ?_
                rintro e w7 ⟨rfl, n7, rfl⟩
                go_wp2_with fail
                go_meet
                exact ⟨rfl, S.done, la, lc, none, 0, (((O6.drop 6).drop 5).drop 0).drewN n7, below_drewN B6 n7⟩
              · have k1 : (kd == 1) = false := by simp [h1]
                clear h1
                by_cases h2 : kd = 2
                · have k2 : (kd == 2) = true := by simp [h2]
                  clear h2
                  have HS0 := (O1.blk 4 rfl).1.drew
                  have hDg := Box.mk (drop_own O1.drew 3 rfl tx HIN.out)
                  have hdm : decide (tx ∈ S.q.map Nd.tx) = decide (tx ∈ S.q.map Nd.tx) := rfl
                  generalize hdm2 : decide (tx ∈ S.q.map Nd.tx) = dm at *
                  have HDM := Box.mk hdm2; clear hdm2 hdm
                  have hdd : (dm != dm) = false := by simp
                  go_wp2_with fail
                  refine wp_region_held_drew (S := fun w' => Blk w' kx 47 [.int .i64 kd, .int .i64 tx, .int .i64 wd, .int .i64 tk]) (by kernel_rfl) HS0 (fun _ => ?_)
                  refine wpAnyH_take (i := 0) (v := ?_) rfl (by kernel_rfl) (by kernel_rfl) (by kernel_rfl) (fun _ _ _ h => h) (yieldsIf_val (by rfl) (fun w' hS => ?_)) HS0 ?_
                  rotate_left
                  · skip
                    go_simp
                    all_goals with_reducible rfl
                  refine wpAnyH_take (i := 1) (v := ?_) rfl (by kernel_rfl) (by kernel_rfl) (by kernel_rfl) (fun _ _ _ h => h) (yieldsIf_val (by rfl) (fun w' hS => ?_)) HS0 ?_
                  rotate_left
                  · skip
                    go_simp
                    all_goals with_reducible rfl
                  refine wpAnyH_take (i := 2) (v := ?_) rfl (by kernel_rfl) (by kernel_rfl) (by kernel_rfl) (fun _ _ _ h => h) (yieldsIf_val (by rfl) (fun w' hS => ?_)) HS0 ?_
                  rotate_left
                  · skip
                    have d1 := hS.cellOf (i := 1) rfl
                    go_simp
                    all_goals with_reducible rfl
                  refine wpAnyH_take (i := 4) (v := ?_) rfl (by kernel_rfl) (by kernel_rfl) (by kernel_rfl) (fun _ _ _ h => h) (yieldsIf_val (by rfl) (fun w' hS => ?_)) HS0 ?_
                  rotate_left
                  · skip
                    go_simp
                    all_goals with_reducible rfl
                  conv =>
                    arg 8
                    simp [go_sem]
                  refine wpAnyH_take (i := 5) (v := ?_) rfl (by kernel_rfl) (by kernel_rfl) (by kernel_rfl) (fun _ _ _ h => h) (yieldsIf_val (by rfl) (fun w' hS => ?_)) HS0 ?_
                  rotate_left
                  · skip
                    go_simp
                    all_goals with_reducible rfl
                  conv =>
                    arg 8
                    simp [go_sem]
                  refine wpAnyH_take (i := 6) (v := ?_) rfl (by kernel_rfl) (by kernel_rfl) (by kernel_rfl) (fun _ _ _ h => h) (yieldsIf_val (by rfl) (fun w' hS => ?_)) HS0 ?_
                  rotate_left
                  · skip
                    have d1 := hS.cellOf (i := 1) rfl
                    go_simp
                    all_goals with_reducible rfl
                  conv =>
                    arg 8
                    simp [go_sem]
                  conv =>
                    arg 8
                    simp [go_sem]
                  refine wpAnyH_ready (rs := [3]) (by kernel_rfl) (by simp) (AllReadyH.cons rfl (fun K' hK' => oper_call (by rfl) 22 [.tmp 109, .tmp 111] #[23, 3] rfl (vs := [.pointer (some ⟨g, 0, none⟩), .int .i64 tx]) rfl Try.func22 nm22 bd22 (hDg.out) ?_) AllReadyH.nil)
                  rintro e w5 ⟨rfl, O5, B5⟩
                  replace O5 : Own w.heap.size w5 (RefL r la lc ta tc S ++ [GrpP g (S.drop tx), BlkP kx 47 [.int .i64 kd, .int .i64 tx, .int .i64 wd, .int .i64 tk]]) := O5
                  replace B5 := B1.drew.trans B5
                  have hDr := Box.mk (ref_drop O5 HOK.out tx)
                  rw [HDM.out] at hDr
                  have HS1 := (O5.blk 4 rfl).1
                  refine ⟨_, rfl, hK'.out _ _ HS1 (fun _ => ?_)⟩
                  clear hK' K'
                  conv =>
                    arg 8
                    simp [go_sem]
                  conv =>
                    arg 8
                    simp [go_sem]
                  refine wpAnyH_ready (rs := [7]) (by kernel_rfl) (by simp) (AllReadyH.cons rfl (fun K' hK' => oper_call (by rfl) 23 [.tmp 113, .tmp 115] #[44, 3] rfl (vs := [.pointer (some ⟨r, 0, none⟩), .int .i64 tx]) rfl Try.func23 nm23 bd23 (hDr.out) ?_) AllReadyH.nil)
                  rintro e w6 ⟨la, lc, ta, tc, rfl, O6, B6⟩
                  replace B6 := B5.trans B6
                  have HS2 := (O6.blk 4 rfl).1
                  refine ⟨_, rfl, hK'.out _ _ HS2 (fun _ => ?_)⟩
                  clear hK' K'
                  conv =>
                    arg 8
                    simp [go_sem]
                  refine wpAnyH_take (i := 8) (v := ?_) rfl (by kernel_rfl) (by kernel_rfl) (by kernel_rfl) (fun _ _ _ h => h) (yieldsIf_val (by rfl) (fun w' hS => ?_)) HS2 ?_
                  rotate_left
                  · skip
                    go_simp
                    all_goals with_reducible rfl
                  conv =>
                    arg 8
                    simp [go_sem]
                  refine ⟨by kernel_rfl, ?_⟩
                  conv =>
                    arg 5
                    simp [go_sem]
                  go_wp2_with fail
                  go_meet
                  exact ⟨rfl, S.drop tx, la, lc, ta, tc, O6.drop 4, B6⟩
                · have k2 : (kd == 2) = false := by simp [h2]
                  clear h2
                  have HS0 := (O1.blk 4 rfl).1.drew
                  have hAg := Box.mk (ask_own O1.drew 3 rfl tx wd tk HIN.out)
                  have hRa := Box.mk (fun (w9 : World) (l : List HP) (O : Own w.heap.size w9 (RefL r la lc ta tc S ++ l)) => ref_ask O HOK.out tx wd tk)
                  generalize S.ask tx wd tk = res at *
                  obtain ⟨S2, v⟩ := res
                  have hdd : (v != v) = false := by simp
                  simp only at hAg hRa
                  go_wp2_with fail
                  refine wp_region_held_drew (S := fun w' => Blk w' kx 47 [.int .i64 kd, .int .i64 tx, .int .i64 wd, .int .i64 tk]) (by kernel_rfl) HS0 (fun _ => ?_)
                  refine wpAnyH_take (i := 0) (v := ?_) rfl (by kernel_rfl) (by kernel_rfl) (by kernel_rfl) (fun _ _ _ h => h) (yieldsIf_val (by rfl) (fun w' hS => ?_)) HS0 ?_
                  rotate_left
                  · skip
                    go_simp
                    all_goals with_reducible rfl
                  refine wpAnyH_take (i := 1) (v := ?_) rfl (by kernel_rfl) (by kernel_rfl) (by kernel_rfl) (fun _ _ _ h => h) (yieldsIf_val (by rfl) (fun w' hS => ?_)) HS0 ?_
                  rotate_left
                  · skip
                    go_simp
                    all_goals with_reducible rfl
                  refine wpAnyH_take (i := 2) (v := ?_) rfl (by kernel_rfl) (by kernel_rfl) (by kernel_rfl) (fun _ _ _ h => h) (yieldsIf_val (by rfl) (fun w' hS => ?_)) HS0 ?_
                  rotate_left
                  · skip
                    have d1 := hS.cellOf (i := 1) rfl
                    have d2 := hS.cellOf (i := 2) rfl
                    have d3 := hS.cellOf (i := 3) rfl
                    go_simp
                    all_goals with_reducible rfl
                  refine wpAnyH_take (i := 3) (v := ?_) rfl (by kernel_rfl) (by kernel_rfl) (by kernel_rfl) (fun _ _ _ h => h) (yieldsIf_val (by rfl) (fun w' hS => ?_)) HS0 ?_
                  rotate_left
                  · skip
                    go_simp
                    all_goals with_reducible rfl
                  refine wpAnyH_take (i := 4) (v := ?_) rfl (by kernel_rfl) (by kernel_rfl) (by kernel_rfl) (fun _ _ _ h => h) (yieldsIf_val (by rfl) (fun w' hS => ?_)) HS0 ?_
                  rotate_left
                  · skip
                    have d1 := hS.cellOf (i := 1) rfl
                    have d2 := hS.cellOf (i := 2) rfl
                    have d3 := hS.cellOf (i := 3) rfl
                    go_simp
                    all_goals with_reducible rfl
                  conv =>
                    arg 8
                    simp [go_sem]
                  refine wpAnyH_take (i := 5) (v := ?_) rfl (by kernel_rfl) (by kernel_rfl) (by kernel_rfl) (fun _ _ _ h => h) (yieldsIf_val (by rfl) (fun w' hS => ?_)) HS0 ?_
                  rotate_left
                  · skip
                    go_simp
                    all_goals with_reducible rfl
                  conv =>
                    arg 8
                    simp [go_sem]
                  refine wpAnyH_take (i := 6) (v := ?_) rfl (by kernel_rfl) (by kernel_rfl) (by kernel_rfl) (fun _ _ _ h => h) (yieldsIf_val (by rfl) (fun w' hS => ?_)) HS0 ?_
                  rotate_left
                  · skip
                    have d1 := hS.cellOf (i := 1) rfl
                    have d2 := hS.cellOf (i := 2) rfl
                    have d3 := hS.cellOf (i := 3) rfl
                    go_simp
                    all_goals with_reducible rfl
                  conv =>
                    arg 8
                    simp [go_sem]
                  refine wpAnyH_take (i := 8) (v := ?_) rfl (by kernel_rfl) (by kernel_rfl) (by kernel_rfl) (fun _ _ _ h => h) (yieldsIf_val (by rfl) (fun w' hS => ?_)) HS0 ?_
                  rotate_left
                  · skip
                    go_simp
                    all_goals with_reducible rfl
                  conv =>
                    arg 8
                    simp [go_sem]
                  refine wpAnyH_take (i := 9) (v := ?_) rfl (by kernel_rfl) (by kernel_rfl) (by kernel_rfl) (fun _ _ _ h => h) (yieldsIf_val (by rfl) (fun w' hS => ?_)) HS0 ?_
                  rotate_left
                  · skip
                    go_simp
                    all_goals with_reducible rfl
                  refine wpAnyH_take (i := 10) (v := ?_) rfl (by kernel_rfl) (by kernel_rfl) (by kernel_rfl) (fun _ _ _ h => h) (yieldsIf_val (by rfl) (fun w' hS => ?_)) HS0 ?_
                  rotate_left
                  · skip
                    have d1 := hS.cellOf (i := 1) rfl
                    have d2 := hS.cellOf (i := 2) rfl
                    have d3 := hS.cellOf (i := 3) rfl
                    go_simp
                    all_goals with_reducible rfl
                  conv =>
                    arg 8
                    simp [go_sem]
                  refine wpAnyH_take (i := 11) (v := ?_) rfl (by kernel_rfl) (by kernel_rfl) (by kernel_rfl) (fun _ _ _ h => h) (yieldsIf_val (by rfl) (fun w' hS => ?_)) HS0 ?_
                  rotate_left
                  · skip
                    go_simp
                    all_goals with_reducible rfl
                  refine wpAnyH_take (i := 12) (v := ?_) rfl (by kernel_rfl) (by kernel_rfl) (by kernel_rfl) (fun _ _ _ h => h) (yieldsIf_val (by rfl) (fun w' hS => ?_)) HS0 ?_
                  rotate_left
                  · skip
                    have d1 := hS.cellOf (i := 1) rfl
                    have d2 := hS.cellOf (i := 2) rfl
                    have d3 := hS.cellOf (i := 3) rfl
                    go_simp
                    all_goals with_reducible rfl
                  refine wpAnyH_take (i := 13) (v := ?_) rfl (by kernel_rfl) (by kernel_rfl) (by kernel_rfl) (fun _ _ _ h => h) (yieldsIf_val (by rfl) (fun w' hS => ?_)) HS0 ?_
                  rotate_left
                  · skip
                    go_simp
                    all_goals with_reducible rfl
                  refine wpAnyH_take (i := 14) (v := ?_) rfl (by kernel_rfl) (by kernel_rfl) (by kernel_rfl) (fun _ _ _ h => h) (yieldsIf_val (by rfl) (fun w' hS => ?_)) HS0 ?_
                  rotate_left
                  · skip
                    have d1 := hS.cellOf (i := 1) rfl
                    have d2 := hS.cellOf (i := 2) rfl
                    have d3 := hS.cellOf (i := 3) rfl
                    go_simp
                    all_goals with_reducible rfl
                  conv =>
                    arg 8
                    simp [go_sem]
                  conv =>
                    arg 8
                    simp [go_sem]
                  refine wpAnyH_ready (rs := [7]) (by kernel_rfl) (by simp) (AllReadyH.cons rfl (fun K' hK' => oper_call (by rfl) 10 [.tmp 57, .tmp 59, .tmp 61, .tmp 63] #[23, 3, 3, 3] rfl (vs := [.pointer (some ⟨g, 0, none⟩), .int .i64 tx, .int .i64 wd, .int .i64 tk]) rfl Try.func10 nm10 bd10 (hAg.out) ?_) AllReadyH.nil)
                  rintro e w5 ⟨rfl, O5, B5⟩
                  replace O5 : Own w.heap.size w5 (RefL r la lc ta tc S ++ [GrpP g S2, BlkP kx 47 [.int .i64 kd, .int .i64 tx, .int .i64 wd, .int .i64 tk]]) := O5
                  replace B5 := B1.drew.trans B5
                  have hAr := Box.mk (hRa.out w5 _ O5)
                  have HS1 := (O5.blk 4 rfl).1
                  refine ⟨_, rfl, hK'.out _ _ HS1 (fun _ => ?_)⟩
                  clear hK' K'
                  conv =>
                    arg 8
                    simp [go_sem]
                  conv =>
                    arg 8
                    simp [go_sem]
                  refine wpAnyH_ready (rs := [15]) (by kernel_rfl) (by simp) (AllReadyH.cons rfl (fun K' hK' => oper_call (by rfl) 24 [.tmp 65, .tmp 67, .tmp 69, .tmp 71] #[44, 3, 3, 3] rfl (vs := [.pointer (some ⟨r, 0, none⟩), .int .i64 tx, .int .i64 wd, .int .i64 tk]) rfl Try.func24 nm24 bd24 (hAr.out) ?_) AllReadyH.nil)
                  rintro e w6 ⟨la, lc, ta, tc, rfl, O6, B6⟩
                  replace B6 := B5.trans B6
                  have HS2 := (O6.blk 4 rfl).1
                  refine ⟨_, rfl, hK'.out _ _ HS2 (fun _ => ?_)⟩
                  clear hK' K'
                  conv =>
                    arg 8
                    simp [go_sem]
                  refine wpAnyH_take (i := 16) (v := ?_) rfl (by kernel_rfl) (by kernel_rfl) (by kernel_rfl) (fun _ _ _ h => h) (yieldsIf_val (by rfl) (fun w' hS => ?_)) HS2 ?_
                  rotate_left
                  · skip
                    go_simp
                    all_goals with_reducible rfl
                  refine ⟨by kernel_rfl, ?_⟩
                  conv =>
                    arg 5
                    simp [go_sem]
                  go_wp2_with fail
                  go_meet
                  exact ⟨rfl, S2, la, lc, ta, tc, O6.drop 4, B6⟩
          case rest =>
            obtain ⟨rfl, S, la, lc, ta, tc, O, BW⟩ := hcut
            clear O1 B1 HOK HIN
            have HOK := Box.mk (O.ok 3 rfl)
            have hOp := Box.mk (open_own O 3 rfl)
            unfold RetOpenO at hOp
            have ho1 : (S.opn != S.opn) = false := by simp
            have ho2 : (S.stamp != S.stamp) = false := by simp
            have ho3 : (S.due tick != S.due tick) = false := by simp
            go_wp2_with fail
            refine hOp.out.mono ?_
            clear hOp
            rintro e w5 ⟨a5, c5, rfl, O5, B5⟩
            replace B5 := BW.trans B5
            clear O BW
            go_wp2_with ((with_reducible show wpList _ _ _ _ _ _); refine wpList_store_fresh (o := ⟨none, .store 32 (.tmp 21) (.tmp 121), _, _, _, _⟩) (cs := [.int .i64 S.first, .slice a5 S.txs.length c5]) rfl 32 _ _ rfl rfl agg32.info rfl rfl rfl rfl (by simp [Value.oneCell']) ?_)
            have O6 := O5.new [.int .i64 S.first, .slice a5 S.txs.length c5] 32
            have B6 := B5.alloc O5.base (.cells #[.int .i64 S.first, .slice a5 S.txs.length c5] 32)
            replace O6 : Own w.heap.size (w5.alloc (.cells #[.int .i64 S.first, .slice a5 S.txs.length c5] 32)) (RefL r la lc ta tc S ++ [GrpP g S, RdP 1 a5 S.txs.length c5 (intVals S.txs), BlkP w5.heap.size 32 [.int .i64 S.first, .slice a5 S.txs.length c5]]) := O6
            clear O5 B5
            obtain ⟨kz, hkz⟩ : ∃ kz, kz = w5.heap.size := ⟨_, rfl⟩
            rw [← hkz] at O6 ⊢
            clear hkz
            generalize (w5.alloc (.cells #[.int .i64 S.first, .slice a5 S.txs.length c5] 32)) = w6 at *
            have HS0 := And.intro O6.drew B6.drew
            clear O6 B6
            refine wp_region_held_drew (S := fun w' => Own w.heap.size w' (RefL r la lc ta tc S ++ [GrpP g S, RdP 1 a5 S.txs.length c5 (intVals S.txs), BlkP kz 32 [.int .i64 S.first, .slice a5 S.txs.length c5]]) ∧ Below w.heap.size w w') (by kernel_rfl) HS0 (fun _ => ?_)
            refine wpAnyH_take (i := 0) (v := ?_) rfl (by kernel_rfl) (by kernel_rfl) (by kernel_rfl) (fun _ _ _ h => h) (yieldsIf_val (by rfl) (fun w' hS => ?_)) HS0 ?_
            rotate_left
            · skip
              go_simp
              all_goals with_reducible rfl
            refine wpAnyH_take (i := 1) (v := ?_) rfl (by kernel_rfl) (by kernel_rfl) (by kernel_rfl) (fun _ _ _ h => h) (yieldsIf_val (by rfl) (fun w' hS => ?_)) HS0 ?_
            rotate_left
            · skip
              go_simp
              all_goals with_reducible rfl
            refine wpAnyH_take (i := 2) (v := ?_) rfl (by kernel_rfl) (by kernel_rfl) (by kernel_rfl) (fun _ _ _ h => h) (yieldsIf_val (by rfl) (fun w' hS => ?_)) HS0 ?_
            rotate_left
            · skip
              go_simp
              all_goals with_reducible rfl
            refine wpAnyH_take (i := 3) (v := ?_) rfl (by kernel_rfl) (by kernel_rfl) (by kernel_rfl) (fun _ _ _ h => h) (yieldsIf_val (by rfl) (fun w' hS => ?_)) HS0 ?_
            rotate_left
            · skip
              go_simp
              all_goals with_reducible rfl
            refine wpAnyH_take (i := 4) (v := ?_) rfl (by kernel_rfl) (by kernel_rfl) (by kernel_rfl) (fun _ _ _ h => h) (yieldsIf_val (by rfl) (fun w' hS => ?_)) HS0 ?_
            rotate_left
            · skip
              have e5 := (hS.1.blk 0 rfl).1.cellOf (i := 5) rfl
              go_simp
              all_goals with_reducible rfl
            conv =>
              arg 8
              simp [go_sem]
            refine wpAnyH_take (i := 5) (v := ?_) rfl (by kernel_rfl) (by kernel_rfl) (by kernel_rfl) (fun _ _ _ h => h) (yieldsIf_val (by rfl) (fun w' hS => ?_)) HS0 ?_
            rotate_left
            · skip
              go_simp
              all_goals with_reducible rfl
            conv =>
              arg 8
              simp [go_sem]
            refine wpAnyH_take (i := 6) (v := ?_) rfl (by kernel_rfl) (by kernel_rfl) (by kernel_rfl) (fun _ _ _ h => h) (yieldsIf_val (by rfl) (fun w' hS => ?_)) HS0 ?_
            rotate_left
            · skip
              go_simp
              all_goals with_reducible rfl
            conv =>
              arg 8
              simp [go_sem]
            refine wpAnyH_take (i := 7) (v := ?_) rfl (by kernel_rfl) (by kernel_rfl) (by kernel_rfl) (fun _ _ _ h => h) (yieldsIf_val (by rfl) (fun w' hS => ?_)) HS0 ?_
            rotate_left
            · skip
              have e0 := (hS.1.blk 5 rfl).1.cellOf (i := 0) rfl
              have e1 := (hS.1.blk 5 rfl).1.cellOf (i := 1) rfl
              go_simp
              all_goals with_reducible rfl
            refine wpAnyH_take (i := 8) (v := ?_) rfl (by kernel_rfl) (by kernel_rfl) (by kernel_rfl) (fun _ _ _ h => h) (yieldsIf_val (by rfl) (fun w' hS => ?_)) HS0 ?_
            rotate_left
            · skip
              go_simp
              all_goals with_reducible rfl
            conv =>
              arg 8
              simp [go_sem]
            refine wpAnyH_take (i := 9) (v := ?_) rfl (by kernel_rfl) (by kernel_rfl) (by kernel_rfl) (fun _ _ _ h => h) (yieldsIf_val (by rfl) (fun w' hS => ?_)) HS0 ?_
            rotate_left
            · skip
              go_simp
              all_goals with_reducible rfl
            refine wpAnyH_take (i := 10) (v := ?_) rfl (by kernel_rfl) (by kernel_rfl) (by kernel_rfl) (fun _ _ _ h => h) (yieldsIf_val (by rfl) (fun w' hS => ?_)) HS0 ?_
            rotate_left
            · skip
              go_simp
              all_goals with_reducible rfl
            conv =>
              arg 8
              simp [go_sem]
            refine wpAnyH_take (i := 11) (v := ?_) rfl (by kernel_rfl) (by kernel_rfl) (by kernel_rfl) (fun _ _ _ h => h) (yieldsIf_val (by rfl) (fun w' hS => ?_)) HS0 ?_
            rotate_left
            · skip
              have e6 := (hS.1.blk 0 rfl).1.cellOf (i := 6) rfl
              have e7 := (hS.1.blk 0 rfl).1.cellOf (i := 7) rfl
              go_simp
              all_goals with_reducible rfl
            have hSB := Box.mk (sameBatch_any S.first S.first S.txs S.txs a5 ta S.txs.length S.txs.length c5 tc _ (HS0.1.rd 4 rfl) (HS0.1.rd 2 rfl))
            rw [sameBt_self] at hSB
            conv =>
              arg 8
              simp [go_sem]
            refine wpAnyH_ready (rs := [12]) (by kernel_rfl) (by simp) (AllReadyH.cons rfl (fun K' hK' => oper_call (by rfl) 20 [.tmp 130, .tmp 134] #[32, 32] rfl (vs := [.agg #[.int .i64 S.first, .slice a5 S.txs.length c5], .agg #[.int .i64 S.first, .slice ta S.txs.length tc]]) rfl Try.func20 nm20 bd20 (hSB.out) ?_) AllReadyH.nil)
            rintro e w6 ⟨rfl, hb6⟩
            have HS1 := And.intro (HS0.1.below hb6) (HS0.2.trans (hb6.mono HS0.1.base))
            refine ⟨_, rfl, hK'.out _ _ HS1 (fun _ => ?_)⟩
            clear hK' K'
            conv =>
              arg 8
              simp [go_sem]
            refine wpAnyH_take (i := 13) (v := ?_) rfl (by kernel_rfl) (by kernel_rfl) (by kernel_rfl) (fun _ _ _ h => h) (yieldsIf_val (by rfl) (fun w' hS => ?_)) HS1 ?_
            rotate_left
            · skip
              go_simp
              all_goals with_reducible rfl
            refine wpAnyH_take (i := 14) (v := ?_) rfl (by kernel_rfl) (by kernel_rfl) (by kernel_rfl) (fun _ _ _ h => h) (yieldsIf_val (by rfl) (fun w' hS => ?_)) HS1 ?_
            rotate_left
            · skip
              go_simp
              all_goals with_reducible rfl
            conv =>
              arg 8
              simp [go_sem]
            refine wpAnyH_take (i := 15) (v := ?_) rfl (by kernel_rfl) (by kernel_rfl) (by kernel_rfl) (fun _ _ _ h => h) (yieldsIf_val (by rfl) (fun w' hS => ?_)) HS1 ?_
            rotate_left
            · skip
              go_simp
              all_goals with_reducible rfl
            conv =>
              arg 8
              simp [go_sem]
            refine wpAnyH_take (i := 16) (v := ?_) rfl (by kernel_rfl) (by kernel_rfl) (by kernel_rfl) (fun _ _ _ h => h) (yieldsIf_val (by rfl) (fun w' hS => ?_)) HS1 ?_
            rotate_left
            · skip
              go_simp
              all_goals with_reducible rfl
            refine wpAnyH_take (i := 18) (v := ?_) rfl (by kernel_rfl) (by kernel_rfl) (by kernel_rfl) (fun _ _ _ h => h) (yieldsIf_val (by rfl) (fun w' hS => ?_)) HS1 ?_
            rotate_left
            · skip
              go_simp
              all_goals with_reducible rfl
            have hWg := Box.mk (waiting_own HS1.1 3 rfl)
            conv =>
              arg 8
              simp [go_sem]
            refine wpAnyH_ready (rs := [17]) (by kernel_rfl) (by simp) (AllReadyH.cons rfl (fun K' hK' => oper_call (by rfl) 16 [.tmp 139] #[23] rfl (vs := [.pointer (some ⟨g, 0, none⟩)]) rfl Try.func16 nm16 bd16 (hWg.out) ?_) AllReadyH.nil)
            rintro e w7 ⟨a7, c7, rfl, O7, B7⟩
            have R7 := Rd.ofOwn (O7.row 6 rfl)
            rw [List.length_map] at R7
            have hWr := Box.mk (ref_waiting (O7.pop) HOK.out)
            have HS2 := And.intro O7.pop (HS1.2.trans B7)
            refine ⟨_, rfl, hK'.out _ _ HS2 (fun _ => ?_)⟩
            clear hK' K'
            conv =>
              arg 8
              simp [go_sem]
            conv =>
              arg 8
              simp [go_sem]
            refine wpAnyH_ready (rs := [19]) (by kernel_rfl) (by simp) (AllReadyH.cons rfl (fun K' hK' => oper_call (by rfl) 27 [.tmp 141] #[44] rfl (vs := [.pointer (some ⟨r, 0, none⟩)]) rfl Try.func27 nm27 bd27 (hWr.out) ?_) AllReadyH.nil)
            rintro e w8 ⟨a8, c8, rfl, own8, hb8⟩
            have R8 := Rd.ofOwn own8
            rw [List.length_map] at R8
            have hSI := sameInts_any (S.q.map Nd.tx) (S.q.map Nd.tx) a7 a8 S.q.length S.q.length c7 c8 w8 (R7.call0 hb8) R8
            rw [decide_eq_true rfl] at hSI
            replace hSI := Box.mk hSI
            have HS3 := And.intro (HS2.1.below hb8) (HS2.2.trans (hb8.mono HS2.1.base))
            refine ⟨_, rfl, hK'.out _ _ HS3 (fun _ => ?_)⟩
            clear hK' K'
            conv =>
              arg 8
              simp [go_sem]
            conv =>
              arg 8
              simp [go_sem]
            refine wpAnyH_ready (rs := [20]) (by kernel_rfl) (by simp) (AllReadyH.cons rfl (fun K' hK' => oper_call (by rfl) 26 [.tmp 140, .tmp 142] #[22, 22] rfl (vs := [.slice a7 S.q.length c7, .slice a8 S.q.length c8]) rfl Try.func26 nm26 bd26 (hSI.out) ?_) AllReadyH.nil)
            rintro e w9 ⟨rfl, n9, rfl⟩
            have HS4 := And.intro (HS3.1.drewN n9) (below_drewN HS3.2 n9)
            refine ⟨_, rfl, hK'.out _ _ HS4 (fun _ => ?_)⟩
            clear hK' K'
            conv =>
              arg 8
              simp [go_sem]
            refine wpAnyH_take (i := 21) (v := ?_) rfl (by kernel_rfl) (by kernel_rfl) (by kernel_rfl) (fun _ _ _ h => h) (yieldsIf_val (by rfl) (fun w' hS => ?_)) HS4 ?_
            rotate_left
            · skip
              go_simp
              all_goals with_reducible rfl
            refine wpAnyH_take (i := 22) (v := ?_) rfl (by kernel_rfl) (by kernel_rfl) (by kernel_rfl) (fun _ _ _ h => h) (yieldsIf_val (by rfl) (fun w' hS => ?_)) HS4 ?_
            rotate_left
            · skip
              go_simp
              all_goals with_reducible rfl
            conv =>
              arg 8
              simp [go_sem]
            refine wpAnyH_take (i := 23) (v := ?_) rfl (by kernel_rfl) (by kernel_rfl) (by kernel_rfl) (fun _ _ _ h => h) (yieldsIf_val (by rfl) (fun w' hS => ?_)) HS4 ?_
            rotate_left
            · skip
              go_simp
              all_goals with_reducible rfl
            conv =>
              arg 8
              simp [go_sem]
            refine wpAnyH_take (i := 24) (v := ?_) rfl (by kernel_rfl) (by kernel_rfl) (by kernel_rfl) (fun _ _ _ h => h) (yieldsIf_val (by rfl) (fun w' hS => ?_)) HS4 ?_
            rotate_left
            · skip
              go_simp
              all_goals with_reducible rfl
            refine wpAnyH_take (i := 26) (v := ?_) rfl (by kernel_rfl) (by kernel_rfl) (by kernel_rfl) (fun _ _ _ h => h) (yieldsIf_val (by rfl) (fun w' hS => ?_)) HS4 ?_
            rotate_left
            · skip
              go_simp
              all_goals with_reducible rfl
            refine wpAnyH_take (i := 27) (v := ?_) rfl (by kernel_rfl) (by kernel_rfl) (by kernel_rfl) (fun _ _ _ h => h) (yieldsIf_val (by rfl) (fun w' hS => ?_)) HS4 ?_
            rotate_left
            · skip
              go_simp
              all_goals with_reducible rfl
            refine wpAnyH_take (i := 28) (v := ?_) rfl (by kernel_rfl) (by kernel_rfl) (by kernel_rfl) (fun _ _ _ h => h) (yieldsIf_val (by rfl) (fun w' hS => ?_)) HS4 ?_
            rotate_left
            · skip
              go_simp
              all_goals with_reducible rfl
            refine wpAnyH_take (i := 29) (v := ?_) rfl (by kernel_rfl) (by kernel_rfl) (by kernel_rfl) (fun _ _ _ h => h) (yieldsIf_val (by rfl) (fun w' hS => ?_)) HS4 ?_
            rotate_left
            · skip
              have e3 := (hS.1.blk 0 rfl).1.cellOf (i := 3) rfl
              go_simp
              all_goals with_reducible rfl
            have hNx := Box.mk (next_own HS4.1 3 rfl)
            conv =>
              arg 8
              simp [go_sem]
            refine wpAnyH_ready (rs := [25]) (by kernel_rfl) (by simp) (AllReadyH.cons rfl (fun K' hK' => oper_call (by rfl) 28 [.tmp 147] #[23] rfl (vs := [.pointer (some ⟨g, 0, none⟩)]) rfl Try.func28 nm28 bd28 (hNx.out) ?_) AllReadyH.nil)
            rintro e w10 ⟨rfl, rfl⟩
            have HS5 := HS4
            refine ⟨_, rfl, hK'.out _ _ HS5 (fun _ => ?_)⟩
            clear hK' K'
            conv =>
              arg 8
              simp [go_sem]
            refine wpAnyH_take (i := 30) (v := ?_) rfl (by kernel_rfl) (by kernel_rfl) (by kernel_rfl) (fun _ _ _ h => h) (yieldsIf_val (by rfl) (fun w' hS => ?_)) HS5 ?_
            rotate_left
            · skip
              go_simp
              all_goals with_reducible rfl
            refine wpAnyH_take (i := 31) (v := ?_) rfl (by kernel_rfl) (by kernel_rfl) (by kernel_rfl) (fun _ _ _ h => h) (yieldsIf_val (by rfl) (fun w' hS => ?_)) HS5 ?_
            rotate_left
            · skip
              go_simp
              all_goals with_reducible rfl
            conv =>
              arg 8
              simp [go_sem]
            refine wpAnyH_take (i := 32) (v := ?_) rfl (by kernel_rfl) (by kernel_rfl) (by kernel_rfl) (fun _ _ _ h => h) (yieldsIf_val (by rfl) (fun w' hS => ?_)) HS5 ?_
            rotate_left
            · skip
              go_simp
              all_goals with_reducible rfl
            conv =>
              arg 8
              simp [go_sem]
            refine wpAnyH_take (i := 33) (v := ?_) rfl (by kernel_rfl) (by kernel_rfl) (by kernel_rfl) (fun _ _ _ h => h) (yieldsIf_val (by rfl) (fun w' hS => ?_)) HS5 ?_
            rotate_left
            · skip
              go_simp
              all_goals with_reducible rfl
            refine wpAnyH_take (i := 34) (v := ?_) rfl (by kernel_rfl) (by kernel_rfl) (by kernel_rfl) (fun _ _ _ h => h) (yieldsIf_val (by rfl) (fun w' hS => ?_)) HS5 ?_
            rotate_left
            · skip
              go_simp
              all_goals with_reducible rfl
            refine wpAnyH_take (i := 36) (v := ?_) rfl (by kernel_rfl) (by kernel_rfl) (by kernel_rfl) (fun _ _ _ h => h) (yieldsIf_val (by rfl) (fun w' hS => ?_)) HS5 ?_
            rotate_left
            · skip
              go_simp
              all_goals with_reducible rfl
            refine wpAnyH_take (i := 37) (v := ?_) rfl (by kernel_rfl) (by kernel_rfl) (by kernel_rfl) (fun _ _ _ h => h) (yieldsIf_val (by rfl) (fun w' hS => ?_)) HS5 ?_
            rotate_left
            · skip
              go_simp
              all_goals with_reducible rfl
            have hDg := Box.mk (due_own HS5.1 3 rfl tick)
            conv =>
              arg 8
              simp [go_sem]
            refine wpAnyH_ready (rs := [35]) (by kernel_rfl) (by simp) (AllReadyH.cons rfl (fun K' hK' => oper_call (by rfl) 13 [.tmp 156, .tmp 157] #[23, 3] rfl (vs := [.pointer (some ⟨g, 0, none⟩), .int .i64 tick]) rfl Try.func13 nm13 bd13 (hDg.out) ?_) AllReadyH.nil)
            rintro e w11 ⟨rfl, n11, rfl⟩
            have hDr := Box.mk (ref_due (HS5.1.drewN n11) HOK.out tick)
            have HS6 := And.intro (HS5.1.drewN n11) (below_drewN HS5.2 n11)
            refine ⟨_, rfl, hK'.out _ _ HS6 (fun _ => ?_)⟩
            clear hK' K'
            conv =>
              arg 8
              simp [go_sem]
            conv =>
              arg 8
              simp [go_sem]
            refine wpAnyH_ready (rs := [38]) (by kernel_rfl) (by simp) (AllReadyH.cons rfl (fun K' hK' => oper_call (by rfl) 29 [.tmp 159, .tmp 160] #[44, 3] rfl (vs := [.pointer (some ⟨r, 0, none⟩), .int .i64 tick]) rfl Try.func29 nm29 bd29 (hDr.out) ?_) AllReadyH.nil)
            rintro e w12 ⟨rfl, n12, rfl⟩
            have HS7 := And.intro (HS6.1.drewN n12) (below_drewN HS6.2 n12)
            refine ⟨_, rfl, hK'.out _ _ HS7 (fun _ => ?_)⟩
            clear hK' K'
            conv =>
              arg 8
              simp [go_sem]
            refine wpAnyH_take (i := 39) (v := ?_) rfl (by kernel_rfl) (by kernel_rfl) (by kernel_rfl) (fun _ _ _ h => h) (yieldsIf_val (by rfl) (fun w' hS => ?_)) HS7 ?_
            rotate_left
            · skip
              go_simp
              all_goals with_reducible rfl
            refine wpAnyH_take (i := 40) (v := ?_) rfl (by kernel_rfl) (by kernel_rfl) (by kernel_rfl) (fun _ _ _ h => h) (yieldsIf_val (by rfl) (fun w' hS => ?_)) HS7 ?_
            rotate_left
            · skip
              go_simp
              all_goals with_reducible rfl
            refine ⟨by kernel_rfl, ?_⟩
            conv =>
              arg 5
              simp [go_sem]
            go_wp2_with fail
            rw [World.drewN_drewN, World.drewN_drewN, ← Nat.add_assoc] at HS7
            go_roundw
            case rel => exact ⟨i + 1, S, la, lc, ta, tc, by omega, by go_num, (HS7.1.drop 5).drop 4, HS7.2⟩
            case measure => simp [intOf]; omega
        · obtain rfl : i = n := by omega
          go_wp2_with fail
          refine (sanity_own O).mono ?_
          rintro e w4 ⟨rfl, O4, B4⟩
          replace B4 := BW.trans B4
          go_wp2_with fail
          go_ret
          exact ⟨rfl, B4⟩
end Go.Proofs.Ytkloafpoldmpkaa
