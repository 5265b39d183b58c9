/-
  The walk of sanity. No condition.
-/
import Derived.Test.YtkloafpoldmpkaaSames
namespace Go.Proofs.Ytkloafpoldmpkaa
open Go.RowKit

section
variable {B : Nat} {w : World} {l : List HP} (O : Own B w l) (i : Nat) {g : Nat} {S : GS} (hi : l[i]? = some (GrpP g S))
include O hi
theorem ask_to {S' : GS} {v : Int} (tx words tick : Int) (h : S.ask tx words tick = (S', v)) (hx : In64 tx) :
    Calls Try.prog 10 #[.pointer (some ⟨g, 0, none⟩), .int .i64 tx, .int .i64 words, .int .i64 tick] w (RetW (.int .i64 v) B (l.set i (GrpP g S')) w) := by
  have := ask_own O i hi tx words tick hx
  rw [h] at this
  exact this
theorem due_to {d : Bool} (tick : Int) (h : S.due tick = d) : Calls Try.prog 13 #[.pointer (some ⟨g, 0, none⟩), .int .i64 tick] w (RetQ (.bool d) w) := by
  have := due_own O i hi tick
  rw [h] at this
  exact this
def RetCutT (S' : GS) (d : Bool) (f : Int) (xs : List Int) (B : Nat) (l : List HP) (i g : Nat) (w : World) (e : Ending) (w' : World) : Prop :=
  ∃ a cap, e = .returned (.tuple #[.agg #[.int .i64 f, .slice a xs.length cap], .bool d]) ∧ Own B w' (l.set i (GrpP g S') ++ [RdP 1 a xs.length cap (intVals xs)]) ∧ Below B w w'
theorem cut_to {S' : GS} {d : Bool} {f : Int} {xs : List Int} (tick : Int) (h1 : S.due tick = d) (h2 : S.tryCut tick = S') (h3 : S.cutFirst tick = f) (h4 : S.cutTxs tick = xs) :
    Calls Try.prog 11 #[.pointer (some ⟨g, 0, none⟩), .int .i64 tick] w (RetCutT S' d f xs B l i g w) := by
  have := cut_own O i hi tick
  unfold RetCutO at this
  rw [h1, h2, h3, h4] at this
  exact this
def RetDoneT (S' : GS) (rs : List (Int × Int)) (B : Nat) (l : List HP) (i g : Nat) (w : World) (e : Ending) (w' : World) : Prop :=
  ∃ a cap, e = .returned (.slice a rs.length cap) ∧ Own B w' (l.set i (GrpP g S') ++ [RowP 65 2 a rs.length cap (repC rs)]) ∧ Below B w w'
def GS.reps (S : GS) : List (Int × Int) := (List.range S.txs.length).map fun i => (S.txs.getD i 0, S.first + (i : Int))
theorem done_to {S' : GS} {rs : List (Int × Int)} (h1 : S.done = S') (h2 : S.reps = rs) : Calls Try.prog 12 #[.pointer (some ⟨g, 0, none⟩)] w (RetDoneT S' rs B l i g w) := by
  refine (done_own O i hi).mono ?_
  rintro e w' ⟨a, cap, rfl, O1, B1⟩
  have hl : rs.length = S.txs.length := by rw [← h2]; simp [GS.reps]
  rw [h1, repVals_eq] at O1
  exact ⟨a, cap, by rw [hl], by rw [hl, ← h2]; exact O1, B1⟩
end

def Z0 : GS := ⟨2, 10, 3, 5, [], false, 0, []⟩
def Z1 : GS := ⟨2, 10, 3, 5, [⟨7, 4, 0⟩], false, 0, []⟩
def Z2 : GS := ⟨2, 10, 3, 5, [⟨7, 4, 0⟩, ⟨8, 4, 1⟩], false, 0, []⟩
def Z3 : GS := ⟨2, 10, 3, 7, [], true, 5, [7, 8]⟩
def Z4 : GS := ⟨2, 10, 3, 7, [⟨9, 1, 1⟩], true, 5, [7, 8]⟩
def Z5 : GS := ⟨2, 10, 3, 7, [⟨9, 1, 1⟩], false, 0, []⟩
def Y1 : GS := ⟨2, 10, 3, 5, [⟨7, 6, 0⟩], false, 0, []⟩
def Y2 : GS := ⟨2, 10, 3, 5, [⟨7, 6, 0⟩, ⟨8, 6, 0⟩], false, 0, []⟩
def Y3 : GS := ⟨2, 10, 3, 6, [⟨8, 6, 0⟩], true, 5, [7]⟩

theorem in64 (x : Int) (h : -100 ≤ x ∧ x ≤ 100) : In64 x := by unfold In64; omega

set_option maxRecDepth 20000 in
set_option maxHeartbeats 4000000 in
theorem sanity_own {B : Nat} {w : World} {l : List HP} (O : Own B w l) : Calls Try.prog 9 #[] w (RetW (.bool true) B l w) := by
  have N1 := new_own (Own.start w) 2 10 3 5 (by decide)
  go_enter Try.func9, Try.ntmps9
  go_wp2_with fail
  refine N1.mono ?_
  rintro e w1 ⟨g, rfl, O1, B1⟩
  replace O1 : Own w.heap.size w1 [GrpP g Z0] := O1
  clear N1
  go_wp2_with fail
  refine (new_own O1 2 10 3 5 (by decide)).mono ?_
  rintro e w2 ⟨h, rfl, O2, B2⟩
  replace O2 : Own w.heap.size w2 [GrpP g Z0, GrpP h Z0] := O2
  have B2 := B1.trans B2; clear O1 B1
  go_wp2_with fail
  refine (ask_to O2 0 rfl (S := Z0) (S' := Z1) (v := 0) 7 4 0 rfl (in64 _ (by omega))).mono ?_
  rintro e w3 ⟨rfl, O3, B3⟩
  replace O3 : Own w.heap.size w3 [GrpP g Z1, GrpP h Z0] := O3
  have B3 := B2.trans B3; clear O2 B2
  go_wp2_with fail
  refine (due_to O3 0 rfl (S := Z1) (d := false) 2 rfl).mono ?_
  rintro e w4 ⟨rfl, n1, rfl⟩
  have O4 := O3.drewN n1
  go_wp2_with fail
  refine (due_to O4 0 rfl (S := Z1) (d := true) 3 rfl).mono ?_
  rintro e w5 ⟨rfl, n2, rfl⟩
  have O5 := O4.drewN n2
  have B5 := below_drewN (below_drewN B3 n1) n2
  clear O3 O4 B3
  generalize (w3.drewN n1).drewN n2 = w5 at *
  go_wp2_with fail
  refine (ask_to O5 0 rfl (S := Z1) (S' := Z2) (v := 0) 8 4 1 rfl (in64 _ (by omega))).mono ?_
  rintro e w6 ⟨rfl, O6, B6⟩
  replace O6 : Own w.heap.size w6 [GrpP g Z2, GrpP h Z0] := O6
  have B6 := B5.trans B6; clear O5 B5
  go_wp2_with fail
  refine (due_to O6 0 rfl (S := Z2) (d := true) 1 rfl).mono ?_
  rintro e w7 ⟨rfl, n3, rfl⟩
  have O7 := O6.drewN n3
  have B7 := below_drewN B6 n3
  clear O6 B6
  generalize w6.drewN n3 = w7 at *
  go_wp2_with fail
  refine (cut_to O7 0 rfl (S := Z2) (S' := Z3) (d := true) (f := 5) (xs := [7, 8]) 1 rfl rfl rfl rfl).mono ?_
  rintro e w8 ⟨a8, c8, rfl, O8, B8⟩
  replace O8 : Own w.heap.size w8 [GrpP g Z3, GrpP h Z0, RdP 1 a8 2 c8 (intVals [7, 8])] := O8
  have B8 := B7.trans B8; clear O7 B7
  go_wp2_with ((with_reducible show wpList _ _ _ _ _ _); refine wpList_store_fresh (o := ⟨none, .store 32 (.tmp 7) (.tmp 36), _, _, _, _⟩) (cs := [.int .i64 5, .slice a8 2 c8]) rfl 32 _ _ rfl rfl agg32.info rfl rfl rfl rfl (by simp [Value.oneCell']) ?_)
  have O8b := O8.new [.int .i64 5, .slice a8 2 c8] 32
  have B8b : Below w.heap.size w (w8.alloc (.cells #[.int .i64 5, .slice a8 2 c8] 32)) := B8.alloc O8.base _
  replace O8b : Own w.heap.size (w8.alloc (.cells #[.int .i64 5, .slice a8 2 c8] 32)) [GrpP g Z3, GrpP h Z0, RdP 1 a8 2 c8 (intVals [7, 8]), BlkP w8.heap.size 32 [.int .i64 5, .slice a8 2 c8]] := O8b
  clear O8 B8
  generalize (w8.alloc (.cells #[.int .i64 5, .slice a8 2 c8] 32)) = w9 at *
  generalize w8.heap.size = kb at *
  refine (ask_to O8b 0 rfl (S := Z3) (S' := Z3) (v := 6) 7 1 1 rfl (in64 _ (by omega))).mono ?_
  rintro e w10 ⟨rfl, O10, B10⟩
  replace O10 : Own w.heap.size w10 [GrpP g Z3, GrpP h Z0, RdP 1 a8 2 c8 (intVals [7, 8]), BlkP kb 32 [.int .i64 5, .slice a8 2 c8]] := O10
  have B10 := B8b.trans B10; clear O8b B8b
  go_wp2_with fail
  refine (ask_to O10 0 rfl (S := Z3) (S' := Z4) (v := 0) 9 1 1 rfl (in64 _ (by omega))).mono ?_
  rintro e w11 ⟨rfl, O11, B11⟩
  replace O11 : Own w.heap.size w11 [GrpP g Z4, GrpP h Z0, RdP 1 a8 2 c8 (intVals [7, 8]), BlkP kb 32 [.int .i64 5, .slice a8 2 c8]] := O11
  have B11 := B10.trans B11; clear O10 B10
  go_wp2_with fail
  refine (done_to O11 0 rfl (S := Z4) (S' := Z5) (rs := [(7, 5), (8, 6)]) rfl rfl).mono ?_
  rintro e w12 ⟨a12, c12, rfl, O12, B12⟩
  replace O12 : Own w.heap.size w12 [GrpP g Z5, GrpP h Z0, RdP 1 a8 2 c8 (intVals [7, 8]), BlkP kb 32 [.int .i64 5, .slice a8 2 c8], RowP 65 2 a12 2 c12 (repC [(7, 5), (8, 6)])] := O12
  have B12 := B11.trans B12; clear O11 B11
  go_wp2_with fail
  refine (ask_to O12 1 rfl (S := Z0) (S' := Y1) (v := 0) 7 6 0 rfl (in64 _ (by omega))).mono ?_
  rintro e w13 ⟨rfl, O13, B13⟩
  replace O13 : Own w.heap.size w13 [GrpP g Z5, GrpP h Y1, RdP 1 a8 2 c8 (intVals [7, 8]), BlkP kb 32 [.int .i64 5, .slice a8 2 c8], RowP 65 2 a12 2 c12 (repC [(7, 5), (8, 6)])] := O13
  have B13 := B12.trans B13; clear O12 B12
  go_wp2_with fail
  refine (ask_to O13 1 rfl (S := Y1) (S' := Y2) (v := 0) 8 6 0 rfl (in64 _ (by omega))).mono ?_
  rintro e w14 ⟨rfl, O14, B14⟩
  replace O14 : Own w.heap.size w14 [GrpP g Z5, GrpP h Y2, RdP 1 a8 2 c8 (intVals [7, 8]), BlkP kb 32 [.int .i64 5, .slice a8 2 c8], RowP 65 2 a12 2 c12 (repC [(7, 5), (8, 6)])] := O14
  have B14 := B13.trans B14; clear O13 B13
  go_wp2_with fail
  refine (cut_to O14 1 rfl (S := Y2) (S' := Y3) (d := true) (f := 5) (xs := [7]) 0 rfl rfl rfl rfl).mono ?_
  rintro e w15 ⟨a15, c15, rfl, O15, B15⟩
  replace O15 : Own w.heap.size w15 [GrpP g Z5, GrpP h Y3, RdP 1 a8 2 c8 (intVals [7, 8]), BlkP kb 32 [.int .i64 5, .slice a8 2 c8], RowP 65 2 a12 2 c12 (repC [(7, 5), (8, 6)]), RdP 1 a15 1 c15 (intVals [7])] := O15
  have B15 := B14.trans B15; clear O14 B14
  have hbk := (O15.blk 3 rfl).1
  have hbk2 := hbk.alloc (.cells #[.int .i64 5, .slice a15 1 c15] 32)
  go_wp2_with (first
    | ((with_reducible show wpList _ _ _ _ _ _); refine wpList_store_fresh (o := ⟨none, .store 32 (.tmp 12) (.tmp 51), _, _, _, _⟩) (cs := [.int .i64 5, .slice a15 1 c15]) rfl 32 _ _ rfl rfl agg32.info rfl rfl rfl rfl (by simp [Value.oneCell']) ?_)
    | ((with_reducible show wpList _ _ _ _ _ _); refine wpList_load_agg (o := ⟨some 69, _, _, _, _, _⟩) rfl 32 _ rfl agg32 rfl (cs := [.int .i64 5, .slice a8 2 c8]) rfl hbk2.agg ?_))
  have q1 : sameBt 5 5 [7, 8] [7, 8] = true := by decide
  have q2 : sameBt 5 5 [7] [7] = true := by decide
  have P1 := ((O15.rd 2 rfl).alloc (.cells #[.int .i64 5, .slice a15 1 c15] 32)).alloc (.cells #[.int .i64 7, .int .i64 8] 3)
  have P2 := rd_newAt (w := w15.alloc (.cells #[.int .i64 5, .slice a15 1 c15] 32)) (g := w15.heap.size + 1) (arr := #[.int .i64 7, .int .i64 8]) (cs := intVals [7, 8]) (e := 3) (n := 2) (size := 1) (by simp) rfl rfl (by decide)
  have O16 := (O15.new [.int .i64 5, .slice a15 1 c15] 32).alloc (.cells #[.int .i64 7, .int .i64 8] 3)
  have B16 := (B15.alloc O15.base (.cells #[.int .i64 5, .slice a15 1 c15] 32)).alloc (by have := O15.base; simp; omega) (.cells #[.int .i64 7, .int .i64 8] 3)
  clear hbk hbk2
  generalize hk2 : w15.heap.size = kc at *
  replace O16 : Own w.heap.size ((w15.alloc (.cells #[.int .i64 5, .slice a15 1 c15] 32)).alloc (.cells #[.int .i64 7, .int .i64 8] 3)) [GrpP g Z5, GrpP h Y3, RdP 1 a8 2 c8 (intVals [7, 8]), BlkP kb 32 [.int .i64 5, .slice a8 2 c8], RowP 65 2 a12 2 c12 (repC [(7, 5), (8, 6)]), RdP 1 a15 1 c15 (intVals [7]), BlkP kc 32 [.int .i64 5, .slice a15 1 c15]] := O16
  clear O15 B15 hk2
  generalize (w15.alloc (.cells #[.int .i64 5, .slice a15 1 c15] 32)).alloc (.cells #[.int .i64 7, .int .i64 8] 3) = w16 at *
  refine (sameBatch_any 5 5 [7, 8] [7, 8] _ _ _ _ _ _ w16 P1 P2).mono ?_
  rintro e w17 ⟨rfl, hb17⟩
  rw [q1]
  have O17 := O16.below hb17
  have B17 := B16.trans (hb17.mono O16.base)
  clear P1 P2 O16 B16 hb17 q1
  have hbk := (O17.blk 6 rfl).1
  go_wp2_with fail
  have q3 := sameReports_any [(7, 5), (8, 6)] [(7, 5), (8, 6)] a12 (some ⟨w17.heap.size, 0, none⟩) 2 2 c12 2 (w17.alloc (.cells #[.int .i64 7, .int .i64 5, .int .i64 8, .int .i64 6] 65)) ((Rd.ofOwn (O17.row 4 rfl)).alloc _) (rd_newAt (cs := repC [(7, 5), (8, 6)]) rfl rfl rfl (by decide))
  rw [decide_eq_true rfl] at q3
  refine q3.mono ?_
  rintro e w18 ⟨rfl, n4, rfl⟩
  have O18 := (O17.alloc (.cells #[.int .i64 7, .int .i64 5, .int .i64 8, .int .i64 6] 65)).drewN n4
  have B18 := below_drewN (B17.alloc O17.base (.cells #[.int .i64 7, .int .i64 5, .int .i64 8, .int .i64 6] 65)) n4
  clear O17 B17 hbk
  generalize (w17.alloc (.cells #[.int .i64 7, .int .i64 5, .int .i64 8, .int .i64 6] 65)).drewN n4 = w19 at *
  have hbk := (O18.blk 6 rfl).1
  have P1 := (O18.rd 5 rfl).alloc (.cells #[.int .i64 7] 3)
  have P2 := rd_newAt (w := w19) (g := w19.heap.size) (arr := #[.int .i64 7]) (cs := intVals [7]) (e := 3) (n := 1) (size := 1) rfl rfl rfl (by decide)
  have O19 := O18.alloc (.cells #[.int .i64 7] 3)
  have B19 := B18.alloc O18.base (.cells #[.int .i64 7] 3)
  go_wp2_with ((with_reducible show wpList _ _ _ _ _ _); refine wpList_load_agg (o := ⟨some 94, _, _, _, _, _⟩) rfl 32 _ rfl agg32 rfl (cs := [.int .i64 5, .slice a15 1 c15]) rfl hbk.agg ?_)
  clear O18 B18 hbk
  generalize w19.alloc (.cells #[.int .i64 7] 3) = w20 at *
  refine (sameBatch_any 5 5 [7] [7] _ _ _ _ _ _ w20 P1 P2).mono ?_
  rintro e w21 ⟨rfl, hb21⟩
  rw [q2]
  have B21 := B19.trans (hb21.mono O19.base)
  clear P1 P2 O19 B19 hb21 q2
  go_wp2_with fail
  refine (new_wrong 0 1 1 1 w21 (by decide)).mono ?_
  rintro e w22 ⟨rfl, rfl⟩
  go_wp2_with fail
  go_ret
  exact ⟨rfl, O.below B21, B21.mono O.base⟩
end Go.Proofs.Ytkloafpoldmpkaa
