/-
  The walks of the reference's Ask, Drop, Waiting. No condition.
-/
import Derived.Test.YtkloafpoldmpkaaRef1
namespace Go.Proofs.Ytkloafpoldmpkaa
open Go.RowKit

theorem sl50 : SlT Try.prog 50 73 (.agg #[.int .i64 0, .int .i64 0, .int .i64 0]) 3 24 := ⟨by kernel_rfl, by kernel_rfl, rfl⟩

def RetRef2 (v : Value) (r : Nat) (S : GS) (l : List HP) (B : Nat) (w : World) (e : Ending) (w' : World) : Prop :=
  ∃ la lc ta tc, e = .returned v ∧ Own B w' (RefL r la lc ta tc S ++ l) ∧ Below B w w'
theorem RetRef2.same {B : Nat} {w : World} {l : List HP} {r : Nat} {la ta : Option Addr} {lc tc : Nat} {S : GS} (O : Own B w (RefL r la lc ta tc S ++ l)) {v : Value} {e : Ending} (he : e = .returned v) (n : Nat) : RetRef2 v r S l B w e (w.drewN n) :=
  ⟨la, lc, ta, tc, he, O.drewN n, below_drewN (Below.refl _ _) n⟩

/-- Twice: among those that wait, or in the batch. -/
def twice (S : GS) (tx : Int) (k : Nat) : Bool := decide (tx ∈ S.q.map Nd.tx) || decide (tx ∈ S.txs.take k)
theorem twice_succ (S : GS) (tx : Int) (k : Nat) (hk : k < S.txs.length) : twice S tx (k + 1) = (twice S tx k || (S.txs.getD k 0 == tx)) := by
  unfold twice
  rw [List.take_succ_eq_append_getElem hk, List.getD_eq_getElem?_getD, List.getElem?_eq_getElem hk]
  have e : decide (tx ∈ List.take k S.txs ++ [S.txs[k]]) = (decide (tx ∈ List.take k S.txs) || (S.txs[k] == tx)) := by
    rw [Bool.eq_iff_iff]
    simp only [decide_eq_true_eq, List.mem_append, List.mem_singleton, Bool.or_eq_true, beq_iff_eq]
    exact ⟨fun h => h.imp id Eq.symm, fun h => h.imp id Eq.symm⟩
  rw [e, Bool.or_assoc]; rfl

set_option maxRecDepth 20000 in
set_option maxHeartbeats 2000000 in
theorem ref_ask {B : Nat} {w : World} {l : List HP} {r : Nat} {la ta : Option Addr} {lc tc : Nat} {S : GS} (O : Own B w (RefL r la lc ta tc S ++ l)) (hok : S.OK) (tx words tick : Int) :
    Calls Try.prog 24 #[.pointer (some ⟨r, 0, none⟩), .int .i64 tx, .int .i64 words, .int .i64 tick] w (RetRef2 (.int .i64 (S.ask tx words tick).2) r (S.ask tx words tick).1 l B w) := by
  have hst := hok.stamp
  have htl := hok.txs.1
  have hro := hok.room
  have HO := Box.mk O
  have c1 := (O.blk 0 rfl).1.cellOf (i := 1) rfl
  have c3 := (O.blk 0 rfl).1.cellOf (i := 3) rfl
  have c4 := (O.blk 0 rfl).1.cellOf (i := 4) rfl
  have c7 := (O.blk 0 rfl).1.cellOf (i := 7) rfl
  have HA := Box.mk (ref_at O (by omega) tx)
  have HT := Box.mk (O.rd 2 rfl)
  clear O hok
  by_cases hbad : words < 1 ∨ tick < 0 ∨ 1099511627776 < tick
  · rw [show S.ask tx words tick = (S, 1) from by unfold GS.ask; rw [if_pos hbad]]
    have hc : words < 1 ∨ (1 ≤ words ∧ tick < 0) ∨ (1 ≤ words ∧ 0 ≤ tick ∧ 1099511627776 < tick) := by omega
    clear hbad
    rcases hc with h | ⟨h1, h⟩ | ⟨h1, h2, h⟩
    all_goals
      go_enter Try.func24, Try.ntmps24
      go_wp2_with fail
      go_ret
      exact RetRef2.same HO.out rfl 0
  · have ha1 : 1 ≤ words := by omega
    have ha2 : 0 ≤ tick := by omega
    have ha3 : tick ≤ 1099511627776 := by omega
    have HB := Box.mk hbad; clear hbad
    have hid : decide (0 ≤ idx (S.q.map Nd.tx) tx) = twice S tx 0 := by
      unfold idx twice
      rw [List.take_zero]
      by_cases hm : tx ∈ S.q.map Nd.tx
      · rw [if_pos hm]; simp [hm]
      · rw [if_neg hm]; simp [hm]
    have HAsk := Box.mk (show S.ask tx words tick = if twice S tx S.txs.length = true then (S, 6) else if S.room < words ∨ 1073741824 < S.stamp + S.q.length then (S, 2) else ({ S with q := S.q ++ [⟨tx, words, tick⟩] }, 0) from by
      unfold GS.ask twice
      rw [if_neg HB.out, List.take_length]
      by_cases h1 : tx ∈ S.q.map Nd.tx ∨ tx ∈ S.txs
      · have h2 : (decide (tx ∈ S.q.map Nd.tx) || decide (tx ∈ S.txs)) = true := by rw [Bool.or_eq_true, decide_eq_true_eq, decide_eq_true_eq]; exact h1
        rw [if_pos h1, h2]; rfl
      · have h2 : (decide (tx ∈ S.q.map Nd.tx) || decide (tx ∈ S.txs)) = false := by rw [Bool.or_eq_false_iff, decide_eq_false_iff_not, decide_eq_false_iff_not]; exact not_or.1 h1
        rw [if_neg h1, h2]; rfl)
    generalize idx (S.q.map Nd.tx) tx = ix at *
    generalize S.ask tx words tick = res at *
    go_enter Try.func24, Try.ntmps24
    go_wp2_with fail
    refine HA.out.mono ?_
    clear HA
    rintro e w1 ⟨rfl, rfl⟩
    go_wp2_with fail
    clear hid
    generalize hw0 : w1 = w0 at *
    clear hw0
    go_loopw [9, 10] (fun t i wr => ∃ k : Nat, k ≤ S.txs.length ∧ i = .int .i64 k ∧ t = .bool (twice S tx k) ∧ wr = w0) (fun _ i _ => S.txs.length - (intOf i).toNat)
    case atStart => exact ⟨0, Nat.zero_le _, rfl, by first | rfl | trivial, rfl⟩
    case round =>
      obtain ⟨k, hk, rfl, rfl, rfl⟩ := hrel
      by_cases hl : k < S.txs.length
      · obtain ⟨g, off, rfl, hc⟩ := HT.out.intAtD k hl
        have hs := Box.mk (twice_succ S tx k hl)
        generalize S.txs.getD k 0 = y at *
        cases htw : twice S tx k with
        | true =>
          have hs2 := Box.mk (show twice S tx (k + 1) = true from by rw [hs.out, htw]; rfl)
          clear htw
          go_wp2_with fail
          go_roundw
          case rel => exact ⟨k + 1, hl, by go_num, by rw [hs2.out], trivial⟩
          case measure => simp [intOf]; omega
        | false =>
          have hs2 := Box.mk (show twice S tx (k + 1) = (y == tx) from by rw [hs.out, htw]; rfl)
          clear htw
          go_wp2_with fail
          go_roundw
          case rel => exact ⟨k + 1, hl, by go_num, by rw [hs2.out], trivial⟩
          case measure => simp [intOf]; omega
      · obtain rfl : k = S.txs.length := by omega
        cases htw : twice S tx S.txs.length with
        | true =>
          rw [htw, if_pos rfl] at HAsk
          clear htw
          go_wp2_with fail
          go_ret
          rw [HAsk.out]
          exact RetRef2.same HO.out rfl 0
        | false =>
          rw [htw, if_neg (by simp)] at HAsk
          clear htw
          by_cases hr : S.room < words
          · rw [if_pos (.inl hr)] at HAsk
            go_wp2_with fail
            go_quiet (fail)
            go_wp2_with fail
            go_ret
            rw [HAsk.out]
            exact RetRef2.same HO.out rfl _
          · have hr' : decide (S.room < words) = false := decide_eq_false hr
            by_cases hs : 1073741824 < S.stamp + S.q.length
            · rw [if_pos (.inr hs)] at HAsk
              go_wp2_with fail
              go_quiet (fail)
              go_wp2_with fail
              go_ret
              rw [HAsk.out]
              exact RetRef2.same HO.out rfl _
            · rw [if_neg (by omega)] at HAsk
              go_wp2_with fail
              go_quiet (fail)
              have O1 := HO.out.drewN nq
              have B1 := below_drewN (Below.refl B wr) nq
              clear c1 c3 c4 c7 HT HO
              generalize wr.drewN nq = w1 at *
              have c4 := (O1.blk 0 rfl).1.cellOf (i := 4) rfl
              have O2 := O1.alloc (.cells #[.int .i64 tx, .int .i64 words, .int .i64 tick] 73)
              have B2 := B1.alloc O1.base (.cells #[.int .i64 tx, .int .i64 words, .int .i64 tick] 73)
              have SRC : Src Try.prog (w1.alloc (.cells #[.int .i64 tx, .int .i64 words, .int .i64 tick] 73)) (.slice (some ⟨w1.heap.size, 0, none⟩) 1 1) 1 3 [.int .i64 tx, .int .i64 words, .int .i64 tick] := Src.ofRd (rd_newAt rfl rfl rfl (by unfold maxLen; omega)) (by simp [Value.oneCell'])
              have hown := O2.row 1 rfl
              go_wp2_with (at_builtin; refine wpList_append_src rfl _ _ 50 50 rfl sl50 (.inl sl50.ht) rfl hown rfl SRC (by omega) (by unfold maxLen; omega) (Nat.zero_le _) ?_; intro a3 cap3 w3 hown3 hgr3 hla3; have O3 := (O2.grown 1 rfl hown3 hgr3 hla3).1; have B3 := B2.trans (O2.grown 1 rfl hown3 hgr3 hla3).2; have d4 := (O3.blk 0 rfl).1.cellOf (i := 4) rfl; have f4 := (O3.blk 0 rfl).1.free 4)
              go_ret
              have hq : ndC S.q ++ [Value.int .i64 tx, .int .i64 words, .int .i64 tick] = ndC (S.q ++ [⟨tx, words, tick⟩]) := by rw [ndC_append]; rfl
              rw [hq] at O3
              have hl1 : S.q.length + 1 = (S.q ++ [(⟨tx, words, tick⟩ : Nd)]).length := by simp
              obtain ⟨O4, B4⟩ := O3.setCell 0 rfl 4 (.slice a3 (S.q.length + 1) cap3)
              rw [HAsk.out]
              refine ⟨a3, cap3, ta, tc, rfl, ?_, B3.trans B4⟩
              unfold RefL refVals
              simp only []
              rw [← hl1]
              exact O4
end Go.Proofs.Ytkloafpoldmpkaa
