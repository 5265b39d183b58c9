/-
  The walks of the reference's Done, Cut. No condition.
-/
import Derived.Test.YtkloafpoldmpkaaRef3
import Derived.Deep.RegionLaw
import Derived.StillTailTactics
namespace Go.Proofs.Ytkloafpoldmpkaa
open Go.RowKit

def RetRefD (r : Nat) (S : GS) (l : List HP) (B : Nat) (w : World) (e : Ending) (w' : World) : Prop :=
  ∃ la lc a cap, e = .returned (.slice a S.txs.length cap) ∧ Own B w' (RowP 65 2 a S.txs.length cap (repC S.reps) :: (RefL r la lc none 0 S.done ++ l)) ∧ Below B w w'

set_option maxRecDepth 20000 in
set_option maxHeartbeats 2000000 in
theorem ref_done {B : Nat} {w : World} {l : List HP} {r : Nat} {la ta : Option Addr} {lc tc : Nat} {S : GS} (O : Own B w (RefL r la lc ta tc S ++ l)) (hok : S.OK) :
    Calls Try.prog 21 #[.pointer (some ⟨r, 0, none⟩)] w (RetRefD r S l B w) := by
  have htx := hok.txs.1
  have hfirst := hok.first
  clear hok
  have HO := Box.mk O
  have hB := O.base
  clear O
  go_enter Try.func21, Try.ntmps21
  go_wp2_with fail
  go_loopw [3, 4] (fun v i wr => ∃ (k : Nat) (a : Option Addr) (cap : Nat), k ≤ S.txs.length ∧ i = .int .i64 k ∧ v = .slice a k cap ∧ wr.ownsRow w.heap.size 65 2 (.slice a k cap) k (repVals S.first S.txs k) ∧ Below w.heap.size w wr)
    (fun _ i _ => S.txs.length - (intOf i).toNat)
  case atStart => exact ⟨0, none, 0, Nat.zero_le _, rfl, rfl, World.ownsRow_nil _ _ _ _, Below.refl _ _⟩
  case round =>
    obtain ⟨k, a, cap, hk, rfl, rfl, hown, BW⟩ := hrel
    have hsz := BW.size
    have O1 := HO.out.below BW
    have c6 := (O1.blk 0 rfl).1.cellOf (i := 6) rfl
    have c7 := (O1.blk 0 rfl).1.cellOf (i := 7) rfl
    by_cases hl : k < S.txs.length
    · obtain ⟨g2, off, rfl, hc⟩ := (O1.rd 2 rfl).intAtD k hl
      have hT := Box.mk (repVals_succ S.first S.txs k)
      generalize S.txs.getD k 0 = x at *
      clear O1
      have RR := Box.mk (rd_two wr (.int .i64 x) (.int .i64 (S.first + (k : Int))) 65)
      have SRC := Src.ofRd (P := Try.prog) (Rd.drew RR.out) (by simp [Value.oneCell'])
      have hown0 := (hown.alloc (.cells #[.int .i64 x, .int .i64 (S.first + (k : Int))] 65)).drew
      have hb1 : k + 1 ≤ 64 := by omega
      have hwr : IntKind.i64.wrap (S.first + (k : Int)) = S.first + (k : Int) := IntWalk.i64_in _ (by omega)
      have hby : (k + 1) * 16 ≤ 140737488355328 := by omega
      have hml : k + 1 ≤ maxLen := by unfold maxLen; omega
      have hbs : w.heap.size ≤ ((wr.alloc (.cells #[.int .i64 x, .int .i64 (S.first + (k : Int))] 65)).drew).heap.size := by simp; omega
      have HBY := Box.mk (And.intro hby (And.intro hml hbs))
      clear hby hml hbs
      go_wp2_with fail
      go_region_law (refine oper_append rfl _ _ 28 28 rfl sl28 (.inl sl28.ht) rfl hown0 rfl SRC HBY.out.1 HBY.out.2.1 HBY.out.2.2 ?_; intro a1 cap1 w1 hown1 hgr1)
      all_goals
        clear hwr
        have B1 := below_grown ((BW.alloc (by omega) (.cells #[.int .i64 x, .int .i64 (S.first + (k : Int))] 65)).drew) hgr1 hown0 (Nat.le_refl _) (by simp; omega)
        go_wp2_with fail
        go_roundw
        case rel => exact ⟨k + 1, a1, cap1, by omega, by go_num, rfl, by rw [hT.out]; exact hown1, B1⟩
        case measure => simp [intOf]; omega
    · have hkn : k = S.txs.length := by omega
      subst hkn
      have c5 := (O1.blk 0 rfl).1.cellOf (i := 5) rfl
      have f5 := (O1.blk 0 rfl).1.free 5
      have f6 := (O1.blk 0 rfl).1.free 6
      have f7 := (O1.blk 0 rfl).1.free 7
      go_wp2_with fail
      go_ret
      have O2 := (HO.out.newRow BW hown (Nat.le_refl _)).perm List.perm_append_comm
      obtain ⟨O3, B3⟩ := Own.setCell O2 1 rfl 6 (.int .i64 0)
      obtain ⟨O4, B4⟩ := O3.setCell 1 rfl 7 (.slice none 0 0)
      obtain ⟨O5, B5⟩ := O4.setCell 1 rfl 5 (.bool false)
      rw [repVals_eq] at O5
      have O6 := (O5.drop 3).newRd (Below.refl _ _) (Rd.nilSlice _ 1) (fun ad h => by cases h)
      refine ⟨la, lc, a, cap, rfl, ?_, ((BW.mono hB).trans B3).trans (B4.trans B5)⟩
      refine O6.perm ?_
      show List.Perm ([RowP 65 2 a S.txs.length cap (repC S.reps), BlkP r 52 (refVals S.done la lc none 0), RowP 73 3 la S.q.length lc (ndC S.q)] ++ l ++ [RdP 1 none 0 0 []]) ([RowP 65 2 a S.txs.length cap (repC S.reps), BlkP r 52 (refVals S.done la lc none 0), RowP 73 3 la S.q.length lc (ndC S.q)] ++ (RdP 1 none 0 0 [] :: l))
      rw [List.append_assoc]
      exact (List.perm_append_comm (l₁ := l) (l₂ := [RdP 1 none 0 0 []])).append_left _
end Go.Proofs.Ytkloafpoldmpkaa
