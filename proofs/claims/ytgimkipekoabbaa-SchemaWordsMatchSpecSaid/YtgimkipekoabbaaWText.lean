/-
  The walks of slices.Chunk and writer.text. No condition.
-/
import Derived.Test.YtgimkipekoabbaaWrd
import Derived.RangeFuncNested
import Derived.RangeFuncBound
import Derived.RangeFuncCalls
import Derived.RangeFuncLeaves
import Derived.RangeFuncWrites
import Derived.Shelf.Abstract
import Derived.Shelf.RegionOpen
import Derived.OwnWalkIn
import Derived.TacticsInMore
import Derived.LoopNIn
import Derived.LoopIn
namespace Go.Proofs.Ytgimkipekoabbaa
open Go.RowKit Go.Shelf
attribute [local go_sem] Oper.semAt_some

/-- What Chunk returns. -/
def RetChunk (a : Option Addr) (n cap : Nat) (w : World) (e : Ending) (w' : World) : Prop :=
  e = .returned (.func (.func 95) #[] #[.pointer (some ⟨w.heap.size, 0, none⟩), .pointer (some ⟨w.heap.size + 1, 0, none⟩)]) ∧ w' = (w.alloc (.cells #[.slice a n cap] 63)).alloc (.cells #[.int .i64 5] 3)
set_option maxRecDepth 20000 in
set_option maxHeartbeats 2000000 in
theorem chunk_any (a : Option Addr) (n cap : Nat) (w : World) : Calls Try.prog 84 #[.slice a n cap, .int .i64 5] w (RetChunk a n cap w) := by
  have hmf : ∀ (fn : Fn) (first cap : Array Value) (w : World), (Instr.makeFunc fn first cap).run Try.prog w = .ok (.func fn first cap) w := fun _ _ _ _ => rfl
  go_enter Try.func84, Try.ntmps84
  go_wp2_with fail
  go_ret
  exact ⟨rfl, rfl⟩

/-- The chunk k of n bytes at a block's beginning. -/
def chunkV (gs n : Nat) (k : Nat) : Array Value := #[.slice (some ⟨gs, 5 * k, none⟩) (min 5 (n - 5 * k)) (min 5 (n - 5 * k))]
def KeepB (b1 b2 : Nat) (W W' : World) : Prop := W'.heap[b1]? = W.heap[b1]? ∧ W'.heap[b2]? = W.heap[b2]?

set_option maxRecDepth 20000 in
set_option maxHeartbeats 4000000 in
theorem chunks_in (m : Nat) (l b1 b2 gs n cap : Nat) (hn : n ≤ cap) (hbig : n ≤ 1000000) (J Jx : List Nat → World → Prop)
    (hY : ∀ pre x W, J pre W → pre.length < nWords n → YieldAt Fence.wide (m - 1) Try.prog l (chunkV gs n x) W fun e W' =>
      (e = .returned (.bool true) ∧ J (pre ++ [x]) W' ∧ KeepB b1 b2 W W') ∨ (e = .returned (.bool false) ∧ Jx (pre ++ [x]) W'))
    (W : World) (hb1 : W.cell? ⟨b1, 0, none⟩ = some (.slice (some ⟨gs, 0, none⟩) n cap)) (hb2 : W.cell? ⟨b2, 0, none⟩ = some (.int .i64 5)) (h0 : J [] W)
    (hdrew : ∀ pre W q, J pre W → J pre (W.drewN q)) :
    CallsIn Fence.wide m Try.prog 95 #[.func (.yield l) #[] #[], .pointer (some ⟨b1, 0, none⟩), .pointer (some ⟨b2, 0, none⟩)] W fun e W' => (∃ v, e = .returned v) ∧
      ((∃ ys, ys = List.range (nWords n) ∧ J ys W') ∨ (∃ pre, True ∧ Jx pre W')) := by
  refine callsIn_of_wp Try.func95 rfl trivial ?_ rfl
  simp only [Try.ntmps95, List.size_toArray, List.length_cons, List.length_nil, Nat.reduceAdd, Nat.reduceSub, Array.replicate_succ, Array.replicate_zero, List.push_toArray, List.append_toArray, List.nil_append, List.cons_append]
  gi_wp2
  gi_loopw [4] (fun i wr => ∃ k : Nat, k ≤ nWords n ∧ i = .int .i64 (5 * k : Nat) ∧ J (List.range k) wr ∧ Box (KeepB b1 b2 W wr)) (fun i _ => n + 5 - (intOf i).toNat)
  case atStart => exact ⟨0, Nat.zero_le _, rfl, h0, ⟨⟨rfl, rfl⟩⟩⟩
  case round =>
    obtain ⟨k, hk, rfl, hJs, KB⟩ := hrel
    have c1 := (cell_eq (w := W) (w' := wr) (p := ⟨b1, 0, none⟩) KB.out.1).trans hb1
    have c2 := (cell_eq (w := W) (w' := wr) (p := ⟨b2, 0, none⟩) KB.out.2).trans hb2
    by_cases hlt : 5 * k < n
    · obtain ⟨p, hp⟩ : ∃ p, p = 5 * k := ⟨_, rfl⟩
      rw [← hp] at hlt ⊢
      have HP := Box.mk hp
      clear hp
      have hpc : ¬ (cap = p) := by omega
      gi_wp2
      refine wpIn_wide.2 ?_
      go_quiet (fail)
      gi_wp2
      all_goals
        have hkk := lt_nWords (n := n) (k := k) (by have := HP.out; omega)
        have hkn2 : k + 1 ≤ nWords n := hkk
        obtain ⟨fn, tmps, assign, body, hy, hR⟩ := hY (List.range k) k (wr.drewN nq) (hdrew _ _ _ hJs) (by rw [List.length_range]; exact hkk)
        have hv : chunkV gs n k = #[.slice (some ⟨gs, p, none⟩) (min 5 (n - p)) (min 5 (n - p))] := by unfold chunkV; rw [← HP.out]
        rw [hv] at hy
        clear hv hY
      · have h5 : ((p : Int) + ((n - p : Nat) : Int)).toNat - p = min 5 (n - p) := by omega
        rw [h5]
        have hn5 : n ≤ 5 * (k + 1) := by have := HP.out; omega
        have hp5 : ((5 * (k + 1) : Nat) : Int) = (p : Int) + 5 := by have := HP.out; omega
        have HP5 := Box.mk hp5
        clear hp5 h5
        gi_wp2
        rw [hy, Oper.uponIn_round]
        refine ⟨fun h => (by cases h), hR.mono ?_⟩
        rintro e W3 (⟨rfl, hJ3, hk3⟩ | ⟨rfl, hJx3⟩)
        · have KB3 := Box.mk (show KeepB b1 b2 W W3 from ⟨hk3.1.trans KB.out.1, hk3.2.trans KB.out.2⟩)
          have d2 := (cell_eq (w := W) (w' := W3) (p := ⟨b2, 0, none⟩) KB3.out.2).trans hb2
          clear hk3
          gi_wp2
          go_roundw
          case rel => exact ⟨k + 1, hkn2, by rw [HP5.out], by rw [List.range_succ]; exact hJ3, KB3⟩
          case measure => simp [intOf]; omega
        · gi_wp2
          refine bodyPost_ret (results_none rfl _ _ _) rfl ?_
          exact ⟨⟨_, rfl⟩, .inr ⟨_, trivial, hJx3⟩⟩
      · have h5 : ((p : Int) + 5).toNat - p = min 5 (n - p) := by omega
        rw [h5]
        have hp5 : ((5 * (k + 1) : Nat) : Int) = (p : Int) + 5 := by have := HP.out; omega
        have HP5 := Box.mk hp5
        clear hp5 h5
        gi_wp2
        rw [hy, Oper.uponIn_round]
        refine ⟨fun h => (by cases h), hR.mono ?_⟩
        rintro e W3 (⟨rfl, hJ3, hk3⟩ | ⟨rfl, hJx3⟩)
        · have KB3 := Box.mk (show KeepB b1 b2 W W3 from ⟨hk3.1.trans KB.out.1, hk3.2.trans KB.out.2⟩)
          have d2 := (cell_eq (w := W) (w' := W3) (p := ⟨b2, 0, none⟩) KB3.out.2).trans hb2
          clear hk3
          gi_wp2
          go_roundw
          case rel => exact ⟨k + 1, hkn2, by rw [HP5.out], by rw [List.range_succ]; exact hJ3, KB3⟩
          case measure => simp [intOf]; omega
        · gi_wp2
          refine bodyPost_ret (results_none rfl _ _ _) rfl ?_
          exact ⟨⟨_, rfl⟩, .inr ⟨_, trivial, hJx3⟩⟩
    · have hkn := nWords_le hlt hk
      subst hkn
      gi_wp2
      go_end0
      exact ⟨⟨_, rfl⟩, .inl ⟨_, rfl, hJs⟩⟩
end Go.Proofs.Ytgimkipekoabbaa
