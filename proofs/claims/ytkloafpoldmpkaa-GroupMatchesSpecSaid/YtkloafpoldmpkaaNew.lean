/-
  The walks of group's New, Next, Waiting. No condition.
-/
import Derived.Test.YtkloafpoldmpkaaSl
namespace Go.Proofs.Ytkloafpoldmpkaa
open Go.RowKit

/-- What New returns. -/
def RetNew (S : GS) (w : World) (e : Ending) (w' : World) : Prop :=
  ∃ g m, e = .returned (.pointer (some ⟨g, 0, none⟩)) ∧ Grp w' g m [] none 0 S ∧ w.heap.size ≤ g ∧ w.heap.size ≤ m ∧ Below w.heap.size w w'
def RetNil (w : World) (e : Ending) (w' : World) : Prop := e = .returned (.pointer none) ∧ w' = w

set_option maxRecDepth 20000 in
set_option maxHeartbeats 2000000 in
theorem new_right (most room delay next : Int) (w : World) (hr : right most room delay next = true) : Calls Try.prog 8 #[.int .i64 most, .int .i64 room, .int .i64 delay, .int .i64 next] w (RetNew (GS.new most room delay next) w) := by
  have h' := of_decide_eq_true hr
  obtain ⟨h1, h2, h3, h4, h5, h6, h7, h8⟩ := h'
  have HR := Box.mk hr; clear hr
  have hmm := @run_makeMap Try.prog
  go_enter Try.func8, Try.ntmps8
  go_wp2_with fail
  go_ret
  refine ⟨w.heap.size + 1, w.heap.size, rfl, ⟨Blk.new (by simp) rfl, (fun i hi => absurd hi (Nat.not_lt_zero _)), rfl, ?_, Rd.nilSlice _ _, (by simp), (fun ad h => by cases h), GS.new_ok HR.out⟩, by omega, Nat.le_refl _, ((Below.refl _ _).alloc (Nat.le_refl _) _).alloc (by simp) _⟩
  exact (SetM.made w).eq (Below.heap_alloc _ _ _ (by simp))

set_option maxRecDepth 20000 in
set_option maxHeartbeats 2000000 in
theorem new_wrong (most room delay next : Int) (w : World) (hr : right most room delay next = false) : Calls Try.prog 8 #[.int .i64 most, .int .i64 room, .int .i64 delay, .int .i64 next] w (RetNil w) := by
  have h' : ¬ (1 ≤ most ∧ most ≤ 64 ∧ 1 ≤ room ∧ room ≤ 1048576 ∧ 0 ≤ delay ∧ delay ≤ 1048576 ∧ 1 ≤ next ∧ next ≤ 1073741824) := of_decide_eq_false hr
  have hc : most < 1 ∨ (1 ≤ most ∧ 64 < most) ∨ (1 ≤ most ∧ most ≤ 64 ∧ room < 1) ∨ (1 ≤ most ∧ most ≤ 64 ∧ 1 ≤ room ∧ 1048576 < room) ∨ (1 ≤ most ∧ most ≤ 64 ∧ 1 ≤ room ∧ room ≤ 1048576 ∧ delay < 0) ∨ (1 ≤ most ∧ most ≤ 64 ∧ 1 ≤ room ∧ room ≤ 1048576 ∧ 0 ≤ delay ∧ 1048576 < delay) ∨ (1 ≤ most ∧ most ≤ 64 ∧ 1 ≤ room ∧ room ≤ 1048576 ∧ 0 ≤ delay ∧ delay ≤ 1048576 ∧ next < 1) ∨ (1 ≤ most ∧ most ≤ 64 ∧ 1 ≤ room ∧ room ≤ 1048576 ∧ 0 ≤ delay ∧ delay ≤ 1048576 ∧ 1 ≤ next ∧ 1073741824 < next) := by omega
  clear h' hr
  rcases hc with h | ⟨h1, h⟩ | ⟨h1, h2, h⟩ | ⟨h1, h2, h3, h⟩ | ⟨h1, h2, h3, h4, h⟩ | ⟨h1, h2, h3, h4, h5, h⟩ | ⟨h1, h2, h3, h4, h5, h6, h⟩ | ⟨h1, h2, h3, h4, h5, h6, h7, h⟩
  all_goals
    go_enter Try.func8, Try.ntmps8
    go_wp2_with fail
    go_ret
    exact ⟨rfl, rfl⟩

set_option maxRecDepth 20000 in
theorem next_any {w : World} {g m : Nat} {bs : List Nat} {ta : Option Addr} {tc : Nat} {S : GS} (h : Grp w g m bs ta tc S) : Calls Try.prog 28 #[.pointer (some ⟨g, 0, none⟩)] w fun e w' => e = .returned (.int .i64 S.stamp) ∧ w' = w := by
  have c3 := h.blk.cellOf (i := 3) rfl
  go_enter Try.func28, Try.ntmps28
  go_wp2_with fail
  go_ret
  exact ⟨rfl, rfl⟩

set_option maxRecDepth 20000 in
set_option maxHeartbeats 1000000 in
theorem waiting_any {w : World} {g m : Nat} {bs : List Nat} {ta : Option Addr} {tc : Nat} {S : GS} (h : Grp w g m bs ta tc S) : Calls Try.prog 16 #[.pointer (some ⟨g, 0, none⟩)] w (RetI (S.q.map Nd.tx) w) := by
  have c4 := h.blk.cellOf (i := 4) rfl
  have hst := h.ok.stamp
  have hq30 : S.q.length ≤ 1073741825 := by omega
  clear hst
  have HG := Box.mk h; clear h
  go_enter Try.func16, Try.ntmps16
  go_wp2_with fail
  go_loopw [3, 4] (fun v r wr => ∃ (k : Nat) (a : Option Addr) (cap : Nat), k ≤ S.q.length ∧ r = ptrOf bs[k]? ∧ v = .slice a k cap ∧ wr.ownsRow w.heap.size 3 1 (.slice a k cap) k (intVals ((S.q.take k).map Nd.tx)) ∧ Below w.heap.size w wr)
    (fun v _ _ => match v with | .slice _ k _ => S.q.length - k | _ => 0)
  case atStart => exact ⟨0, none, 0, Nat.zero_le _, rfl, rfl, World.ownsRow_nil _ _ _ _, Below.refl _ _⟩
  case round =>
    obtain ⟨k, a, cap, hk, rfl, rfl, hown, B⟩ := hrel
    have hsz := B.size
    by_cases hl : k < S.q.length
    · obtain ⟨b, hb1, hb2⟩ := (HG.out.below B).node k hl
      have hT := Box.mk (show (S.q.take (k + 1)).map Nd.tx = (S.q.take k).map Nd.tx ++ [(S.q.getD k default).tx] from by
        rw [show S.q.getD k default = S.q[k] from by rw [List.getD_eq_getElem?_getD, List.getElem?_eq_getElem hl]; rfl, List.take_succ_eq_append_getElem hl, List.map_append]; rfl)
      have d0 := hb2.cellOf (i := 0) rfl
      have d3 := hb2.cellOf (i := 3) rfl
      rw [show ptrOf bs[k]? = .pointer (some ⟨b, 0, none⟩) from by rw [hb1]; rfl]
      generalize (S.q.getD k default) = nd at *
      go_wp2_with (at_builtin; refine wpList_append_src rfl _ _ 22 22 rfl sl22 (.inl sl22.ht) rfl (hown.alloc _) rfl (Src.oneNew _ _ _ rfl) (by omega) (by unfold maxLen; omega) (by simp; omega) ?_; intro a1 cap1 w1 hown1 hgr1 _; have B1 := below_grown (B.alloc (by omega) _) hgr1 (hown.alloc _) (Nat.le_refl _) (by simp; omega); obtain ⟨b', hb1', hb2'⟩ := (HG.out.below B1).node k hl; obtain rfl : b' = b := Option.some.inj (hb1'.symm.trans hb1); have d3' := hb2'.cellOf (i := 3) rfl)
      have hx1 : intVals ((S.q.take k).map Nd.tx) ++ [Value.int .i64 nd.tx] = intVals ((S.q.take (k + 1)).map Nd.tx) := by rw [hT.out]; simp only [intVals, List.map_append, List.map_cons, List.map_nil]
      rw [hx1] at hown1
      go_roundw
      case rel => exact ⟨k + 1, a1, cap1, by omega, rfl, rfl, hown1, B1⟩
      case measure => simp; omega
    · have hb1 := HG.out.last k (by omega)
      have hkl : k = S.q.length := by omega
      rw [show ptrOf bs[k]? = .pointer none from by rw [hb1]; rfl]
      rw [List.take_of_length_le (by omega)] at hown
      have hln := Box.mk (show (S.q.map Nd.tx).length = k from by rw [List.length_map]; omega)
      generalize S.q.map Nd.tx = xs at *
      go_wp2_with fail
      go_ret
      exact ⟨a, cap, by rw [hln.out]; rfl, by rw [hln.out]; exact hown, B⟩
end Go.Proofs.Ytkloafpoldmpkaa
