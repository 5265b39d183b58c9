/-
  The walk of a group's Done. No condition.
-/
import Derived.Test.YtkloafpoldmpkaaAsk
namespace Go.Proofs.Ytkloafpoldmpkaa
open Go.RowKit

theorem sl28 : SlT Try.prog 28 65 (.agg #[.int .i64 0, .int .i64 0]) 2 16 := ⟨by kernel_rfl, by kernel_rfl, rfl⟩
theorem agg32 : AggT Try.prog 32 2 := ⟨by kernel_rfl, by kernel_rfl⟩
/-- The reports of the first k of a batch. -/
def repVals (first : Int) (l : List Int) (k : Nat) : List Value := ((List.range k).map fun i => [Value.int .i64 (l.getD i 0), Value.int .i64 (first + i)]).flatten
theorem repVals_succ (first : Int) (l : List Int) (k : Nat) : repVals first l (k + 1) = repVals first l k ++ [.int .i64 (l.getD k 0), .int .i64 (first + k)] := by
  unfold repVals; rw [List.range_succ, List.map_append, List.flatten_append]; simp

theorem rd_two (w : World) (x y : Value) (e : TypeId) : Rd (w.alloc (.cells #[x, y] e)) (some ⟨w.heap.size, 0, none⟩) 1 1 2 [x, y] :=
  ⟨rfl, Nat.le_refl _, by unfold maxLen; omega, fun h => (by cases h), fun ad ha j u hu => by
    simp only [Option.some.injEq] at ha; subst ha
    exact (Blk.new (cs := [x, y]) rfl rfl).agg j u hu⟩

/-- What Done returns. -/
def RetD (g m : Nat) (bs : List Nat) (ta : Option Addr) (S : GS) (w : World) (e : Ending) (w' : World) : Prop :=
  ∃ a cap, e = .returned (.slice a S.txs.length cap) ∧ w'.ownsRow w.heap.size 65 2 (.slice a S.txs.length cap) S.txs.length (repVals S.first S.txs S.txs.length) ∧ Grp w' g m bs none 0 S.done ∧ But (fpOf g m bs ta) w w'

set_option maxRecDepth 20000 in
set_option maxHeartbeats 2000000 in
theorem done_any {w : World} {g m : Nat} {bs : List Nat} {ta : Option Addr} {tc : Nat} {S : GS} (h : Grp w g m bs ta tc S) :
    Calls Try.prog 12 #[.pointer (some ⟨g, 0, none⟩)] w (RetD g m bs ta S w) := by
  have HG := Box.mk h
  have c7 := h.blk.cellOf (i := 7) rfl
  have c8 := h.blk.cellOf (i := 8) rfl
  have hfirst := h.ok.first
  have htx := h.ok.txs.1
  clear h
  go_enter Try.func12, Try.ntmps12
  go_wp2_with fail
  go_loopw [3, 12] (fun v i wr => ∃ (k : Nat) (a : Option Addr) (cap : Nat), k ≤ S.txs.length ∧ i = .int .i64 k ∧ v = .slice a k cap ∧ wr.ownsRow w.heap.size 65 2 (.slice a k cap) k (repVals S.first S.txs k) ∧ Below w.heap.size w wr)
    (fun _ i _ => S.txs.length - (intOf i).toNat)
  case atStart => exact ⟨0, none, 0, Nat.zero_le _, rfl, rfl, World.ownsRow_nil _ _ _ _, Below.refl _ _⟩
  case round =>
    obtain ⟨k, a, cap, hk, rfl, rfl, hown, B⟩ := hrel
    have hsz := B.size
    have c7' := ((HG.out.below B).blk).cellOf (i := 7) rfl
    by_cases hl : k < S.txs.length
    · obtain ⟨g2, off, rfl, hc⟩ := (HG.out.below B).txs.intAtD k hl
      have hT := Box.mk (repVals_succ S.first S.txs k)
      generalize S.txs.getD k 0 = x at *
      have RR := Box.mk (rd_two wr (.int .i64 x) (.int .i64 (S.first + (k : Int))) 65)
      go_wp2_with (at_builtin; refine wpList_append_src rfl _ _ 28 28 rfl sl28 (.inl sl28.ht) rfl (hown.alloc _) rfl (Src.ofRd RR.out (by simp [Value.oneCell'])) (by omega) (by unfold maxLen; omega) (by simp; omega) ?_; intro a1 cap1 w1 hown1 hgr1 _)
      have B1 := below_grown (B.alloc (by omega) _) hgr1 (hown.alloc _) (Nat.le_refl _) (by simp; omega)
      go_roundw
      case rel => exact ⟨k + 1, a1, cap1, by omega, by go_num, rfl, by rw [hT.out]; exact hown1, B1⟩
      case measure => simp [intOf]; omega
    · have hkn : k = S.txs.length := by omega
      subst hkn
      have G1 := HG.out.below B
      have c6 := G1.blk.cellOf (i := 6) rfl
      have c8' := G1.blk.cellOf (i := 8) rfl
      have f6 := G1.blk.free 6
      have f7 := G1.blk.free 7
      have f8 := G1.blk.free 8
      go_wp2_with fail
      go_ret
      have hgl := HG.out.blk.lt
      have hkeep : ∀ k, k ≠ g → (((wr.setCell ⟨g, 6, none⟩ (.bool false)).setCell ⟨g, 7, none⟩ (.int .i64 0)).setCell ⟨g, 8, none⟩ (.slice none 0 0)).heap[k]? = wr.heap[k]? := fun k hk =>
        (Below.heap_setCell _ _ _ _ hk).trans ((Below.heap_setCell _ _ _ _ hk).trans (Below.heap_setCell _ _ _ _ hk))
      refine ⟨a, cap, rfl, own_eq hown (fun k hk => hkeep k (by have := (hown.lt k hk).1; omega)), ⟨((G1.blk.set 6 _).set 7 _).set 8 _, fun i hi => ?_, G1.blen, G1.map.eq (hkeep m G1.gm.symm), Rd.nilSlice _ _, G1.nodup, (fun ad h => by cases h), GS.done_ok G1.ok⟩, (((But.ofBelow B).setCell (.inl (by simp [fpOf])) _).setCell (.inl (by simp [fpOf])) _).setCell (.inl (by simp [fpOf])) _⟩
      obtain ⟨b, hb1, hb2⟩ := G1.nodes i hi
      exact ⟨b, hb1, hb2.eq (hkeep b (G1.node_g hb1).1)⟩
end Go.Proofs.Ytkloafpoldmpkaa
