/-
  The walk of a group's Open. No condition.
-/
import Derived.Test.YtkloafpoldmpkaaSame
namespace Go.Proofs.Ytkloafpoldmpkaa
open Go.RowKit

theorem nm35 : (Try.f35.name == "runtime.NumGoroutine") = false := by kernel_rfl
theorem bd35 : Try.f35.body.isNone = false := by kernel_rfl
theorem zero32' : (Try.prog.info? 32).map (·.zero) = some (some (.agg #[.int .i64 0, .slice none 0 0])) := by kernel_rfl

/-- What Open returns. -/
def RetO (S : GS) (w : World) (e : Ending) (w' : World) : Prop :=
  ∃ a cap, e = .returned (.tuple #[.agg #[.int .i64 S.first, .slice a S.txs.length cap], .bool S.opn]) ∧ Rd w' a S.txs.length cap 1 (intVals S.txs) ∧ (∀ ad, a = some ad → w.heap.size ≤ ad.block) ∧ Below w.heap.size w w'

set_option maxRecDepth 20000 in
set_option maxHeartbeats 1000000 in
theorem open_any {w : World} {g m : Nat} {bs : List Nat} {ta : Option Addr} {tc : Nat} {S : GS} (h : Grp w g m bs ta tc S) :
    Calls Try.prog 25 #[.pointer (some ⟨g, 0, none⟩)] w (RetO S w) := by
  have HG := Box.mk h
  have c6 := h.blk.cellOf (i := 6) rfl
  have c7 := h.blk.cellOf (i := 7) rfl
  have c8 := h.blk.cellOf (i := 8) rfl
  clear h
  go_enter Try.func25, Try.ntmps25
  go_wp2_with fail
  have b0 := (HG.out.blk.alloc (.cells #[.int .i64 0, .slice none 0 0] 32)).drew
  refine wp_region_held_drew (S := fun w' => Blk w' g 63 (grpVals S m bs ta tc)) (by kernel_rfl) b0 (fun _ => ?_)
  refine wpAnyH_take (i := 0) (v := ?_) rfl (by kernel_rfl) (by kernel_rfl) (by kernel_rfl) (fun _ _ _ h => h) (yieldsIf_val (by rfl) (fun w' hS => ?_)) b0 ?_
  rotate_left
  · skip
    go_simp
    all_goals with_reducible rfl
  refine wpAnyH_take (i := 1) (v := ?_) rfl (by kernel_rfl) (by kernel_rfl) (by kernel_rfl) (fun _ _ _ h => h) (yieldsIf_val (by rfl) (fun w' hS => ?_)) b0 ?_
  rotate_left
  · skip
    go_simp
    all_goals with_reducible rfl
  refine wpAnyH_take (i := 2) (v := ?_) rfl (by kernel_rfl) (by kernel_rfl) (by kernel_rfl) (fun _ _ _ h => h) (yieldsIf_val (by rfl) (fun w' hS => ?_)) b0 ?_
  rotate_left
  · skip
    go_simp
    all_goals with_reducible rfl
  refine wpAnyH_take (i := 3) (v := ?_) rfl (by kernel_rfl) (by kernel_rfl) (by kernel_rfl) (fun _ _ _ h => h) (yieldsIf_val (by rfl) (fun w' hS => ?_)) b0 ?_
  rotate_left
  · skip
    go_simp
    all_goals with_reducible rfl
  refine wpAnyH_take (i := 4) (v := ?_) rfl (by kernel_rfl) (by kernel_rfl) (by kernel_rfl) (fun _ _ _ h => h) (yieldsIf_val (by rfl) (fun w' hS => ?_)) b0 ?_
  rotate_left
  · skip
    have d6 := hS.cellOf (i := 6) rfl
    have d7 := hS.cellOf (i := 7) rfl
    have d8 := hS.cellOf (i := 8) rfl
    go_simp
    all_goals with_reducible rfl
  refine wpAnyH_take (i := 5) (v := ?_) rfl (by kernel_rfl) (by kernel_rfl) (by kernel_rfl) (fun _ _ _ h => h) (yieldsIf_val (by rfl) (fun w' hS => ?_)) b0 ?_
  rotate_left
  · skip
    go_simp
    all_goals with_reducible rfl
  refine wpAnyH_take (i := 6) (v := ?_) rfl (by kernel_rfl) (by kernel_rfl) (by kernel_rfl) (fun _ _ _ h => h) (yieldsIf_val (by rfl) (fun w' hS => ?_)) b0 ?_
  rotate_left
  · skip
    go_simp
    all_goals with_reducible rfl
  refine wpAnyH_take (i := 7) (v := ?_) rfl (by kernel_rfl) (by kernel_rfl) (by kernel_rfl) (fun _ _ _ h => h) (yieldsIf_val (by rfl) (fun w' hS => ?_)) b0 ?_
  rotate_left
  · skip
    go_simp
    all_goals with_reducible rfl
  refine wpAnyH_take (i := 8) (v := ?_) rfl (by kernel_rfl) (by kernel_rfl) (by kernel_rfl) (fun _ _ _ h => h) (yieldsIf_val (by rfl) (fun w' hS => ?_)) b0 ?_
  rotate_left
  · skip
    go_simp
    all_goals with_reducible rfl
  refine wpAnyH_take (i := 9) (v := ?_) rfl (by kernel_rfl) (by kernel_rfl) (by kernel_rfl) (fun _ _ _ h => h) (yieldsIf_val (by rfl) (fun w' hS => ?_)) b0 ?_
  rotate_left
  · skip
    have d6 := hS.cellOf (i := 6) rfl
    have d7 := hS.cellOf (i := 7) rfl
    have d8 := hS.cellOf (i := 8) rfl
    go_simp
    all_goals with_reducible rfl
  refine wpAnyH_take (i := 12) (v := ?_) rfl (by kernel_rfl) (by kernel_rfl) (by kernel_rfl) (fun _ _ _ h => h) (yieldsIf_val (by rfl) (fun w' hS => ?_)) b0 ?_
  rotate_left
  · skip
    go_simp
    all_goals with_reducible rfl
  refine wpAnyH_take (i := 13) (v := ?_) rfl (by kernel_rfl) (by kernel_rfl) (by kernel_rfl) (fun _ _ _ h => h) (yieldsIf_val (by rfl) (fun w' hS => ?_)) b0 ?_
  rotate_left
  · skip
    go_simp
    all_goals with_reducible rfl
  refine wpAnyH_take (i := 14) (v := ?_) rfl (by kernel_rfl) (by kernel_rfl) (by kernel_rfl) (fun _ _ _ h => h) (yieldsIf_val (by rfl) (fun w' hS => ?_)) b0 ?_
  rotate_left
  · skip
    go_simp
    all_goals with_reducible rfl
  refine wpAnyH_take (i := 15) (v := ?_) rfl (by kernel_rfl) (by kernel_rfl) (by kernel_rfl) (fun _ _ _ h => h) (yieldsIf_val (by rfl) (fun w' hS => ?_)) b0 ?_
  rotate_left
  · skip
    have d6 := hS.cellOf (i := 6) rfl
    have d7 := hS.cellOf (i := 7) rfl
    have d8 := hS.cellOf (i := 8) rfl
    go_simp
    all_goals with_reducible rfl
  conv =>
    arg 8
    simp [go_sem]
  have R0 := ((HG.out.txs).alloc (.cells #[.int .i64 0, .slice none 0 0] 32)).drew
  have o0 := (Blk.new (w := w) (ty := 32) (cs := [.int .i64 0, .slice none 0 0]) (k := w.heap.size) rfl rfl).drew
  have B0 := ((Below.refl w.heap.size w).alloc (Nat.le_refl _) (.cells #[.int .i64 0, .slice none 0 0] 32)).drew
  have htx := HG.out.ok.txs.1
  refine wpAnyH_ready (rs := [10]) (by kernel_rfl) (by simp) (AllReadyH.cons rfl (fun K' hK' => oper_call (by rfl) 35 [.tmp 13] #[22] rfl (vs := [.slice ta S.txs.length tc]) rfl Try.func35 nm35 bd35 (clone_any S.txs ta S.txs.length tc _ R0 (by omega)) ?_) AllReadyH.nil)
  rintro e w3 ⟨a3, c3, rfl, hown3, hb3⟩
  have b3 := b0.call0 hb3
  have o3 := o0.call0 hb3
  have B3 := B0.call0 (Nat.le_refl _) hb3
  refine ⟨_, rfl, hK'.out _ _ b3 (fun _ => ?_)⟩
  clear hK' K'
  conv =>
    arg 8
    simp [go_sem]
  refine wpAnyH_take (i := 11) (v := .agg #[.int .i64 S.first, .slice a3 S.txs.length c3]) rfl (by kernel_rfl) (by kernel_rfl) (by kernel_rfl) (fun _ _ _ h => h) (yieldsIf_val (by rfl) (fun w' hS => ?_)) b3 ?_
  · go_simp
    all_goals with_reducible rfl
  conv =>
    arg 8
    simp [go_sem]
  refine wpAnyH_ready (rs := [16]) (by kernel_rfl) (by simp) (AllReadyH.cons rfl (fun K' hK' => oper_store_row (by rfl) 32 (.tmp 2) (.tmp 15) rfl rfl agg32.info o3 rfl rfl (cs := [.int .i64 S.first, .slice a3 S.txs.length c3]) rfl rfl (by simp [Value.oneCell']) (hK'.out _ _ (b3.rowOther (by have := HG.out.blk.lt; omega) _) (fun _ => ?_))) AllReadyH.nil)
  refine wpAnyH_take (i := 17) (v := .bool S.opn) rfl (by kernel_rfl) (by kernel_rfl) (by kernel_rfl) (fun _ _ _ h => h) (yieldsIf_val (by rfl) (fun w' hS => ?_)) (b3.rowOther (by have := HG.out.blk.lt; omega) _) ?_
  · go_simp
    all_goals with_reducible rfl
  refine ⟨by kernel_rfl, ?_⟩
  conv =>
    arg 5
    simp [go_sem]
  go_wp2_with fail
  have hne : ∀ ad, a3 = some ad → w.heap.size + 1 ≤ ad.block := fun ad ha => by have := hown3.lt ad.block (by rw [ha]; rfl); simp at this; omega
  exact bodyPost_ret (results_cell2 (g := w.heap.size) (cs := [.int .i64 S.first, .slice a3 S.txs.length c3]) rfl _ rfl (o3.row _) agg32) rfl ⟨a3, c3, rfl, (Rd.ofOwn hown3).eq (fun ad ha => setRow_other _ _ _ _ (by have := hne ad ha; omega)), (fun ad ha => Nat.le_of_succ_le (hne ad ha)), below_setRow B3 (Nat.le_refl _) _⟩
end Go.Proofs.Ytkloafpoldmpkaa
