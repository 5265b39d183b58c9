/-
  The walk of compare. No condition.
-/
import Derived.Test.YtgimkipekoabbaaWHolds
namespace Go.Proofs.Ytgimkipekoabbaa
open Go.RowKit

theorem cmpV_or (x y : Val) : orI (cmpI x.n y.n) (cmpS x.s y.s) = cmpV x y := by
  unfold orI cmpI cmpV
  by_cases h : x.n < y.n
  · simp [h]
  · by_cases h2 : y.n < x.n
    · simp [h, h2]
    · simp [h, h2]

theorem nm_cmpI : (Try.f86.name == "runtime.NumGoroutine") = false := by kernel_rfl
theorem bd_cmpI : Try.f86.body.isNone = false := by kernel_rfl
theorem nm_cmpS : (Try.f87.name == "runtime.NumGoroutine") = false := by kernel_rfl
theorem bd_cmpS : Try.f87.body.isNone = false := by kernel_rfl
theorem nm_or : (Try.f85.name == "runtime.NumGoroutine") = false := by kernel_rfl
theorem bd_or : Try.f85.body.isNone = false := by kernel_rfl
theorem sl_int : SlT Try.prog 32 3 (.int .i64 0) 1 8 := ⟨by kernel_rfl, by kernel_rfl, rfl⟩

set_option maxRecDepth 20000 in
set_option maxHeartbeats 2000000 in
theorem compare_any (x y : Val) (w : World) : Calls Try.prog 60 #[x.v, y.v] w fun e w' => e = .returned (.int .i64 (cmpV x y)) ∧ Below w.heap.size w w' := by
  have HV := Box.mk (cmpV_or x y)
  obtain ⟨kx, nx, sx⟩ := x
  obtain ⟨ky, ny, sy⟩ := y
  have HI := Box.mk (fun w => cmpI_any nx ny w)
  have HS := Box.mk (fun w => cmpS_any sx sy w)
  have HO := Box.mk (fun (w : World) (g : Nat) (hb : Blk w g 3 [.int .i64 (cmpI nx ny), .int .i64 (cmpS sx sy)]) => or_any (cmpI nx ny) (cmpS sx sy) w g hb)
  rw [← HV.out]
  clear HV
  show Calls _ _ _ _ fun e w' => e = .returned (.int .i64 (orI (cmpI nx ny) (cmpS sx sy))) ∧ Below w.heap.size w w'
  generalize cmpI nx ny = p at *
  generalize cmpS sx sy = q at *
  generalize orI p q = r at *
  unfold Val.v
  have b1 := (Blk.new (w := w) (k := w.heap.size) (ty := 40) (cs := [.int .i64 kx, .int .i64 nx, .string ⟨sx.toArray⟩]) rfl rfl).alloc (.cells #[.int .i64 ky, .int .i64 ny, .string ⟨sy.toArray⟩] 40)
  have b2 := Blk.new (w := w.alloc (.cells #[.int .i64 kx, .int .i64 nx, .string ⟨sx.toArray⟩] 40)) (k := w.heap.size + 1) (ty := 40) (cs := [.int .i64 ky, .int .i64 ny, .string ⟨sy.toArray⟩]) (by simp) rfl
  have B2 := ((Below.refl w.heap.size w).alloc (Nat.le_refl _) (.cells #[.int .i64 kx, .int .i64 nx, .string ⟨sx.toArray⟩] 40)).alloc (by simp) (.cells #[.int .i64 ky, .int .i64 ny, .string ⟨sy.toArray⟩] 40)
  have HS0 : Blk (World.drew _) w.heap.size 40 [.int .i64 kx, .int .i64 nx, .string ⟨sx.toArray⟩] ∧ Blk (World.drew _) (w.heap.size + 1) 40 [.int .i64 ky, .int .i64 ny, .string ⟨sy.toArray⟩] ∧ Below w.heap.size w (World.drew _) := ⟨b1.drew, b2.drew, B2.drew⟩
  clear b1 b2
  go_enter Try.func60, Try.ntmps60
  go_wp2_with fail
  refine wp_region_held_drew (S := fun w' => Blk w' w.heap.size 40 [.int .i64 kx, .int .i64 nx, .string ⟨sx.toArray⟩] ∧ Blk w' (w.heap.size + 1) 40 [.int .i64 ky, .int .i64 ny, .string ⟨sy.toArray⟩] ∧ Below w.heap.size w w') (by kernel_rfl) HS0 (fun _ => ?_)
  refine wpAnyH_take (i := 0) (v := ?_) rfl (by kernel_rfl) (by kernel_rfl) (by kernel_rfl) (fun _ _ _ h => h) (yieldsIf_val (by rfl) (fun w' hS => ?_)) HS0 ?_
  rotate_left
  · skip
    go_simp
    all_goals with_reducible rfl
  conv =>
    arg 8
    simp [go_sem]
  refine wpAnyH_take (i := 1) (v := ?_) rfl (by kernel_rfl) (by kernel_rfl) (by kernel_rfl) (fun _ _ _ h => h) (yieldsIf_val (by rfl) (fun w' hS => ?_)) HS0 ?_
  rotate_left
  · skip
    have e := hS.1.cellOf (i := 1) rfl
    go_simp
    all_goals with_reducible rfl
  conv =>
    arg 8
    simp [go_sem]
  refine wpAnyH_take (i := 2) (v := ?_) rfl (by kernel_rfl) (by kernel_rfl) (by kernel_rfl) (fun _ _ _ h => h) (yieldsIf_val (by rfl) (fun w' hS => ?_)) HS0 ?_
  rotate_left
  · skip
    go_simp
    all_goals with_reducible rfl
  conv =>
    arg 8
    simp [go_sem]
  refine wpAnyH_take (i := 3) (v := ?_) rfl (by kernel_rfl) (by kernel_rfl) (by kernel_rfl) (fun _ _ _ h => h) (yieldsIf_val (by rfl) (fun w' hS => ?_)) HS0 ?_
  rotate_left
  · skip
    have e := hS.2.1.cellOf (i := 1) rfl
    go_simp
    all_goals with_reducible rfl
  conv =>
    arg 8
    simp [go_sem]
  refine wpAnyH_take (i := 5) (v := ?_) rfl (by kernel_rfl) (by kernel_rfl) (by kernel_rfl) (fun _ _ _ h => h) (yieldsIf_val (by rfl) (fun w' hS => ?_)) HS0 ?_
  rotate_left
  · skip
    go_simp
    all_goals with_reducible rfl
  conv =>
    arg 8
    simp [go_sem]
  refine wpAnyH_take (i := 6) (v := ?_) rfl (by kernel_rfl) (by kernel_rfl) (by kernel_rfl) (fun _ _ _ h => h) (yieldsIf_val (by rfl) (fun w' hS => ?_)) HS0 ?_
  rotate_left
  · skip
    have e := hS.1.cellOf (i := 2) rfl
    go_simp
    all_goals with_reducible rfl
  conv =>
    arg 8
    simp [go_sem]
  refine wpAnyH_take (i := 7) (v := ?_) rfl (by kernel_rfl) (by kernel_rfl) (by kernel_rfl) (fun _ _ _ h => h) (yieldsIf_val (by rfl) (fun w' hS => ?_)) HS0 ?_
  rotate_left
  · skip
    go_simp
    all_goals with_reducible rfl
  conv =>
    arg 8
    simp [go_sem]
  refine wpAnyH_take (i := 8) (v := ?_) rfl (by kernel_rfl) (by kernel_rfl) (by kernel_rfl) (fun _ _ _ h => h) (yieldsIf_val (by rfl) (fun w' hS => ?_)) HS0 ?_
  rotate_left
  · skip
    have e := hS.2.1.cellOf (i := 2) rfl
    go_simp
    all_goals with_reducible rfl
  conv =>
    arg 8
    simp [go_sem]
  conv =>
    arg 8
    simp [go_sem]
  refine wpAnyH_ready (rs := [4]) (by kernel_rfl) (by simp) (AllReadyH.cons rfl (fun K' hK' => oper_call (by rfl) 86 [.tmp 6, .tmp 8] #[3, 3] rfl (vs := [.int .i64 nx, .int .i64 ny]) rfl Try.func86 nm_cmpI bd_cmpI (HI.out _) ?_) AllReadyH.nil)
  rintro e w5 ⟨rfl, rfl⟩
  have HS1 := HS0
  refine ⟨_, rfl, hK'.out _ _ HS1 (fun _ => ?_)⟩
  clear hK' K'
  conv =>
    arg 8
    simp [go_sem]
  conv =>
    arg 8
    simp [go_sem]
  refine wpAnyH_ready (rs := [9]) (by kernel_rfl) (by simp) (AllReadyH.cons rfl (fun K' hK' => oper_call (by rfl) 87 [.tmp 11, .tmp 13] #[9, 9] rfl (vs := [.string ⟨sx.toArray⟩, .string ⟨sy.toArray⟩]) rfl Try.func87 nm_cmpS bd_cmpS (HS.out _) ?_) AllReadyH.nil)
  rintro e w6 ⟨rfl, rfl⟩
  have HS2 := HS1
  refine ⟨_, rfl, hK'.out _ _ HS2 (fun _ => ?_)⟩
  clear hK' K'
  conv =>
    arg 8
    simp [go_sem]
  refine wpAnyH_ready (rs := [10]) (by kernel_rfl) (by simp) (AllReadyH.cons rfl (fun K' hK' => oper_lit2 (by rfl) 32 (.tmp 9) (.tmp 14) rfl sl_int (v := .int .i64 p) (u := .int .i64 q) rfl rfl ?_) AllReadyH.nil)
  have HS3 := And.intro (HS2.1.alloc (.cells #[.int .i64 p, .int .i64 q] 3)) (And.intro (HS2.2.1.alloc (.cells #[.int .i64 p, .int .i64 q] 3)) (HS2.2.2.alloc HS2.2.2.size (.cells #[.int .i64 p, .int .i64 q] 3)))
  refine hK'.out _ _ HS3 (fun _ => ?_)
  clear hK' K'
  conv =>
    arg 8
    simp [go_sem]
  refine wpAnyH_ready (rs := [11]) (by kernel_rfl) (by simp) (AllReadyH.cons rfl (fun K' hK' => oper_call (by rfl) 85 [.tmp 15] #[32] rfl (vs := [.slice (some ⟨_, 0, none⟩) 2 2]) rfl Try.func85 nm_or bd_or (HO.out _ _ (Blk.new (by simp) rfl)) ?_) AllReadyH.nil)
  rintro e w7 ⟨rfl, rfl⟩
  have HS4 := HS3
  refine ⟨_, rfl, hK'.out _ _ HS4 (fun _ => ?_)⟩
  clear hK' K'
  conv =>
    arg 8
    simp [go_sem]
  refine wpAnyH_take (i := 12) (v := ?_) rfl (by kernel_rfl) (by kernel_rfl) (by kernel_rfl) (fun _ _ _ h => h) (yieldsIf_val (by rfl) (fun w' hS => ?_)) HS4 ?_
  rotate_left
  · skip
    go_simp
    all_goals with_reducible rfl
  refine ⟨by kernel_rfl, ?_⟩
  conv =>
    arg 5
    simp [go_sem]
  go_wp2_with fail
  go_ret
  exact ⟨rfl, HS4.2.2⟩
end Go.Proofs.Ytgimkipekoabbaa
