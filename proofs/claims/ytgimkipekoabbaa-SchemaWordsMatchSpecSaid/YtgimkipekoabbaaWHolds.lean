/-
  The walks of ref.Holds, cmp.Or and compare. No condition.
-/
import Derived.Test.YtgimkipekoabbaaWCmp
namespace Go.Proofs.Ytgimkipekoabbaa
open Go.RowKit

set_option maxRecDepth 20000 in
set_option maxHeartbeats 2000000 in
theorem rholds_any (op : Int) (x y : Val) (w : World) : Calls Try.prog 66 #[.int .i64 op, x.v, y.v] w fun e w' => e = .returned (.bool (holdsB op (cmpV x y))) ∧ Below w.heap.size w w' := by
  have HC := Box.mk (fun w => rcompare_any x y w)
  generalize cmpV x y = c at *
  obtain ⟨kx, nx, sx⟩ := x
  obtain ⟨ky, ny, sy⟩ := y
  unfold Val.v at *
  go_enter Try.func66, Try.ntmps66
  go_wp2_with fail
  refine (HC.out _).mono ?_
  rintro e w1 ⟨rfl, hb⟩
  clear HC
  have HB := Box.mk (show Below w.heap.size w w1 from (((Below.refl _ _).alloc (Nat.le_refl _) _).alloc (by simp) _).trans (hb.mono (by simp; omega)))
  clear hb
  go_wp2_with fail
  all_goals
    go_ret
    refine ⟨?_, HB.out⟩
    simp_all [holdsB] <;> (try rw [Bool.eq_iff_iff]) <;> (try simp) <;> omega

def orI (p q : Int) : Int := if p = 0 then q else p

set_option maxRecDepth 20000 in
set_option maxHeartbeats 2000000 in
theorem or_any (p q : Int) (w : World) (g : Nat) (hb : Blk w g 3 [.int .i64 p, .int .i64 q]) : Calls Try.prog 85 #[.slice (some ⟨g, 0, none⟩) 2 2] w fun e w' => e = .returned (.int .i64 (orI p q)) ∧ w' = w := by
  have c0 := hb.cell 0 (by simp)
  have c1 := hb.cell 1 (by simp)
  simp only [List.getElem_cons_zero, List.getElem_cons_succ] at c0 c1
  go_enter Try.func85, Try.ntmps85
  go_wp2_with fail
  clear hb
  go_loopw [8] (fun i wr => ∃ k : Nat, k ≤ 2 ∧ i = .int .i64 k ∧ (0 < k → p = 0) ∧ (1 < k → q = 0) ∧ wr = w) (fun i _ => 2 - (intOf i).toNat)
  case atStart => exact ⟨0, by omega, rfl, fun h => by omega, fun h => by omega, rfl⟩
  case round =>
    obtain ⟨k, hk, rfl, hp, hq, rfl⟩ := hrel
    have HP := Box.mk hp
    have HQ := Box.mk hq
    clear hp hq
    rcases (show k = 0 ∨ k = 1 ∨ k = 2 by omega) with rfl | rfl | rfl
    · by_cases e : p = 0
      · have b1 : (p != 0) = false := by simp [e]
        have E := Box.mk e
        clear e
        go_wp2_with fail
        all_goals (refine ⟨⟨1, by omega, by go_num, fun _ => E.out, fun h => by omega, trivial⟩, by simp [intOf]⟩)
      · have b1 : (p != 0) = true := by simp [e]
        have E := Box.mk e
        clear e
        go_wp2_with fail
        all_goals (go_ret; exact ⟨by rw [show orI p q = p from if_neg E.out]; rfl, rfl⟩)
    · have p0 := HP.out (by omega)
      by_cases e : q = 0
      · have b1 : (q != 0) = false := by simp [e]
        have E := Box.mk e
        have P0 := Box.mk p0
        clear e p0
        go_wp2_with fail
        all_goals (refine ⟨⟨2, by omega, by go_num, fun _ => P0.out, fun _ => E.out, trivial⟩, by simp [intOf]⟩)
      · have b1 : (q != 0) = true := by simp [e]
        have P0 := Box.mk p0
        clear e p0
        go_wp2_with fail
        all_goals (go_ret; exact ⟨by rw [show orI p q = q from if_pos P0.out]; rfl, rfl⟩)
    · have p0 := Box.mk (HP.out (by omega))
      have q0 := Box.mk (HQ.out (by omega))
      go_wp2_with fail
      all_goals (go_ret; exact ⟨by rw [show orI p q = 0 from (if_pos p0.out).trans q0.out]; rfl, rfl⟩)
end Go.Proofs.Ytgimkipekoabbaa
