/-
  The walk of calm. No condition.
-/
import Derived.Test.YtkloafpoldmpkaaOne
namespace Go.Proofs.Ytkloafpoldmpkaa
open Go.RowKit

theorem QX_congr {mo ro de : Int} {W T T' : Nat → Int} {k i : Nat} (h : ∀ j, j < i → T j = T' j) : QX mo ro de W T k i = QX mo ro de W T' k i := by
  unfold QX
  congr 1
  apply List.map_congr_left
  intro j hj
  rw [h j (List.mem_range.1 (List.mem_of_mem_drop hj))]

def RetCalm (g : Nat) (mo ro de : Int) (W T : Nat → Int) (k n : Nat) (tick : Int) (B : Nat) (l : List HP) (i : Nat) (w : World) (e : Ending) (w' : World) : Prop :=
  ∃ k', k ≤ k' ∧ k' ≤ n ∧ e = .returned (.bool true) ∧ (QX mo ro de W T k' n).due tick = false ∧ Own B w' (l.set i (GrpP g (QX mo ro de W T k' n))) ∧ Below B w w'

set_option maxRecDepth 20000 in
set_option maxHeartbeats 2000000 in
theorem calm_own {B : Nat} {w : World} {l : List HP} (O : Own B w l) (i : Nat) {g : Nat} {mo ro de : Int} {W T : Nat → Int} {k n : Nat} (hi : l[i]? = some (GrpP g (QX mo ro de W T k n))) (hk : k ≤ n) (hn : n ≤ 60) (tick : Int) :
    Calls Try.prog 15 #[.pointer (some ⟨g, 0, none⟩), .int .i64 tick] w (RetCalm g mo ro de W T k n tick B l i w) := by
  have hil : i < l.length := (List.getElem?_eq_some_iff.1 hi).1
  have hset : ∀ Q : HP, (l.set i Q)[i]? = some Q := fun Q => List.getElem?_set_self hil
  have HS := Box.mk hset; clear hset
  have O0 : Own B w (l.set i (GrpP g (QX mo ro de W T k n))) := by
    have : l.set i (GrpP g (QX mo ro de W T k n)) = l := by
      obtain ⟨h1, h2⟩ := List.getElem?_eq_some_iff.1 hi
      rw [← h2]; exact List.set_getElem_self h1
    rw [this]; exact O
  have hB := O.base
  clear hi O
  go_enter Try.func15, Try.ntmps15
  go_wp2_with fail
  go_loopw [5] (fun vj wr => ∃ j k' : Nat, vj = .int .i64 j ∧ k + j ≤ k' ∧ k' ≤ n ∧ Own B wr (l.set i (GrpP g (QX mo ro de W T k' n))) ∧ Below B w wr) (fun vj _ => 100 - (intOf vj).toNat)
  case atStart => exact ⟨0, k, rfl, by omega, hk, O0, Below.refl _ _⟩
  case round =>
    clear O0
    obtain ⟨j, k', rfl, hj, hk', O, BW⟩ := hrel
    cases hd : (QX mo ro de W T k' n).due tick with
    | false =>
      have hD := Box.mk (due_to O i (HS.out _) tick hd)
      have hD2 := Box.mk hd; clear hd
      go_wp2_with fail
      refine hD.out.mono ?_
      rintro e w3 ⟨rfl, n1, rfl⟩
      replace O := O.drewN n1
      replace BW := below_drewN BW n1
      clear hD
      generalize wr.drewN n1 = w3 at *
      have hD := Box.mk (due_to O i (HS.out _) tick hD2.out)
      go_wp2_with fail
      refine hD.out.mono ?_
      rintro e w4 ⟨rfl, n2, rfl⟩
      go_wp2_with fail
      go_ret
      exact ⟨k', by omega, hk', rfl, hD2.out, O.drewN n2, below_drewN BW n2⟩
    | true =>
      have hkn : k' < n := by
        by_cases e : k' < n
        · exact e
        · rw [QX_due_none tick (by omega)] at hd; cases hd
      have hfp := QX_front_pos (Own.ok O i (HS.out _)) hkn
      have hfl := (QX mo ro de W T k' n).front_le
      rw [QX_len] at hfl
      have ht : (QX mo ro de W T k' n).tryCut tick = (QX mo ro de W T k' n).cut := by unfold GS.tryCut; rw [hd]; rfl
      have HT := Box.mk ht; clear ht
      have hD := Box.mk (due_to O i (HS.out _) tick hd)
      have hD2 := Box.mk hd; clear hd
      go_wp2_with fail
      refine hD.out.mono ?_
      rintro e w3 ⟨rfl, n1, rfl⟩
      replace O := O.drewN n1
      replace BW := below_drewN BW n1
      clear hD
      generalize wr.drewN n1 = w3 at *
      have hC := Box.mk (cut_to O i (HS.out _) tick hD2.out HT.out rfl rfl)
      generalize (QX mo ro de W T k' n).cutFirst tick = cf at *
      generalize (QX mo ro de W T k' n).cutTxs tick = ct at *
      go_wp2_with fail
      refine hC.out.mono ?_
      rintro e w4 ⟨a4, c4, rfl, O4, B4⟩
      replace B4 := BW.trans B4
      replace O4 := O4.pop
      rw [List.set_set] at O4
      clear hC O BW
      have hDn := Box.mk (done_to O4 i (HS.out _) (QX_cut (mo := mo) (ro := ro) (de := de) (W := W) (T := T) (k := k') (i := n)) rfl)
      generalize (QX mo ro de W T k' n).cut.reps = rs at *
      generalize (QX mo ro de W T k' n).front = f at *
      go_wp2_with fail
      refine hDn.out.mono ?_
      rintro e w5 ⟨a5, c5, rfl, O5, B5⟩
      replace B5 := B4.trans B5
      replace O5 := O5.pop
      rw [List.set_set] at O5
      clear hDn O4 B4
      go_wp2_with fail
      go_roundw
      case rel => exact ⟨j + 1, k' + f, by go_num, by omega, by omega, O5, B5⟩
      case measure => simp [intOf]; omega
end Go.Proofs.Ytkloafpoldmpkaa
