/-
  Plain mathematics of GroupIsOneByOne: places in a queue that are stamped one by one. No condition.
-/
import Derived.Test.YtkloafpoldmpkaaSane
namespace Go.Proofs.Ytkloafpoldmpkaa

theorem GS.front_pos {S : GS} (h : S.OK) (hq : 0 < S.q.length) : 0 < S.front := by
  have h0 : S.goes 0 = true := by
    unfold GS.goes
    have h1 := h.most
    have h2 := (h.q (S.q.getD 0 default) (by rw [List.getD_eq_getElem?_getD, List.getElem?_eq_getElem hq]; exact List.getElem_mem hq)).1
    have h3 : (0 : Int) + (S.q.getD 0 default).words ≤ S.room := by omega
    have h4 : ((0 : Nat) : Int) < S.most := by omega
    rw [S.sumW_zero, decide_eq_true h3, decide_eq_true h4, decide_eq_true hq]; rfl
  have := S.front_goes.2
  by_cases e : S.front = 0
  · rw [e, h0] at this; cases this
  · omega

/-- The group in which the places from k to i wait. -/
def QS (mo ro de : Int) (W : Nat → Int) (k i : Nat) : GS := ⟨mo, ro, de, (k : Int) + 1, ((List.range i).drop k).map (fun (j : Nat) => (⟨(j : Int), W j, (j : Int)⟩ : Nd)), false, 0, []⟩
def upTo (k : Nat) : List (Int × Int) := (List.range k).map fun (j : Nat) => ((j : Int), (j : Int) + 1)

section
variable {mo ro de : Int} {W : Nat → Int} {k i : Nat}
theorem QS_len : (QS mo ro de W k i).q.length = i - k := by simp [QS]
theorem QS_ask (hk : k ≤ i) (hi : i ≤ 1000) (h1 : 1 ≤ W i) (h2 : W i ≤ ro) : (QS mo ro de W k i).ask (i : Int) (W i) (i : Int) = (QS mo ro de W k (i + 1), 0) := by
  have hl : (QS mo ro de W k i).q.length = i - k := QS_len
  unfold GS.ask
  rw [if_neg (by omega), if_neg, if_neg]
  · unfold QS
    simp only [Prod.mk.injEq, and_true]
    rw [List.range_succ, List.drop_append_of_le_length (by simpa using hk), List.map_append]
    rfl
  · rw [hl]; simp only [QS]; omega
  · intro h
    rcases h with h | h
    · simp only [QS, List.map_map, List.mem_map, Function.comp_apply] at h
      obtain ⟨j, hj, he⟩ := h
      have := List.mem_range.1 (List.mem_of_mem_drop hj)
      omega
    · simp [QS] at h
theorem QS_cut : (QS mo ro de W k i).cut.done = QS mo ro de W (k + (QS mo ro de W k i).front) i := by
  generalize hf : (QS mo ro de W k i).front = f
  unfold GS.done GS.cut
  rw [hf]
  unfold QS
  simp only [← List.map_drop, List.drop_drop, GS.mk.injEq, true_and, and_true]
  push_cast; omega
theorem QS_reps : (QS mo ro de W k i).cut.reps = (List.range (QS mo ro de W k i).front).map fun (j : Nat) => (((k + j : Nat) : Int), ((k + j : Nat) : Int) + 1) := by
  have hfl := (QS mo ro de W k i).front_le
  rw [QS_len] at hfl
  generalize hf : (QS mo ro de W k i).front = f at *
  have ht : (QS mo ro de W k i).cut.txs = (((List.range i).drop k).take f).map (fun (j : Nat) => (j : Int)) := by
    unfold GS.cut; rw [hf]; unfold QS
    simp only [List.map_take, List.map_map]
    rfl
  have hfi : (QS mo ro de W k i).cut.first = (k : Int) + 1 := rfl
  unfold GS.reps
  rw [hfi, ht]
  have hl : ((((List.range i).drop k).take f).map (fun (j : Nat) => (j : Int))).length = f := by simp; omega
  rw [hl]
  apply List.map_congr_left
  intro j hj
  have hj' := List.mem_range.1 hj
  have e : ((((List.range i).drop k).take f).map (fun (j : Nat) => (j : Int))).getD j 0 = ((k + j : Nat) : Int) := by
    rw [List.getD_eq_getElem?_getD, List.getElem?_eq_getElem (by rw [hl]; exact hj')]
    simp
  rw [e]
  congr 1
  push_cast; omega
theorem upTo_add (k f : Nat) : upTo (k + f) = upTo k ++ (List.range f).map fun (j : Nat) => (((k + j : Nat) : Int), ((k + j : Nat) : Int) + 1) := by
  unfold upTo
  rw [List.range_add, List.map_append, List.map_map]
  rfl
theorem upTo_len (k : Nat) : (upTo k).length = k := by simp [upTo]
theorem QS_due_end (hk : k < i) (hi : i ≤ 60) (hd : de ≤ 31) : (QS mo ro de W k i).due 1000 = true := by
  have hl : (QS mo ro de W k i).q.length = i - k := QS_len
  have ht : ((QS mo ro de W k i).q.getD 0 default).tick = (k : Int) := by
    rw [List.getD_eq_getElem?_getD, List.getElem?_eq_getElem (by rw [hl]; omega)]
    simp [QS]
  unfold GS.due
  rw [hl, ht]
  have h2 : (QS mo ro de W k i).delay = de := rfl
  have h3 : (QS mo ro de W k i).opn = false := rfl
  rw [h2, h3]
  have h4 : (k : Int) + de ≤ 1000 := by omega
  have h5 : 0 < i - k := by omega
  simp [h4, h5]
theorem QS_front_one (hw : 1 ≤ W i ∧ W i ≤ 256) : (QS 1 256 0 W i (i + 1)).front = 1 := by
  have hl : (QS 1 256 0 W i (i + 1)).q.length = 1 := by rw [QS_len]; omega
  refine GS.front_is _ (fun j hj => ?_) ?_
  · obtain rfl : j = 0 := by omega
    have e : ((QS 1 256 0 W i (i + 1)).q.getD 0 default).words = W i := by
      rw [List.getD_eq_getElem?_getD, List.getElem?_eq_getElem (by omega)]
      simp [QS]
    unfold GS.goes
    rw [GS.sumW_zero, e, hl]
    have h2 : (QS 1 256 0 W i (i + 1)).room = 256 := rfl
    have h3 : (QS 1 256 0 W i (i + 1)).most = 1 := rfl
    rw [h2, h3]
    have h4 : 0 + W i ≤ 256 := by omega
    rw [decide_eq_true h4]; rfl
  · unfold GS.goes; rw [hl]; rfl
theorem QS_due_one (hw : 1 ≤ W i ∧ W i ≤ 256) (t : Int) : (QS 1 256 0 W i (i + 1)).due t = true := by
  have hl : (QS 1 256 0 W i (i + 1)).q.length = 1 := by rw [QS_len]; omega
  unfold GS.due
  rw [QS_front_one hw, hl]
  have h3 : (QS 1 256 0 W i (i + 1)).most = 1 := rfl
  have h4 : (QS 1 256 0 W i (i + 1)).opn = false := rfl
  rw [h3, h4]
  rfl
theorem QS_due_none (t : Int) : (QS mo ro de W i i).due t = false := by
  have hl : (QS mo ro de W i i).q.length = 0 := by rw [QS_len]; omega
  unfold GS.due
  rw [hl]
  simp
theorem QS_front_pos (h : (QS mo ro de W k i).OK) (hk : k < i) : 0 < (QS mo ro de W k i).front := GS.front_pos h (by rw [QS_len]; omega)
end
end Go.Proofs.Ytkloafpoldmpkaa
