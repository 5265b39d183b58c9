/-
  Plain mathematics of GroupIsOneByOne: places in a queue that are stamped one by one. No condition.
-/
import Derived.Test.YtkloafpoldmpkaaSane
namespace Go.Proofs.Ytkloafpoldmpkaa

theorem ty39 : Try.prog.underlying 39 = some (.map 3 3) := by kernel_rfl
theorem zero3 (w : World) : (zeroValue 3).run Try.prog w = .ok (.int .i64 0) w := by kernel_rfl

theorem GS.front_pos {S : GS} (h : S.OK) (hq : 0 < S.q.length) : 0 < S.front := by
  have h0 : S.goes 0 = true := by
    unfold GS.goes
    have h1 := h.most
    have h2 := (h.q (S.q.getD 0 default) (by rw [List.getD_eq_getElem?_getD, List.getElem?_eq_getElem hq]; exact List.getElem_mem hq)).1
    have h3 : (0 : Int) + (S.q.getD 0 default).words ≤ S.room := by omega
    have h4 : ((0 : Nat) : Int) < S.most := by omega
    rw [S.sumW_zero, decide_eq_true h3, decide_eq_true h4, decide_eq_true hq]; rfl
  have := S.front_goes.2
  by_cases e : S.front = 0
  · rw [e, h0] at this; cases this
  · omega

/-- The group in which the places from k to i wait, place j since tick T j. -/
def QX (mo ro de : Int) (W T : Nat → Int) (k i : Nat) : GS := ⟨mo, ro, de, (k : Int) + 1, ((List.range i).drop k).map (fun (j : Nat) => (⟨(j : Int), W j, T j⟩ : Nd)), false, 0, []⟩
def QS (mo ro de : Int) (W : Nat → Int) (k i : Nat) : GS := QX mo ro de W (fun j => (j : Int)) k i
def upTo (k : Nat) : List (Int × Int) := (List.range k).map fun (j : Nat) => ((j : Int), (j : Int) + 1)

section
variable {mo ro de : Int} {W T : Nat → Int} {k i : Nat}
theorem QX_len : (QX mo ro de W T k i).q.length = i - k := by simp [QX]
theorem QX_txs : (QX mo ro de W T k i).q.map Nd.tx = ((List.range i).drop k).map (fun (j : Nat) => (j : Int)) := by
  unfold QX; simp only [List.map_map]; rfl
theorem QX_ask (hk : k ≤ i) (hi : i ≤ 1000) (h1 : 1 ≤ W i) (h2 : W i ≤ ro) (h3 : 0 ≤ T i) (h4 : T i ≤ 1099511627776) : (QX mo ro de W T k i).ask (i : Int) (W i) (T i) = (QX mo ro de W T k (i + 1), 0) := by
  have hl : (QX mo ro de W T k i).q.length = i - k := QX_len
  unfold GS.ask
  rw [if_neg (by omega), if_neg, if_neg]
  · unfold QX
    simp only [Prod.mk.injEq, and_true]
    rw [List.range_succ, List.drop_append_of_le_length (by simpa using hk), List.map_append]
    rfl
  · rw [hl]; simp only [QX]; omega
  · intro h
    rcases h with h | h
    · rw [QX_txs, List.mem_map] at h
      obtain ⟨j, hj, he⟩ := h
      have := List.mem_range.1 (List.mem_of_mem_drop hj)
      omega
    · simp [QX] at h
theorem QX_cut : (QX mo ro de W T k i).cut.done = QX mo ro de W T (k + (QX mo ro de W T k i).front) i := by
  generalize hf : (QX mo ro de W T k i).front = f
  unfold GS.done GS.cut
  rw [hf]
  unfold QX
  simp only [← List.map_drop, List.drop_drop, GS.mk.injEq, true_and, and_true]
  push_cast; omega
theorem QX_cut_txs : (QX mo ro de W T k i).cut.txs = (((List.range i).drop k).take (QX mo ro de W T k i).front).map (fun (j : Nat) => (j : Int)) := by
  generalize hf : (QX mo ro de W T k i).front = f
  unfold GS.cut; rw [hf]; unfold QX
  simp only [List.map_take, List.map_map]
  rfl
theorem QX_cut_len : (QX mo ro de W T k i).cut.txs.length = (QX mo ro de W T k i).front := by
  have hfl := (QX mo ro de W T k i).front_le
  rw [QX_len] at hfl
  rw [QX_cut_txs]; simp; omega
theorem QX_cut_at (j : Nat) (hj : j < (QX mo ro de W T k i).front) : (QX mo ro de W T k i).cut.txs.getD j 0 = ((k + j : Nat) : Int) := by
  have hl := QX_cut_len (mo := mo) (ro := ro) (de := de) (W := W) (T := T) (k := k) (i := i)
  rw [List.getD_eq_getElem?_getD, List.getElem?_eq_getElem (by omega)]
  simp only [QX_cut_txs]
  simp
theorem QX_reps : (QX mo ro de W T k i).cut.reps = (List.range (QX mo ro de W T k i).front).map fun (j : Nat) => (((k + j : Nat) : Int), ((k + j : Nat) : Int) + 1) := by
  have hfi : (QX mo ro de W T k i).cut.first = (k : Int) + 1 := rfl
  unfold GS.reps
  rw [hfi, QX_cut_len]
  apply List.map_congr_left
  intro j hj
  rw [QX_cut_at j (List.mem_range.1 hj)]
  congr 1
  push_cast; omega
theorem QX_head (hk : k < i) : (QX mo ro de W T k i).q.getD 0 default = ⟨(k : Int), W k, T k⟩ := by
  rw [List.getD_eq_getElem?_getD, List.getElem?_eq_getElem (by rw [QX_len]; omega)]
  simp [QX]
theorem QX_due_old (hk : k < i) (t : Int) (h4 : T k + de ≤ t) : (QX mo ro de W T k i).due t = true := by
  have hl : (QX mo ro de W T k i).q.length = i - k := QX_len
  unfold GS.due
  rw [hl, QX_head hk]
  have h2 : (QX mo ro de W T k i).delay = de := rfl
  have h3 : (QX mo ro de W T k i).opn = false := rfl
  rw [h2, h3]
  have h5 : 0 < i - k := by omega
  simp [h4, h5]
theorem QX_due_none (t : Int) (h : i ≤ k) : (QX mo ro de W T k i).due t = false := by
  have hl : (QX mo ro de W T k i).q.length = 0 := by rw [QX_len]; omega
  unfold GS.due
  rw [hl]
  simp
theorem QX_front_pos (h : (QX mo ro de W T k i).OK) (hk : k < i) : 0 < (QX mo ro de W T k i).front := GS.front_pos h (by rw [QX_len]; omega)

theorem QS_len : (QS mo ro de W k i).q.length = i - k := QX_len
theorem QS_ask (hk : k ≤ i) (hi : i ≤ 1000) (h1 : 1 ≤ W i) (h2 : W i ≤ ro) : (QS mo ro de W k i).ask (i : Int) (W i) (i : Int) = (QS mo ro de W k (i + 1), 0) := QX_ask (T := fun (j : Nat) => (j : Int)) hk hi h1 h2 (by omega) (by omega)
theorem QS_cut : (QS mo ro de W k i).cut.done = QS mo ro de W (k + (QS mo ro de W k i).front) i := QX_cut
theorem QS_reps : (QS mo ro de W k i).cut.reps = (List.range (QS mo ro de W k i).front).map fun (j : Nat) => (((k + j : Nat) : Int), ((k + j : Nat) : Int) + 1) := QX_reps
theorem upTo_add (k f : Nat) : upTo (k + f) = upTo k ++ (List.range f).map fun (j : Nat) => (((k + j : Nat) : Int), ((k + j : Nat) : Int) + 1) := by
  unfold upTo
  rw [List.range_add, List.map_append, List.map_map]
  rfl
theorem upTo_len (k : Nat) : (upTo k).length = k := by simp [upTo]
theorem QS_due_end (hk : k < i) (hi : i ≤ 60) (hd : de ≤ 31) : (QS mo ro de W k i).due 1000 = true := QX_due_old hk 1000 (by omega)
theorem QS_front_one (hw : 1 ≤ W i ∧ W i ≤ 256) : (QS 1 256 0 W i (i + 1)).front = 1 := by
  have hl : (QS 1 256 0 W i (i + 1)).q.length = 1 := by rw [QS_len]; omega
  refine GS.front_is _ (fun j hj => ?_) ?_
  · obtain rfl : j = 0 := by omega
    have e : ((QS 1 256 0 W i (i + 1)).q.getD 0 default).words = W i := by unfold QS; rw [QX_head (by omega)]
    unfold GS.goes
    rw [GS.sumW_zero, e, hl]
    have h2 : (QS 1 256 0 W i (i + 1)).room = 256 := rfl
    have h3 : (QS 1 256 0 W i (i + 1)).most = 1 := rfl
    rw [h2, h3]
    have h4 : 0 + W i ≤ 256 := by omega
    rw [decide_eq_true h4]; rfl
  · unfold GS.goes; rw [hl]; rfl
theorem QS_due_one (hw : 1 ≤ W i ∧ W i ≤ 256) (t : Int) : (QS 1 256 0 W i (i + 1)).due t = true := by
  have hl : (QS 1 256 0 W i (i + 1)).q.length = 1 := by rw [QS_len]; omega
  unfold GS.due
  rw [QS_front_one hw, hl]
  have h3 : (QS 1 256 0 W i (i + 1)).most = 1 := rfl
  have h4 : (QS 1 256 0 W i (i + 1)).opn = false := rfl
  rw [h3, h4]
  rfl
theorem QS_due_none (t : Int) : (QS mo ro de W i i).due t = false := QX_due_none t (Nat.le_refl _)
theorem QS_front_pos (h : (QS mo ro de W k i).OK) (hk : k < i) : 0 < (QS mo ro de W k i).front := QX_front_pos h hk
end
end Go.Proofs.Ytkloafpoldmpkaa
