/-
  Plain mathematics of GroupKeepsLimits: the places that wait, and what is told of them. No condition.
-/
import Derived.Test.YtkloafpoldmpkaaOne
namespace Go.Proofs.Ytkloafpoldmpkaa

theorem GS.front_sum {S : GS} (h : S.OK) : S.sumW S.front ≤ S.room := by
  by_cases h0 : S.front = 0
  · rw [h0, S.sumW_zero]; have := h.room; omega
  · have hf := S.front_le
    have h1 := S.front_goes.1 (S.front - 1) (by omega)
    have h2 := S.sumW_succ (S.front - 1) (by omega)
    rw [show S.front - 1 + 1 = S.front from by omega] at h2
    unfold GS.goes at h1
    simp only [Bool.and_eq_true, decide_eq_true_eq] at h1
    omega

def nodeOf (W : Nat → Int) (j : Nat) : Nd := ⟨(j : Int), W j, (j : Int)⟩
/-- The group in which the places L wait, closed, with the stamp s ahead. -/
def QL (mo ro de : Int) (W : Nat → Int) (s : Int) (L : List Nat) : GS := ⟨mo, ro, de, s, L.map (nodeOf W), false, 0, []⟩
def ints (L : List Nat) : List Int := L.map fun (j : Nat) => (j : Int)
theorem ints_append (L M : List Nat) : ints (L ++ M) = ints L ++ ints M := by simp [ints]
theorem ints_length (L : List Nat) : (ints L).length = L.length := by simp [ints]
theorem ints_getD (L : List Nat) (k : Nat) (hk : k < L.length) : (ints L).getD k 0 = ((L.getD k 0 : Nat) : Int) := by
  rw [List.getD_eq_getElem?_getD, List.getElem?_eq_getElem (by rw [ints_length]; exact hk), List.getD_eq_getElem?_getD, List.getElem?_eq_getElem hk]
  simp [ints]

section
variable {mo ro de s : Int} {W : Nat → Int} {L : List Nat} {i : Nat}
theorem QL_len : (QL mo ro de W s L).q.length = L.length := by simp [QL]
theorem QL_txs : (QL mo ro de W s L).q.map Nd.tx = ints L := by unfold QL ints; simp only [List.map_map]; rfl
theorem QL_mem (hi : i ∉ L) : (i : Int) ∉ (QL mo ro de W s L).q.map Nd.tx := by
  rw [QL_txs]; unfold ints
  intro h
  obtain ⟨j, hj, he⟩ := List.mem_map.1 h
  obtain rfl : j = i := by omega
  exact hi hj
theorem QL_ask (hi : i ∉ L) (h1 : 1 ≤ W i) (h2 : W i ≤ ro) (h3 : i ≤ 1000) (hs : s + L.length ≤ 1000000) : (QL mo ro de W s L).ask (i : Int) (W i) (i : Int) = (QL mo ro de W s (L ++ [i]), 0) := by
  have hl : (QL mo ro de W s L).q.length = L.length := QL_len
  unfold GS.ask
  rw [if_neg (by omega), if_neg, if_neg]
  · simp [QL, nodeOf]
  · rw [hl]; simp only [QL]; omega
  · intro h
    rcases h with h | h
    · exact QL_mem hi h
    · simp [QL] at h
theorem QL_ask_big (hi : i ∉ L) (h1 : 1 ≤ W i) (h2 : ro < W i) (h3 : i ≤ 1000) : (QL mo ro de W s L).ask (i : Int) (W i) (i : Int) = (QL mo ro de W s L, 2) := by
  unfold GS.ask
  rw [if_neg (by omega), if_neg, if_pos (.inl h2)]
  intro h
  rcases h with h | h
  · exact QL_mem hi h
  · simp [QL] at h
theorem QL_drop (hi : i ∉ L) : (QL mo ro de W s (L ++ [i])).drop (i : Int) = QL mo ro de W s L := by
  unfold GS.drop
  have hp : (QL mo ro de W s (L ++ [i])).place (i : Int) = L.length := by
    refine (List.findIdx_eq (by rw [QL_len]; simp)).2 ⟨by simp [QL, nodeOf], fun j hj => ?_⟩
    have hm := QL_mem (mo := mo) (ro := ro) (de := de) (W := W) (s := s) hi
    have e : (QL mo ro de W s (L ++ [i])).q[j]'(by rw [QL_len]; simp; omega) = nodeOf W L[j] := by
      simp only [QL, List.map_append, List.map_cons, List.map_nil]
      rw [List.getElem_append_left (by simpa using hj), List.getElem_map]
    rw [e]
    simp only [nodeOf, beq_eq_false_iff_ne]
    intro he
    obtain rfl : L[j] = i := by omega
    exact hi (List.getElem_mem hj)
  rw [hp]
  unfold QL
  simp only [GS.mk.injEq, true_and, and_true, List.map_append, List.map_cons, List.map_nil]
  rw [List.eraseIdx_append_of_length_le (by simp)]
  simp
theorem QL_drop_mem : decide ((i : Int) ∈ (QL mo ro de W s (L ++ [i])).q.map Nd.tx) = true := by
  rw [QL_txs, ints_append]; simp [ints]
theorem QL_drop_no (hi : i ∉ L) : (QL mo ro de W s L).drop (i : Int) = QL mo ro de W s L := place_none _ _ (QL_mem hi)
theorem QL_cut : (QL mo ro de W s L).cut.done = QL mo ro de W (s + (QL mo ro de W s L).front) (L.drop (QL mo ro de W s L).front) := by
  generalize hf : (QL mo ro de W s L).front = f
  unfold GS.done GS.cut
  rw [hf]
  unfold QL
  simp only [List.map_drop]
theorem QL_cut_txs : (QL mo ro de W s L).cut.txs = ints (L.take (QL mo ro de W s L).front) := by
  generalize hf : (QL mo ro de W s L).front = f
  unfold GS.cut; rw [hf]
  unfold QL ints
  simp only [← List.map_take, List.map_map]
  rfl
theorem QL_cut_first : (QL mo ro de W s L).cut.first = s := rfl
theorem QL_sum (f : Nat) : (QL mo ro de W s L).sumW f = ((L.take f).map W).sum := by
  unfold GS.sumW QL
  simp only [← List.map_take, List.map_map]
  rfl
theorem QL_due_end (hL : L ≠ []) (h : ∀ j ∈ L, j ≤ 100) (hd : de ≤ 31) : (QL mo ro de W s L).due 1000 = true := by
  have hl : (QL mo ro de W s L).q.length = L.length := QL_len
  have h0 : 0 < L.length := List.length_pos_iff.2 hL
  have hh : ((QL mo ro de W s L).q.getD 0 default).tick ≤ 100 := by
    rw [List.getD_eq_getElem?_getD, List.getElem?_eq_getElem (by omega)]
    simp only [QL, List.getElem_map, Option.getD_some, nodeOf]
    have := h L[0] (List.getElem_mem h0)
    omega
  unfold GS.due
  rw [hl]
  have h2 : (QL mo ro de W s L).delay = de := rfl
  have h3 : (QL mo ro de W s L).opn = false := rfl
  rw [h2, h3]
  generalize (QL mo ro de W s L).q.getD 0 default = nd at *
  have h4 : nd.tick + de ≤ 1000 := by omega
  simp [h4, h0]
theorem QL_due_none (t : Int) : (QL mo ro de W s []).due t = false := by
  unfold GS.due
  rw [QL_len]
  simp
theorem QL_front_pos (h : (QL mo ro de W s L).OK) (hL : L ≠ []) : 0 < (QL mo ro de W s L).front := GS.front_pos h (by rw [QL_len]; exact List.length_pos_iff.2 hL)
theorem QL_due_ne (t : Int) (h : (QL mo ro de W s L).due t = true) : L ≠ [] := by
  rintro rfl
  rw [QL_due_none] at h; cases h
end
end Go.Proofs.Ytkloafpoldmpkaa
