/-
  Plain laws of chapter 1: what is decoded is what the encoder writes. No condition.
-/
import Derived.Test.YtppmlhjpdmndoaaRound
import Derived.Test.YtppmlhjpdmndoaaWFew
namespace Go.Proofs.Ytppmlhjpdmndoaa

theorem take_split (l : List UInt8) (u v : Nat) : l.take (u + v) = l.take u ++ (l.drop u).take v := List.take_add

theorem getB_canon {l s : List UInt8} {u : Nat} (h : getB l = (s, u, 0)) : l.take u = encB s ∧ u ≤ l.length ∧ s.length ≤ l.length := by
  unfold getB at h
  split at h
  · rename_i h0; simp only [Prod.mk.injEq] at h; exact absurd h.2.2 h0
  · rename_i h0
    have h' : (getLen l 1).2.2 = 0 := Decidable.not_not.1 h0
    obtain ⟨e, e0, e1, e2⟩ := getLen_ok (by omega) h'
    simp only [Prod.mk.injEq, and_true] at h
    rw [e] at h
    obtain ⟨hs, hu⟩ := h
    obtain ⟨n, v, hx⟩ : ∃ n v, getI l = (n, v, 0) := ⟨_, _, Prod.ext rfl (Prod.ext rfl e0)⟩
    obtain ⟨c1, c2, c3, c4⟩ := getI_canon hx
    rw [hx] at hs hu e1 e2
    simp only at hs hu e1 e2
    obtain ⟨m, rfl⟩ := Int.eq_ofNat_of_zero_le e1
    simp only [Int.toNat_natCast] at hs hu
    have hl : s.length = m := by rw [← hs, List.length_take, List.length_drop]; omega
    refine ⟨?_, by omega, by omega⟩
    rw [← hu, take_split, c1, hs]
    unfold encB
    rw [hl]

/-- What is decoded is what the encoder writes. -/
structure Canon {α : Type} (f : List UInt8 → α × Nat × Nat) (g : α → List UInt8) (ok : α → Prop) : Prop where
  canon : ∀ l x u, f l = (x, u, 0) → l.take u = g x ∧ u ≤ l.length ∧ ok x

theorem getEls_canon {α : Type} {f : List UInt8 → α × Nat × Nat} {g : α → List UInt8} {ok : α → Prop} (C : Canon f g ok) (l : List UInt8) :
    ∀ (n at_ : Nat) (acc xs : List α) (v : Nat), at_ ≤ l.length → getEls f l n at_ acc = (xs, v, 0) → ∃ ys, xs = acc ++ ys ∧ ys.length = n ∧ at_ ≤ v ∧ v ≤ l.length ∧ (l.drop at_).take (v - at_) = ys.flatMap g ∧ ∀ y ∈ ys, ok y
  | 0, at_, acc, xs, v, hl, h => by
    simp only [getEls, Prod.mk.injEq, and_true] at h
    obtain ⟨rfl, rfl⟩ := h
    exact ⟨[], by simp, rfl, Nat.le_refl _, hl, by simp, by simp⟩
  | n + 1, at_, acc, xs, v, hl, h => by
    rw [getEls] at h
    split at h
    · rename_i h0; simp only [Prod.mk.injEq] at h; exact absurd h.2.2 h0
    · rename_i h0
      have h0' : (f (l.drop at_)).2.2 = 0 := Decidable.not_not.1 h0
      obtain ⟨x, u, hx⟩ : ∃ x u, f (l.drop at_) = (x, u, 0) := ⟨_, _, Prod.ext rfl (Prod.ext rfl h0')⟩
      obtain ⟨c1, c2, c3⟩ := C.canon _ _ _ hx
      rw [hx] at h
      simp only at h
      rw [List.length_drop] at c2
      obtain ⟨ys, e1, e2, e3, e4, e5, e6⟩ := getEls_canon C l n (at_ + u) (acc ++ [x]) xs v (by omega) h
      refine ⟨x :: ys, by rw [e1]; simp, by simp [e2], by omega, e4, ?_, ?_⟩
      · rw [show v - at_ = u + (v - (at_ + u)) from by omega, take_split, c1, List.drop_drop, e5, List.flatMap_cons]
      · intro y hy
        rcases List.mem_cons.1 hy with rfl | hy
        · exact c3
        · exact e6 y hy

theorem getL_canon {α : Type} {f : List UInt8 → α × Nat × Nat} {g : α → List UInt8} {ok : α → Prop} (C : Canon f g ok) {l : List UInt8} {xs : List α} {u : Nat} (h : getL f 1 l = (xs, u, 0)) :
    l.take u = encL g xs ∧ u ≤ l.length ∧ xs.length ≤ l.length ∧ ∀ x ∈ xs, ok x := by
  unfold getL at h
  split at h
  · rename_i h0; simp only [Prod.mk.injEq] at h; exact absurd h.2.2 h0
  · rename_i h0
    have h' : (getLen l 1).2.2 = 0 := Decidable.not_not.1 h0
    obtain ⟨e, e0, e1, e2⟩ := getLen_ok (by omega) h'
    obtain ⟨n, v, hx⟩ : ∃ n v, getI l = (n, v, 0) := ⟨_, _, Prod.ext rfl (Prod.ext rfl e0)⟩
    obtain ⟨c1, c2, c3, c4⟩ := getI_canon hx
    rw [e, hx] at h
    rw [hx] at e1 e2
    simp only at h e1 e2
    obtain ⟨m, rfl⟩ := Int.eq_ofNat_of_zero_le e1
    simp only [Int.toNat_natCast] at h
    obtain ⟨ys, d1, d2, d3, d4, d5, d6⟩ := getEls_canon C l m v [] xs u c4 h
    simp only [List.nil_append] at d1
    subst d1
    refine ⟨?_, d4, by omega, d6⟩
    unfold encL
    rw [show u = v + (u - v) from by omega, take_split, c1, d5, d2]

theorem getEls_digs (l : List UInt8) : ∀ (n at_ : Nat) (acc : List (List UInt8)), at_ + n * 16 ≤ l.length → ∃ ys, getEls getD16 l n at_ acc = (acc ++ ys, at_ + n * 16, 0) ∧ ys.length = n ∧ (l.drop at_).take (n * 16) = ys.flatMap (fun d => d)
  | 0, at_, acc, _ => ⟨[], by simp [getEls], rfl, by simp⟩
  | n + 1, at_, acc, h => by
    obtain ⟨ys, e1, e2, e3⟩ := getEls_digs l n (at_ + 16) (acc ++ [(l.drop at_).take 16]) (by omega)
    refine ⟨(l.drop at_).take 16 :: ys, ?_, by simp [e2], ?_⟩
    · rw [getEls, if_neg (by simp [getD16])]
      show getEls getD16 l n (at_ + 16) (acc ++ [(l.drop at_).take 16]) = _
      rw [e1]
      refine Prod.ext (by simp) (Prod.ext ?_ rfl)
      simp only; omega
    · rw [show (n + 1) * 16 = 16 + n * 16 from by omega, take_split, List.drop_drop, e3, List.flatMap_cons]

theorem getLD_canon {l : List UInt8} {xs : List (List UInt8)} {u : Nat} (h : getL getD16 16 l = (xs, u, 0)) : l.take u = encL (fun d => d) xs ∧ u ≤ l.length ∧ xs.length ≤ l.length := by
  unfold getL at h
  split at h
  · rename_i h0; simp only [Prod.mk.injEq] at h; exact absurd h.2.2 h0
  · rename_i h0
    have h' : (getLen l 16).2.2 = 0 := Decidable.not_not.1 h0
    obtain ⟨e, e0, e1, e2⟩ := getLen_ok (by omega) h'
    obtain ⟨n, v, hx⟩ : ∃ n v, getI l = (n, v, 0) := ⟨_, _, Prod.ext rfl (Prod.ext rfl e0)⟩
    obtain ⟨c1, c2, c3, c4⟩ := getI_canon hx
    rw [e, hx] at h
    rw [hx] at e1 e2
    simp only at h e1 e2
    obtain ⟨m, rfl⟩ := Int.eq_ofNat_of_zero_le e1
    simp only [Int.toNat_natCast] at h
    obtain ⟨ys, d1, d2, d3⟩ := getEls_digs l m v [] (by omega)
    rw [d1] at h
    simp only [Prod.mk.injEq, and_true, List.nil_append] at h
    obtain ⟨rfl, rfl⟩ := h
    refine ⟨?_, by omega, by omega⟩
    unfold encL
    rw [take_split, c1, d3, d2]

theorem canonI : Canon getI enc (fun n => -9223372036854775808 ≤ n ∧ n ≤ 9223372036854775807) :=
  ⟨fun l x u h => by obtain ⟨a, b, c, d⟩ := getI_canon h; exact ⟨a, d, b, c⟩⟩
theorem canonB : Canon getB encB (fun _ => True) :=
  ⟨fun l x u h => by obtain ⟨a, b, c⟩ := getB_canon h; exact ⟨a, b, trivial⟩⟩

theorem getB_errs (l : List UInt8) : (getB l).2.2 ≠ 0 → (getB l).1 = [] := by
  unfold getB
  split
  · intro _; rfl
  · intro h; exact absurd rfl h

theorem getEls_errs {α : Type} (f : List UInt8 → α × Nat × Nat) (l : List UInt8) : ∀ (n at_ : Nat) (acc : List α), (getEls f l n at_ acc).2.2 ≠ 0 → (getEls f l n at_ acc).1 = []
  | 0, at_, acc, h => by simp [getEls] at h
  | n + 1, at_, acc, h => by
    rw [getEls] at h ⊢
    split
    · rfl
    · rename_i h0; rw [if_neg h0] at h; exact getEls_errs f l n _ _ h

theorem getL_errs {α : Type} (f : List UInt8 → α × Nat × Nat) (least : Int) (l : List UInt8) : (getL f least l).2.2 ≠ 0 → (getL f least l).1 = [] := by
  unfold getL
  split
  · intro _; rfl
  · exact getEls_errs f l _ _ _

theorem tot_flat (ss : List (List UInt8)) : totLen ss ≤ (ss.flatMap encB).length := by
  induction ss with
  | nil => simp [totLen]
  | cons s ss ih =>
    rw [List.flatMap_cons, List.length_append]
    have : totLen (s :: ss) = s.length + totLen ss := by simp [totLen]
    rw [this]
    have : s.length ≤ (encB s).length := by unfold encB; rw [List.length_append]; omega
    omega
end Go.Proofs.Ytppmlhjpdmndoaa
