/-
  What arguments of plain types are to a walk. No condition.
-/
import Derived.Test.YtgimkipekoabbaaOpen
import Derived.SizedLaws
namespace Go.Proofs.Ytgimkipekoabbaa
open Go.RowKit

theorem flat_one {α : Type} (f : α → Value) (xs : List α) : (xs.map fun x => [f x]).flatten = xs.map f := by
  induction xs with
  | nil => rfl
  | cons x xs ih => rw [List.map_cons, List.flatten_cons, ih]; rfl

theorem Rd.rows1 {w : World} {a : Option Addr} {len cap size : Nat} {α : Type} {f : α → Value} {xs : List α} (h : Rd w a len cap size ((xs.map fun x => [f x]).flatten)) (hs : size = 1) : Rd w a len cap 1 (xs.map f) := by
  subst hs; rw [flat_one] at h; exact h

section
variable {H : Type} {enc : TypeId × Value → H} {P : Program} {w : World}

theorem elem_bool {e : TypeId} (he : P.underlying e = some .bool) {cs : List Value} {d : DataW H} (h : Elem enc P w e cs d) : ∃ x : Bool, cs = [.bool x] ∧ d = .lit (.bool x) ∧ True := by
  obtain ⟨n, pl, h⟩ := h
  obtain ⟨x, rfl, hx⟩ := DataW.trod_bool he h
  simp only [Prod.mk.injEq] at hx
  exact ⟨x, rfl, hx.1, trivial⟩

/-- An element that is a struct. -/
theorem elem_struct {t : TypeId} {fs : Array Field} (ht : P.underlying t = some (.struct fs)) {cs : List Value} {d : DataW H} (h : Elem enc P w t cs d) :
    cs.length = P.cellsOf t ∧ ∃ els : List (DataW H), els.length = fs.size ∧ d = .agg els ∧ ∀ (i : Nat) (f : Field), fs[i]? = some f → ∃ (hi : i < els.length), Elem enc P w f.type ((cs.drop f.offset).take (P.cellsOf f.type)) els[i] := by
  obtain ⟨m, pl, h⟩ := h
  obtain ⟨xs, m', rfl, hx, hl, hn, hi⟩ := DataW.trod_struct ht h
  simp only [Prod.mk.injEq] at hx
  refine ⟨hl, xs.map (·.1), by simpa using hn, hx.1, fun i f hf => ?_⟩
  have h1 := (Array.getElem?_eq_some_iff.1 hf).1
  have := hi i f hf
  rw [List.getElem?_eq_getElem (by omega)] at this
  exact ⟨by rw [List.length_map]; omega, m', (xs[i]'(by omega)).2, by rw [this]; simp⟩

theorem sized_rows {ts : List TypeId} {ds : List (DataW H)} (h : (DataW.weightsEach P ts ds).all (· ≤ reachBytes) = true) {j : Nat} {t e : TypeId} {d : DataW H} {els spare : List (DataW H)} (ht : ts[j]? = some t) (hd : ds[j]? = some d) (hu : P.underlying t = some (.slice e))
    (hs : (d = .slice els spare) ∨ (d = .nil ∧ els = [] ∧ spare = [])) : (els.length + spare.length) * P.bytesOf e ≤ 140737488351232 := by
  rcases hs with rfl | ⟨_, rfl, rfl⟩
  · exact sized_slice h ht hd hu
  · simp

theorem all_mem {e : TypeId} : ∀ {l : List (DataW H)} {d : DataW H}, d ∈ l → ∀ n ∈ d.weights P e, n ∈ DataW.weightsAll P e l
  | d' :: r, d, hd, n, hn => by
    simp only [DataW.weightsAll, List.mem_append]
    rcases List.mem_cons.1 hd with rfl | h
    · exact Or.inl hn
    · exact Or.inr (all_mem h n hn)

/-- Each string of a slice is within the reach. -/
theorem sized_strs {ts : List TypeId} {ds : List (DataW H)} (h : (DataW.weightsEach P ts ds).all (· ≤ reachBytes) = true) {j : Nat} {t e : TypeId} {d : DataW H} {ss : List (List UInt8)} {spare : List (DataW H)} (ht : ts[j]? = some t) (hd : ds[j]? = some d) (hu : P.underlying t = some (.slice e))
    (hs : (d = .slice (ss.map fun x => DataW.lit (.string x)) spare) ∨ (d = .nil ∧ (ss.map fun x => DataW.lit (H := H) (.string x)) = [] ∧ spare = [])) : ∀ s ∈ ss, s.length ≤ 140737488351232 := by
  intro s hm
  rcases hs with rfl | ⟨_, h0, _⟩
  · have := List.all_eq_true.1 h _ (DataW.weights_mem_each ht hd s.length (by
      simp only [DataW.weights, hu, List.mem_cons, List.mem_append]
      exact Or.inr (Or.inl (all_mem (List.mem_map.2 ⟨s, hm, rfl⟩) _ (by simp [DataW.weights])))))
    exact of_decide_eq_true this
  · have : ss = [] := by simpa using h0
    subst this; cases hm
end

end Go.Proofs.Ytgimkipekoabbaa
