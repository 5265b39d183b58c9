/-
  What the arguments of chapter 1's statements are to a walk. No condition.
-/
import Derived.Test.YtppmlhjpdmndoaaOpen
import Derived.Test.YtppmlhjpdmndoaaWDig
import Derived.Test.YtppmlhjpdmndoaaWGet
namespace Go.Proofs.Ytppmlhjpdmndoaa
open Go.RowKit

theorem flat_one {α : Type} (f : α → Value) (xs : List α) : (xs.map fun x => [f x]).flatten = xs.map f := by
  induction xs with
  | nil => rfl
  | cons x xs ih => rw [List.map_cons, List.flatten_cons, ih]; rfl

theorem Rd.rows1 {w : World} {a : Option Addr} {len cap size : Nat} {α : Type} {f : α → Value} {xs : List α} (h : Rd w a len cap size ((xs.map fun x => [f x]).flatten)) (hs : size = 1) : Rd w a len cap 1 (xs.map f) := by
  subst hs; rw [flat_one] at h; exact h

section
variable {H : Type} {enc : TypeId × Value → H} {P : Program} {w : World}

theorem elem_dig {t e : TypeId} (ht : P.underlying t = some (.array 16 e)) (he : P.underlying e = some (.int .u8)) (hc : P.cellsOf e = 1) (hct : P.cellsOf t = 16) {cs : List Value} {d : DataW H} (h : Elem enc P w t cs d) :
    ∃ x : List UInt8, cs = byteVals x ∧ d = .agg (x.map fun b => .lit (.int .u8 b.toNat)) ∧ x.length = 16 := by
  obtain ⟨hl, els, hn, rfl, hi⟩ := elem_array ht hc h
  rw [hct] at hl
  have key : ∀ (cs : List Value) (els : List (DataW H)), cs.length = els.length → (∀ i (hj : i < els.length), Elem enc P w e ((cs.drop i).take 1) els[i]) → ∃ x : List UInt8, cs = byteVals x ∧ els = x.map fun b => .lit (.int .u8 b.toNat) := by
    intro cs
    induction cs with
    | nil => intro els hl _; have : els = [] := List.eq_nil_of_length_eq_zero (by simpa using hl.symm); subst this; exact ⟨[], rfl, rfl⟩
    | cons c cs ih =>
      intro els hl hi
      match els, hl, hi with
      | d :: els, hl, hi =>
        obtain ⟨n, h1, h2, h3⟩ := elem_int he (hi 0 (by simp))
        have hb := wf_u8_bd h3
        simp only [List.drop_zero, List.take_succ_cons, List.take_zero, List.cons.injEq, and_true] at h1
        simp only [List.getElem_cons_zero] at h2
        obtain ⟨x, rfl, rfl⟩ := ih els (by simpa using hl) (fun i hj => by have := hi (i + 1) (by simp; omega); simpa using this)
        have hn : ((UInt8.ofNat n.toNat).toNat : Int) = n := by simp; omega
        refine ⟨UInt8.ofNat n.toNat :: x, ?_, ?_⟩
        · rw [h1]; simp only [byteVals, List.map_cons, hn]
        · rw [h2]; simp only [List.map_cons, hn]
  obtain ⟨x, rfl, rfl⟩ := key cs els (by omega) hi
  exact ⟨x, rfl, rfl, by simpa using hn⟩

theorem sized_rows {ts : List TypeId} {ds : List (DataW H)} (h : (DataW.weightsEach P ts ds).all (· ≤ reachBytes) = true) {j : Nat} {t e : TypeId} {d : DataW H} {els spare : List (DataW H)} (ht : ts[j]? = some t) (hd : ds[j]? = some d) (hu : P.underlying t = some (.slice e))
    (hs : (d = .slice els spare) ∨ (d = .nil ∧ els = [] ∧ spare = [])) : (els.length + spare.length) * P.bytesOf e ≤ 140737488351232 := by
  rcases hs with rfl | ⟨_, rfl, rfl⟩
  · exact sized_slice h ht hd hu
  · simp

theorem all_mem {e : TypeId} : ∀ {l : List (DataW H)} {d : DataW H}, d ∈ l → ∀ n ∈ d.weights P e, n ∈ DataW.weightsAll P e l
  | d' :: r, d, hd, n, hn => by
    simp only [DataW.weightsAll, List.mem_append]
    rcases List.mem_cons.1 hd with rfl | h
    · exact Or.inl hn
    · exact Or.inr (all_mem h n hn)

/-- Each string of a slice is within the reach. -/
theorem sized_strs {ts : List TypeId} {ds : List (DataW H)} (h : (DataW.weightsEach P ts ds).all (· ≤ reachBytes) = true) {j : Nat} {t e : TypeId} {d : DataW H} {ss : List (List UInt8)} {spare : List (DataW H)} (ht : ts[j]? = some t) (hd : ds[j]? = some d) (hu : P.underlying t = some (.slice e))
    (hs : (d = .slice (ss.map fun x => DataW.lit (.string x)) spare) ∨ (d = .nil ∧ (ss.map fun x => DataW.lit (H := H) (.string x)) = [] ∧ spare = [])) : ∀ s ∈ ss, s.length ≤ 140737488351232 := by
  intro s hm
  rcases hs with rfl | ⟨_, h0, _⟩
  · have := List.all_eq_true.1 h _ (DataW.weights_mem_each ht hd s.length (by
      simp only [DataW.weights, hu, List.mem_cons, List.mem_append]
      exact Or.inr (Or.inl (all_mem (List.mem_map.2 ⟨s, hm, rfl⟩) _ (by simp [DataW.weights])))))
    exact of_decide_eq_true this
  · have : ss = [] := by simpa using h0
    subst this; cases hm
end

theorem dig_flat (xs : List (List UInt8)) : (xs.map byteVals).flatten = digVals xs := by
  unfold digVals
  induction xs with
  | nil => rfl
  | cons x xs ih => rw [List.map_cons, List.flatten_cons, List.flatten_cons, byteVals_append, ih]
end Go.Proofs.Ytppmlhjpdmndoaa
