/-
  What the arguments of a statement are to a walk, in general: slices of any elements that came in; all arguments read again behind the call. No condition.
-/
import Derived.Test.YtgimkipekoabbaaArg
import Derived.Deep.Slices
import Derived.Carry
import Derived.ChangeOld
import Derived.OpenShut
import Derived.SizedLaws
import Derived.ChangeMaps5
import Derived.WideShapes
namespace Go.Proofs.Ytgimkipekoabbaa
open Go.RowKit Go.WideShapes

theorem flat_cell {w : World} {a : Addr} {size : Nat} : ∀ (css : List (List Value)) (k : Nat), (∀ cs ∈ css, cs.length = size) → (∀ i (hi : i < css.length) r, r < size → w.cell? (a.add ((k + i) * size + r)) = (css[i])[r]?) →
    ∀ j u, css.flatten[j]? = some u → w.cell? (a.add (k * size + j)) = some u
  | [], _, _, _, j, u, hu => by simp at hu
  | c :: css, k, hl, hc, j, u, hu => by
    have h0 := hl c (by simp)
    rw [List.flatten_cons] at hu
    rcases Nat.lt_or_ge j size with h | h
    · rw [List.getElem?_append_left (by omega)] at hu
      have := hc 0 (by simp) j h
      rw [Nat.add_zero] at this
      rw [this]; exact hu
    · rw [List.getElem?_append_right (by omega), h0] at hu
      have := flat_cell css (k + 1) (fun x hx => hl x (by simp [hx])) (fun i hi r hr => by
        have := hc (i + 1) (by simp; omega) r hr
        rw [show k + (i + 1) = k + 1 + i from by omega] at this
        rw [this]; simp) (j - size) u hu
      rw [Nat.add_mul, Nat.one_mul, show k * size + size + (j - size) = k * size + j from by omega] at this
      exact this

section
variable {H : Type} {enc : TypeId × Value → H} {P : Program} {w : World}

/-- An element as it is read. -/
def Elem (enc : TypeId × Value → H) (P : Program) (w : World) (e : TypeId) (cs : List Value) (d : DataW H) : Prop := ∃ n pl, DataW.trod enc P w 0 (fun _ => true) true n e cs = some (d, pl)

/-- A slice that came in, element by element. -/
theorem open_rows {t e : TypeId} {v : Value} {d : DataW H} {p : List MemPlace} (ht : P.underlying t = some (.slice e)) {r : Reach} {b0 : Nat} (hv : Value.okWide P w r b0 t v) (h : DataW.Trod enc P w 0 (fun _ => true) true t v d p) :
    ∃ (a : Option Addr) (len cap : Nat) (css : List (List Value)) (els spare : List (DataW H)), v = .slice a len cap ∧ css.length = len ∧ els.length = len ∧ Rd w a len cap (P.cellsOf e) css.flatten ∧ (∀ cs ∈ css, cs.length = P.cellsOf e) ∧
      len + spare.length = cap ∧ ((d = .slice els spare) ∨ (d = .nil ∧ els = [] ∧ spare = [])) ∧ (∀ i (hi : i < css.length) (hj : i < els.length), Elem enc P w e css[i] els[i]) := by
  obtain ⟨a0, l0, c0, rfl⟩ := okWide_slice ht hv
  obtain ⟨fuel, hf⟩ := h
  rcases Deep.open_slice ht hf with ⟨hcs, hx⟩ | ⟨a, len, cap, m, n, D, Pl, hcs, _, hl, hm, hmm, hx, hel⟩
  · simp [Value.cells] at hcs
    obtain ⟨rfl, rfl, rfl⟩ := hcs
    simp only [Prod.mk.injEq] at hx
    exact ⟨none, 0, 0, [], [], [], rfl, rfl, rfl, Rd.nilSlice w _, by simp, rfl, .inr ⟨hx.1, rfl, rfl⟩, fun i hi => by simp at hi⟩
  · simp [Value.cells] at hcs
    obtain ⟨rfl, rfl, rfl⟩ := hcs
    simp only [if_true] at hmm
    subst hmm
    simp only [Prod.mk.injEq] at hx
    have hC : ∀ i, i < m → ∃ cs', w.cells? 0 (a.add (i * P.cellsOf e)) (P.cellsOf e) = some cs' ∧ cs' = (w.cells? 0 (a.add (i * P.cellsOf e)) (P.cellsOf e)).getD [] ∧ DataW.trod enc P w 0 (fun _ => true) true n e cs' = some (D i, Pl i) := fun i hi => by
      obtain ⟨cs', h1, h2⟩ := hel i hi
      exact ⟨cs', h1, by rw [h1]; rfl, h2⟩
    have hlen : ∀ cs ∈ (List.range l0).map (fun i => (w.cells? 0 (a.add (i * P.cellsOf e)) (P.cellsOf e)).getD []), cs.length = P.cellsOf e := by
      intro cs hcs
      obtain ⟨i, hi, rfl⟩ := List.mem_map.1 hcs
      obtain ⟨cs', h1, h2, h3⟩ := hC i (by have := List.mem_range.1 hi; omega)
      rw [← h2]; exact (World.cells?_some h1).2.1
    refine ⟨some a, l0, m, (List.range l0).map (fun i => (w.cells? 0 (a.add (i * P.cellsOf e)) (P.cellsOf e)).getD []), (List.range l0).map D, (List.range (m - l0)).map fun j => D (l0 + j), rfl, by simp, by simp,
      ⟨?_, hl, hm, fun h => (by cases h), fun ad ha j u hu => ?_⟩, hlen, by simp; omega, .inl hx.1, fun i hi hj => ?_⟩
    · have : ∀ css : List (List Value), (∀ cs ∈ css, cs.length = P.cellsOf e) → css.flatten.length = css.length * P.cellsOf e := by
        intro css
        induction css with
        | nil => simp
        | cons c css ih => intro h; rw [List.flatten_cons, List.length_append, h c (by simp), ih (fun x hx => h x (by simp [hx])), List.length_cons, Nat.add_mul]; omega
      rw [this _ hlen]; simp
    · simp only [Option.some.injEq] at ha; subst ha
      have := flat_cell (w := w) (a := a) (size := P.cellsOf e) _ 0 hlen (fun i hi r hr => by
        simp only [List.length_map, List.length_range] at hi
        obtain ⟨cs', h1, h2, h3⟩ := hC i (by omega)
        have hh := (World.cells?_some h1).2.2 r hr
        rw [add_add] at hh
        rw [List.getElem_map, List.getElem_range, ← h2, Nat.zero_add]; exact hh) j u hu
      rwa [Nat.zero_mul, Nat.zero_add] at this
    · simp only [List.length_map, List.length_range] at hi
      obtain ⟨cs', h1, h2, h3⟩ := hC i (by omega)
      refine ⟨n, Pl i, ?_⟩
      rw [List.getElem_map, List.getElem_range, List.getElem_map, List.getElem_range, ← h2]; exact h3

/-- All elements at once, by a reading of one element. -/
theorem open_all {α : Type} {e : TypeId} (cell : α → List Value) (dat : α → DataW H) (ok : α → Prop) (hone : ∀ cs d, Elem enc P w e cs d → ∃ x, cs = cell x ∧ d = dat x ∧ ok x) :
    ∀ (css : List (List Value)) (els : List (DataW H)), css.length = els.length → (∀ i (hi : i < css.length) (hj : i < els.length), Elem enc P w e css[i] els[i]) → ∃ xs : List α, css = xs.map cell ∧ els = xs.map dat ∧ ∀ x ∈ xs, ok x
  | [], [], _, _ => ⟨[], rfl, rfl, by simp⟩
  | c :: css, d :: els, hl, h => by
    obtain ⟨x, rfl, rfl, hx⟩ := hone c d (h 0 (by simp) (by simp))
    obtain ⟨xs, rfl, rfl, hxs⟩ := open_all cell dat ok hone css els (by simpa using hl) (fun i hi hj => by
      have := h (i + 1) (by simp; omega) (by simp; omega)
      simpa using this)
    refine ⟨x :: xs, rfl, rfl, fun y hy => ?_⟩
    rcases List.mem_cons.1 hy with rfl | hy
    · exact hx
    · exact hxs y hy
  | [], _ :: _, hl, _ => by simp at hl
  | _ :: _, [], hl, _ => by simp at hl

theorem elem_string {e : TypeId} (he : P.underlying e = some .string) {cs : List Value} {d : DataW H} (h : Elem enc P w e cs d) : ∃ x : List UInt8, cs = [.string ⟨x.toArray⟩] ∧ d = .lit (.string x) ∧ x.length ≤ maxLen := by
  obtain ⟨n, pl, h⟩ := h
  obtain ⟨s, rfl, hx, hs⟩ := DataW.trod_string he h
  simp only [Prod.mk.injEq] at hx
  exact ⟨s.data.toList, by simp, hx.1, by simpa using hs⟩

theorem elem_int {e : TypeId} {k : IntKind} (he : P.underlying e = some (.int k)) {cs : List Value} {d : DataW H} (h : Elem enc P w e cs d) : ∃ x : Int, cs = [.int k x] ∧ d = .lit (.int k x) ∧ (Lit.int k x).wf = true := by
  obtain ⟨n, pl, h⟩ := h
  obtain ⟨x, rfl, hx, hs⟩ := DataW.trod_int he h
  simp only [Prod.mk.injEq] at hx
  exact ⟨x, rfl, hx.1, hs⟩

/-- An element that is an array. -/
theorem elem_array {t e : TypeId} {n : Nat} (ht : P.underlying t = some (.array n e)) (he : P.cellsOf e = 1) {cs : List Value} {d : DataW H} (h : Elem enc P w t cs d) : cs.length = P.cellsOf t ∧ ∃ els : List (DataW H), els.length = n ∧ d = .agg els ∧ ∀ i (hj : i < els.length), Elem enc P w e ((cs.drop i).take 1) els[i] := by
  obtain ⟨m, pl, h⟩ := h
  obtain ⟨xs, m', rfl, hx, hl, hn, hi⟩ := DataW.trod_array ht h
  simp only [Prod.mk.injEq] at hx
  refine ⟨hl, xs.map (·.1), by simpa using hn, hx.1, fun i hj => ?_⟩
  simp only [List.length_map] at hj
  have := hi i (by omega)
  rw [he, Nat.mul_one, List.getElem?_eq_getElem hj] at this
  exact ⟨m', (xs[i]).2, by rw [this]; simp⟩

/-- A string that came in. -/
theorem open_str {t : TypeId} {v : Value} {d : DataW H} {p : List MemPlace} (ht : P.underlying t = some .string) {r : Reach} {b0 : Nat} (hv : Value.okWide P w r b0 t v) (h : DataW.Trod enc P w 0 (fun _ => true) true t v d p) :
    ∃ s : ByteArray, v = .string s ∧ d = .lit (.string s.data.toList) ∧ s.size ≤ maxLen := by
  obtain ⟨s, h1, h2, _, h3⟩ := Go.ChangeMaps.open_string ht hv h
  exact ⟨s, h1, h2, h3⟩
end

/-- All arguments read behind the call as they read before. -/
theorem below_trodAll {H : Type} {enc : TypeId × Value → H} {P : Program} {W W' : World} (hl : laidOutB P = true) (hb : Below W.heap.size W W') :
    ∀ {ts : List TypeId} {vs : List Value} {ds : List (DataW H)} {ps : List MemPlace}, ts.all (fun t => P.readableRec t && decide (t < P.types.size)) = true → DataW.TrodAll enc P W 0 (fun _ => true) true ts vs ds ps → DataW.TrodAll enc P W' 0 (fun b => decide (b < W.heap.size)) true ts vs ds ps
  | [], [], [], _, _, h => h
  | t :: ts, v :: vs, d :: ds, _, hr, h => by
    simp only [List.all_cons, Bool.and_eq_true, decide_eq_true_eq] at hr
    obtain ⟨p, q, h1, h2, rfl⟩ := h
    refine ⟨p, q, Below.trod hl hr.1.1 hr.1.2 h1 hb (by obtain ⟨m, hm⟩ := h1; exact DataW.trod_lt m _ _ _ hm), below_trodAll hl hb hr.2 h2, rfl⟩
  | [], [], _ :: _, _, _, h => by simp [DataW.TrodAll] at h
  | [], _ :: _, _, _, _, h => by simp [DataW.TrodAll] at h
  | _ :: _, [], _, _, _, h => by simp [DataW.TrodAll] at h
  | _ :: _, _ :: _, [], _, _, h => by simp [DataW.TrodAll] at h

/-- A slice of bytes that came in, as bytes. -/
theorem Rd.u8s {w : World} {a : Option Addr} {len cap : Nat} {xs : List Int} (h : Rd w a len cap 1 (xs.map (Value.int .u8))) (hx : ∀ x ∈ xs, (Lit.int .u8 x).wf = true) : ∃ l : List UInt8, Rd w a len cap 1 (byteVals l) := by
  refine ⟨xs.map fun n => UInt8.ofNat n.toNat, ?_⟩
  have he : byteVals (xs.map fun n => UInt8.ofNat n.toNat) = xs.map (Value.int .u8) := by
    unfold byteVals
    rw [List.map_map]
    apply List.map_congr_left
    intro n hn
    have hb := wf_u8_bd (hx n hn)
    simp only [Function.comp]
    congr 1
    simp
    omega
  rw [he]; exact h
end Go.Proofs.Ytgimkipekoabbaa
