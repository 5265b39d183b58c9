/-
  What tables, rows, columns, indexes that came in are to a walk. No condition.
-/
import Derived.Test.YtgimkipekoabbaaRec
import Derived.Test.YtgimkipekoabbaaOpn
namespace Go.Proofs.Ytgimkipekoabbaa
open Go.RowKit Go.WideShapes

section
variable {H : Type} {enc : TypeId × Value → H} {w : World}

/-- An element that is a slice, element by element. -/
theorem elem_rows {P : Program} {t e : TypeId} {cs : List Value} {d : DataW H} (ht : P.underlying t = some (.slice e)) {v : Value} (hv : ∃ a0 l0 c0, v = Value.slice a0 l0 c0) (hcv : v.cells.toList = cs) (h : Elem enc P w t cs d) :
    ∃ (a : Option Addr) (len cap : Nat) (css : List (List Value)) (els : List (DataW H)), v = .slice a len cap ∧ css.length = len ∧ els.length = len ∧ Rd w a len cap (P.cellsOf e) css.flatten ∧
      (∀ i (hi : i < css.length) (hj : i < els.length), Elem enc P w e css[i] els[i]) := by
  obtain ⟨a0, l0, c0, rfl⟩ := hv
  subst hcv
  obtain ⟨fuel, pl, hf⟩ := h
  rcases Deep.open_slice ht hf with ⟨hcs, hx⟩ | ⟨a, len, cap, m, n, D, Pl, hcs, _, hl, hm, hmm, hx, hel⟩
  · simp [Value.cells] at hcs
    obtain ⟨rfl, rfl, rfl⟩ := hcs
    exact ⟨none, 0, 0, [], [], rfl, rfl, rfl, Rd.nilSlice w _, fun i hi => by simp at hi⟩
  · simp [Value.cells] at hcs
    obtain ⟨rfl, rfl, rfl⟩ := hcs
    simp only [if_true] at hmm
    subst hmm
    have hC : ∀ i, i < m → ∃ cs', w.cells? 0 (a.add (i * P.cellsOf e)) (P.cellsOf e) = some cs' ∧ cs' = (w.cells? 0 (a.add (i * P.cellsOf e)) (P.cellsOf e)).getD [] ∧ DataW.trod enc P w 0 (fun _ => true) true n e cs' = some (D i, Pl i) := fun i hi => by
      obtain ⟨cs', h1, h2⟩ := hel i hi
      exact ⟨cs', h1, by rw [h1]; rfl, h2⟩
    have hlen : ∀ cs ∈ (List.range l0).map (fun i => (w.cells? 0 (a.add (i * P.cellsOf e)) (P.cellsOf e)).getD []), cs.length = P.cellsOf e := by
      intro cs hcs
      obtain ⟨i, hi, rfl⟩ := List.mem_map.1 hcs
      obtain ⟨cs', h1, h2, h3⟩ := hC i (by have := List.mem_range.1 hi; omega)
      rw [← h2]; exact (World.cells?_some h1).2.1
    refine ⟨some a, l0, m, (List.range l0).map (fun i => (w.cells? 0 (a.add (i * P.cellsOf e)) (P.cellsOf e)).getD []), (List.range l0).map D, rfl, by simp, by simp,
      ⟨?_, hl, hm, fun h => (by cases h), fun ad ha j u hu => ?_⟩, fun i hi hj => ?_⟩
    · have : ∀ css : List (List Value), (∀ cs ∈ css, cs.length = P.cellsOf e) → css.flatten.length = css.length * P.cellsOf e := by
        intro css
        induction css with
        | nil => simp
        | cons c css ih => intro h; rw [List.flatten_cons, List.length_append, h c (by simp), ih (fun x hx => h x (by simp [hx])), List.length_cons, Nat.add_mul]; omega
      rw [this _ hlen]; simp
    · simp only [Option.some.injEq] at ha; subst ha
      have := flat_cell (w := w) (a := a) (size := P.cellsOf e) _ 0 hlen (fun i hi r hr => by
        simp only [List.length_map, List.length_range] at hi
        obtain ⟨cs', h1, h2, h3⟩ := hC i (by omega)
        have hh := (World.cells?_some h1).2.2 r hr
        rw [add_add] at hh
        rw [List.getElem_map, List.getElem_range, ← h2, Nat.zero_add]; exact hh) j u hu
      rwa [Nat.zero_mul, Nat.zero_add] at this
    · simp only [List.length_map, List.length_range] at hi
      obtain ⟨cs', h1, h2, h3⟩ := hC i (by omega)
      refine ⟨n, Pl i, ?_⟩
      rw [List.getElem_map, List.getElem_range, List.getElem_map, List.getElem_range, ← h2]; exact h3

/-- The cells of an element that is a slice. -/
theorem elem_slice_cells {P : Program} {t e : TypeId} {cs : List Value} {d : DataW H} (ht : P.underlying t = some (.slice e)) (h : Elem enc P w t cs d) : ∃ a0 l0 c0, cs = [Value.slice a0 l0 c0] := by
  obtain ⟨fuel, pl, hf⟩ := h
  rcases Deep.open_slice ht hf with ⟨hcs, hx⟩ | ⟨a, len, cap, m, n, D, Pl, hcs, _⟩
  · exact ⟨_, _, _, hcs⟩
  · exact ⟨_, _, _, hcs⟩

theorem elem_sl {P : Program} {t e : TypeId} {cs : List Value} {d : DataW H} (ht : P.underlying t = some (.slice e)) (h : Elem enc P w t cs d) :
    ∃ (a : Option Addr) (len cap : Nat) (css : List (List Value)) (els : List (DataW H)), cs = [.slice a len cap] ∧ css.length = len ∧ els.length = len ∧ Rd w a len cap (P.cellsOf e) css.flatten ∧
      (∀ i (hi : i < css.length) (hj : i < els.length), Elem enc P w e css[i] els[i]) := by
  obtain ⟨a0, l0, c0, hcs⟩ := elem_slice_cells ht h
  obtain ⟨a, len, cap, css, els, hv, h1, h2, h3, h4⟩ := elem_rows ht (v := .slice a0 l0 c0) ⟨_, _, _, rfl⟩ (by rw [hcs]; rfl) h
  exact ⟨a, len, cap, css, els, by rw [hcs, hv], h1, h2, h3, h4⟩

theorem list3 {α : Type} {l : List α} (h : l.length = 3) : ∃ a b c, l = [a, b, c] := by
  match l, h with
  | [a, b, c], _ => exact ⟨a, b, c, rfl⟩
theorem list4 {α : Type} {l : List α} (h : l.length = 4) : ∃ a b c d, l = [a, b, c, d] := by
  match l, h with
  | [a, b, c, d], _ => exact ⟨a, b, c, d, rfl⟩
theorem list5 {α : Type} {l : List α} (h : l.length = 5) : ∃ a b c d e, l = [a, b, c, d, e] := by
  match l, h with
  | [a, b, c, d, e], _ => exact ⟨a, b, c, d, e, rfl⟩

theorem k_int : Try.prog.cellsOf 3 = 1 := by kernel_rfl
theorem k_str : Try.prog.cellsOf 9 = 1 := by kernel_rfl
theorem k_bool : Try.prog.cellsOf 4 = 1 := by kernel_rfl
theorem k_val : Try.prog.cellsOf 40 = 3 := by kernel_rfl
theorem k_col : Try.prog.cellsOf 50 = 3 := by kernel_rfl
theorem k_ix : Try.prog.cellsOf 55 = 3 := by kernel_rfl
theorem k_chk : Try.prog.cellsOf 42 = 5 := by kernel_rfl
theorem k_tab : Try.prog.cellsOf 28 = 4 := by kernel_rfl
theorem k_ints : Try.prog.cellsOf 32 = 1 := by kernel_rfl
theorem k_cols : Try.prog.cellsOf 24 = 1 := by kernel_rfl
theorem k_ixs : Try.prog.cellsOf 25 = 1 := by kernel_rfl
theorem k_chks : Try.prog.cellsOf 26 = 1 := by kernel_rfl

/-- A slice of integers in a struct. -/
theorem elem_ints {cs : List Value} {d : DataW H} (h : Elem enc Try.prog w 32 cs d) : ∃ (a : Option Addr) (cap : Nat) (xs : List Int), cs = [.slice a xs.length cap] ∧ Rd w a xs.length cap 1 (intVals xs) := by
  obtain ⟨a, len, cap, css, els, rfl, h1, h2, hR, hE⟩ := elem_sl Try.underlying32 h
  obtain ⟨xs, rfl, rfl, _⟩ := open_all (fun x : Int => [Value.int .i64 x]) (fun x => DataW.lit (.int .i64 x)) (fun x => (Lit.int .i64 x).wf = true) (fun cs d h => elem_int Try.underlying3 h) css els (by omega) hE
  rw [List.length_map] at h1
  subst h1
  exact ⟨a, cap, xs, rfl, hR.rows1 k_int⟩

theorem elem_val {cs : List Value} {d : DataW H} (h : Elem enc Try.prog w 40 cs d) : ∃ x : Val × DataW H, cs = x.1.enc ∧ d = x.2 ∧ True := by
  obtain ⟨hl, els, hn, rfl, hf⟩ := elem_struct Try.underlying40 h
  rw [k_val] at hl
  obtain ⟨c0, c1, c2, rfl⟩ := list3 hl
  obtain ⟨_, h0⟩ := hf 0 _ rfl
  obtain ⟨_, h1⟩ := hf 1 _ rfl
  obtain ⟨_, h2⟩ := hf 2 _ rfl
  obtain ⟨x0, y0, _⟩ := elem_int Try.underlying3 h0
  obtain ⟨x1, y1, _⟩ := elem_int Try.underlying3 h1
  obtain ⟨x2, y2, _⟩ := elem_string Try.underlying9 h2
  simp [k_int, k_str] at y0 y1 y2
  subst y0 y1 y2
  exact ⟨(⟨x0, x1, x2⟩, _), rfl, rfl, trivial⟩
theorem elem_col {cs : List Value} {d : DataW H} (h : Elem enc Try.prog w 50 cs d) : ∃ x : Col × DataW H, cs = x.1.enc ∧ d = x.2 ∧ True := by
  obtain ⟨hl, els, hn, rfl, hf⟩ := elem_struct Try.underlying50 h
  rw [k_col] at hl
  obtain ⟨c0, c1, c2, rfl⟩ := list3 hl
  obtain ⟨_, h0⟩ := hf 0 _ rfl
  obtain ⟨_, h1⟩ := hf 1 _ rfl
  obtain ⟨_, h2⟩ := hf 2 _ rfl
  obtain ⟨x0, y0, _⟩ := elem_string Try.underlying9 h0
  obtain ⟨x1, y1, _⟩ := elem_int Try.underlying3 h1
  obtain ⟨x2, y2, _⟩ := elem_bool Try.underlying4 h2
  simp [k_int, k_str, k_bool] at y0 y1 y2
  subst y0 y1 y2
  exact ⟨(⟨x0, x1, x2⟩, _), rfl, rfl, trivial⟩
theorem elem_ix {cs : List Value} {d : DataW H} (h : Elem enc Try.prog w 55 cs d) : ∃ x : IxP × DataW H, cs = x.1.enc ∧ d = x.2 ∧ Rd w x.1.a x.1.x.cols.length x.1.cap 1 (intVals x.1.x.cols) := by
  obtain ⟨hl, els, hn, rfl, hf⟩ := elem_struct Try.underlying55 h
  rw [k_ix] at hl
  obtain ⟨c0, c1, c2, rfl⟩ := list3 hl
  obtain ⟨_, h0⟩ := hf 0 _ rfl
  obtain ⟨_, h1⟩ := hf 1 _ rfl
  obtain ⟨_, h2⟩ := hf 2 _ rfl
  obtain ⟨x0, y0, _⟩ := elem_string Try.underlying9 h0
  obtain ⟨a, cap, x1, y1, hR⟩ := elem_ints h1
  obtain ⟨x2, y2, _⟩ := elem_bool Try.underlying4 h2
  simp [k_ints, k_str, k_bool] at y0 y1 y2
  subst y0 y1 y2
  exact ⟨(⟨⟨x0, x1, x2⟩, a, cap⟩, _), rfl, rfl, hR⟩
theorem elem_chk {cs : List Value} {d : DataW H} (h : Elem enc Try.prog w 42 cs d) : ∃ x : Chk × DataW H, cs = x.1.enc ∧ d = x.2 ∧ True := by
  obtain ⟨hl, els, hn, rfl, hf⟩ := elem_struct Try.underlying42 h
  rw [k_chk] at hl
  obtain ⟨c0, c1, c2, c3, c4, rfl⟩ := list5 hl
  obtain ⟨_, h0⟩ := hf 0 _ rfl
  obtain ⟨_, h1⟩ := hf 1 _ rfl
  obtain ⟨_, h2⟩ := hf 2 _ rfl
  obtain ⟨x0, y0, _⟩ := elem_int Try.underlying3 h0
  obtain ⟨x1, y1, _⟩ := elem_int Try.underlying3 h1
  obtain ⟨⟨x2, _⟩, y2, _⟩ := elem_val h2
  simp [k_int, k_val, Val.enc] at y0 y1 y2
  obtain ⟨rfl, rfl, rfl⟩ := y2
  subst y0 y1
  exact ⟨(⟨x0, x1, x2⟩, _), rfl, rfl, trivial⟩

/-- A list of records in a struct. -/
theorem elem_recs {α : Type} {t e : TypeId} {cs : List Value} {d : DataW H} (f : α → List Value) (ok : α → Prop) (k : Nat) (ht : Try.prog.underlying t = some (.slice e)) (hk : Try.prog.cellsOf e = k) (hone : ∀ cs d, Elem enc Try.prog w e cs d → ∃ x : α × DataW H, cs = f x.1 ∧ d = x.2 ∧ ok x.1)
    (h : Elem enc Try.prog w t cs d) : ∃ (a : Option Addr) (cap : Nat) (xs : List α), cs = [.slice a xs.length cap] ∧ Rd w a xs.length cap k (recC f xs) ∧ ∀ x ∈ xs, ok x := by
  obtain ⟨a, len, cap, css, els, rfl, h1, h2, hR, hE⟩ := elem_sl ht h
  obtain ⟨xs, rfl, rfl, hok⟩ := open_all (fun x : α × DataW H => f x.1) (fun x => x.2) (fun x => ok x.1) hone css els (by omega) hE
  rw [List.length_map] at h1
  refine ⟨a, cap, xs.map (·.1), by rw [List.length_map, h1], ?_, fun x hx => ?_⟩
  · rw [List.length_map, h1]
    unfold recC
    rw [List.map_map, ← hk]
    exact hR
  · obtain ⟨y, hy, rfl⟩ := List.mem_map.1 hx
    exact hok y hy

set_option maxRecDepth 20000 in
/-- A table that came in. -/
theorem open_tab {v : Value} {d : DataW H} {p : List MemPlace} {r : Reach} {b0 : Nat} (hv : Value.okWide Try.prog w r b0 28 v) (h : DataW.Trod enc Try.prog w 0 (fun _ => true) true 28 v d p) : ∃ X : TabP, v = X.v ∧ TabRd w X := by
  obtain ⟨cs, rfl, hcs⟩ := okWide_struct Try.underlying28 hv
  obtain ⟨fuel, hf0⟩ := h
  obtain ⟨hl, els, hn, rfl, hf⟩ := elem_struct (enc := enc) (w := w) Try.underlying28 ⟨fuel, p, hf0⟩
  rw [k_tab] at hl
  obtain ⟨c0, c1, c2, c3, hcl⟩ := list4 hl
  rw [hcl] at hf
  obtain ⟨_, h0⟩ := hf 0 _ rfl
  obtain ⟨_, h1⟩ := hf 1 _ rfl
  obtain ⟨_, h2⟩ := hf 2 _ rfl
  obtain ⟨_, h3⟩ := hf 3 _ rfl
  obtain ⟨x0, y0, _⟩ := elem_string Try.underlying9 h0
  obtain ⟨a1, p1, x1, y1, r1, _⟩ := elem_recs Col.enc (fun _ => True) 3 Try.underlying24 k_col (fun cs d h => elem_col h) h1
  obtain ⟨a2, p2, x2, y2, r2, n2⟩ := elem_recs IxP.enc (fun x => Rd w x.a x.x.cols.length x.cap 1 (intVals x.x.cols)) 3 Try.underlying25 k_ix (fun cs d h => elem_ix h) h2
  obtain ⟨a3, p3, x3, y3, r3, _⟩ := elem_recs Chk.enc (fun _ => True) 5 Try.underlying26 k_chk (fun cs d h => elem_chk h) h3
  simp [k_cols, k_str, k_ixs, k_chks] at y0 y1 y2 y3
  subst y0 y1 y2 y3
  refine ⟨⟨x0, a1, p1, x1, a2, p2, x2, a3, p3, x3⟩, ?_, r1, r2, n2, r3⟩
  unfold TabP.v
  congr 1
  apply Array.toList_inj.1
  simpa [Value.cells] using hcl
set_option maxRecDepth 20000 in
/-- A row that came in. -/
theorem open_row {v : Value} {d : DataW H} {p : List MemPlace} {r : Reach} {b0 : Nat} (hv : Value.okWide Try.prog w r b0 37 v) (h : DataW.Trod enc Try.prog w 0 (fun _ => true) true 37 v d p) : ∃ (a : Option Addr) (cap : Nat) (r : List Val), v = .slice a r.length cap ∧ Rd w a r.length cap 3 (recC Val.enc r) := by
  obtain ⟨a0, l0, c0, rfl⟩ := okWide_slice Try.underlying37 hv
  obtain ⟨fuel, hf0⟩ := h
  obtain ⟨a, cap, xs, hc, hR, _⟩ := elem_recs Val.enc (fun _ => True) 3 Try.underlying37 k_val (fun cs d h => elem_val h) ⟨fuel, p, hf0⟩
  simp [Value.cells] at hc
  obtain ⟨rfl, rfl, rfl⟩ := hc
  exact ⟨_, _, xs, rfl, hR⟩
set_option maxRecDepth 20000 in
/-- A column that came in. -/
theorem open_col {v : Value} {d : DataW H} {p : List MemPlace} {r : Reach} {b0 : Nat} (hv : Value.okWide Try.prog w r b0 50 v) (h : DataW.Trod enc Try.prog w 0 (fun _ => true) true 50 v d p) : ∃ c : Col, v = c.v := by
  obtain ⟨cs, rfl, hcs⟩ := okWide_struct Try.underlying50 hv
  obtain ⟨fuel, hf0⟩ := h
  obtain ⟨⟨x, _⟩, hx, _⟩ := elem_col (enc := enc) (w := w) ⟨fuel, p, hf0⟩
  refine ⟨x, ?_⟩
  unfold Col.v
  congr 1
  apply Array.toList_inj.1
  simpa [Value.cells, Col.enc] using hx
set_option maxRecDepth 20000 in
/-- An index that came in. -/
theorem open_ix {v : Value} {d : DataW H} {p : List MemPlace} {r : Reach} {b0 : Nat} (hv : Value.okWide Try.prog w r b0 55 v) (h : DataW.Trod enc Try.prog w 0 (fun _ => true) true 55 v d p) : ∃ x : IxP, v = x.v ∧ Rd w x.a x.x.cols.length x.cap 1 (intVals x.x.cols) := by
  obtain ⟨cs, rfl, hcs⟩ := okWide_struct Try.underlying55 hv
  obtain ⟨fuel, hf0⟩ := h
  obtain ⟨⟨x, _⟩, hx, _, hR⟩ := elem_ix (enc := enc) (w := w) ⟨fuel, p, hf0⟩
  refine ⟨x, ?_, hR⟩
  unfold IxP.v
  congr 1
  apply Array.toList_inj.1
  simpa [Value.cells, IxP.enc] using hx
end
end Go.Proofs.Ytgimkipekoabbaa
