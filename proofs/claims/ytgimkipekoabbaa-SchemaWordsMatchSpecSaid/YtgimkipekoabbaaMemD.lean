/-
  More laws of the walk: a slice literal of one aggregate, results that lie in a cell. No condition.
-/
import Derived.Test.YtgimkipekoabbaaMemC
namespace Go.Proofs.Ytgimkipekoabbaa
open Go.RowKit

theorem fold_set (l : List Value) (pre suf : List Value) (h : suf.length = l.length) :
    (l.zipIdx pre.length).foldl (fun (cs : Array Value) (p : Value × Nat) => cs.setIfInBounds p.2 p.1) (pre ++ suf).toArray = (pre ++ l).toArray := by
  induction l generalizing pre suf with
  | nil => have : suf = [] := List.eq_nil_of_length_eq_zero (by simpa using h); subst this; simp
  | cons v l ih =>
    match suf, h with
    | s :: suf, h =>
      rw [List.zipIdx_cons, List.foldl_cons]
      have e : ((pre ++ s :: suf).toArray.setIfInBounds pre.length v) = ((pre ++ [v]) ++ suf).toArray := by
        rw [List.setIfInBounds_toArray, List.set_append_right _ _ (Nat.le_refl _)]
        simp
      simp only at e ⊢
      rw [e]
      have h2 := ih (pre ++ [v]) suf (by simpa using h)
      rw [List.length_append, List.length_singleton] at h2
      rw [h2]
      simp

theorem fold_all (l : List Value) (z : Array Value) (h : z.size = l.length) :
    l.zipIdx.foldl (fun (cs : Array Value) (p : Value × Nat) => cs.setIfInBounds p.2 p.1) z = l.toArray := by
  have := fold_set l [] z.toList (by simpa using h)
  simpa using this

/-- A slice literal of one element that is an aggregate. -/
theorem wpList_lit_one {P : Program} {w : World} {ops : Array Oper} {rest : List Oper} {o : Oper} {a : Act} {Q : Exit → Act → World → Prop} (hgd : Region.wanted o (yielded ops a.tmps) = true) (t : TypeId) (x : Operand) (ho : o.op = .buildSlice t 1 #[(0, x)])
    {e : TypeId} {z : Value} {size bytes : Nat} (hT : SlT P t e z size bytes) {cs : List Value} (hx : (a.eval x).cells = cs.toArray) (hl : cs.length = size) (hs : size ≤ 1000000) (hs0 : 0 < size)
    (h : wpList P ops Q rest (a.put o.dst (.slice (some ⟨w.heap.size, 0, none⟩) 1 1)) (w.alloc (.cells cs.toArray e))) : wpList P ops Q (o :: rest) a w := by
  refine BigFrame.wpList_want hgd fun K hK => ?_
  obtain ⟨i, hi, hz, hsz, hby⟩ := info_parts hT.info
  have hfa := fold_all cs ((Array.range size).map (z.cells[· % z.cells.size]!)) (by simp [hl])
  have h0 : ¬ (16777216 < size) := by omega
  have h1 : ¬ size = 0 := by omega
  have hrun : (Instr.buildSlice t 1 #[(0, a.eval x)]).run P w = .ok (.slice (some ⟨w.heap.size, 0, none⟩) 1 1) (w.alloc (.cells cs.toArray e)) := by
    simp [Instr.buildSlice, run_underlying hT.ht, sizeOf, typeInfo, zeroValue, hi, hz, hsz, h0, h1, Instr.fill, hx, hl, newRow, hfa]
  unfold Oper.wp execOp
  simp only [ho, List.map_toArray, List.map_cons, List.map_nil, Sem.run_bind, hrun, Result.andThen_ok, Sem.run_pure]
  exact hK _ _ h

theorem run_arrayAt {P : Program} {arr e : TypeId} {n : Nat} (h : P.underlying arr = some (.array n e)) (a : Option Addr) (len cap : Nat) (hn : n ≤ len) (w : World) : (Instr.arrayAt arr (.slice a len cap)).run P w = .ok (.pointer a) w := by
  have : ¬ len < n := by omega
  simp [Instr.arrayAt, run_underlying h, this]

theorem results_cell3 {P : Program} {w : World} {fn : Func} {p t u : Tmp} {ty : TypeId} (h : fn.results = #[.cell p ty, .tmp t, .tmp u]) (tmps : Array Value) {g : Nat} {e : TypeId} {cs : List Value} {fr : Nat × Nat}
    (hp : tmps.getD p undef = .pointer (some ⟨g, 0, none⟩)) (hg : w.heap[g]? = some (.cells cs.toArray e fr)) (hT : AggT P ty cs.length) :
    (results fn tmps).run P w = .ok (.tuple #[.agg cs.toArray, tmps.getD t undef, tmps.getD u undef]) w := by
  have hp' : tmps[p]?.getD undef = .pointer (some ⟨g, 0, none⟩) := by simpa using hp
  have hl := run_loadVar_agg (P := P) (w := w) hT ⟨g, 0, none⟩ cs rfl (block_cells hg 0 cs (fun j hj => by simp))
  simp [results, h, hp', asAddr, hl]

theorem results_cell2 {P : Program} {w : World} {fn : Func} {p t : Tmp} {ty : TypeId} (h : fn.results = #[.cell p ty, .tmp t]) (tmps : Array Value) {g : Nat} {e : TypeId} {cs : List Value} {fr : Nat × Nat}
    (hp : tmps.getD p undef = .pointer (some ⟨g, 0, none⟩)) (hg : w.heap[g]? = some (.cells cs.toArray e fr)) (hT : AggT P ty cs.length) :
    (results fn tmps).run P w = .ok (.tuple #[.agg cs.toArray, tmps.getD t undef]) w := by
  have hp' : tmps[p]?.getD undef = .pointer (some ⟨g, 0, none⟩) := by simpa using hp
  have hl := run_loadVar_agg (P := P) (w := w) hT ⟨g, 0, none⟩ cs rfl (block_cells hg 0 cs (fun j hj => by simp))
  simp [results, h, hp', asAddr, hl]

theorem results_cell1 {P : Program} {w : World} {fn : Func} {p : Tmp} {ty : TypeId} (h : fn.results = #[.cell p ty]) (tmps : Array Value) {g : Nat} {e : TypeId} {cs : List Value} {fr : Nat × Nat}
    (hp : tmps.getD p undef = .pointer (some ⟨g, 0, none⟩)) (hg : w.heap[g]? = some (.cells cs.toArray e fr)) (hT : AggT P ty cs.length) :
    (results fn tmps).run P w = .ok (.agg cs.toArray) w := by
  have hp' : tmps[p]?.getD undef = .pointer (some ⟨g, 0, none⟩) := by simpa using hp
  have hl := run_loadVar_agg (P := P) (w := w) hT ⟨g, 0, none⟩ cs rfl (block_cells hg 0 cs (fun j hj => by simp))
  simp [results, h, hp', asAddr, hl]
end Go.Proofs.Ytgimkipekoabbaa
