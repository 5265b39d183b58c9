/-
  Regions that draw their order, with memory that is kept: single operations by hand. No condition.
-/
import Derived.Test.YtgimkipekoabbaaBlk
import Derived.Deep.RegionHeld3
namespace Go.Proofs.Ytgimkipekoabbaa
open Go.RowKit

/-- A fact that no tactic looks into ('Hid' is a definition, and some steps of the walk lay it open). -/
structure Box (p : Prop) : Prop where
  out : p

theorem Blk.part {w : World} {g : Nat} {ty : TypeId} {cs : List Value} (h : Blk w g ty cs) (off n : Nat) : ∀ j u, ((cs.drop off).take n)[j]? = some u → w.cell? ((⟨g, off, none⟩ : Addr).add j) = some u :=
  block_cells h off _ (fun j hj => by
    rw [List.length_take] at hj
    rw [List.getElem?_take, if_pos (by omega), List.getElem?_drop]; simp)

theorem yieldsIf_load_agg {P : Program} {ops : Array Oper} {S : World → Prop} {o : Oper} {a : Act} (hw : Region.wanted o (yielded ops a.tmps) = true) (ty : TypeId) (x : Operand) (ho : o.op = .load ty x) {size : Nat} (hT : AggT P ty size)
    {ad : Addr} (hx : a.eval x = .pointer (some ad)) {cs : List Value} (hl : cs.length = size) (hc : ∀ w', S w' → ∀ j u, cs[j]? = some u → w'.cell? (ad.add j) = some u) : YieldsIf P ops S o (.agg cs.toArray) a :=
  Or.inl ⟨hw, fun w' hS => by
    unfold execOp
    simp only [ho, hx, Instr.loadAt, Instr.sureAddr, Sem.run_bind, Sem.run_pure, Result.andThen_ok, run_loadVar_agg hT ad cs hl (hc w' hS)]⟩

theorem yieldsIf_val {P : Program} {ops : Array Oper} {S : World → Prop} {o : Oper} {a : Act} (hw : Region.wanted o (yielded ops a.tmps) = true) {v : Value} (h : ∀ w', S w' → (execOp a.eval o).run P w' = .ok (.value v) w') : YieldsIf P ops S o v a := Or.inl ⟨hw, h⟩

theorem oper_store_row {P : Program} {w : World} {ops : Array Oper} {o : Oper} {a : Act} {K : Act → World → Prop} {Q : Exit → Act → World → Prop} (hgd : Region.wanted o (yielded ops a.tmps) = true) (ty : TypeId) (x v : Operand) (ho : o.op = .store ty x v) (hdst : o.dst = none)
    {size g : Nat} (hsz : (P.info? ty).map (·.size) = some size) {e : TypeId} {cur : List Value} (hb : Blk w g e cur) (hcur : cur.length = size) (hx : a.eval x = .pointer (some ⟨g, 0, none⟩)) {cs : List Value} (hv : (a.eval v).cells = cs.toArray) (hl : cs.length = size)
    (h1 : ∀ u ∈ cs, u.oneCell' = true) (h : K a (w.setRow g cs.toArray)) : if Region.wanted o (yielded ops a.tmps) = true then Oper.wp P o a w K Q else K (a.put o.dst undef) w := by
  rw [if_pos hgd]
  obtain ⟨i, hi, hs⟩ := Option.map_eq_some_iff.1 hsz
  have hst := run_storeCells_at P g 0 e cs 0 cur.toArray w hb (by simp; omega) h1
  have hd : cur.toArray.toList.drop (0 + cs.length) = [] := List.drop_eq_nil_of_le (by simp; omega)
  rw [hd, List.take_zero, List.nil_append, List.append_nil] at hst
  have hrun : (Instr.storeAt ty (.pointer (some ⟨g, 0, none⟩)) (a.eval v)).run P w = .ok () (w.setRow g cs.toArray) := by
    simp [Instr.storeAt, Instr.sureAddr, storeVar, sizeOf, typeInfo, hi, hs, hl, hv, hst]
  unfold Oper.wp execOp
  simp only [ho, hx, Sem.run_bind, hrun, Result.andThen_ok, Sem.run_pure]
  have hp : a.put o.dst undef = a := by rw [hdst]; rfl
  show K (a.put o.dst undef) _
  rw [hp]
  exact h

/-- A new variable. -/
theorem oper_alloc {P : Program} {w : World} {ops : Array Oper} {o : Oper} {a : Act} {K : Act → World → Prop} {Q : Exit → Act → World → Prop} (hgd : Region.wanted o (yielded ops a.tmps) = true) (ty : TypeId) (ho : o.op = .alloc ty)
    {z : Value} (hz : (P.info? ty).map (·.zero) = some (some z)) {zc : Array Value} (hzc : z.cells = zc) (h : K (a.put o.dst (.pointer (some ⟨w.heap.size, 0, none⟩))) (w.alloc (.cells zc ty))) :
    if Region.wanted o (yielded ops a.tmps) = true then Oper.wp P o a w K Q else K (a.put o.dst undef) w := by
  rw [if_pos hgd]
  obtain ⟨i, hi, hs⟩ := Option.map_eq_some_iff.1 hz
  subst hzc
  unfold Oper.wp execOp
  simp [ho, Instr.alloc, zeroValue, typeInfo, hi, hs, newVar, newRow]
  exact h

/-- An element of an array that is a value. -/
theorem run_index_agg {P : Program} {t e : TypeId} {n : Nat} (ht : P.underlying t = some (.array n e)) (he : P.underlying e = some (.int .u32)) (hs : (P.info? e).map (·.size) = some 1) (cs : List Value) (i : Nat) (hi : i < n) {v : Value} (hv : cs[i]? = some v) (w : World) :
    (Instr.index t (.agg cs.toArray) (.int .i64 (i : Int))).run P w = .ok v w := by
  obtain ⟨d, hd, hd1⟩ := Option.map_eq_some_iff.1 hs
  simp [Instr.index, run_underlying ht, sizeOf, typeInfo, hd, hd1, part, isAgg, run_underlying he, hi, hv, asIntOf]

theorem wpList_index_agg {P : Program} {w : World} {ops : Array Oper} {rest : List Oper} {o : Oper} {a : Act} {Q : Exit → Act → World → Prop} (hgd : Region.wanted o (yielded ops a.tmps) = true) (t : TypeId) (x y : Operand) (ho : o.op = .index t x y)
    {e : TypeId} {n : Nat} (ht : P.underlying t = some (.array n e)) (he : P.underlying e = some (.int .u32)) (hs : (P.info? e).map (·.size) = some 1) {cs : List Value} (hx : a.eval x = .agg cs.toArray) {i : Nat} (hi : i < n) (hy : a.eval y = .int .i64 (i : Int)) {v : Value} (hv : cs[i]? = some v)
    (h : wpList P ops Q rest (a.put o.dst v) w) : wpList P ops Q (o :: rest) a w := by
  refine BigFrame.wpList_want hgd fun K hK => ?_
  unfold Oper.wp execOp
  simp only [ho, hx, hy, Sem.run_bind, run_index_agg ht he hs cs i hi hv w, Result.andThen_ok, Sem.run_pure]
  exact hK _ _ h
end Go.Proofs.Ytgimkipekoabbaa
