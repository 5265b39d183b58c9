/-
  Blocks of the call's own, cell by cell; a store of a whole aggregate. No condition.
-/
import Derived.Test.YtgimkipekoabbaaMore
namespace Go.Proofs.Ytgimkipekoabbaa
open Go.RowKit

/-- Block g holds the cells cs. -/
def Blk (w : World) (g : Nat) (ty : TypeId) (cs : List Value) : Prop := w.heap[g]? = some (.cells cs.toArray ty (0, 0))

section
variable {w w' : World} {g : Nat} {ty : TypeId} {cs : List Value}
theorem Blk.lt (h : Blk w g ty cs) : g < w.heap.size := lt_of_block h
theorem Blk.cell (h : Blk w g ty cs) (i : Nat) (hi : i < cs.length) : w.cell? ⟨g, i, none⟩ = some cs[i] := by
  rw [cell_of_row w g i cs.toArray ty (0, 0) h]; simp [hi]
theorem Blk.cellOf (h : Blk w g ty cs) {i : Nat} {v : Value} (hv : cs[i]? = some v) : w.cell? ⟨g, i, none⟩ = some v := by
  rw [cell_of_row w g i cs.toArray ty (0, 0) h]; simpa using hv
theorem Blk.free (h : Blk w g ty cs) (i : Nat) : w.frozen? ⟨g, i, none⟩ = false := by
  unfold Blk at h; simp [World.frozen?, h]
theorem Blk.agg (h : Blk w g ty cs) : ∀ j u, cs[j]? = some u → w.cell? ((⟨g, 0, none⟩ : Addr).add j) = some u :=
  block_cells h 0 cs (fun j hj => by simp)
theorem Blk.set (h : Blk w g ty cs) (i : Nat) (v : Value) : Blk (w.setCell ⟨g, i, none⟩ v) g ty (cs.set i v) := by
  have hlt := h.lt
  unfold Blk at h ⊢
  have h' : w.heap[g] = .cells cs.toArray ty (0, 0) := by simpa [Array.getElem?_eq_getElem hlt] using h
  show (w.heap.modify g _)[g]? = _
  rw [Array.getElem?_eq_getElem (by simpa using hlt), Array.getElem_modify_self, h']
  simp
theorem Blk.other (h : Blk w g ty cs) {p : Addr} (hk : g ≠ p.block) (v : Value) : Blk (w.setCell p v) g ty cs := by
  unfold Blk at h ⊢
  rw [Below.heap_setCell _ _ _ _ hk]; exact h
theorem Blk.below (h : Blk w g ty cs) {B : Nat} (hb : Below B w w') (hB : w.heap.size ≤ B) : Blk w' g ty cs := by
  have := h.lt
  unfold Blk at h ⊢
  rw [hb.block g (by omega)]; exact h
theorem Blk.call0 (h : Blk w g ty cs) (hb : Below w.heap.size w w') : Blk w' g ty cs := h.below hb (Nat.le_refl _)
theorem Blk.drew (h : Blk w g ty cs) : Blk w.drew g ty cs := h
theorem Blk.drewN (h : Blk w g ty cs) (n : Nat) : Blk (w.drewN n) g ty cs := h
theorem below_drewN {B : Nat} {a w : World} (h : Below B a w) (n : Nat) : Below B a (w.drewN n) := ⟨h.os, h.tape, h.output, h.size, h.block⟩
theorem Blk.alloc (h : Blk w g ty cs) (o : Obj) : Blk (w.alloc o) g ty cs := h.call0 ((Below.refl _ _).alloc (Nat.le_refl _) o)
theorem Blk.new {k : Nat} {arr : Array Value} (hk : k = w.heap.size) (ha : arr = cs.toArray) : Blk (w.alloc (.cells arr ty)) k ty cs := by subst ha; exact heap_at hk
theorem Blk.row (h : Blk w g ty cs) (ds : List Value) : Blk (w.setRow g ds.toArray) g ty ds := setRow_heap w g cs.toArray ds.toArray ty _ h
theorem Blk.rowOther (h : Blk w g ty cs) {k : Nat} (hk : g ≠ k) (ds : Array Value) : Blk (w.setRow k ds) g ty cs := by
  unfold Blk at h ⊢
  rw [setRow_other w k g _ hk]; exact h
theorem below_setRow {B : Nat} {a w : World} (h : Below B a w) {g : Nat} (hg : B ≤ g) (ds : Array Value) : Below B a (w.setRow g ds) :=
  h.trans ⟨rfl, rfl, rfl, by simp, fun k hk => setRow_other w g k _ (by omega)⟩
end

/-- A store of a whole aggregate into a block of the call's own. -/
theorem wpList_store_row {P : Program} {w : World} {ops : Array Oper} {rest : List Oper} {o : Oper} {a : Act} {Q : Exit → Act → World → Prop} (hgd : Region.wanted o (yielded ops a.tmps) = true) (ty : TypeId) (x v : Operand) (ho : o.op = .store ty x v) (hdst : o.dst = none)
    {size g : Nat} (hsz : (P.info? ty).map (·.size) = some size) {e : TypeId} {cur : List Value} (hb : Blk w g e cur) (hcur : cur.length = size) (hx : a.eval x = .pointer (some ⟨g, 0, none⟩)) {cs : List Value} (hv : (a.eval v).cells = cs.toArray) (hl : cs.length = size)
    (h1 : ∀ u ∈ cs, u.oneCell' = true) (h : wpList P ops Q rest a (w.setRow g cs.toArray)) : wpList P ops Q (o :: rest) a w := by
  refine BigFrame.wpList_want hgd fun K hK => ?_
  obtain ⟨i, hi, hs⟩ := Option.map_eq_some_iff.1 hsz
  have hst := run_storeCells_at P g 0 e cs 0 cur.toArray w hb (by simp; omega) h1
  have hd : cur.toArray.toList.drop (0 + cs.length) = [] := List.drop_eq_nil_of_le (by simp; omega)
  rw [hd, List.take_zero, List.nil_append, List.append_nil] at hst
  have hrun : (Instr.storeAt ty (.pointer (some ⟨g, 0, none⟩)) (a.eval v)).run P w = .ok () (w.setRow g cs.toArray) := by
    simp [Instr.storeAt, Instr.sureAddr, storeVar, sizeOf, typeInfo, hi, hs, hl, hv, hst]
  unfold Oper.wp execOp
  simp only [ho, hx, Sem.run_bind, hrun, Result.andThen_ok, Sem.run_pure]
  have hp : a.put o.dst undef = a := by rw [hdst]; rfl
  show K (a.put o.dst undef) _
  rw [hp]
  exact hK _ _ h

/-- Words as cells. -/
def wordVals (l : List UInt32) : List Value := l.map fun x => Value.int .u32 (x.toNat : Int)
theorem wordVals_length (l : List UInt32) : (wordVals l).length = l.length := by simp [wordVals]
theorem wordVals_one (l : List UInt32) : ∀ u ∈ wordVals l, u.oneCell' = true := by
  intro u hu
  obtain ⟨_, _, rfl⟩ := List.mem_map.1 hu
  rfl

/-- All bytes of a slice that is not empty. -/
theorem Rd.byteAll {w : World} {a : Option Addr} {n cap : Nat} {l : List UInt8} (h : Rd w a n cap 1 (byteVals l)) (hn : 0 < n) :
    ∃ g off, a = some ⟨g, off, none⟩ ∧ g < w.heap.size ∧ ∀ k, k < n → w.cell? ⟨g, off + k, none⟩ = some (.int .u8 ((l.getD k 0).toNat : Int)) := by
  have hl := h.blen
  obtain ⟨b, off, ha, hc⟩ := h.at 0 hn
  refine ⟨b, off, ha, ?_, fun k hk => ?_⟩
  · exact cell_block_lt (hc 0 (by rw [byteVals_length]; omega))
  · rw [hc k (by rw [byteVals_length]; omega)]
    simp [byteVals, List.getD_eq_getElem?_getD, List.getElem?_eq_getElem (show k < l.length by omega)]
end Go.Proofs.Ytgimkipekoabbaa
