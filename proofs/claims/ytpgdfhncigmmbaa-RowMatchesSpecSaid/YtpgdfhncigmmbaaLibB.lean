/-
  General lemmas on memory: regions that draw, blocks of a call, many own objects. No condition.
-/
import Derived.Test.YtpgdfhncigmmbaaLibA
import Derived.Deep.RegionHeld3
import Derived.Laws.CopyOwn
import Derived.Lib.ConvBytes
import Derived.Laws.MakeOwn
import Derived.Maps.OwnSet
/-
  Regions that draw their order, with memory that is kept: single operations by hand. No condition.
-/
namespace Go.Proofs.Ytpgdfhncigmmbaa
open Go.RowKit

/-- A fact that no tactic looks into ('Hid' is a definition, and some steps of the walk lay it open). -/
structure Box (p : Prop) : Prop where
  out : p

theorem Blk.part {w : World} {g : Nat} {ty : TypeId} {cs : List Value} (h : Blk w g ty cs) (off n : Nat) : ∀ j u, ((cs.drop off).take n)[j]? = some u → w.cell? ((⟨g, off, none⟩ : Addr).add j) = some u :=
  block_cells h off _ (fun j hj => by
    rw [List.length_take] at hj
    rw [List.getElem?_take, if_pos (by omega), List.getElem?_drop]; simp)

theorem yieldsIf_load_agg {P : Program} {ops : Array Oper} {S : World → Prop} {o : Oper} {a : Act} (hw : Region.wanted o (yielded ops a.tmps) = true) (ty : TypeId) (x : Operand) (ho : o.op = .load ty x) {size : Nat} (hT : AggT P ty size)
    {ad : Addr} (hx : a.eval x = .pointer (some ad)) {cs : List Value} (hl : cs.length = size) (hc : ∀ w', S w' → ∀ j u, cs[j]? = some u → w'.cell? (ad.add j) = some u) : YieldsIf P ops S o (.agg cs.toArray) a :=
  Or.inl ⟨hw, fun w' hS => by
    unfold execOp
    simp only [ho, hx, Instr.loadAt, Instr.sureAddr, Sem.run_bind, Sem.run_pure, Result.andThen_ok, run_loadVar_agg hT ad cs hl (hc w' hS)]⟩

theorem yieldsIf_val {P : Program} {ops : Array Oper} {S : World → Prop} {o : Oper} {a : Act} (hw : Region.wanted o (yielded ops a.tmps) = true) {v : Value} (h : ∀ w', S w' → (execOp a.eval o).run P w' = .ok (.value v) w') : YieldsIf P ops S o v a := Or.inl ⟨hw, h⟩

theorem oper_store_row {P : Program} {w : World} {ops : Array Oper} {o : Oper} {a : Act} {K : Act → World → Prop} {Q : Exit → Act → World → Prop} (hgd : Region.wanted o (yielded ops a.tmps) = true) (ty : TypeId) (x v : Operand) (ho : o.op = .store ty x v) (hdst : o.dst = none)
    {size g : Nat} (hsz : (P.info? ty).map (·.size) = some size) {e : TypeId} {cur : List Value} (hb : Blk w g e cur) (hcur : cur.length = size) (hx : a.eval x = .pointer (some ⟨g, 0, none⟩)) {cs : List Value} (hv : (a.eval v).cells = cs.toArray) (hl : cs.length = size)
    (h1 : ∀ u ∈ cs, u.oneCell' = true) (h : K a (w.setRow g cs.toArray)) : if Region.wanted o (yielded ops a.tmps) = true then Oper.wp P o a w K Q else K (a.put o.dst undef) w := by
  rw [if_pos hgd]
  obtain ⟨i, hi, hs⟩ := Option.map_eq_some_iff.1 hsz
  have hst := run_storeCells_at P g 0 e cs 0 cur.toArray w hb (by simp; omega) h1
  have hd : cur.toArray.toList.drop (0 + cs.length) = [] := List.drop_eq_nil_of_le (by simp; omega)
  rw [hd, List.take_zero, List.nil_append, List.append_nil] at hst
  have hrun : (Instr.storeAt ty (.pointer (some ⟨g, 0, none⟩)) (a.eval v)).run P w = .ok () (w.setRow g cs.toArray) := by
    simp [Instr.storeAt, Instr.sureAddr, storeVar, sizeOf, typeInfo, hi, hs, hl, hv, hst]
  unfold Oper.wp execOp
  simp only [ho, hx, Sem.run_bind, hrun, Result.andThen_ok, Sem.run_pure]
  have hp : a.put o.dst undef = a := by rw [hdst]; rfl
  show K (a.put o.dst undef) _
  rw [hp]
  exact h

/-- A new variable. -/
theorem oper_alloc {P : Program} {w : World} {ops : Array Oper} {o : Oper} {a : Act} {K : Act → World → Prop} {Q : Exit → Act → World → Prop} (hgd : Region.wanted o (yielded ops a.tmps) = true) (ty : TypeId) (ho : o.op = .alloc ty)
    {z : Value} (hz : (P.info? ty).map (·.zero) = some (some z)) {zc : Array Value} (hzc : z.cells = zc) (h : K (a.put o.dst (.pointer (some ⟨w.heap.size, 0, none⟩))) (w.alloc (.cells zc ty))) :
    if Region.wanted o (yielded ops a.tmps) = true then Oper.wp P o a w K Q else K (a.put o.dst undef) w := by
  rw [if_pos hgd]
  obtain ⟨i, hi, hs⟩ := Option.map_eq_some_iff.1 hz
  subst hzc
  unfold Oper.wp execOp
  simp [ho, Instr.alloc, zeroValue, typeInfo, hi, hs, newVar, newRow]
  exact h

/-- An element of an array that is a value. -/
theorem run_index_agg {P : Program} {t e : TypeId} {n : Nat} (ht : P.underlying t = some (.array n e)) (he : P.underlying e = some (.int .u32)) (hs : (P.info? e).map (·.size) = some 1) (cs : List Value) (i : Nat) (hi : i < n) {v : Value} (hv : cs[i]? = some v) (w : World) :
    (Instr.index t (.agg cs.toArray) (.int .i64 (i : Int))).run P w = .ok v w := by
  obtain ⟨d, hd, hd1⟩ := Option.map_eq_some_iff.1 hs
  simp [Instr.index, run_underlying ht, sizeOf, typeInfo, hd, hd1, part, isAgg, run_underlying he, hi, hv, asIntOf]

theorem wpList_index_agg {P : Program} {w : World} {ops : Array Oper} {rest : List Oper} {o : Oper} {a : Act} {Q : Exit → Act → World → Prop} (hgd : Region.wanted o (yielded ops a.tmps) = true) (t : TypeId) (x y : Operand) (ho : o.op = .index t x y)
    {e : TypeId} {n : Nat} (ht : P.underlying t = some (.array n e)) (he : P.underlying e = some (.int .u32)) (hs : (P.info? e).map (·.size) = some 1) {cs : List Value} (hx : a.eval x = .agg cs.toArray) {i : Nat} (hi : i < n) (hy : a.eval y = .int .i64 (i : Int)) {v : Value} (hv : cs[i]? = some v)
    (h : wpList P ops Q rest (a.put o.dst v) w) : wpList P ops Q (o :: rest) a w := by
  refine BigFrame.wpList_want hgd fun K hK => ?_
  unfold Oper.wp execOp
  simp only [ho, hx, hy, Sem.run_bind, run_index_agg ht he hs cs i hi hv w, Result.andThen_ok, Sem.run_pure]
  exact hK _ _ h
end Go.Proofs.Ytpgdfhncigmmbaa

/-
  copy from a string into a block of the call's own; a store of an aggregate into a part of a block. No condition.
-/
namespace Go.Proofs.Ytpgdfhncigmmbaa
open Go.RowKit

theorem run_firstCells_str {P : Program} (w : World) (l : List UInt8) (k : Nat) : (Builtin.firstCells 1 k (.string ⟨l.toArray⟩)).run P w = .ok (byteVals (l.take k)).toArray w := by
  have hx : (((⟨l.toArray⟩ : ByteArray).extract 0 k).data.map fun b => Value.int .u8 b.toNat) = (byteVals (l.take k)).toArray := by
    apply Array.ext'
    simp [byteVals, ByteArray.extract, ByteArray.copySlice, List.map_take]
  simp only [Builtin.firstCells, hx, Sem.run_pure]

/-- The cells of a block behind a copy, as a block. -/
theorem run_copy_str {P : Program} (w : World) (dT sT ty elem : TypeId) (g o dLen dCap : Nat) (l : List UInt8) (cur : List Value) (t : TypeId) (k : Nat)
    (hu : P.underlying dT = some (.slice elem)) (hs : (P.info? elem).map (·.size) = some 1)
    (hg : Blk w g t cur) (hk : k = Nat.min l.length dLen) (hfit : o + k ≤ cur.length) :
    (Builtin.copy_ #[dT, sT] ty #[.slice (some ⟨g, o, none⟩) dLen dCap, .string ⟨l.toArray⟩]).run P w =
      .ok (goInt k) (w.setRow g (splice cur o (byteVals (l.take k))).toArray) := by
  have hkl : k ≤ l.length := by rw [hk]; exact Nat.min_le_left _ _
  have hlen : (byteVals (l.take k)).length = k := by rw [byteVals_length, List.length_take]; omega
  have hst := run_storeCells_at P g o t (byteVals (l.take k)) 0 cur.toArray w hg (by rw [hlen]; simpa using hfit) (byteVals_one _)
  have hf := run_firstCells_str (P := P) w l k
  have hz : (⟨l.toArray⟩ : ByteArray).size = l.length := str_size l
  cases hq : P.info? elem with
  | none => simp [hq] at hs
  | some i =>
    have hi : i.size = 1 := by simpa [hq] using hs
    simp [Builtin.copy_, run_underlying hu, Builtin.lenOf, sizeOf, typeInfo, hq, hi, hz, ← hk, hf, hst, splice]

theorem wpList_copy_str {P : Program} {w : World} {ops : Array Oper} {rest : List Oper} {o : Oper} {a : Act} {Q : Exit → Act → World → Prop} (hgd : Region.wanted o (yielded ops a.tmps) = true) (d s : Operand) (dT sT : TypeId)
    (ho : o.op = .call { callee := .builtin .copy, args := #[d, s], argTypes := #[dT, sT] }) {elem : TypeId} (hu : P.underlying dT = some (.slice elem)) (hsz : (P.info? elem).map (·.size) = some 1)
    {g off dLen dCap : Nat} (hd : a.eval d = .slice (some ⟨g, off, none⟩) dLen dCap) {l : List UInt8} (hs : a.eval s = .string ⟨l.toArray⟩)
    {cur : List Value} {t : TypeId} (hg : Blk w g t cur) {k : Nat} (hk : k = Nat.min l.length dLen) (hfit : off + k ≤ cur.length)
    (h : wpList P ops Q rest (a.put o.dst (.int .i64 (k : Int))) (w.setRow g (splice cur off (byteVals (l.take k))).toArray)) :
    wpList P ops Q (o :: rest) a w := by
  refine BigFrame.wpList_want hgd fun K hK => ?_
  have hrun := run_copy_str (P := P) w dT sT o.type elem g off dLen dCap l cur t k hu hsz hg hk hfit
  unfold Oper.wp execOp
  simp only [ho, resolve, invoke, builtin, Sem.run_bind, Sem.run_pure, Result.andThen_ok, List.map_toArray, List.map_cons, List.map_nil, hd, hs, hrun]
  exact hK _ _ h

/-- A store of a whole aggregate into a part of a block of the call's own. -/
theorem wpList_store_part {P : Program} {w : World} {ops : Array Oper} {rest : List Oper} {o : Oper} {a : Act} {Q : Exit → Act → World → Prop} (hgd : Region.wanted o (yielded ops a.tmps) = true) (ty : TypeId) (x v : Operand) (ho : o.op = .store ty x v) (hdst : o.dst = none)
    {size g off : Nat} (hsz : (P.info? ty).map (·.size) = some size) {e : TypeId} {cur : List Value} (hb : Blk w g e cur) (hcur : off + size ≤ cur.length) (hx : a.eval x = .pointer (some ⟨g, off, none⟩)) {cs : List Value} (hv : (a.eval v).cells = cs.toArray) (hl : cs.length = size)
    (h1 : ∀ u ∈ cs, u.oneCell' = true) (h : wpList P ops Q rest a (w.setRow g (splice cur off cs).toArray)) : wpList P ops Q (o :: rest) a w := by
  refine BigFrame.wpList_want hgd fun K hK => ?_
  obtain ⟨i, hi, hs⟩ := Option.map_eq_some_iff.1 hsz
  have hst := run_storeCells_at P g off e cs 0 cur.toArray w hb (by simp; omega) h1
  simp only [Nat.add_zero, List.append_assoc] at hst
  have hrun : (Instr.storeAt ty (.pointer (some ⟨g, off, none⟩)) (a.eval v)).run P w = .ok () (w.setRow g (splice cur off cs).toArray) := by
    simp [Instr.storeAt, Instr.sureAddr, storeVar, sizeOf, typeInfo, hi, hs, hl, hv, hst, splice]
  unfold Oper.wp execOp
  simp only [ho, hx, Sem.run_bind, hrun, Result.andThen_ok, Sem.run_pure]
  have hp : a.put o.dst undef = a := by rw [hdst]; rfl
  show K (a.put o.dst undef) _
  rw [hp]
  exact hK _ _ h

/-- Slicing an array behind its address, not at its end. -/
theorem run_slice_arr {P : Program} {w : World} {t e : TypeId} {n size : Nat} (ht : P.underlying t = some (.array n e)) (hsz : (P.info? e).map (·.size) = some size)
    (g off : Nat) (lo hi : Option Int) (l u : Nat) (hl : (lo.getD 0) = (l : Int)) (hu : (hi.getD n) = (u : Int)) (h1 : l ≤ u) (h2 : u ≤ n) (h3 : l < n) :
    (Instr.sliceAt t (.pointer (some ⟨g, off, none⟩)) (lo.map (Value.int .i64)) (hi.map (Value.int .i64)) none).run P w = .ok (.slice (some ⟨g, off + l * size, none⟩) (u - l) (n - l)) w := by
  obtain ⟨i, hi', hs⟩ := Option.map_eq_some_iff.1 hsz
  have hne : ¬ n = l := by omega
  have k1 : ¬ (u < l) := by omega
  have hadd : (⟨g, off, none⟩ : Addr).add (l * size) = ⟨g, off + l * size, none⟩ := by unfold Addr.add; split <;> simp_all
  have e1 : ∀ x : Nat, ((0 : Int) ≤ (x : Int)) = True := fun x => by simp
  cases lo <;> cases hi <;> simp only [Option.getD_some, Option.getD_none] at hl hu <;>
    (try (have hl' := hl; have : l = 0 := by omega)) <;> (try (have hu' : u = n := by omega)) <;> (try subst hl) <;> (try subst hu) <;> (try subst this) <;> (try subst hu') <;>
    simp [Instr.sliceAt, Instr.sureAddr, Instr.sliceBounds, Instr.sliceBound, run_underlying ht, sizeOf, typeInfo, hi', hs, asIntOf, h1, h2, hne, hadd] <;> (first | rfl | (intro hc; omega))

theorem wpList_slice_arr {P : Program} {w : World} {ops : Array Oper} {rest : List Oper} {o : Oper} {a : Act} {Q : Exit → Act → World → Prop} (hgd : Region.wanted o (yielded ops a.tmps) = true) (t : TypeId) (x : Operand) (lo hi : Option Operand) (ho : o.op = .slice t x lo hi none)
    {e : TypeId} {n size : Nat} (ht : P.underlying t = some (.array n e)) (hsz : (P.info? e).map (·.size) = some size) {g off : Nat} (hx : a.eval x = .pointer (some ⟨g, off, none⟩))
    (lo' hi' : Option Int) (hlo : lo.map a.eval = lo'.map (Value.int .i64)) (hhi : hi.map a.eval = hi'.map (Value.int .i64)) (l u : Nat) (hl : (lo'.getD 0) = (l : Int)) (hu : (hi'.getD n) = (u : Int)) (h1 : l ≤ u) (h2 : u ≤ n) (h3 : l < n)
    (h : wpList P ops Q rest (a.put o.dst (.slice (some ⟨g, off + l * size, none⟩) (u - l) (n - l))) w) : wpList P ops Q (o :: rest) a w := by
  refine BigFrame.wpList_want hgd fun K hK => ?_
  have hr := run_slice_arr (P := P) (w := w) ht hsz g off lo' hi' l u hl hu h1 h2 h3
  rw [← hlo, ← hhi] at hr
  unfold Oper.wp execOp
  simp only [ho, hx, Option.map_none, Sem.run_bind, hr, Result.andThen_ok, Sem.run_pure]
  exact hK _ _ h

/-- A call of a Go function, as one operation. -/
theorem oper_call {P : Program} {w : World} {ops : Array Oper} {o : Oper} {a : Act} {K : Act → World → Prop} {Q : Exit → Act → World → Prop} (hgd : Region.wanted o (yielded ops a.tmps) = true) (f : FuncId) (xs : List Operand) (ts : Array TypeId)
    (ho : o.op = .call { callee := .value (.func f), args := xs.toArray, argTypes := ts }) {vs : List Value} (hvs : xs.map a.eval = vs) {fn : Func} (hfn : P.funcs[f]? = some fn) (hn : (fn.name == "runtime.NumGoroutine") = false) (hbd : fn.body.isNone = false) {R : Ending → World → Prop} (hc : Calls P f vs.toArray w R)
    (h : ∀ e w', R e w' → ∃ v, e = .returned v ∧ K (a.put o.dst v) w') : if Region.wanted o (yielded ops a.tmps) = true then Oper.wp P o a w K Q else K (a.put o.dst undef) w := by
  rw [if_pos hgd]
  have hr : (execOp a.eval o).run P w = .ok (.enter f vs.toArray) w := by
    unfold execOp
    simp [ho, resolve, invoke, hvs, Act.eval, Deferred.ofValue, callFunc, hfn]
    rw [if_neg (by simpa using hn), if_neg (by intro h; rw [h] at hbd; cases hbd)]
  unfold Oper.wp
  rw [hr, Oper.upon_enter]
  exact hc.mono fun e w' he => by
    obtain ⟨v, rfl, hk⟩ := h e w' he
    exact hk

theorem wpList_call {P : Program} {w : World} {ops : Array Oper} {rest : List Oper} {o : Oper} {a : Act} {Q : Exit → Act → World → Prop} (hgd : Region.wanted o (yielded ops a.tmps) = true) (f : FuncId) (xs : List Operand) (ts : Array TypeId)
    (ho : o.op = .call { callee := .value (.func f), args := xs.toArray, argTypes := ts }) {vs : List Value} (hvs : xs.map a.eval = vs) {fn : Func} (hfn : P.funcs[f]? = some fn) (hn : (fn.name == "runtime.NumGoroutine") = false) (hbd : fn.body.isNone = false) {R : Ending → World → Prop} (hc : Calls P f vs.toArray w R)
    (h : ∀ e w', R e w' → ∃ v, e = .returned v ∧ wpList P ops Q rest (a.put o.dst v) w') : wpList P ops Q (o :: rest) a w := by
  refine BigFrame.wpList_want hgd fun K hK => ?_
  have hr := oper_call (K := K) (Q := Q) hgd f xs ts ho hvs hfn hn hbd hc (fun e w' he => by obtain ⟨v, rfl, hk⟩ := h e w' he; exact ⟨v, rfl, hK _ _ hk⟩)
  rwa [if_pos hgd] at hr

/-- A load of a whole aggregate, as one operation. -/
theorem oper_load_agg {P : Program} {w : World} {ops : Array Oper} {o : Oper} {a : Act} {K : Act → World → Prop} {Q : Exit → Act → World → Prop} (hgd : Region.wanted o (yielded ops a.tmps) = true) (ty : TypeId) (x : Operand) (ho : o.op = .load ty x)
    {size : Nat} (hT : AggT P ty size) {ad : Addr} (hx : a.eval x = .pointer (some ad)) {cs : List Value} (hl : cs.length = size)
    (hc : ∀ j u, cs[j]? = some u → w.cell? (ad.add j) = some u) (h : K (a.put o.dst (.agg cs.toArray)) w) : if Region.wanted o (yielded ops a.tmps) = true then Oper.wp P o a w K Q else K (a.put o.dst undef) w := by
  rw [if_pos hgd]
  unfold Oper.wp execOp
  simp only [ho, hx, Instr.loadAt, Instr.sureAddr, Sem.run_bind, Sem.run_pure, Result.andThen_ok, run_loadVar_agg hT ad cs hl hc]
  exact h

/-- A store of a whole aggregate into a part of a block, as one operation. -/
theorem oper_store_part {P : Program} {w : World} {ops : Array Oper} {o : Oper} {a : Act} {K : Act → World → Prop} {Q : Exit → Act → World → Prop} (hgd : Region.wanted o (yielded ops a.tmps) = true) (ty : TypeId) (x v : Operand) (ho : o.op = .store ty x v) (hdst : o.dst = none)
    {size g off : Nat} (hsz : (P.info? ty).map (·.size) = some size) {e : TypeId} {cur : List Value} (hb : Blk w g e cur) (hcur : off + size ≤ cur.length) (hx : a.eval x = .pointer (some ⟨g, off, none⟩)) {cs : List Value} (hv : (a.eval v).cells = cs.toArray) (hl : cs.length = size)
    (h1 : ∀ u ∈ cs, u.oneCell' = true) (h : K a (w.setRow g (splice cur off cs).toArray)) : if Region.wanted o (yielded ops a.tmps) = true then Oper.wp P o a w K Q else K (a.put o.dst undef) w := by
  rw [if_pos hgd]
  obtain ⟨i, hi, hs⟩ := Option.map_eq_some_iff.1 hsz
  have hst := run_storeCells_at P g off e cs 0 cur.toArray w hb (by simp; omega) h1
  simp only [Nat.add_zero, List.append_assoc] at hst
  have hrun : (Instr.storeAt ty (.pointer (some ⟨g, off, none⟩)) (a.eval v)).run P w = .ok () (w.setRow g (splice cur off cs).toArray) := by
    simp [Instr.storeAt, Instr.sureAddr, storeVar, sizeOf, typeInfo, hi, hs, hl, hv, hst, splice]
  unfold Oper.wp execOp
  simp only [ho, hx, Sem.run_bind, hrun, Result.andThen_ok, Sem.run_pure]
  have hp : a.put o.dst undef = a := by rw [hdst]; rfl
  show K (a.put o.dst undef) _
  rw [hp]
  exact h

/-- An operation that yields a value and changes nothing. -/
theorem oper_val {P : Program} {w : World} {ops : Array Oper} {o : Oper} {a : Act} {K : Act → World → Prop} {Q : Exit → Act → World → Prop} (hgd : Region.wanted o (yielded ops a.tmps) = true) {v : Value} (hrun : (execOp a.eval o).run P w = .ok (.value v) w)
    (h : K (a.put o.dst v) w) : if Region.wanted o (yielded ops a.tmps) = true then Oper.wp P o a w K Q else K (a.put o.dst undef) w := by
  rw [if_pos hgd]
  unfold Oper.wp
  rw [hrun]; exact h

/-- A slice literal of one cell. -/
theorem oper_lit1 {P : Program} {w : World} {ops : Array Oper} {o : Oper} {a : Act} {K : Act → World → Prop} {Q : Exit → Act → World → Prop} (hgd : Region.wanted o (yielded ops a.tmps) = true) (t : TypeId) (x : Operand) (ho : o.op = .buildSlice t 1 #[(0, x)])
    {e : TypeId} {z : Value} {bytes : Nat} (hT : SlT P t e z 1 bytes) {v : Value} (hx : (a.eval x).cells = #[v])
    (h : K (a.put o.dst (.slice (some ⟨w.heap.size, 0, none⟩) 1 1)) (w.alloc (.cells #[v] e))) : if Region.wanted o (yielded ops a.tmps) = true then Oper.wp P o a w K Q else K (a.put o.dst undef) w := by
  rw [if_pos hgd]
  obtain ⟨i, hi, hz, hsz, hby⟩ := info_parts hT.info
  have hrun : (Instr.buildSlice t 1 #[(0, a.eval x)]).run P w = .ok (.slice (some ⟨w.heap.size, 0, none⟩) 1 1) (w.alloc (.cells #[v] e)) := by
    simp [Instr.buildSlice, run_underlying hT.ht, sizeOf, typeInfo, zeroValue, hi, hz, hsz, Instr.fill, hx, newRow, hT.hz]
    rw [show Array.range 1 = #[0] from rfl]; simp
  unfold Oper.wp execOp
  simp only [ho, List.map_toArray, List.map_cons, List.map_nil, Sem.run_bind, hrun, Result.andThen_ok, Sem.run_pure]
  exact h

/-- A slice literal of two cells. -/
theorem oper_lit2 {P : Program} {w : World} {ops : Array Oper} {o : Oper} {a : Act} {K : Act → World → Prop} {Q : Exit → Act → World → Prop} (hgd : Region.wanted o (yielded ops a.tmps) = true) (t : TypeId) (x y : Operand) (ho : o.op = .buildSlice t 2 #[(0, x), (1, y)])
    {e : TypeId} {z : Value} {bytes : Nat} (hT : SlT P t e z 1 bytes) {v u : Value} (hx : (a.eval x).cells = #[v]) (hy : (a.eval y).cells = #[u])
    (h : K (a.put o.dst (.slice (some ⟨w.heap.size, 0, none⟩) 2 2)) (w.alloc (.cells #[v, u] e))) : if Region.wanted o (yielded ops a.tmps) = true then Oper.wp P o a w K Q else K (a.put o.dst undef) w := by
  rw [if_pos hgd]
  obtain ⟨i, hi, hz, hsz, hby⟩ := info_parts hT.info
  have hrun : (Instr.buildSlice t 2 #[(0, a.eval x), (1, a.eval y)]).run P w = .ok (.slice (some ⟨w.heap.size, 0, none⟩) 2 2) (w.alloc (.cells #[v, u] e)) := by
    simp [Instr.buildSlice, run_underlying hT.ht, sizeOf, typeInfo, zeroValue, hi, hz, hsz, Instr.fill, hx, hy, newRow, hT.hz]
    rw [show Array.range 2 = #[0, 1] from rfl]; simp
  unfold Oper.wp execOp
  simp only [ho, List.map_toArray, List.map_cons, List.map_nil, Sem.run_bind, hrun, Result.andThen_ok, Sem.run_pure]
  exact h

/-- append, as one operation. -/
theorem oper_append {P : Program} {w : World} {ops : Array Oper} {o : Oper} {a : Act} {K : Act → World → Prop} {Q : Exit → Act → World → Prop} (hgd : Region.wanted o (yielded ops a.tmps) = true) (s x : Operand) (t tx : TypeId)
    (ho : o.op = .call { callee := .builtin .append, args := #[s, x], argTypes := #[t, tx] })
    {e : TypeId} {z : Value} {size bytes : Nat} (hT : SlT P t e z size bytes) (htx : P.underlying tx = some (.slice e) ∨ P.underlying tx = some .string)
    {base : Nat} {a0 : Option Addr} {n cap : Nat} {xs : List Value} (hs : a.eval s = .slice a0 n cap) (hown : w.ownsRow base e size (.slice a0 n cap) n xs)
    {xv : Value} {m : Nat} {news : List Value} (hx : a.eval x = xv) (hsrc : Src P w xv m size news)
    (hbytes : (n + m) * bytes ≤ 140737488355328) (h63 : n + m ≤ maxLen) (hbase : base ≤ w.heap.size)
    (h : ∀ a' cap' w', w'.ownsRow base e size (.slice a' (n + m) cap') (n + m) (xs ++ news) → w.grownBy w' (Value.slice a0 n cap).ownBlock → K (a.put o.dst (.slice a' (n + m) cap')) w') :
    if Region.wanted o (yielded ops a.tmps) = true then Oper.wp P o a w K Q else K (a.put o.dst undef) w := by
  rw [if_pos hgd]
  obtain ⟨i, hi, hz, hsz, hby⟩ := info_parts hT.info
  obtain ⟨a', cap', w', hr, h2, h3, _⟩ := run_append_src (P := P) w base t tx o.type e i z size bytes hT.ht htx hi hz hsz hby hT.hz a0 n cap xs hown xv m news hsrc h63 hbytes hbase
  unfold Oper.wp execOp
  simp only [ho, resolve, invoke, builtin, Sem.run_bind, Sem.run_pure, Result.andThen_ok, List.map_toArray, List.map_cons, List.map_nil, hs, hx, hr]
  exact h a' cap' w' h2 h3

/-- A conversion. -/
theorem oper_convert {P : Program} {w : World} {ops : Array Oper} {o : Oper} {a : Act} {K : Act → World → Prop} {Q : Exit → Act → World → Prop} (hgd : Region.wanted o (yielded ops a.tmps) = true) (s d : TypeId) (x : Operand) (ho : o.op = .convert s d x)
    {xv v : Value} (hx : a.eval x = xv) (hr : (convert s d xv).run P w = .ok v w) (h : K (a.put o.dst v) w) : if Region.wanted o (yielded ops a.tmps) = true then Oper.wp P o a w K Q else K (a.put o.dst undef) w := by
  refine oper_val hgd (v := v) ?_ h
  unfold execOp
  simp only [ho, hx, Sem.run_bind, hr, Result.andThen_ok, Sem.run_pure]

/-- A byte of a string. -/
theorem run_index_str {P : Program} {t : TypeId} (ht : P.underlying t = some .string) (l : List UInt8) (k : IntKind) (i : Nat) (hi : i < l.length) (w : World) :
    (Instr.index t (.string ⟨l.toArray⟩) (.int k (i : Int))).run P w = .ok (.int .u8 ((l.getD i 0).toNat : Int)) w := by
  have h : (⟨l.toArray⟩ : ByteArray)[i]? = some (l.getD i 0) := by
    show (if h : i < (⟨l.toArray⟩ : ByteArray).size then some ((⟨l.toArray⟩ : ByteArray)[i]) else none) = _
    have h2 : i < (⟨l.toArray⟩ : ByteArray).size := by rw [str_size]; exact hi
    rw [dif_pos h2]
    congr 1
    show (l.toArray)[i]'(by simpa using hi) = _
    simp [List.getD, List.getElem?_eq_getElem hi]
  simp [Instr.index, run_underlying ht, asIntOf, h]

theorem wpList_val {P : Program} {w : World} {ops : Array Oper} {rest : List Oper} {o : Oper} {a : Act} {Q : Exit → Act → World → Prop} (hgd : Region.wanted o (yielded ops a.tmps) = true) {v : Value} (hrun : (execOp a.eval o).run P w = .ok (.value v) w)
    (h : wpList P ops Q rest (a.put o.dst v) w) : wpList P ops Q (o :: rest) a w := by
  refine BigFrame.wpList_want hgd fun K hK => ?_
  have hr := oper_val (K := K) (Q := Q) hgd hrun (hK _ _ h)
  rwa [if_pos hgd] at hr

/-- '==' of two arrays of bytes, as an operation. -/
theorem run_eql_bytes {P : Program} {t e : TypeId} {n : Nat} (ht : P.underlying t = some (.array n e)) (he : P.underlying e = some (.int .u8)) (hsz : (P.info? e).map (·.size) = some 1) (hg : P.eqGuardType P.depth t = false)
    {xs ys : List UInt8} (hx : xs.length = n) (hy : ys.length = n) {a : Act} {o : Oper} (x y : Operand) (yt : TypeId) (ho : o.op = .binOp .eql t x y yt) (hxv : a.eval x = .agg (byteVals xs).toArray) (hyv : a.eval y = .agg (byteVals ys).toArray) (w : World) :
    (execOp a.eval o).run P w = .ok (.value (.bool (xs == ys))) w := by
  have hs : ∀ w, (sizeOf e).run P w = .ok 1 w := by
    obtain ⟨i, hi, hi1⟩ := Option.map_eq_some_iff.1 hsz
    intro w; simp [sizeOf, typeInfo, hi, hi1]
  unfold execOp
  simp only [ho, hxv, hyv, Sem.run_bind, run_eqGuard_no hg, Result.andThen_ok]
  rw [run_eql_struct, byteVals_cell, byteVals_cell, run_equalIn_bytes w 9998 t e n ht he hs xs ys hx hy]
  simp

/-- '[]byte(s)': what it returns can be read; what was there is kept. -/
theorem run_bytes_rd {P : Program} {w : World} {src dst e : TypeId} (hs : P.underlying src = some .string) (hd : P.underlying dst = some (.slice e)) (he : P.underlying e = some (.int .u8)) (l : List UInt8) (hl : l.length ≤ maxLen) :
    ∃ a cap w', (convert src dst (.string ⟨l.toArray⟩)).run P w = .ok (.slice a l.length cap) w' ∧ Rd w' a l.length cap 1 (byteVals l) ∧ Below w.heap.size w w' := by
  have hz : (⟨l.toArray⟩ : ByteArray).size = l.length := str_size l
  have h := Lib.run_convert_string_bytes (P := P) w src dst e ⟨l.toArray⟩ hs hd he
  rw [hz] at h
  refine ⟨_, _, _, h, ⟨by rw [byteVals_length, Nat.mul_one], grownCap_ge _ _ _ _, grownCap_le_maxLen _ _ _ _ hl, fun h => (by cases h), fun ad ha j u hu => ?_⟩, ⟨rfl, rfl, rfl, by rw [Lib.bytesWorld_size]; omega, fun k hk => Lib.bytesWorld_at_old _ _ _ _ hk⟩⟩
  simp only [Option.some.injEq] at ha; subst ha
  have hj : j < l.length := by have := (List.getElem?_eq_some_iff.1 hu).1; rwa [byteVals_length] at this
  have hadd : (⟨w.heap.size, 0, none⟩ : Addr).add j = ⟨w.heap.size, j, none⟩ := by unfold Addr.add; split <;> simp_all
  rw [hadd, Lib.bytesWorld_cell _ _ _ _ (by rw [hz]; exact hj), str_to]
  rw [← hu]; simp [byteVals, List.getD, List.getElem?_eq_getElem hj]

theorem oper_str_bytes {P : Program} {w : World} {ops : Array Oper} {o : Oper} {a : Act} {K : Act → World → Prop} {Q : Exit → Act → World → Prop} (hgd : Region.wanted o (yielded ops a.tmps) = true) (s d : TypeId) (x : Operand) (ho : o.op = .convert s d x)
    {e : TypeId} (hs : P.underlying s = some .string) (hd : P.underlying d = some (.slice e)) (he : P.underlying e = some (.int .u8)) {l : List UInt8} (hl : l.length ≤ maxLen) (hx : a.eval x = .string ⟨l.toArray⟩)
    (h : ∀ a' cap w', Rd w' a' l.length cap 1 (byteVals l) → Below w.heap.size w w' → K (a.put o.dst (.slice a' l.length cap)) w') : if Region.wanted o (yielded ops a.tmps) = true then Oper.wp P o a w K Q else K (a.put o.dst undef) w := by
  rw [if_pos hgd]
  obtain ⟨a', cap, w', hr, h1, h2⟩ := run_bytes_rd (P := P) (w := w) hs hd he l hl
  unfold Oper.wp execOp
  simp only [ho, hx, Sem.run_bind, hr, Result.andThen_ok, Sem.run_pure]
  exact h _ _ _ h1 h2

theorem wpList_str_bytes {P : Program} {w : World} {ops : Array Oper} {rest : List Oper} {o : Oper} {a : Act} {Q : Exit → Act → World → Prop} (hgd : Region.wanted o (yielded ops a.tmps) = true) (s d : TypeId) (x : Operand) (ho : o.op = .convert s d x)
    {e : TypeId} (hs : P.underlying s = some .string) (hd : P.underlying d = some (.slice e)) (he : P.underlying e = some (.int .u8)) {l : List UInt8} (hl : l.length ≤ maxLen) (hx : a.eval x = .string ⟨l.toArray⟩)
    (h : ∀ a' cap w', Rd w' a' l.length cap 1 (byteVals l) → Below w.heap.size w w' → wpList P ops Q rest (a.put o.dst (.slice a' l.length cap)) w') : wpList P ops Q (o :: rest) a w := by
  refine BigFrame.wpList_want hgd fun K hK => ?_
  have hr := oper_str_bytes (K := K) (Q := Q) hgd s d x ho hs hd he hl hx (fun a' cap w' h1 h2 => hK _ _ (h a' cap w' h1 h2))
  rwa [if_pos hgd] at hr
end Go.Proofs.Ytpgdfhncigmmbaa

/-
  Regions that draw their order, all orders at once: operations that only lay new memory, each with what its value is good for. No condition.
-/
namespace Go.Proofs.Ytpgdfhncigmmbaa
open Go.RowKit

/-- The slot of operation i. -/
def dstOf (ops : Array Oper) (i : Nat) : Option Tmp := (ops[i]?).bind (·.dst)
/-- o comes behind j. -/
def dep (o : Oper) (j : Nat) : Bool := o.after.any fun e => Region.binds .any e && e.on == j

/-- L may be run ahead of all else that is pending: its edges lead into itself or into what is done; all else comes behind all of L. -/
def okL (ops : Array Oper) (listed0 : Array Bool) (L : List Nat) : Bool :=
  (listed0.size == ops.size) &&
  L.all (fun i => (listed0[i]? == some false) && ((ops[i]?).map fun o => o.after.all fun e => !Region.binds .any e || (decide (e.on < i) && (listed0.getD e.on false || L.contains e.on))).getD false) &&
  (List.range ops.size).all (fun j => listed0.getD j true || L.contains j || ((ops[j]?).map fun o => L.all fun i => o.after.any fun e => Region.binds .any e && e.on == i).getD false) &&
  decide L.Nodup && decide (L.filterMap (dstOf ops)).Nodup

section
variable {P : Program} {ops : Array Oper} {Q : Exit → Act → World → Prop}

/-- One operation of such a region, in whatever state it comes to run. -/
def StepOK (P : Program) (ops : Array Oper) (Q : Exit → Act → World → Prop) (L : List Nat) (V : Nat → Value → World → Prop) (a0 : Act) (w0 : World) (i : Nat) : Prop :=
  ∀ o, ops[i]? = some o → ∀ a w, Below w0.heap.size w0 w → (∀ t, (∀ j ∈ L, dstOf ops j ≠ some t) → a.tmps.getD t undef = a0.tmps.getD t undef) →
    (∀ j ∈ L, dep o j = true → ∀ t, dstOf ops j = some t → V j (a.tmps.getD t undef) w) →
    ∀ K : Act → World → Prop, Shut (∀ v w', V i v w' → Below w.heap.size w w' → K (a.put o.dst v) w') → if Region.wanted o (yielded ops a.tmps) = true then Oper.wp P o a w K Q else K (a.put o.dst undef) w

/-- The same, by the operation itself. -/
theorem StepOK.mk {L : List Nat} {V : Nat → Value → World → Prop} {a0 : Act} {w0 : World} {i : Nat} (o : Oper) (ho : ops[i]? = some o)
    (h : ∀ a w, Below w0.heap.size w0 w → (∀ t, (∀ j ∈ L, dstOf ops j ≠ some t) → a.tmps.getD t undef = a0.tmps.getD t undef) →
      (∀ j ∈ L, dep o j = true → ∀ t, dstOf ops j = some t → V j (a.tmps.getD t undef) w) →
      ∀ K : Act → World → Prop, Shut (∀ v w', V i v w' → Below w.heap.size w w' → K (a.put o.dst v) w') → if Region.wanted o (yielded ops a.tmps) = true then Oper.wp P o a w K Q else K (a.put o.dst undef) w) : StepOK P ops Q L V a0 w0 i := by
  intro o' ho'
  rw [ho] at ho'
  obtain rfl := Option.some.inj ho'
  exact h

/-- What is known when all of L but R is done. -/
structure ExtInv (ops : Array Oper) (L : List Nat) (V : Nat → Value → World → Prop) (listed0 : Array Bool) (a0 : Act) (w0 : World) (R : List Nat) (vs : Nat → Value) (listed : Array Bool) (a : Act) (w : World) : Prop where
  below : Below w0.heap.size w0 w
  size : listed.size = listed0.size
  done : ∀ k, k ∈ L → k ∉ R → listed[k]? = some true
  rest : ∀ k, (k ∉ L ∨ k ∈ R) → listed[k]? = listed0[k]?
  defers : a.defers = a0.defers
  tsize : a.tmps.size = a0.tmps.size
  other : ∀ t, (∀ i ∈ L, i ∉ R → dstOf ops i ≠ some t) → a.tmps[t]? = a0.tmps[t]?
  val : ∀ i ∈ L, i ∉ R → ∀ t, dstOf ops i = some t → a.tmps[t]? = some (vs i)
  prop : ∀ i ∈ L, i ∉ R → V i (vs i) w

theorem foldl_set_size (L : List Nat) (listed : Array Bool) : (L.foldl (fun l i => l.setIfInBounds i true) listed).size = listed.size := by
  induction L generalizing listed with
  | nil => rfl
  | cons i L ih => rw [List.foldl_cons, ih]; simp
theorem foldl_set_get (L : List Nat) (listed : Array Bool) (k : Nat) (hk : ∀ i ∈ L, i < listed.size) : (L.foldl (fun l i => l.setIfInBounds i true) listed)[k]? = if k ∈ L then some true else listed[k]? := by
  induction L generalizing listed with
  | nil => simp
  | cons i L ih =>
    rw [List.foldl_cons, ih _ (fun j hj => by simpa using hk j (by simp [hj]))]
    have hi := hk i (by simp)
    by_cases h1 : k ∈ L
    · simp [h1]
    · by_cases h2 : k = i
      · subst h2; simp [h1, hi]
      · simp [h1, h2, Ne.symm h2]

theorem foldl_put_size (ops : Array Oper) (vs : Nat → Value) (L : List Nat) (a : Act) : (L.foldl (fun a i => a.put (dstOf ops i) (vs i)) a).tmps.size = a.tmps.size ∧ (L.foldl (fun a i => a.put (dstOf ops i) (vs i)) a).defers = a.defers := by
  induction L generalizing a with
  | nil => exact ⟨rfl, rfl⟩
  | cons i L ih =>
    rw [List.foldl_cons]
    obtain ⟨h1, h2⟩ := ih (a.put (dstOf ops i) (vs i))
    rw [h1, h2]
    unfold Act.put
    split <;> simp
theorem foldl_put_get (ops : Array Oper) (vs : Nat → Value) (L : List Nat) (a : Act) (hd : (L.filterMap (dstOf ops)).Nodup) (hs : ∀ t ∈ L.filterMap (dstOf ops), t < a.tmps.size) (t : Nat) :
    ((∀ i ∈ L, dstOf ops i ≠ some t) → (L.foldl (fun a i => a.put (dstOf ops i) (vs i)) a).tmps[t]? = a.tmps[t]?) ∧
    (∀ i ∈ L, dstOf ops i = some t → (L.foldl (fun a i => a.put (dstOf ops i) (vs i)) a).tmps[t]? = some (vs i)) := by
  induction L generalizing a with
  | nil => exact ⟨fun _ => rfl, fun i hi => by simp at hi⟩
  | cons j L ih =>
    rw [List.foldl_cons]
    cases hj : dstOf ops j with
    | none =>
      rw [List.filterMap_cons, hj] at hd hs
      obtain ⟨h1, h2⟩ := ih (a.put none (vs j)) hd hs
      refine ⟨fun h => h1 (fun i hi => h i (by simp [hi])), fun i hi ht => ?_⟩
      rcases List.mem_cons.1 hi with rfl | hi
      · rw [hj] at ht; cases ht
      · exact h2 i hi ht
    | some d =>
      rw [List.filterMap_cons, hj] at hd hs
      simp only [List.nodup_cons] at hd
      have hdl : d < a.tmps.size := hs d (by simp)
      obtain ⟨h1, h2⟩ := ih (a.put (some d) (vs j)) hd.2 (fun t ht => by
        have := hs t (by simp [ht]); simpa [Act.put] using this)
      have hput : (a.put (some d) (vs j)).tmps[t]? = if t = d then some (vs j) else a.tmps[t]? := by
        simp only [Act.put, Array.getElem?_setIfInBounds]
        by_cases htd : t = d
        · subst htd; simp [hdl]
        · simp [htd, Ne.symm htd]
      refine ⟨fun h => ?_, fun i hi ht => ?_⟩
      · rw [h1 (fun i hi => h i (by simp [hi])), hput, if_neg (by intro e; subst e; exact h j (by simp) hj)]
      · rcases List.mem_cons.1 hi with rfl | hi
        · rw [hj] at ht
          obtain rfl := Option.some.inj ht
          rw [h1 (fun i hi he => hd.1 (List.mem_filterMap.2 ⟨i, hi, he⟩)), hput, if_pos rfl]
        · exact h2 i hi ht

theorem ready_iff {listed : Array Bool} {i : Nat} : i ∈ Region.ready .any ops listed ↔ i < ops.size ∧ listed.getD i true = false ∧ ((ops[i]?).map (·.after.all fun e => !Region.binds .any e || listed.getD e.on false)).getD false = true := by
  simp [Region.ready]

theorem getD_of {l : Array Bool} {k : Nat} {b d : Bool} (h : l[k]? = some b) : l.getD k d = b := by
  simp [Array.getD_eq_getD_getElem?, h]

theorem ext_go {L : List Nat} {V : Nat → Value → World → Prop} {listed0 : Array Bool} {a0 : Act} {w0 : World} (hok : okL ops listed0 L = true) (hts : ∀ t ∈ L.filterMap (dstOf ops), t < a0.tmps.size)
    (hstep : ∀ i ∈ L, StepOK P ops Q L V a0 w0 i) (hstab : ∀ i ∈ L, ∀ v w w', V i v w → Below w.heap.size w w' → V i v w') {fuel : Nat}
    (hend : ∀ (vs : Nat → Value) (w : World), (∀ i ∈ L, V i (vs i) w) → Below w0.heap.size w0 w → wpAny P .any ops Q fuel (L.foldl (fun l i => l.setIfInBounds i true) listed0) (L.foldl (fun a i => a.put (dstOf ops i) (vs i)) a0) w) :
    ∀ (R : List Nat), R.Nodup → (∀ i ∈ R, i ∈ L) → ∀ (vs : Nat → Value) (listed : Array Bool) (a : Act) (w : World), ExtInv ops L V listed0 a0 w0 R vs listed a w → wpAny P .any ops Q (fuel + R.length) listed a w := by
  simp only [okL, Bool.and_eq_true, List.all_eq_true, beq_iff_eq, decide_eq_true_eq] at hok
  obtain ⟨⟨⟨⟨hsz, hin⟩, hout⟩, hnd⟩, hdd⟩ := hok
  have hlt : ∀ i ∈ L, i < listed0.size := fun i hi => (Array.getElem?_eq_some_iff.1 (hin i hi).1).1
  have key : ∀ (n : Nat) (R : List Nat), R.length = n → R.Nodup → (∀ i ∈ R, i ∈ L) → ∀ (vs : Nat → Value) (listed : Array Bool) (a : Act) (w : World), ExtInv ops L V listed0 a0 w0 R vs listed a w → wpAny P .any ops Q (fuel + n) listed a w := by
    intro n
    induction n with
    | zero =>
      intro R hR _ _ vs listed a w hI
      obtain rfl := List.eq_nil_of_length_eq_zero hR
      have h1 : listed = L.foldl (fun l i => l.setIfInBounds i true) listed0 := by
        apply Array.ext_getElem?
        intro k
        rw [foldl_set_get L listed0 k hlt]
        by_cases hk : k ∈ L
        · rw [if_pos hk]; exact hI.done k hk (by simp)
        · rw [if_neg hk]; exact hI.rest k (.inl hk)
      have h2 : a = L.foldl (fun a i => a.put (dstOf ops i) (vs i)) a0 := by
        obtain ⟨s1, s2⟩ := foldl_put_size ops vs L a0
        have ht : a.tmps = (L.foldl (fun a i => a.put (dstOf ops i) (vs i)) a0).tmps := by
          apply Array.ext_getElem?
          intro t
          obtain ⟨g1, g2⟩ := foldl_put_get ops vs L a0 hdd hts t
          by_cases hx : ∃ i ∈ L, dstOf ops i = some t
          · obtain ⟨i, hi, he⟩ := hx
            rw [g2 i hi he]; exact hI.val i hi (by simp) t he
          · have hx' : ∀ i ∈ L, dstOf ops i ≠ some t := fun i hi he => hx ⟨i, hi, he⟩
            rw [g1 hx']; exact hI.other t (fun i hi _ => hx' i hi)
        have hd : a.defers = (L.foldl (fun a i => a.put (dstOf ops i) (vs i)) a0).defers := by rw [s2]; exact hI.defers
        cases a; cases hf : L.foldl (fun a i => a.put (dstOf ops i) (vs i)) a0
        rw [hf] at ht hd
        simp only at ht hd
        rw [ht, hd]
      rw [h1, h2]
      exact hend vs w (fun i hi => hI.prop i hi (by simp)) hI.below
    | succ n ih =>
      intro R hR hRn hRL vs listed a w hI
      have hfalse : ∀ i ∈ R, listed[i]? = some false := fun i hi => by rw [hI.rest i (.inr hi)]; exact (hin i (hRL i hi)).1
      refine ⟨fun hnone => ?_, fun i hi => ?_⟩
      · -- the least pending operation is ready
        exfalso
        have hex : ∃ i, i ∈ R := by cases R with | nil => simp at hR | cons x _ => exact ⟨x, by simp⟩
        obtain ⟨i, hi, hmin⟩ : ∃ i ∈ R, ∀ j ∈ R, i ≤ j := by
          have hwf := hex
          have hfind : ∀ (m : Nat), (∃ i ∈ R, i ≤ m) → ∃ i ∈ R, ∀ j ∈ R, i ≤ j := by
            intro m
            induction m with
            | zero => rintro ⟨i, hi, h0⟩; exact ⟨i, hi, fun j _ => by omega⟩
            | succ m ihm =>
              rintro ⟨i, hi, h0⟩
              by_cases hm : ∃ i ∈ R, i ≤ m
              · exact ihm hm
              · exact ⟨i, hi, fun j hj => by
                  have : ¬ j ≤ m := fun h => hm ⟨j, hj, h⟩
                  omega⟩
          obtain ⟨i, hi⟩ := hwf
          exact hfind i ⟨i, hi, Nat.le_refl _⟩
        have hr : i ∈ Region.ready .any ops listed := by
          rw [ready_iff]
          obtain ⟨h1, h2⟩ := hin i (hRL i hi)
          refine ⟨by have := hlt i (hRL i hi); omega, getD_of (hfalse i hi), ?_⟩
          cases ho : ops[i]? with
          | none => rw [ho] at h2; cases h2
          | some o =>
            rw [ho] at h2
            simp only [Option.map_some, Option.getD_some, Array.all_eq_true, Bool.or_eq_true, Bool.and_eq_true, decide_eq_true_eq] at h2 ⊢
            intro x hx
            rcases h2 x hx with h | ⟨h3, h4⟩
            · exact .inl h
            · refine .inr ?_
              by_cases hL : o.after[x].on ∈ L
              · have hnR : o.after[x].on ∉ R := fun h => by have := hmin _ h; omega
                exact getD_of (hI.done _ hL hnR)
              · rcases h4 with h4 | h4
                · have := hI.rest o.after[x].on (.inl hL)
                  rw [Array.getD_eq_getD_getElem?, this, ← Array.getD_eq_getD_getElem?]; exact h4
                · exact absurd (by simpa using h4) hL
        rw [hnone] at hr; simp at hr
      · rw [ready_iff] at hi
        obtain ⟨hi1, hi2, hi3⟩ := hi
        obtain ⟨r, hr⟩ : ∃ r, r ∈ R := by cases R with | nil => simp at hR | cons x _ => exact ⟨x, by simp⟩
        cases ho : ops[i]? with
        | none => rw [ho] at hi3; cases hi3
        | some o =>
          rw [ho] at hi3
          simp only [Option.map_some, Option.getD_some, Array.all_eq_true, Bool.or_eq_true] at hi3
          have hiL : i ∈ L := by
            have h := hout i (by simpa using hi1)
            simp only [Bool.or_eq_true] at h
            rcases h with (h | h) | h
            · by_cases hL : i ∈ L
              · exact hL
              · have := hI.rest i (.inl hL)
                rw [Array.getD_eq_getD_getElem?, this, ← Array.getD_eq_getD_getElem?, h] at hi2; cases hi2
            · simpa using h
            · rw [ho] at h
              simp only [Option.map_some, Option.getD_some, List.all_eq_true, Array.any_eq_true, Bool.and_eq_true, beq_iff_eq] at h
              obtain ⟨x, hx, hb, he⟩ := h r (hRL r hr)
              rcases hi3 x hx with h5 | h5
              · rw [hb] at h5; cases h5
              · rw [he, getD_of (hfalse r hr)] at h5; cases h5
          have hiR : i ∈ R := by
            refine Classical.byContradiction fun h => ?_
            rw [getD_of (hI.done i hiL h)] at hi2; cases hi2
          refine wpOp_step ho fun K hK => ?_
          refine hstep i hiL o ho a w hI.below ?_ ?_ K (fun v w' hv hb => ?_)
          · intro t ht
            have := hI.other t (fun j hj _ => ht j hj)
            rw [Array.getD_eq_getD_getElem?, this, ← Array.getD_eq_getD_getElem?]
          · intro j hj hd t ht
            have hjR : j ∉ R := by
              intro hjR
              simp only [dep, Array.any_eq_true, Bool.and_eq_true, beq_iff_eq] at hd
              obtain ⟨x, hx, hb, he⟩ := hd
              rcases hi3 x hx with h5 | h5
              · rw [hb] at h5; cases h5
              · rw [he, getD_of (hfalse j hjR)] at h5; cases h5
            have hv := hI.val j hj hjR t ht
            rw [Array.getD_eq_getD_getElem?, hv]
            exact hI.prop j hj hjR
          · refine hK _ _ ?_
            refine ih (R.erase i) (by rw [List.length_erase_of_mem hiR]; omega) (hRn.erase i) (fun j hj => hRL j (List.mem_of_mem_erase hj)) (fun j => if j = i then v else vs j) _ _ _ ?_
            have hmem : ∀ j, j ∉ R.erase i ↔ (j ∉ R ∨ j = i) := fun j => by
              rw [hRn.mem_erase_iff]
              constructor
              · intro h; by_cases e : j = i
                · exact .inr e
                · exact .inl fun hj => h ⟨e, hj⟩
              · rintro (h | h) ⟨h1, h2⟩
                · exact h h2
                · exact h1 h
            have hdo : dstOf ops i = o.dst := by unfold dstOf; rw [ho]; rfl
            refine ⟨?_, by simpa using hI.size, ?_, ?_, ?_, ?_, ?_, ?_, ?_⟩
            · exact hI.below.trans (hb.mono hI.below.size)
            · intro k hk hkR
              rcases (hmem k).1 hkR with h | h
              · rw [Array.getElem?_setIfInBounds]
                split
                · rename_i e; subst e; rw [if_pos (by rw [hI.size]; exact hlt i hiL)]
                · exact hI.done k hk h
              · subst h; rw [Array.getElem?_setIfInBounds, if_pos rfl, if_pos (by rw [hI.size]; exact hlt k hk)]
            · intro k hk
              have hki : k ≠ i := by
                rintro rfl
                rcases hk with h | h
                · exact h hiL
                · exact (hRn.mem_erase_iff.1 h).1 rfl
              rw [Array.getElem?_setIfInBounds, if_neg (Ne.symm hki)]
              exact hI.rest k (hk.imp id fun h => (hRn.mem_erase_iff.1 h).2)
            · rw [← hI.defers]; unfold Act.put; split <;> rfl
            · rw [← hI.tsize]; unfold Act.put; split <;> simp
            · intro t ht
              have h1 : dstOf ops i ≠ some t := ht i hiL ((hmem i).2 (.inr rfl))
              rw [← hI.other t (fun j hj hjR => ht j hj ((hmem j).2 (.inl hjR)))]
              rw [hdo] at h1
              unfold Act.put
              split
              · rename_i d hd
                have : d ≠ t := by rintro rfl; exact h1 hd
                simp [this]
              · rfl
            · intro j hj hjR t ht
              by_cases hji : j = i
              · subst hji
                rw [if_pos rfl]
                have h2 : t < a.tmps.size := by rw [hI.tsize]; exact hts t (List.mem_filterMap.2 ⟨j, hj, ht⟩)
                rw [hdo] at ht
                rw [ht]
                simp [Act.put, h2]
              · rw [if_neg hji]
                have hjR' : j ∉ R := by rcases (hmem j).1 hjR with h | h; exact h; exact absurd h hji
                have h3 := hI.val j hj hjR' t ht
                rw [← h3]
                have hne : dstOf ops i ≠ some t := by
                  intro he
                  have h4 := hdd
                  -- two operations of one slot
                  have : ∀ (L : List Nat), (L.filterMap (dstOf ops)).Nodup → i ∈ L → j ∈ L → dstOf ops i = some t → dstOf ops j = some t → i = j := by
                    intro L
                    induction L with
                    | nil => intro _ h; simp at h
                    | cons x L ihL =>
                      intro hn hi hj h1 h2
                      rw [List.filterMap_cons] at hn
                      have hi' := List.mem_cons.1 hi
                      have hj' := List.mem_cons.1 hj
                      clear hi hj
                      rcases hi' with hi | hi
                      · rcases hj' with hj | hj
                        · rw [hi, hj]
                        · rw [← hi, h1] at hn
                          simp only [List.nodup_cons] at hn
                          exact absurd (List.mem_filterMap.2 ⟨j, hj, h2⟩) hn.1
                      · rcases hj' with hj | hj
                        · rw [← hj, h2] at hn
                          simp only [List.nodup_cons] at hn
                          exact absurd (List.mem_filterMap.2 ⟨i, hi, h1⟩) hn.1
                        · refine ihL ?_ hi hj h1 h2
                          split at hn
                          · exact hn
                          · exact (List.nodup_cons.1 hn).2
                  exact hji (this L h4 hiL hj he ht).symm
                rw [hdo] at hne
                unfold Act.put
                split
                · rename_i d hd
                  have : d ≠ t := by rintro rfl; exact hne hd
                  simp [this]
                · rfl
            · intro j hj hjR
              by_cases hji : j = i
              · subst hji; rw [if_pos rfl]; exact hv
              · rw [if_neg hji]
                have hjR' : j ∉ R := by rcases (hmem j).1 hjR with h | h; exact h; exact absurd h hji
                exact hstab j hj _ _ _ (hI.prop j hj hjR') hb
  intro R hRn hRL vs listed a w hI
  exact key R.length R rfl hRn hRL vs listed a w hI

/-- All of L, in whatever order. -/
theorem wpAny_ext (L : List Nat) (V : Nat → Value → World → Prop) {listed0 : Array Bool} {a0 : Act} {w0 : World} (hok : okL ops listed0 L = true) (hts : (L.filterMap (dstOf ops)).all (fun t => decide (t < a0.tmps.size)) = true)
    (hstep : ∀ i ∈ L, StepOK P ops Q L V a0 w0 i) (hstab : ∀ i ∈ L, ∀ v w w', V i v w → Below w.heap.size w w' → V i v w') {fuel m : Nat} (hf : m = fuel + L.length)
    (hend : ∀ (vs : Nat → Value) (w : World), (∀ i ∈ L, V i (vs i) w) → Below w0.heap.size w0 w → wpAny P .any ops Q fuel (L.foldl (fun l i => l.setIfInBounds i true) listed0) (L.foldl (fun a i => a.put (dstOf ops i) (vs i)) a0) w) :
    wpAny P .any ops Q m listed0 a0 w0 := by
  subst hf
  have hnd : L.Nodup := by
    have h := hok
    simp only [okL, Bool.and_eq_true, decide_eq_true_eq] at h
    exact h.1.2
  refine ext_go (P := P) (Q := Q) hok (fun t ht => by simpa using List.all_eq_true.1 hts t ht) hstep hstab hend L hnd (fun _ h => h) (fun _ => undef) listed0 a0 w0 ?_
  exact ⟨Below.refl _ _, rfl, fun k h1 h2 => absurd h1 h2, fun _ _ => rfl, rfl, rfl, fun _ _ => rfl, fun i h1 h2 => absurd h1 h2, fun i h1 h2 => absurd h1 h2⟩
end
end Go.Proofs.Ytpgdfhncigmmbaa

/-
  make of a slice of one-cell elements. No condition.
-/
namespace Go.Proofs.Ytpgdfhncigmmbaa
open Go.RowKit

theorem madeCells_one (z : Value) (n : Nat) : madeCells #[z] n = (List.replicate n z).toArray := by
  apply Array.ext_getElem?
  intro i
  simp only [madeCells, Array.getElem?_map, List.size_toArray, List.length_singleton, Nat.mod_one, List.getElem!_toArray, List.getElem!_cons_zero, List.getElem?_toArray, List.getElem?_replicate]
  by_cases h : i < n
  · simp [h]
  · simp [h]

theorem wpList_make {P : Program} {w : World} {ops : Array Oper} {rest : List Oper} {o : Oper} {a : Act} {Q : Exit → Act → World → Prop} (hgd : Region.wanted o (yielded ops a.tmps) = true) (t : TypeId) (x y : Operand) (ho : o.op = .makeSlice t x y)
    {e : TypeId} {z : Value} {bytes : Nat} (hT : SlT P t e z 1 bytes) (hzc : z.cells = #[z]) {n : Nat} (hx : a.eval x = .int .i64 (n : Int)) (hy : a.eval y = .int .i64 (n : Int)) (hb : bytes * n ≤ 281474976710656) (h63 : n ≤ 9223372036854775807)
    (h : wpList P ops Q rest (a.put o.dst (.slice (some ⟨w.heap.size, 0, none⟩) n n)) (w.alloc (.cells (List.replicate n z).toArray e))) : wpList P ops Q (o :: rest) a w := by
  refine BigFrame.wpList_want hgd fun K hK => ?_
  obtain ⟨i, hi, hz, hs, hby⟩ := info_parts hT.info
  have hbi : (i.bytes : Int) * (n : Int) ≤ 281474976710656 := by
    rw [hby]
    have h2 : ((bytes * n : Nat) : Int) ≤ 281474976710656 := by omega
    rwa [Int.natCast_mul] at h2
  have hr := run_make (P := P) w t e i z hT.ht hi hz .i64 .i64 n n (by omega) (Int.le_refl _) hbi (by omega)
  rw [hs, hzc, Int.toNat_natCast, Nat.mul_one, madeCells_one] at hr
  unfold Oper.wp execOp
  simp only [ho, hx, hy, Sem.run_bind, hr, Result.andThen_ok, Sem.run_pure]
  exact hK _ _ h
end Go.Proofs.Ytpgdfhncigmmbaa

/-
  More laws of single operations, for wpAny_ext. No condition.
-/
namespace Go.Proofs.Ytpgdfhncigmmbaa
open Go.RowKit

theorem slot_of {a : Act} {t : Tmp} {v : Value} (h : a.tmps.getD t undef = v) (hv : v ≠ undef) : a.tmps[t]? = some v := by
  rw [Array.getD_eq_getD_getElem?] at h
  cases h2 : a.tmps[t]? with
  | none => rw [h2] at h; exact absurd h.symm hv
  | some x => rw [h2] at h; simp at h; rw [h]

/-- A guard that holds. -/
theorem wanted_of {ops : Array Oper} {o : Oper} {a : Act} {j : Nat} {b : Bool} {t : Tmp} (hg : o.guard = some (j, b)) (hd : dstOf ops j = some t) (hv : a.tmps.getD t undef = .bool b) : Region.wanted o (yielded ops a.tmps) = true := by
  have h := slot_of hv (by intro h; cases h)
  unfold Region.wanted
  rw [hg]
  show (yielded ops a.tmps j == some b) = true
  unfold yielded
  unfold dstOf at hd
  rw [hd, Option.bind_some, h]
  simp

theorem oper_move {P : Program} {w : World} {ops : Array Oper} {o : Oper} {a : Act} {K : Act → World → Prop} {Q : Exit → Act → World → Prop} (hgd : Region.wanted o (yielded ops a.tmps) = true) (x : Operand) (ho : o.op = .move x) {v : Value} (hx : a.eval x = v)
    (h : K (a.put o.dst v) w) : if Region.wanted o (yielded ops a.tmps) = true then Oper.wp P o a w K Q else K (a.put o.dst undef) w :=
  oper_val hgd (by unfold execOp; simp only [ho, hx, Sem.run_pure]) h

theorem oper_pick {P : Program} {w : World} {ops : Array Oper} {o : Oper} {a : Act} {K : Act → World → Prop} {Q : Exit → Act → World → Prop} (hgd : Region.wanted o (yielded ops a.tmps) = true) (c x y : Operand) (ho : o.op = .pick c x y) (hc : a.eval c = .bool true) {v : Value} (hx : a.eval x = v)
    (h : K (a.put o.dst v) w) : if Region.wanted o (yielded ops a.tmps) = true then Oper.wp P o a w K Q else K (a.put o.dst undef) w :=
  oper_val hgd (by unfold execOp; simp [ho, hc, hx, asBool]) h

theorem run_eql_str {P : Program} {t : TypeId} {l : List UInt8} {a : Act} {o : Oper} (x y : Operand) (yt : TypeId) (ho : o.op = .binOp .eql t x y yt) (hxv : a.eval x = .string ⟨l.toArray⟩) (hyv : a.eval y = .string ⟨l.toArray⟩) (w : World) :
    (execOp a.eval o).run P w = .ok (.value (.bool true)) w := by
  have h : ∀ s : ByteArray, (eqGuard .eql t x y (.string s) (.string s)).run P w = .ok () w := fun s => by simp [eqGuard]
  unfold execOp
  simp only [ho, hxv, hyv, Sem.run_bind, h, Result.andThen_ok, binOp_string_eql]
  simp
end Go.Proofs.Ytpgdfhncigmmbaa

/-
  What a call on own blocks keeps: every old block outside a list. No condition.
-/
namespace Go.Proofs.Ytpgdfhncigmmbaa
open Go.RowKit

/-- w' is as w was, but for the blocks of F and new ones. -/
structure But (F : List Nat) (w w' : World) : Prop where
  os : w'.os = w.os
  tape : w'.tape = w.tape
  output : w'.output = w.output
  size : w.heap.size ≤ w'.heap.size
  block : ∀ k, k < w.heap.size → k ∉ F → w'.heap[k]? = w.heap[k]?

theorem But.refl (F : List Nat) (w : World) : But F w w := ⟨rfl, rfl, rfl, Nat.le_refl _, fun _ _ _ => rfl⟩
theorem But.trans {F F' : List Nat} {a b c : World} (h : But F a b) (k : But F' b c) (hF : ∀ x ∈ F', x ∈ F ∨ a.heap.size ≤ x) : But F a c :=
  ⟨k.os.trans h.os, k.tape.trans h.tape, k.output.trans h.output, Nat.le_trans h.size k.size, fun i hi hn => by
    have hs := h.size
    rw [k.block i (by omega) (fun hm => by rcases hF i hm with h1 | h1; exact hn h1; omega), h.block i hi hn]⟩
theorem But.below {F : List Nat} {a b c : World} (h : But F a b) (k : Below b.heap.size b c) : But F a c :=
  ⟨k.os.trans h.os, k.tape.trans h.tape, k.output.trans h.output, Nat.le_trans h.size k.size, fun i hi hn => by
    have hs := h.size
    rw [k.block i (by omega), h.block i hi hn]⟩
theorem But.ofBelow {F : List Nat} {a b : World} (k : Below a.heap.size a b) : But F a b := (But.refl F a).below k
theorem But.alloc {F : List Nat} {a b : World} (h : But F a b) (o : Obj) : But F a (b.alloc o) := h.below ((Below.refl _ _).alloc (Nat.le_refl _) o)
theorem But.drew {F : List Nat} {a b : World} (h : But F a b) : But F a b.drew := ⟨h.os, h.tape, h.output, h.size, h.block⟩
theorem But.drewN {F : List Nat} {a b : World} (h : But F a b) (n : Nat) : But F a (b.drewN n) := ⟨h.os, h.tape, h.output, h.size, h.block⟩
theorem But.mono {F F' : List Nat} {a b : World} (h : But F a b) (hF : ∀ x ∈ F, x ∈ F' ∨ a.heap.size ≤ x) : But F' a b :=
  ⟨h.os, h.tape, h.output, h.size, fun i hi hn => h.block i hi (fun hm => by rcases hF i hm with h1 | h1; exact hn h1; omega)⟩
theorem But.setCell {F : List Nat} {a b : World} (h : But F a b) {p : Addr} (hp : p.block ∈ F ∨ a.heap.size ≤ p.block) (u : Value) : But F a (b.setCell p u) :=
  ⟨h.os, h.tape, h.output, by show a.heap.size ≤ (b.heap.modify p.block _).size; rw [Array.size_modify]; exact h.size, fun i hi hn => by
    have : i ≠ p.block := by rintro rfl; rcases hp with h1 | h1; exact hn h1; omega
    rw [Below.heap_setCell _ _ _ _ this, h.block i hi hn]⟩
theorem But.setRow {F : List Nat} {a b : World} (h : But F a b) {g : Nat} (hp : g ∈ F ∨ a.heap.size ≤ g) (ds : Array Value) : But F a (b.setRow g ds) :=
  ⟨h.os, h.tape, h.output, by simpa using h.size, fun i hi hn => by
    have : i ≠ g := by rintro rfl; rcases hp with h1 | h1; exact hn h1; omega
    rw [setRow_other b g i _ this, h.block i hi hn]⟩
theorem But.grown {F : List Nat} {a b c : World} {row : Option Nat} (h : But F a b) (hg : b.grownBy c row) (hr : ∀ k, row = some k → k ∈ F ∨ a.heap.size ≤ k) : But F a c :=
  ⟨hg.os.trans h.os, hg.tape.trans h.tape, hg.output.trans h.output, Nat.le_trans h.size hg.size, fun i hi hn => by
    have hs := h.size
    rw [hg.block i (by omega) (fun e => by rcases hr i e.symm with h1 | h1; exact hn h1; omega), h.block i hi hn]⟩
theorem But.turned {F : List Nat} {a b c : World} {m : Nat} (h : But F a b) (hg : b.mapTurned c m) (hm : m ∈ F ∨ a.heap.size ≤ m) : But F a c :=
  h.grown hg.grown (fun k hk => by cases hk; exact hm)
theorem But.toBelow {F : List Nat} {a b : World} (h : But F a b) {B : Nat} (hB : B ≤ a.heap.size) (hF : ∀ x ∈ F, B ≤ x) : Below B a b :=
  ⟨h.os, h.tape, h.output, h.size, fun i hi => h.block i (by omega) (fun hm => by have := hF i hm; omega)⟩

theorem cell_eq {w w' : World} {p : Addr} (h : w'.heap[p.block]? = w.heap[p.block]?) : w'.cell? p = w.cell? p := World.cell?_of_block (w := w) h
theorem Blk.eq {w w' : World} {g : Nat} {ty : TypeId} {cs : List Value} (h : Blk w g ty cs) (he : w'.heap[g]? = w.heap[g]?) : Blk w' g ty cs := by
  unfold Blk at h ⊢; rw [he]; exact h
theorem Blk.but {F : List Nat} {w w' : World} {g : Nat} {ty : TypeId} {cs : List Value} (h : Blk w g ty cs) (hb : But F w w') (hg : g ∉ F) : Blk w' g ty cs := h.eq (hb.block g h.lt hg)
theorem Rd.eq {w w' : World} {a : Option Addr} {n cap size : Nat} {xs : List Value} (h : Rd w a n cap size xs) (he : ∀ ad, a = some ad → w'.heap[ad.block]? = w.heap[ad.block]?) : Rd w' a n cap size xs :=
  ⟨h.hlen, h.hcap, h.hmax, h.hnil, fun ad ha j u hu => by
    have hc := h.hcell ad ha j u hu
    rw [cell_eq (w := w) (by rw [add_block]; exact he ad ha)]; exact hc⟩
theorem own_eq {w w' : World} {base e size n : Nat} {v : Value} {xs : List Value} (h : w.ownsRow base e size v n xs) (he : ∀ k, v.ownBlock = some k → w'.heap[k]? = w.heap[k]?) : w'.ownsRow base e size v n xs := by
  obtain ⟨hl, hd⟩ := h
  refine ⟨hl, ?_⟩
  rcases hd with hn | ⟨g, c, cur, hv, hbg, hh, rest⟩
  · exact .inl hn
  · refine .inr ⟨g, c, cur, hv, hbg, ?_, rest⟩
    rw [he g (by rw [hv]; rfl)]; exact hh
end Go.Proofs.Ytpgdfhncigmmbaa

/-
  Sets of integers as maps from int to bool that the call itself makes. No condition.
-/
namespace Go.Proofs.Ytpgdfhncigmmbaa
open Go.RowKit Go.Maps

def In64 (x : Int) : Prop := -9223372036854775808 ≤ x ∧ x ≤ 9223372036854775807
theorem wf64 {x : Int} (h : In64 x) : (Lit.int .i64 x).wf = true := WalkArith.wf_i64 h

section
variable {P : Program} {k e t : TypeId}

theorem _root_.Go.World.ownsMap.tight {H : Type} {R : Value → Option (DataW H × List MemPlace)} {w : World} {b n : Nat} {D : DataW H} (h : w.ownsMap P k R b n D) : w.ownsMap P k R b (Maps.size D) D := by
  obtain ⟨es, clock, hb, F, _, rfl⟩ := h
  exact ⟨es, clock, hb, F, by simp [Maps.size, length_sorted], rfl⟩

/-- Block b is a map that holds true at the keys ks, and nothing else. -/
structure SetM (P : Program) (k e : TypeId) (w : World) (b : Nat) (ks : List Int) : Prop where
  nodup : ks.Nodup
  own : ∃ D : DataW Unit, w.ownsMap P k (plainElem P e) b ks.length D ∧ Maps.size D = ks.length ∧ ∀ x, In64 x → Maps.has D (.int .i64 x) = decide (x ∈ ks) ∧ D.atKey (.int .i64 x) (.lit (.bool false)) = .lit (.bool (decide (x ∈ ks)))

theorem SetM.eq {w w' : World} {b : Nat} {ks : List Int} (h : SetM P k e w b ks) (he : w'.heap[b]? = w.heap[b]?) : SetM P k e w' b ks := by
  obtain ⟨hn, D, ⟨es, clock, hb, F, hs, hD⟩, h2, h3⟩ := h
  exact ⟨hn, D, ⟨es, clock, he.trans hb, F, hs, hD⟩, h2, h3⟩
theorem SetM.lt {w : World} {b : Nat} {ks : List Int} (h : SetM P k e w b ks) : b < w.heap.size := by
  obtain ⟨hn, D, h1, _⟩ := h; exact h1.lt
theorem SetM.but {F : List Nat} {w w' : World} {b : Nat} {ks : List Int} (h : SetM P k e w b ks) (hb : But F w w') (hm : b ∉ F) : SetM P k e w' b ks := h.eq (hb.block b h.lt hm)

theorem SetM.made (w : World) : SetM P k e (w.alloc (.map #[] 0)) w.heap.size [] :=
  ⟨List.nodup_nil, .map [], World.ownsMap_made w P k _, rfl, fun x _ => ⟨by simp [Maps.has], by simp [DataW.atKey]⟩⟩

variable (hk : P.underlying k = some (.int .i64)) (he : P.underlying e = some .bool) (ht : P.underlying t = some (.map k e)) (hz : ∀ w, (zeroValue e).run P w = .ok (.bool false) w)
include hk ht

include he hz in
theorem SetM.look {w : World} {b : Nat} {ks : List Int} (h : SetM P k e w b ks) {x : Int} (hx : In64 x) : (Instr.lookup t (.map (some b)) (.int .i64 x) false).run P w = .ok (.bool (decide (x ∈ ks))) w := by
  obtain ⟨_, D, h1, _, h3⟩ := h
  obtain ⟨v, ps, hrun, hv⟩ := h1.lookup (int_keyed hk) ht (hz w) (plainElem_bool he false) (keyOf_int_mk hk (wf64 hx))
  rw [(h3 x hx).2] at hv
  rw [hrun]
  have : v = .bool (decide (x ∈ ks)) := by
    unfold plainElem at hv
    rw [he] at hv
    cases v <;> simp at hv
    rw [hv.1]
  rw [this]

omit hk in
theorem SetM.len {w : World} {b : Nat} {ks : List Int} (h : SetM P k e w b ks) (ty : TypeId) : (Builtin.len_ #[t] ty #[.map (some b)]).run P w = .ok (.int .i64 (ks.length : Int)) w := by
  obtain ⟨_, D, h1, h2, _⟩ := h
  rw [h1.len ht ty, h2]

include he in
theorem SetM.store {w : World} {b : Nat} {ks : List Int} (h : SetM P k e w b ks) {x : Int} (hx : In64 x) (hnew : x ∉ ks) (hn : ks.length < maxLen) :
    ∃ w', (Instr.mapUpdate t (.map (some b)) (.int .i64 x) (.bool true)).run P w = .ok () w' ∧ SetM P k e w' b (ks ++ [x]) ∧ w.mapTurned w' b := by
  obtain ⟨hnd, D, h1, h2, h3⟩ := h
  obtain ⟨w', hrun, h4, h5⟩ := h1.store (int_keyed hk) ht hn (keyOf_int_mk hk (wf64 hx)) (plainElem_bool he true)
  have hsz : Maps.size (D.put (.int .i64 x) (.lit (.bool true))) = ks.length + 1 := by
    rw [size_put (h1.tidy (int_keyed hk)), (h3 x hx).1, h2]; simp [hnew]
  refine ⟨w', hrun, ⟨?_, D.put (.int .i64 x) (.lit (.bool true)), ?_, ?_, ?_⟩, h5⟩
  · rw [List.nodup_append]; exact ⟨hnd, by simp, by intro a ha b hb e; simp at hb; subst hb; subst e; exact hnew ha⟩
  · have := h4.tight; rw [hsz] at this; simpa using this
  · rw [hsz]; simp
  · intro y hy
    by_cases hxy : y = x
    · subst hxy
      rw [has_put_same h1.isMap (by simp [WideAt.IsKeyLit]), atKey_put_same h1.isMap (by simp [WideAt.IsKeyLit])]
      simp
    · have hne : (Lit.int .i64 y) ≠ (Lit.int .i64 x) := by intro h; injection h with _ h2; exact hxy h2
      rw [has_put_other hne, atKey_put_other hne, (h3 y hy).1, (h3 y hy).2]
      simp [hxy]

theorem SetM.drop {w : World} {b : Nat} {ks : List Int} (h : SetM P k e w b ks) {x : Int} (hx : In64 x) (ty : TypeId) :
    ∃ w', (Builtin.delete_ #[t, k] ty #[.map (some b), .int .i64 x]).run P w = .ok (.tuple #[]) w' ∧ SetM P k e w' b (ks.erase x) ∧ w.mapTurned w' b := by
  obtain ⟨hnd, D, h1, h2, h3⟩ := h
  obtain ⟨w', hrun, h4, h5⟩ := h1.drop (int_keyed hk) ht (keyOf_int_mk hk (wf64 hx)) ty
  have hsz : Maps.size (D.del (.int .i64 x)) = (ks.erase x).length := by
    have := size_del (k := .int .i64 x) (h1.tidy (int_keyed hk))
    rw [(h3 x hx).1, h2] at this
    rw [List.length_erase]
    by_cases hm : x ∈ ks
    · simp [hm] at this ⊢; omega
    · simp [hm] at this ⊢; omega
  refine ⟨w', hrun, ⟨hnd.erase _, D.del (.int .i64 x), ?_, hsz, ?_⟩, h5⟩
  · have := h4.tight; rw [hsz] at this; exact this
  · intro y hy
    by_cases hxy : y = x
    · subst hxy
      rw [has_del_same, atKey_del_same]
      simp [hnd.mem_erase_iff]
    · have hne : (Lit.int .i64 y) ≠ (Lit.int .i64 x) := by intro h; injection h with _ h2; exact hxy h2
      rw [has_del_other hne, atKey_del_other hne, (h3 y hy).1, (h3 y hy).2]
      simp [hnd.mem_erase_iff, hxy]
end
end Go.Proofs.Ytpgdfhncigmmbaa

/-
  Objects that lie apart from one another in memory: one list of them, each with its blocks; what a call on one of them leaves. No condition.
-/
namespace Go.Proofs.Ytpgdfhncigmmbaa
open Go.RowKit

/-- What an object says of a world, by its blocks. -/
abbrev HP := World → List Nat → Prop

/-- It hangs on its own blocks alone. -/
structure Stb (P : HP) : Prop where
  lt : ∀ w F, P w F → ∀ x ∈ F, x < w.heap.size
  eq : ∀ w w' F, P w F → (∀ x ∈ F, w'.heap[x]? = w.heap[x]?) → P w' F

def Seps : List HP → HP
  | [] => fun _ F => F = []
  | P :: l => fun w F => ∃ F1 F2, P w F1 ∧ Seps l w F2 ∧ (∀ x ∈ F1, x ∉ F2) ∧ F = F1 ++ F2

theorem Seps.lt : ∀ {l : List HP}, (∀ P ∈ l, Stb P) → ∀ {w F}, Seps l w F → ∀ x ∈ F, x < w.heap.size
  | [], _, w, F, h, x, hx => by unfold Seps at h; subst h; cases hx
  | P :: l, hs, w, F, ⟨F1, F2, h1, h2, _, hF⟩, x, hx => by
    subst hF
    rcases List.mem_append.1 hx with hx | hx
    · exact (hs P (by simp)).lt w F1 h1 x hx
    · exact Seps.lt (fun Q hQ => hs Q (by simp [hQ])) h2 x hx
theorem Seps.eq : ∀ {l : List HP}, (∀ P ∈ l, Stb P) → ∀ {w w' : World} {F}, Seps l w F → (∀ x ∈ F, w'.heap[x]? = w.heap[x]?) → Seps l w' F
  | [], _, w, w', F, h, _ => h
  | P :: l, hs, w, w', F, ⟨F1, F2, h1, h2, h3, hF⟩, he => by
    subst hF
    exact ⟨F1, F2, (hs P (by simp)).eq w w' F1 h1 (fun x hx => he x (by simp [hx])), Seps.eq (fun Q hQ => hs Q (by simp [hQ])) h2 (fun x hx => he x (by simp [hx])), h3, rfl⟩

/-- One object out of the list, and what may stand in its place. -/
theorem Seps.split : ∀ {l : List HP}, (∀ P ∈ l, Stb P) → ∀ {w : World} {F : List Nat} (i : Nat) {P : HP}, l[i]? = some P → Seps l w F →
    ∃ F1 F2 : List Nat, P w F1 ∧ (∀ x ∈ F1, x ∉ F2) ∧ (∀ x, x ∈ F ↔ x ∈ F1 ∨ x ∈ F2) ∧ ∀ (Q : HP) (w' : World) (F1' : List Nat), Q w' F1' → (∀ x ∈ F1', x ∉ F2) → (∀ x ∈ F2, w'.heap[x]? = w.heap[x]?) →
      ∃ F', Seps (l.set i Q) w' F' ∧ ∀ x, x ∈ F' ↔ x ∈ F1' ∨ x ∈ F2
  | [], _, w, F, i, P, hi, h => by simp at hi
  | R :: l, hs, w, F, 0, P, hi, ⟨F1, F2, h1, h2, h3, hF⟩ => by
    simp only [List.getElem?_cons_zero, Option.some.injEq] at hi
    subst hi; subst hF
    exact ⟨F1, F2, h1, h3, fun x => List.mem_append, fun Q w' F1' hQ hd he => ⟨F1' ++ F2, ⟨F1', F2, hQ, Seps.eq (fun P hP => hs P (by simp [hP])) h2 he, hd, rfl⟩, fun x => List.mem_append⟩⟩
  | R :: l, hs, w, F, i + 1, P, hi, ⟨G1, G2, h1, h2, h3, hF⟩ => by
    subst hF
    obtain ⟨F1, F2, k1, k2, k3, k4⟩ := Seps.split (fun Q hQ => hs Q (by simp [hQ])) i (by simpa using hi) h2
    refine ⟨F1, G1 ++ F2, k1, fun x hx hm => ?_, fun x => ?_, fun Q w' F1' hQ hd he => ?_⟩
    · rcases List.mem_append.1 hm with hm | hm
      · exact h3 x hm ((k3 x).2 (.inl hx))
      · exact k2 x hx hm
    · rw [List.mem_append, List.mem_append, k3 x]; exact ⟨fun h => by rcases h with h | h | h <;> simp [h], fun h => by rcases h with h | h | h <;> simp [h]⟩
    · obtain ⟨F', h5, h6⟩ := k4 Q w' F1' hQ (fun x hx hm => hd x hx (List.mem_append.2 (.inr hm))) (fun x hx => he x (List.mem_append.2 (.inr hx)))
      refine ⟨G1 ++ F', ⟨G1, F', (hs R (by simp)).eq w w' G1 h1 (fun x hx => he x (List.mem_append.2 (.inl hx))), h5, fun x hx hm => ?_, rfl⟩, fun x => ?_⟩
      · rcases (h6 x).1 hm with hm | hm
        · exact hd x hm (List.mem_append.2 (.inl hx))
        · exact h3 x hx ((k3 x).2 (.inr hm))
      · rw [List.mem_append, h6 x, List.mem_append]; exact ⟨fun h => by rcases h with h | h | h <;> simp [h], fun h => by rcases h with h | h | h <;> simp [h]⟩

theorem Seps.snoc : ∀ {l : List HP} {w : World} {F F1 : List Nat} {Q : HP}, Seps l w F → Q w F1 → (∀ x ∈ F, x ∉ F1) → Seps (l ++ [Q]) w (F ++ F1)
  | [], w, F, F1, Q, h, hQ, hd => by unfold Seps at h; subst h; exact ⟨F1, [], hQ, rfl, by simp, by simp⟩
  | P :: l, w, F, F1, Q, ⟨G1, G2, h1, h2, h3, hF⟩, hQ, hd => by
    subst hF
    exact ⟨G1, G2 ++ F1, h1, Seps.snoc h2 hQ (fun x hx => hd x (List.mem_append.2 (.inr hx))), fun x hx hm => by
      rcases List.mem_append.1 hm with hm | hm
      · exact h3 x hx hm
      · exact hd x (List.mem_append.2 (.inl hx)) hm, by rw [List.append_assoc]⟩

/-- From block B on lie the objects l, apart from one another. -/
structure Own (B : Nat) (w : World) (l : List HP) : Prop where
  base : B ≤ w.heap.size
  stb : ∀ P ∈ l, Stb P
  seps : ∃ F, Seps l w F ∧ ∀ x ∈ F, B ≤ x

theorem Own.start (w : World) : Own w.heap.size w [] := ⟨Nat.le_refl _, by simp, [], rfl, by simp⟩

/-- The turn of object i. -/
theorem Own.turn {B : Nat} {w : World} {l : List HP} (O : Own B w l) (i : Nat) {P : HP} (hi : l[i]? = some P) :
    ∃ F, P w F ∧ (∀ x ∈ F, B ≤ x) ∧ ∀ (Q : HP) (w' : World) (F' : List Nat), Stb Q → But F w w' → Q w' F' → (∀ x ∈ F', x ∈ F ∨ w.heap.size ≤ x) → Own B w' (l.set i Q) ∧ Below B w w' := by
  obtain ⟨hb, hs, F, hF, hB⟩ := O
  obtain ⟨F1, F2, k1, k2, k3, k4⟩ := Seps.split hs i hi hF
  refine ⟨F1, k1, fun x hx => hB x ((k3 x).2 (.inl hx)), fun Q w' F1' sQ hbut hQ hsub => ?_⟩
  have hlt : ∀ x ∈ F, x < w.heap.size := Seps.lt hs hF
  obtain ⟨F', h5, h6⟩ := k4 Q w' F1' hQ (fun x hx hm => by
    rcases hsub x hx with h | h
    · exact k2 x h hm
    · have := hlt x ((k3 x).2 (.inr hm)); omega) (fun x hx => hbut.block x (hlt x ((k3 x).2 (.inr hx))) (fun hm => k2 x hm hx))
  refine ⟨⟨Nat.le_trans hb hbut.size, fun R hR => ?_, F', h5, fun x hx => ?_⟩, hbut.toBelow hb (fun x hx => hB x ((k3 x).2 (.inl hx)))⟩
  · rcases List.mem_or_eq_of_mem_set hR with h | h
    · exact hs R h
    · rw [h]; exact sQ
  · rcases (h6 x).1 hx with h | h
    · rcases hsub x h with h | h
      · exact hB x ((k3 x).2 (.inl h))
      · omega
    · exact hB x ((k3 x).2 (.inr h))

/-- Object i, to read. -/
theorem Own.get {B : Nat} {w : World} {l : List HP} (O : Own B w l) (i : Nat) {P : HP} (hi : l[i]? = some P) : ∃ F, P w F ∧ ∀ x ∈ F, B ≤ x := by
  obtain ⟨F, h1, h2, _⟩ := O.turn i hi; exact ⟨F, h1, h2⟩

/-- A further object that is new. -/
theorem Own.more {B : Nat} {w w' : World} {l : List HP} (O : Own B w l) (hb : Below w.heap.size w w') {Q : HP} (sQ : Stb Q) {F : List Nat} (hQ : Q w' F) (hF : ∀ x ∈ F, w.heap.size ≤ x) : Own B w' (l ++ [Q]) := by
  obtain ⟨h1, hs, G, hG, hB⟩ := O
  have hlt : ∀ x ∈ G, x < w.heap.size := Seps.lt hs hG
  refine ⟨Nat.le_trans h1 hb.size, fun R hR => ?_, G ++ F, Seps.snoc (Seps.eq hs hG (fun x hx => hb.block x (hlt x hx))) hQ (fun x hx hm => ?_), fun x hx => ?_⟩
  · rcases List.mem_append.1 hR with h | h
    · exact hs R h
    · simp at h; rw [h]; exact sQ
  · have := hlt x hx; have := hF x hm; omega
  · rcases List.mem_append.1 hx with h | h
    · exact hB x h
    · have := hF x h; omega
theorem Own.below {B : Nat} {w w' : World} {l : List HP} (O : Own B w l) (hb : Below w.heap.size w w') : Own B w' l := by
  obtain ⟨h1, hs, G, hG, hB⟩ := O
  exact ⟨Nat.le_trans h1 hb.size, hs, G, Seps.eq hs hG (fun x hx => hb.block x (Seps.lt hs hG x hx)), hB⟩
theorem Own.alloc {B : Nat} {w : World} {l : List HP} (O : Own B w l) (o : Obj) : Own B (w.alloc o) l := O.below ((Below.refl _ _).alloc (Nat.le_refl _) o)
theorem Own.drewN {B : Nat} {w : World} {l : List HP} (O : Own B w l) (n : Nat) : Own B (w.drewN n) l := O.below (below_drewN (Below.refl _ _) n)
theorem Own.drew {B : Nat} {w : World} {l : List HP} (O : Own B w l) : Own B w.drew l := O.below ((Below.refl _ _).drew)

/-- Objects that are no longer asked for. -/
theorem Seps.drop : ∀ {l : List HP}, (∀ P ∈ l, Stb P) → ∀ {w : World} {F : List Nat} (i : Nat), Seps l w F → ∃ F', Seps (l.eraseIdx i) w F' ∧ ∀ x ∈ F', x ∈ F
  | [], _, w, F, i, h => ⟨F, by simpa using h, fun _ h => h⟩
  | P :: l, hs, w, F, 0, ⟨F1, F2, h1, h2, h3, hF⟩ => by subst hF; exact ⟨F2, h2, fun x hx => List.mem_append.2 (.inr hx)⟩
  | P :: l, hs, w, F, i + 1, ⟨F1, F2, h1, h2, h3, hF⟩ => by
    subst hF
    obtain ⟨F', k1, k2⟩ := Seps.drop (fun Q hQ => hs Q (by simp [hQ])) i h2
    exact ⟨F1 ++ F', ⟨F1, F', h1, k1, fun x hx hm => h3 x hx (k2 x hm), rfl⟩, fun x hx => by
      rcases List.mem_append.1 hx with h | h
      · exact List.mem_append.2 (.inl h)
      · exact List.mem_append.2 (.inr (k2 x h))⟩
theorem Own.drop {B : Nat} {w : World} {l : List HP} (O : Own B w l) (i : Nat) : Own B w (l.eraseIdx i) := by
  obtain ⟨h1, hs, G, hG, hB⟩ := O
  obtain ⟨F', k1, k2⟩ := Seps.drop hs i hG
  exact ⟨h1, fun P hP => hs P (List.mem_of_mem_eraseIdx hP), F', k1, fun x hx => hB x (k2 x hx)⟩

theorem erase_last {α : Type} : ∀ (l : List α) (q : α), (l ++ [q]).eraseIdx l.length = l
  | [], _ => rfl
  | _ :: l, q => by simpa using erase_last l q
theorem Own.pop {B : Nat} {w : World} {l : List HP} {Q : HP} (O : Own B w (l ++ [Q])) : Own B w l := by
  have := O.drop l.length
  rwa [erase_last] at this

theorem Seps.perm {l l' : List HP} (h : l.Perm l') : ∀ {w : World} {F : List Nat}, Seps l w F → ∃ F', Seps l' w F' ∧ ∀ x, x ∈ F' ↔ x ∈ F := by
  induction h with
  | nil => exact fun h => ⟨_, h, fun _ => Iff.rfl⟩
  | cons P _ ih =>
    rintro w F ⟨F1, F2, h1, h2, h3, rfl⟩
    obtain ⟨F', h4, h5⟩ := ih h2
    exact ⟨F1 ++ F', ⟨F1, F', h1, h4, fun x hx hm => h3 x hx ((h5 x).1 hm), rfl⟩, fun x => by simp [h5 x]⟩
  | swap P Q l =>
    rintro w F ⟨F1, F2, h1, ⟨F3, F4, h2, h3, h4, rfl⟩, h5, rfl⟩
    refine ⟨F3 ++ (F1 ++ F4), ⟨F3, F1 ++ F4, h2, ⟨F1, F4, h1, h3, fun x hx hm => h5 x hx (by simp [hm]), rfl⟩, fun x hx hm => ?_, rfl⟩, fun x => by
      simp only [List.mem_append]
      exact ⟨fun h => by rcases h with h | h | h <;> simp [h], fun h => by rcases h with h | h | h <;> simp [h]⟩⟩
    rcases List.mem_append.1 hm with hm | hm
    · exact h5 x hm (by simp [hx])
    · exact h4 x hx hm
  | trans _ _ ih1 ih2 =>
    intro w F h
    obtain ⟨F1, h1, e1⟩ := ih1 h
    obtain ⟨F2, h2, e2⟩ := ih2 h1
    exact ⟨F2, h2, fun x => (e2 x).trans (e1 x)⟩
theorem Own.perm {B : Nat} {w : World} {l l' : List HP} (O : Own B w l) (h : l.Perm l') : Own B w l' := by
  obtain ⟨h1, hs, F, hF, hB⟩ := O
  obtain ⟨F', h2, h3⟩ := Seps.perm h hF
  exact ⟨h1, fun P hP => hs P (h.mem_iff.2 hP), F', h2, fun x hx => hB x ((h3 x).1 hx)⟩

/-- A block of cells. -/
def BlkP (g : Nat) (ty : TypeId) (cs : List Value) : HP := fun w F => Blk w g ty cs ∧ F = [g]
theorem BlkP.stb (g : Nat) (ty : TypeId) (cs : List Value) : Stb (BlkP g ty cs) :=
  ⟨fun w F ⟨h, hF⟩ x hx => by subst hF; simp at hx; subst hx; exact h.lt, fun w w' F ⟨h, hF⟩ he => ⟨h.eq (he g (by simp [hF])), hF⟩⟩
theorem Own.new {B : Nat} {w : World} {l : List HP} (O : Own B w l) (cs : List Value) (ty : TypeId) : Own B (w.alloc (.cells cs.toArray ty)) (l ++ [BlkP w.heap.size ty cs]) :=
  O.more ((Below.refl _ _).alloc (Nat.le_refl _) _) (BlkP.stb _ _ _) ⟨Blk.new rfl rfl, rfl⟩ (by simp)
theorem Own.blk {B : Nat} {w : World} {l : List HP} (O : Own B w l) (i : Nat) {g : Nat} {ty : TypeId} {cs : List Value} (hi : l[i]? = some (BlkP g ty cs)) : Blk w g ty cs ∧ B ≤ g := by
  obtain ⟨F, ⟨h1, rfl⟩, h2⟩ := O.get i hi; exact ⟨h1, h2 g (by simp)⟩
theorem Own.setCell {B : Nat} {w : World} {l : List HP} (O : Own B w l) (i : Nat) {g : Nat} {ty : TypeId} {cs : List Value} (hi : l[i]? = some (BlkP g ty cs)) (j : Nat) (v : Value) :
    Own B (w.setCell ⟨g, j, none⟩ v) (l.set i (BlkP g ty (cs.set j v))) ∧ Below B w (w.setCell ⟨g, j, none⟩ v) := by
  obtain ⟨F, ⟨h1, rfl⟩, h2, h3⟩ := O.turn i hi
  exact h3 _ _ [g] (BlkP.stb _ _ _) ((But.refl _ w).setCell (.inl (by simp)) v) ⟨h1.set j v, rfl⟩ (fun x hx => .inl hx)
theorem Own.setRow {B : Nat} {w : World} {l : List HP} (O : Own B w l) (i : Nat) {g : Nat} {ty : TypeId} {cs : List Value} (hi : l[i]? = some (BlkP g ty cs)) (ds : List Value) :
    Own B (w.setRow g ds.toArray) (l.set i (BlkP g ty ds)) ∧ Below B w (w.setRow g ds.toArray) := by
  obtain ⟨F, ⟨h1, rfl⟩, h2, h3⟩ := O.turn i hi
  exact h3 _ _ [g] (BlkP.stb _ _ _) ((But.refl _ w).setRow (.inl (by simp)) _) ⟨h1.row ds, rfl⟩ (fun x hx => .inl hx)

/-- A slice of the call's own. -/
def RowP (e : TypeId) (size : Nat) (a : Option Addr) (n cap : Nat) (xs : List Value) : HP := fun w F => w.ownsRow 0 e size (.slice a n cap) n xs ∧ F = (Value.slice a n cap).ownBlock.toList
theorem RowP.stb (e : TypeId) (size : Nat) (a : Option Addr) (n cap : Nat) (xs : List Value) : Stb (RowP e size a n cap xs) :=
  ⟨fun w F ⟨h, hF⟩ x hx => by subst hF; exact (h.lt x (by simpa using hx)).2, fun w w' F ⟨h, hF⟩ he => ⟨own_eq h (fun k hk => he k (by rw [hF]; simpa using hk)), hF⟩⟩
theorem Own.row {B : Nat} {w : World} {l : List HP} (O : Own B w l) (i : Nat) {e : TypeId} {size : Nat} {a : Option Addr} {n cap : Nat} {xs : List Value} (hi : l[i]? = some (RowP e size a n cap xs)) : w.ownsRow 0 e size (.slice a n cap) n xs := by
  obtain ⟨F, ⟨h1, rfl⟩, _⟩ := O.get i hi; exact h1
theorem Own.newRow {B : Nat} {w w' : World} {l : List HP} (O : Own B w l) (hb : Below w.heap.size w w') {e : TypeId} {size : Nat} {a : Option Addr} {n cap : Nat} {xs : List Value} {b0 : Nat} (h : w'.ownsRow b0 e size (.slice a n cap) n xs) (h0 : w.heap.size ≤ b0) : Own B w' (l ++ [RowP e size a n cap xs]) :=
  O.more hb (RowP.stb _ _ _ _ _ _) ⟨own_base h (Nat.zero_le _), rfl⟩ (fun x hx => by have := (h.lt x (by simpa using hx)).1; omega)
theorem Own.nilRow {B : Nat} {w : World} {l : List HP} (O : Own B w l) (e : TypeId) (size : Nat) : Own B w (l ++ [RowP e size none 0 0 []]) :=
  O.more (Below.refl _ _) (RowP.stb _ _ _ _ _ _) (F := []) ⟨World.ownsRow_nil _ _ _ _, rfl⟩ (by simp)
theorem Own.grown {B : Nat} {w w' : World} {l : List HP} (O : Own B w l) (i : Nat) {e : TypeId} {size : Nat} {a a' : Option Addr} {n cap n' cap' : Nat} {xs xs' : List Value} (hi : l[i]? = some (RowP e size a n cap xs))
    (h1 : w'.ownsRow 0 e size (.slice a' n' cap') n' xs') (h2 : w.grownBy w' (Value.slice a n cap).ownBlock) (h3 : ∀ ad, a' = some ad → (a = some ad ∨ w.heap.size ≤ ad.block)) : Own B w' (l.set i (RowP e size a' n' cap' xs')) ∧ Below B w w' := by
  obtain ⟨F, ⟨k1, rfl⟩, k2, k3⟩ := O.turn i hi
  refine k3 _ _ (Value.slice a' n' cap').ownBlock.toList (RowP.stb _ _ _ _ _ _) ((But.refl _ w).grown h2 (fun k hk => .inl (by simpa using hk))) ⟨h1, rfl⟩ (fun x hx => ?_)
  cases ha : a' with
  | none => subst ha; simp [Value.ownBlock] at hx
  | some ad =>
    subst ha
    simp [Value.ownBlock] at hx
    subst hx
    rcases h3 ad rfl with h | h
    · subst h; exact .inl (by simp [Value.ownBlock])
    · exact .inr h

/-- A slice that can be read and lies apart. -/
def RdP (size : Nat) (a : Option Addr) (n cap : Nat) (xs : List Value) : HP := fun w F => Rd w a n cap size xs ∧ (∀ x ∈ F, x < w.heap.size) ∧ ∀ ad, a = some ad → xs ≠ [] → ad.block ∈ F
theorem RdP.stb (size : Nat) (a : Option Addr) (n cap : Nat) (xs : List Value) : Stb (RdP size a n cap xs) := by
  refine ⟨fun w F ⟨_, h, _⟩ => h, fun w w' F ⟨h1, h2, h3⟩ he => ⟨?_, fun x hx => ?_, h3⟩⟩
  · cases hx : xs with
    | nil => subst hx; exact ⟨h1.hlen, h1.hcap, h1.hmax, h1.hnil, fun ad _ j u hu => by simp at hu⟩
    | cons y ys => rw [← hx]; exact h1.eq (fun ad ha => he _ (h3 ad ha (by rw [hx]; simp)))
  · have h4 := h2 x hx
    have h5 := he x hx
    rw [Array.getElem?_eq_getElem h4] at h5
    exact (Array.getElem?_eq_some_iff.1 h5).1
theorem Own.rd {B : Nat} {w : World} {l : List HP} (O : Own B w l) (i : Nat) {size : Nat} {a : Option Addr} {n cap : Nat} {xs : List Value} (hi : l[i]? = some (RdP size a n cap xs)) : Rd w a n cap size xs := by
  obtain ⟨F, ⟨h1, _⟩, _⟩ := O.get i hi; exact h1
theorem Own.newRd {B : Nat} {w w' : World} {l : List HP} (O : Own B w l) (hb : Below w.heap.size w w') {size : Nat} {a : Option Addr} {n cap : Nat} {xs : List Value} (h : Rd w' a n cap size xs) (h0 : ∀ ad, a = some ad → w.heap.size ≤ ad.block) : Own B w' (l ++ [RdP size a n cap xs]) := by
  cases a with
  | none => exact O.more hb (RdP.stb _ _ _ _ _) (F := []) ⟨h, by simp, fun _ h => by cases h⟩ (by simp)
  | some ad =>
    cases hx : xs with
    | nil => exact O.more hb (RdP.stb _ _ _ _ _) (F := []) ⟨by rw [← hx]; exact h, by simp, fun _ _ h => absurd rfl h⟩ (by simp)
    | cons y ys =>
      rw [← hx]
      have hc := h.hcell ad rfl 0 y (by rw [hx]; rfl)
      have hl := cell_block_lt hc
      rw [add_block] at hl
      exact O.more hb (RdP.stb _ _ _ _ _) (F := [ad.block]) ⟨h, by simp [hl], fun ad' h _ => by cases h; simp⟩ (by simp [h0 ad rfl])

/-- Two objects as one. -/
def Both (Q R : HP) : HP := fun w F => ∃ F1 F2, Q w F1 ∧ R w F2 ∧ (∀ x ∈ F1, x ∉ F2) ∧ F = F1 ++ F2
theorem Both.stb {Q R : HP} (hQ : Stb Q) (hR : Stb R) : Stb (Both Q R) :=
  ⟨fun w F ⟨F1, F2, h1, h2, _, hF⟩ x hx => by
    subst hF
    rcases List.mem_append.1 hx with h | h
    · exact hQ.lt w F1 h1 x h
    · exact hR.lt w F2 h2 x h, fun w w' F ⟨F1, F2, h1, h2, h3, hF⟩ he => by
    subst hF
    exact ⟨F1, F2, hQ.eq w w' F1 h1 (fun x hx => he x (by simp [hx])), hR.eq w w' F2 h2 (fun x hx => he x (by simp [hx])), h3, rfl⟩⟩
theorem Own.part {B : Nat} {w : World} {l : List HP} (O : Own B w l) (i : Nat) {Q R : HP} (hi : l[i]? = some (Both Q R)) (hQ : Stb Q) (hR : Stb R) : Own B w (l.set i Q ++ [R]) := by
  obtain ⟨h1, hs, F, hF, hB⟩ := O
  obtain ⟨F1, F2, ⟨A, G, a1, a2, a3, hAG⟩, k2, k3, k4⟩ := Seps.split hs i hi hF
  subst hAG
  obtain ⟨F', h5, h6⟩ := k4 Q w A a1 (fun x hx => k2 x (by simp [hx])) (fun _ _ => rfl)
  refine ⟨h1, fun P hP => ?_, F' ++ G, Seps.snoc h5 a2 (fun x hx hm => ?_), fun x hx => ?_⟩
  · rcases List.mem_append.1 hP with h | h
    · rcases List.mem_or_eq_of_mem_set h with h | h
      · exact hs P h
      · rw [h]; exact hQ
    · simp at h; rw [h]; exact hR
  · rcases (h6 x).1 hx with h | h
    · exact a3 x h hm
    · exact k2 x (by simp [hm]) h
  · rcases List.mem_append.1 hx with h | h
    · rcases (h6 x).1 h with h | h
      · exact hB x ((k3 x).2 (.inl (by simp [h])))
      · exact hB x ((k3 x).2 (.inr h))
    · exact hB x ((k3 x).2 (.inl (by simp [h])))

/-- append, as one operation; where the new slice lies. -/
theorem oper_append2 {P : Program} {w : World} {ops : Array Oper} {o : Oper} {a : Act} {K : Act → World → Prop} {Q : Exit → Act → World → Prop} (hgd : Region.wanted o (yielded ops a.tmps) = true) (s x : Operand) (t tx : TypeId)
    (ho : o.op = .call { callee := .builtin .append, args := #[s, x], argTypes := #[t, tx] })
    {e : TypeId} {z : Value} {size bytes : Nat} (hT : SlT P t e z size bytes) (htx : P.underlying tx = some (.slice e) ∨ P.underlying tx = some .string)
    {base : Nat} {a0 : Option Addr} {n cap : Nat} {xs : List Value} (hs : a.eval s = .slice a0 n cap) (hown : w.ownsRow base e size (.slice a0 n cap) n xs)
    {xv : Value} {m : Nat} {news : List Value} (hx : a.eval x = xv) (hsrc : Src P w xv m size news)
    (hbytes : (n + m) * bytes ≤ 140737488355328) (h63 : n + m ≤ maxLen) (hbase : base ≤ w.heap.size)
    (h : ∀ a' cap' w', w'.ownsRow base e size (.slice a' (n + m) cap') (n + m) (xs ++ news) → w.grownBy w' (Value.slice a0 n cap).ownBlock → (∀ ad, a' = some ad → (a0 = some ad ∨ w.heap.size ≤ ad.block)) → K (a.put o.dst (.slice a' (n + m) cap')) w') :
    if Region.wanted o (yielded ops a.tmps) = true then Oper.wp P o a w K Q else K (a.put o.dst undef) w := by
  rw [if_pos hgd]
  obtain ⟨i, hi, hz, hsz, hby⟩ := info_parts hT.info
  obtain ⟨a', cap', w', hr, h2, h3, h4⟩ := run_append_src (P := P) w base t tx o.type e i z size bytes hT.ht htx hi hz hsz hby hT.hz a0 n cap xs hown xv m news hsrc h63 hbytes hbase
  unfold Oper.wp execOp
  simp only [ho, resolve, invoke, builtin, Sem.run_bind, Sem.run_pure, Result.andThen_ok, List.map_toArray, List.map_cons, List.map_nil, hs, hx, hr]
  exact h a' cap' w' h2 h3 h4

/-- What a call on own objects returns. -/
def RetW (v : Value) (B : Nat) (l : List HP) (w : World) (e : Ending) (w' : World) : Prop := e = .returned v ∧ Own B w' l ∧ Below B w w'
end Go.Proofs.Ytpgdfhncigmmbaa

/-
  Two objects that lie apart: their blocks differ. No condition.
-/
namespace Go.Proofs.Ytpgdfhncigmmbaa
open Go.RowKit

theorem Seps.at : ∀ {l : List HP} {w : World} {F : List Nat} (i : Nat) {P : HP}, l[i]? = some P → Seps l w F → ∃ F1, P w F1 ∧ ∀ x ∈ F1, x ∈ F
  | [], _, _, i, _, hi, _ => by simp at hi
  | R :: l, w, F, 0, P, hi, ⟨F1, F2, h1, _, _, hF⟩ => by
    simp only [List.getElem?_cons_zero, Option.some.injEq] at hi
    subst hi; subst hF
    exact ⟨F1, h1, fun x hx => List.mem_append.2 (.inl hx)⟩
  | R :: l, w, F, i + 1, P, hi, ⟨F1, F2, _, h2, _, hF⟩ => by
    subst hF
    obtain ⟨G, k1, k2⟩ := Seps.at i (by simpa using hi) h2
    exact ⟨G, k1, fun x hx => List.mem_append.2 (.inr (k2 x hx))⟩
theorem Seps.two : ∀ {l : List HP} {w : World} {F : List Nat} (i j : Nat) {P Q : HP}, i < j → l[i]? = some P → l[j]? = some Q → Seps l w F → ∃ F1 F2, P w F1 ∧ Q w F2 ∧ ∀ x ∈ F1, x ∉ F2
  | [], _, _, i, _, _, _, _, hi, _, _ => by simp at hi
  | R :: l, w, F, 0, j + 1, P, Q, _, hi, hj, ⟨F1, F2, h1, h2, h3, hF⟩ => by
    simp only [List.getElem?_cons_zero, Option.some.injEq] at hi
    subst hi
    obtain ⟨G, k1, k2⟩ := Seps.at j (by simpa using hj) h2
    exact ⟨F1, G, h1, k1, fun x hx hm => h3 x hx (k2 x hm)⟩
  | R :: l, w, F, i + 1, j + 1, P, Q, hij, hi, hj, ⟨F1, F2, _, h2, _, hF⟩ => Seps.two i j (by omega) (by simpa using hi) (by simpa using hj) h2
theorem Own.ne {B : Nat} {w : World} {l : List HP} (O : Own B w l) (i j : Nat) (hij : i < j) {g h : Nat} {t u : TypeId} {cs ds : List Value} (hi : l[i]? = some (BlkP g t cs)) (hj : l[j]? = some (BlkP h u ds)) : g ≠ h := by
  obtain ⟨_, _, F, hF, _⟩ := O
  obtain ⟨F1, F2, ⟨_, h1⟩, ⟨_, h2⟩, h3⟩ := Seps.two i j hij hi hj hF
  subst h1; subst h2
  intro e; subst e
  exact h3 g (by simp) (by simp)

theorem Own.toRd {B : Nat} {w : World} {l : List HP} (O : Own B w l) (i : Nat) {e : TypeId} {size : Nat} {a : Option Addr} {n cap : Nat} {xs : List Value} (hi : l[i]? = some (RowP e size a n cap xs)) : Own B w (l.set i (RdP size a n cap xs)) := by
  obtain ⟨F, ⟨h1, hF⟩, h2, h3⟩ := O.turn i hi
  exact (h3 (RdP size a n cap xs) w F (RdP.stb _ _ _ _ _) (But.refl _ _) ⟨Rd.ofOwn h1, fun x hx => by rw [hF] at hx; exact (h1.lt x (by simpa using hx)).2, fun ad ha _ => by rw [hF, ha]; simp [Value.ownBlock]⟩ (fun x hx => .inl hx)).1
end Go.Proofs.Ytpgdfhncigmmbaa
