/-
  copy from a string into a block of the call's own; a store of an aggregate into a part of a block. No condition.
-/
import Derived.Test.YtgimkipekoabbaaHeld
import Derived.Laws.CopyOwn
import Derived.Lib.ConvBytes
namespace Go.Proofs.Ytgimkipekoabbaa
open Go.RowKit

theorem run_firstCells_str {P : Program} (w : World) (l : List UInt8) (k : Nat) : (Builtin.firstCells 1 k (.string ⟨l.toArray⟩)).run P w = .ok (byteVals (l.take k)).toArray w := by
  have hx : (((⟨l.toArray⟩ : ByteArray).extract 0 k).data.map fun b => Value.int .u8 b.toNat) = (byteVals (l.take k)).toArray := by
    apply Array.ext'
    simp [byteVals, ByteArray.extract, ByteArray.copySlice, List.map_take]
  simp only [Builtin.firstCells, hx, Sem.run_pure]

/-- The cells of a block behind a copy, as a block. -/
theorem run_copy_str {P : Program} (w : World) (dT sT ty elem : TypeId) (g o dLen dCap : Nat) (l : List UInt8) (cur : List Value) (t : TypeId) (k : Nat)
    (hu : P.underlying dT = some (.slice elem)) (hs : (P.info? elem).map (·.size) = some 1)
    (hg : Blk w g t cur) (hk : k = Nat.min l.length dLen) (hfit : o + k ≤ cur.length) :
    (Builtin.copy_ #[dT, sT] ty #[.slice (some ⟨g, o, none⟩) dLen dCap, .string ⟨l.toArray⟩]).run P w =
      .ok (goInt k) (w.setRow g (splice cur o (byteVals (l.take k))).toArray) := by
  have hkl : k ≤ l.length := by rw [hk]; exact Nat.min_le_left _ _
  have hlen : (byteVals (l.take k)).length = k := by rw [byteVals_length, List.length_take]; omega
  have hst := run_storeCells_at P g o t (byteVals (l.take k)) 0 cur.toArray w hg (by rw [hlen]; simpa using hfit) (byteVals_one _)
  have hf := run_firstCells_str (P := P) w l k
  have hz : (⟨l.toArray⟩ : ByteArray).size = l.length := str_size l
  cases hq : P.info? elem with
  | none => simp [hq] at hs
  | some i =>
    have hi : i.size = 1 := by simpa [hq] using hs
    simp [Builtin.copy_, run_underlying hu, Builtin.lenOf, sizeOf, typeInfo, hq, hi, hz, ← hk, hf, hst, splice]

theorem wpList_copy_str {P : Program} {w : World} {ops : Array Oper} {rest : List Oper} {o : Oper} {a : Act} {Q : Exit → Act → World → Prop} (hgd : Region.wanted o (yielded ops a.tmps) = true) (d s : Operand) (dT sT : TypeId)
    (ho : o.op = .call { callee := .builtin .copy, args := #[d, s], argTypes := #[dT, sT] }) {elem : TypeId} (hu : P.underlying dT = some (.slice elem)) (hsz : (P.info? elem).map (·.size) = some 1)
    {g off dLen dCap : Nat} (hd : a.eval d = .slice (some ⟨g, off, none⟩) dLen dCap) {l : List UInt8} (hs : a.eval s = .string ⟨l.toArray⟩)
    {cur : List Value} {t : TypeId} (hg : Blk w g t cur) {k : Nat} (hk : k = Nat.min l.length dLen) (hfit : off + k ≤ cur.length)
    (h : wpList P ops Q rest (a.put o.dst (.int .i64 (k : Int))) (w.setRow g (splice cur off (byteVals (l.take k))).toArray)) :
    wpList P ops Q (o :: rest) a w := by
  refine BigFrame.wpList_want hgd fun K hK => ?_
  have hrun := run_copy_str (P := P) w dT sT o.type elem g off dLen dCap l cur t k hu hsz hg hk hfit
  unfold Oper.wp execOp
  simp only [ho, resolve, invoke, builtin, Sem.run_bind, Sem.run_pure, Result.andThen_ok, List.map_toArray, List.map_cons, List.map_nil, hd, hs, hrun]
  exact hK _ _ h

/-- A store of a whole aggregate into a part of a block of the call's own. -/
theorem wpList_store_part {P : Program} {w : World} {ops : Array Oper} {rest : List Oper} {o : Oper} {a : Act} {Q : Exit → Act → World → Prop} (hgd : Region.wanted o (yielded ops a.tmps) = true) (ty : TypeId) (x v : Operand) (ho : o.op = .store ty x v) (hdst : o.dst = none)
    {size g off : Nat} (hsz : (P.info? ty).map (·.size) = some size) {e : TypeId} {cur : List Value} (hb : Blk w g e cur) (hcur : off + size ≤ cur.length) (hx : a.eval x = .pointer (some ⟨g, off, none⟩)) {cs : List Value} (hv : (a.eval v).cells = cs.toArray) (hl : cs.length = size)
    (h1 : ∀ u ∈ cs, u.oneCell' = true) (h : wpList P ops Q rest a (w.setRow g (splice cur off cs).toArray)) : wpList P ops Q (o :: rest) a w := by
  refine BigFrame.wpList_want hgd fun K hK => ?_
  obtain ⟨i, hi, hs⟩ := Option.map_eq_some_iff.1 hsz
  have hst := run_storeCells_at P g off e cs 0 cur.toArray w hb (by simp; omega) h1
  simp only [Nat.add_zero, List.append_assoc] at hst
  have hrun : (Instr.storeAt ty (.pointer (some ⟨g, off, none⟩)) (a.eval v)).run P w = .ok () (w.setRow g (splice cur off cs).toArray) := by
    simp [Instr.storeAt, Instr.sureAddr, storeVar, sizeOf, typeInfo, hi, hs, hl, hv, hst, splice]
  unfold Oper.wp execOp
  simp only [ho, hx, Sem.run_bind, hrun, Result.andThen_ok, Sem.run_pure]
  have hp : a.put o.dst undef = a := by rw [hdst]; rfl
  show K (a.put o.dst undef) _
  rw [hp]
  exact hK _ _ h

/-- Slicing an array behind its address, not at its end. -/
theorem run_slice_arr {P : Program} {w : World} {t e : TypeId} {n size : Nat} (ht : P.underlying t = some (.array n e)) (hsz : (P.info? e).map (·.size) = some size)
    (g off : Nat) (lo hi : Option Int) (l u : Nat) (hl : (lo.getD 0) = (l : Int)) (hu : (hi.getD n) = (u : Int)) (h1 : l ≤ u) (h2 : u ≤ n) (h3 : l < n) :
    (Instr.sliceAt t (.pointer (some ⟨g, off, none⟩)) (lo.map (Value.int .i64)) (hi.map (Value.int .i64)) none).run P w = .ok (.slice (some ⟨g, off + l * size, none⟩) (u - l) (n - l)) w := by
  obtain ⟨i, hi', hs⟩ := Option.map_eq_some_iff.1 hsz
  have hne : ¬ n = l := by omega
  have k1 : ¬ (u < l) := by omega
  have hadd : (⟨g, off, none⟩ : Addr).add (l * size) = ⟨g, off + l * size, none⟩ := by unfold Addr.add; split <;> simp_all
  have e1 : ∀ x : Nat, ((0 : Int) ≤ (x : Int)) = True := fun x => by simp
  cases lo <;> cases hi <;> simp only [Option.getD_some, Option.getD_none] at hl hu <;>
    (try (have hl' := hl; have : l = 0 := by omega)) <;> (try (have hu' : u = n := by omega)) <;> (try subst hl) <;> (try subst hu) <;> (try subst this) <;> (try subst hu') <;>
    simp [Instr.sliceAt, Instr.sureAddr, Instr.sliceBounds, Instr.sliceBound, run_underlying ht, sizeOf, typeInfo, hi', hs, asIntOf, h1, h2, hne, hadd] <;> (first | rfl | (intro hc; omega))

theorem wpList_slice_arr {P : Program} {w : World} {ops : Array Oper} {rest : List Oper} {o : Oper} {a : Act} {Q : Exit → Act → World → Prop} (hgd : Region.wanted o (yielded ops a.tmps) = true) (t : TypeId) (x : Operand) (lo hi : Option Operand) (ho : o.op = .slice t x lo hi none)
    {e : TypeId} {n size : Nat} (ht : P.underlying t = some (.array n e)) (hsz : (P.info? e).map (·.size) = some size) {g off : Nat} (hx : a.eval x = .pointer (some ⟨g, off, none⟩))
    (lo' hi' : Option Int) (hlo : lo.map a.eval = lo'.map (Value.int .i64)) (hhi : hi.map a.eval = hi'.map (Value.int .i64)) (l u : Nat) (hl : (lo'.getD 0) = (l : Int)) (hu : (hi'.getD n) = (u : Int)) (h1 : l ≤ u) (h2 : u ≤ n) (h3 : l < n)
    (h : wpList P ops Q rest (a.put o.dst (.slice (some ⟨g, off + l * size, none⟩) (u - l) (n - l))) w) : wpList P ops Q (o :: rest) a w := by
  refine BigFrame.wpList_want hgd fun K hK => ?_
  have hr := run_slice_arr (P := P) (w := w) ht hsz g off lo' hi' l u hl hu h1 h2 h3
  rw [← hlo, ← hhi] at hr
  unfold Oper.wp execOp
  simp only [ho, hx, Option.map_none, Sem.run_bind, hr, Result.andThen_ok, Sem.run_pure]
  exact hK _ _ h

/-- A call of a Go function, as one operation. -/
theorem oper_call {P : Program} {w : World} {ops : Array Oper} {o : Oper} {a : Act} {K : Act → World → Prop} {Q : Exit → Act → World → Prop} (hgd : Region.wanted o (yielded ops a.tmps) = true) (f : FuncId) (xs : List Operand) (ts : Array TypeId)
    (ho : o.op = .call { callee := .value (.func f), args := xs.toArray, argTypes := ts }) {vs : List Value} (hvs : xs.map a.eval = vs) {fn : Func} (hfn : P.funcs[f]? = some fn) (hn : (fn.name == "runtime.NumGoroutine") = false) (hbd : fn.body.isNone = false) {R : Ending → World → Prop} (hc : Calls P f vs.toArray w R)
    (h : ∀ e w', R e w' → ∃ v, e = .returned v ∧ K (a.put o.dst v) w') : if Region.wanted o (yielded ops a.tmps) = true then Oper.wp P o a w K Q else K (a.put o.dst undef) w := by
  rw [if_pos hgd]
  have hr : (execOp a.eval o).run P w = .ok (.enter f vs.toArray) w := by
    unfold execOp
    simp [ho, resolve, invoke, hvs, Act.eval, Deferred.ofValue, callFunc, hfn]
    rw [if_neg (by simpa using hn), if_neg (by intro h; rw [h] at hbd; cases hbd)]
  unfold Oper.wp
  rw [hr, Oper.upon_enter]
  exact hc.mono fun e w' he => by
    obtain ⟨v, rfl, hk⟩ := h e w' he
    exact hk

theorem wpList_call {P : Program} {w : World} {ops : Array Oper} {rest : List Oper} {o : Oper} {a : Act} {Q : Exit → Act → World → Prop} (hgd : Region.wanted o (yielded ops a.tmps) = true) (f : FuncId) (xs : List Operand) (ts : Array TypeId)
    (ho : o.op = .call { callee := .value (.func f), args := xs.toArray, argTypes := ts }) {vs : List Value} (hvs : xs.map a.eval = vs) {fn : Func} (hfn : P.funcs[f]? = some fn) (hn : (fn.name == "runtime.NumGoroutine") = false) (hbd : fn.body.isNone = false) {R : Ending → World → Prop} (hc : Calls P f vs.toArray w R)
    (h : ∀ e w', R e w' → ∃ v, e = .returned v ∧ wpList P ops Q rest (a.put o.dst v) w') : wpList P ops Q (o :: rest) a w := by
  refine BigFrame.wpList_want hgd fun K hK => ?_
  have hr := oper_call (K := K) (Q := Q) hgd f xs ts ho hvs hfn hn hbd hc (fun e w' he => by obtain ⟨v, rfl, hk⟩ := h e w' he; exact ⟨v, rfl, hK _ _ hk⟩)
  rwa [if_pos hgd] at hr

/-- A load of a whole aggregate, as one operation. -/
theorem oper_load_agg {P : Program} {w : World} {ops : Array Oper} {o : Oper} {a : Act} {K : Act → World → Prop} {Q : Exit → Act → World → Prop} (hgd : Region.wanted o (yielded ops a.tmps) = true) (ty : TypeId) (x : Operand) (ho : o.op = .load ty x)
    {size : Nat} (hT : AggT P ty size) {ad : Addr} (hx : a.eval x = .pointer (some ad)) {cs : List Value} (hl : cs.length = size)
    (hc : ∀ j u, cs[j]? = some u → w.cell? (ad.add j) = some u) (h : K (a.put o.dst (.agg cs.toArray)) w) : if Region.wanted o (yielded ops a.tmps) = true then Oper.wp P o a w K Q else K (a.put o.dst undef) w := by
  rw [if_pos hgd]
  unfold Oper.wp execOp
  simp only [ho, hx, Instr.loadAt, Instr.sureAddr, Sem.run_bind, Sem.run_pure, Result.andThen_ok, run_loadVar_agg hT ad cs hl hc]
  exact h

/-- A store of a whole aggregate into a part of a block, as one operation. -/
theorem oper_store_part {P : Program} {w : World} {ops : Array Oper} {o : Oper} {a : Act} {K : Act → World → Prop} {Q : Exit → Act → World → Prop} (hgd : Region.wanted o (yielded ops a.tmps) = true) (ty : TypeId) (x v : Operand) (ho : o.op = .store ty x v) (hdst : o.dst = none)
    {size g off : Nat} (hsz : (P.info? ty).map (·.size) = some size) {e : TypeId} {cur : List Value} (hb : Blk w g e cur) (hcur : off + size ≤ cur.length) (hx : a.eval x = .pointer (some ⟨g, off, none⟩)) {cs : List Value} (hv : (a.eval v).cells = cs.toArray) (hl : cs.length = size)
    (h1 : ∀ u ∈ cs, u.oneCell' = true) (h : K a (w.setRow g (splice cur off cs).toArray)) : if Region.wanted o (yielded ops a.tmps) = true then Oper.wp P o a w K Q else K (a.put o.dst undef) w := by
  rw [if_pos hgd]
  obtain ⟨i, hi, hs⟩ := Option.map_eq_some_iff.1 hsz
  have hst := run_storeCells_at P g off e cs 0 cur.toArray w hb (by simp; omega) h1
  simp only [Nat.add_zero, List.append_assoc] at hst
  have hrun : (Instr.storeAt ty (.pointer (some ⟨g, off, none⟩)) (a.eval v)).run P w = .ok () (w.setRow g (splice cur off cs).toArray) := by
    simp [Instr.storeAt, Instr.sureAddr, storeVar, sizeOf, typeInfo, hi, hs, hl, hv, hst, splice]
  unfold Oper.wp execOp
  simp only [ho, hx, Sem.run_bind, hrun, Result.andThen_ok, Sem.run_pure]
  have hp : a.put o.dst undef = a := by rw [hdst]; rfl
  show K (a.put o.dst undef) _
  rw [hp]
  exact h

/-- An operation that yields a value and changes nothing. -/
theorem oper_val {P : Program} {w : World} {ops : Array Oper} {o : Oper} {a : Act} {K : Act → World → Prop} {Q : Exit → Act → World → Prop} (hgd : Region.wanted o (yielded ops a.tmps) = true) {v : Value} (hrun : (execOp a.eval o).run P w = .ok (.value v) w)
    (h : K (a.put o.dst v) w) : if Region.wanted o (yielded ops a.tmps) = true then Oper.wp P o a w K Q else K (a.put o.dst undef) w := by
  rw [if_pos hgd]
  unfold Oper.wp
  rw [hrun]; exact h

/-- A slice literal of one cell. -/
theorem oper_lit1 {P : Program} {w : World} {ops : Array Oper} {o : Oper} {a : Act} {K : Act → World → Prop} {Q : Exit → Act → World → Prop} (hgd : Region.wanted o (yielded ops a.tmps) = true) (t : TypeId) (x : Operand) (ho : o.op = .buildSlice t 1 #[(0, x)])
    {e : TypeId} {z : Value} {bytes : Nat} (hT : SlT P t e z 1 bytes) {v : Value} (hx : (a.eval x).cells = #[v])
    (h : K (a.put o.dst (.slice (some ⟨w.heap.size, 0, none⟩) 1 1)) (w.alloc (.cells #[v] e))) : if Region.wanted o (yielded ops a.tmps) = true then Oper.wp P o a w K Q else K (a.put o.dst undef) w := by
  rw [if_pos hgd]
  obtain ⟨i, hi, hz, hsz, hby⟩ := info_parts hT.info
  have hrun : (Instr.buildSlice t 1 #[(0, a.eval x)]).run P w = .ok (.slice (some ⟨w.heap.size, 0, none⟩) 1 1) (w.alloc (.cells #[v] e)) := by
    simp [Instr.buildSlice, run_underlying hT.ht, sizeOf, typeInfo, zeroValue, hi, hz, hsz, Instr.fill, hx, newRow, hT.hz]
    rw [show Array.range 1 = #[0] from rfl]; simp
  unfold Oper.wp execOp
  simp only [ho, List.map_toArray, List.map_cons, List.map_nil, Sem.run_bind, hrun, Result.andThen_ok, Sem.run_pure]
  exact h

/-- A slice literal of two cells. -/
theorem oper_lit2 {P : Program} {w : World} {ops : Array Oper} {o : Oper} {a : Act} {K : Act → World → Prop} {Q : Exit → Act → World → Prop} (hgd : Region.wanted o (yielded ops a.tmps) = true) (t : TypeId) (x y : Operand) (ho : o.op = .buildSlice t 2 #[(0, x), (1, y)])
    {e : TypeId} {z : Value} {bytes : Nat} (hT : SlT P t e z 1 bytes) {v u : Value} (hx : (a.eval x).cells = #[v]) (hy : (a.eval y).cells = #[u])
    (h : K (a.put o.dst (.slice (some ⟨w.heap.size, 0, none⟩) 2 2)) (w.alloc (.cells #[v, u] e))) : if Region.wanted o (yielded ops a.tmps) = true then Oper.wp P o a w K Q else K (a.put o.dst undef) w := by
  rw [if_pos hgd]
  obtain ⟨i, hi, hz, hsz, hby⟩ := info_parts hT.info
  have hrun : (Instr.buildSlice t 2 #[(0, a.eval x), (1, a.eval y)]).run P w = .ok (.slice (some ⟨w.heap.size, 0, none⟩) 2 2) (w.alloc (.cells #[v, u] e)) := by
    simp [Instr.buildSlice, run_underlying hT.ht, sizeOf, typeInfo, zeroValue, hi, hz, hsz, Instr.fill, hx, hy, newRow, hT.hz]
    rw [show Array.range 2 = #[0, 1] from rfl]; simp
  unfold Oper.wp execOp
  simp only [ho, List.map_toArray, List.map_cons, List.map_nil, Sem.run_bind, hrun, Result.andThen_ok, Sem.run_pure]
  exact h

/-- append, as one operation. -/
theorem oper_append {P : Program} {w : World} {ops : Array Oper} {o : Oper} {a : Act} {K : Act → World → Prop} {Q : Exit → Act → World → Prop} (hgd : Region.wanted o (yielded ops a.tmps) = true) (s x : Operand) (t tx : TypeId)
    (ho : o.op = .call { callee := .builtin .append, args := #[s, x], argTypes := #[t, tx] })
    {e : TypeId} {z : Value} {size bytes : Nat} (hT : SlT P t e z size bytes) (htx : P.underlying tx = some (.slice e) ∨ P.underlying tx = some .string)
    {base : Nat} {a0 : Option Addr} {n cap : Nat} {xs : List Value} (hs : a.eval s = .slice a0 n cap) (hown : w.ownsRow base e size (.slice a0 n cap) n xs)
    {xv : Value} {m : Nat} {news : List Value} (hx : a.eval x = xv) (hsrc : Src P w xv m size news)
    (hbytes : (n + m) * bytes ≤ 140737488355328) (h63 : n + m ≤ maxLen) (hbase : base ≤ w.heap.size)
    (h : ∀ a' cap' w', w'.ownsRow base e size (.slice a' (n + m) cap') (n + m) (xs ++ news) → w.grownBy w' (Value.slice a0 n cap).ownBlock → K (a.put o.dst (.slice a' (n + m) cap')) w') :
    if Region.wanted o (yielded ops a.tmps) = true then Oper.wp P o a w K Q else K (a.put o.dst undef) w := by
  rw [if_pos hgd]
  obtain ⟨i, hi, hz, hsz, hby⟩ := info_parts hT.info
  obtain ⟨a', cap', w', hr, h2, h3, _⟩ := run_append_src (P := P) w base t tx o.type e i z size bytes hT.ht htx hi hz hsz hby hT.hz a0 n cap xs hown xv m news hsrc h63 hbytes hbase
  unfold Oper.wp execOp
  simp only [ho, resolve, invoke, builtin, Sem.run_bind, Sem.run_pure, Result.andThen_ok, List.map_toArray, List.map_cons, List.map_nil, hs, hx, hr]
  exact h a' cap' w' h2 h3

/-- A conversion. -/
theorem oper_convert {P : Program} {w : World} {ops : Array Oper} {o : Oper} {a : Act} {K : Act → World → Prop} {Q : Exit → Act → World → Prop} (hgd : Region.wanted o (yielded ops a.tmps) = true) (s d : TypeId) (x : Operand) (ho : o.op = .convert s d x)
    {xv v : Value} (hx : a.eval x = xv) (hr : (convert s d xv).run P w = .ok v w) (h : K (a.put o.dst v) w) : if Region.wanted o (yielded ops a.tmps) = true then Oper.wp P o a w K Q else K (a.put o.dst undef) w := by
  refine oper_val hgd (v := v) ?_ h
  unfold execOp
  simp only [ho, hx, Sem.run_bind, hr, Result.andThen_ok, Sem.run_pure]

/-- A byte of a string. -/
theorem run_index_str {P : Program} {t : TypeId} (ht : P.underlying t = some .string) (l : List UInt8) (k : IntKind) (i : Nat) (hi : i < l.length) (w : World) :
    (Instr.index t (.string ⟨l.toArray⟩) (.int k (i : Int))).run P w = .ok (.int .u8 ((l.getD i 0).toNat : Int)) w := by
  have h : (⟨l.toArray⟩ : ByteArray)[i]? = some (l.getD i 0) := by
    show (if h : i < (⟨l.toArray⟩ : ByteArray).size then some ((⟨l.toArray⟩ : ByteArray)[i]) else none) = _
    have h2 : i < (⟨l.toArray⟩ : ByteArray).size := by rw [str_size]; exact hi
    rw [dif_pos h2]
    congr 1
    show (l.toArray)[i]'(by simpa using hi) = _
    simp [List.getD, List.getElem?_eq_getElem hi]
  simp [Instr.index, run_underlying ht, asIntOf, h]

theorem wpList_val {P : Program} {w : World} {ops : Array Oper} {rest : List Oper} {o : Oper} {a : Act} {Q : Exit → Act → World → Prop} (hgd : Region.wanted o (yielded ops a.tmps) = true) {v : Value} (hrun : (execOp a.eval o).run P w = .ok (.value v) w)
    (h : wpList P ops Q rest (a.put o.dst v) w) : wpList P ops Q (o :: rest) a w := by
  refine BigFrame.wpList_want hgd fun K hK => ?_
  have hr := oper_val (K := K) (Q := Q) hgd hrun (hK _ _ h)
  rwa [if_pos hgd] at hr

/-- '==' of two arrays of bytes, as an operation. -/
theorem run_eql_bytes {P : Program} {t e : TypeId} {n : Nat} (ht : P.underlying t = some (.array n e)) (he : P.underlying e = some (.int .u8)) (hsz : (P.info? e).map (·.size) = some 1) (hg : P.eqGuardType P.depth t = false)
    {xs ys : List UInt8} (hx : xs.length = n) (hy : ys.length = n) {a : Act} {o : Oper} (x y : Operand) (yt : TypeId) (ho : o.op = .binOp .eql t x y yt) (hxv : a.eval x = .agg (byteVals xs).toArray) (hyv : a.eval y = .agg (byteVals ys).toArray) (w : World) :
    (execOp a.eval o).run P w = .ok (.value (.bool (xs == ys))) w := by
  have hs : ∀ w, (sizeOf e).run P w = .ok 1 w := by
    obtain ⟨i, hi, hi1⟩ := Option.map_eq_some_iff.1 hsz
    intro w; simp [sizeOf, typeInfo, hi, hi1]
  unfold execOp
  simp only [ho, hxv, hyv, Sem.run_bind, run_eqGuard_no hg, Result.andThen_ok]
  rw [run_eql_struct, byteVals_cell, byteVals_cell, run_equalIn_bytes w 9998 t e n ht he hs xs ys hx hy]
  simp

/-- '[]byte(s)': what it returns can be read; what was there is kept. -/
theorem run_bytes_rd {P : Program} {w : World} {src dst e : TypeId} (hs : P.underlying src = some .string) (hd : P.underlying dst = some (.slice e)) (he : P.underlying e = some (.int .u8)) (l : List UInt8) (hl : l.length ≤ maxLen) :
    ∃ a cap w', (convert src dst (.string ⟨l.toArray⟩)).run P w = .ok (.slice a l.length cap) w' ∧ Rd w' a l.length cap 1 (byteVals l) ∧ Below w.heap.size w w' := by
  have hz : (⟨l.toArray⟩ : ByteArray).size = l.length := str_size l
  have h := Lib.run_convert_string_bytes (P := P) w src dst e ⟨l.toArray⟩ hs hd he
  rw [hz] at h
  refine ⟨_, _, _, h, ⟨by rw [byteVals_length, Nat.mul_one], grownCap_ge _ _ _ _, grownCap_le_maxLen _ _ _ _ hl, fun h => (by cases h), fun ad ha j u hu => ?_⟩, ⟨rfl, rfl, rfl, by rw [Lib.bytesWorld_size]; omega, fun k hk => Lib.bytesWorld_at_old _ _ _ _ hk⟩⟩
  simp only [Option.some.injEq] at ha; subst ha
  have hj : j < l.length := by have := (List.getElem?_eq_some_iff.1 hu).1; rwa [byteVals_length] at this
  have hadd : (⟨w.heap.size, 0, none⟩ : Addr).add j = ⟨w.heap.size, j, none⟩ := by unfold Addr.add; split <;> simp_all
  rw [hadd, Lib.bytesWorld_cell _ _ _ _ (by rw [hz]; exact hj), str_to]
  rw [← hu]; simp [byteVals, List.getD, List.getElem?_eq_getElem hj]

theorem oper_str_bytes {P : Program} {w : World} {ops : Array Oper} {o : Oper} {a : Act} {K : Act → World → Prop} {Q : Exit → Act → World → Prop} (hgd : Region.wanted o (yielded ops a.tmps) = true) (s d : TypeId) (x : Operand) (ho : o.op = .convert s d x)
    {e : TypeId} (hs : P.underlying s = some .string) (hd : P.underlying d = some (.slice e)) (he : P.underlying e = some (.int .u8)) {l : List UInt8} (hl : l.length ≤ maxLen) (hx : a.eval x = .string ⟨l.toArray⟩)
    (h : ∀ a' cap w', Rd w' a' l.length cap 1 (byteVals l) → Below w.heap.size w w' → K (a.put o.dst (.slice a' l.length cap)) w') : if Region.wanted o (yielded ops a.tmps) = true then Oper.wp P o a w K Q else K (a.put o.dst undef) w := by
  rw [if_pos hgd]
  obtain ⟨a', cap, w', hr, h1, h2⟩ := run_bytes_rd (P := P) (w := w) hs hd he l hl
  unfold Oper.wp execOp
  simp only [ho, hx, Sem.run_bind, hr, Result.andThen_ok, Sem.run_pure]
  exact h _ _ _ h1 h2

theorem wpList_str_bytes {P : Program} {w : World} {ops : Array Oper} {rest : List Oper} {o : Oper} {a : Act} {Q : Exit → Act → World → Prop} (hgd : Region.wanted o (yielded ops a.tmps) = true) (s d : TypeId) (x : Operand) (ho : o.op = .convert s d x)
    {e : TypeId} (hs : P.underlying s = some .string) (hd : P.underlying d = some (.slice e)) (he : P.underlying e = some (.int .u8)) {l : List UInt8} (hl : l.length ≤ maxLen) (hx : a.eval x = .string ⟨l.toArray⟩)
    (h : ∀ a' cap w', Rd w' a' l.length cap 1 (byteVals l) → Below w.heap.size w w' → wpList P ops Q rest (a.put o.dst (.slice a' l.length cap)) w') : wpList P ops Q (o :: rest) a w := by
  refine BigFrame.wpList_want hgd fun K hK => ?_
  have hr := oper_str_bytes (K := K) (Q := Q) hgd s d x ho hs hd he hl hx (fun a' cap w' h1 h2 => hK _ _ (h a' cap w' h1 h2))
  rwa [if_pos hgd] at hr
end Go.Proofs.Ytgimkipekoabbaa
