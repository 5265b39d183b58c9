/-
  Laws of the walk for structs and arrays held in memory, and for slices against nil. No condition.
-/
import Derived.Test.YtgimkipekoabbaaMemB
namespace Go.Proofs.Ytgimkipekoabbaa
open Go.RowKit

/-- The type is a struct or an array of 'size' cells. -/
structure AggT (P : Program) (ty : TypeId) (size : Nat) : Prop where
  agg : (P.underlying ty).map (fun d => match d with | .struct _ | .array _ _ => true | _ => false) = some true
  info : (P.info? ty).map (·.size) = some size

theorem AggT.isAgg {P : Program} {ty : TypeId} {size : Nat} (h : AggT P ty size) (w : World) : (Go.isAgg ty).run P w = .ok true w := by
  obtain ⟨d, hu, hd⟩ := Option.map_eq_some_iff.1 h.agg
  unfold Go.isAgg
  rw [Sem.run_bind, run_underlying hu w]
  cases d <;> simp_all

theorem AggT.size {P : Program} {ty : TypeId} {size : Nat} (h : AggT P ty size) (w : World) : (sizeOf ty).run P w = .ok size w := by
  obtain ⟨i, hi, hs⟩ := Option.map_eq_some_iff.1 h.info
  simp [sizeOf, typeInfo, hi, hs]

theorem run_loadVar_agg {P : Program} {w : World} {ty : TypeId} {size : Nat} (hT : AggT P ty size) (ad : Addr) (cs : List Value) (hl : cs.length = size)
    (hc : ∀ j u, cs[j]? = some u → w.cell? (ad.add j) = some u) : (loadVar ty ad).run P w = .ok (.agg cs.toArray) w := by
  have h := run_loadCells_list (P := P) w ad cs hc
  rw [hl] at h
  simp [loadVar, Sem.run_bind, hT.isAgg, hT.size, h]

theorem wpList_load_agg {P : Program} {w : World} {ops : Array Oper} {rest : List Oper} {o : Oper} {a : Act} {Q : Exit → Act → World → Prop} (hgd : Region.wanted o (yielded ops a.tmps) = true) (ty : TypeId) (x : Operand) (ho : o.op = .load ty x)
    {size : Nat} (hT : AggT P ty size) {ad : Addr} (hx : a.eval x = .pointer (some ad)) {cs : List Value} (hl : cs.length = size)
    (hc : ∀ j u, cs[j]? = some u → w.cell? (ad.add j) = some u) (h : wpList P ops Q rest (a.put o.dst (.agg cs.toArray)) w) : wpList P ops Q (o :: rest) a w := by
  refine BigFrame.wpList_want hgd fun K hK => ?_
  unfold Oper.wp execOp
  simp only [ho, hx, Instr.loadAt, Instr.sureAddr, Sem.run_bind, Sem.run_pure, Result.andThen_ok, run_loadVar_agg hT ad cs hl hc]
  exact hK _ _ h

/-- Cells of a block, at an offset. -/
theorem block_cells {w : World} {g : Nat} {cur : Array Value} {e : TypeId} {fr : Nat × Nat} (hg : w.heap[g]? = some (.cells cur e fr)) (off : Nat) (cs : List Value) (hcs : ∀ j, j < cs.length → cur[off + j]? = cs[j]?) :
    ∀ j u, cs[j]? = some u → w.cell? ((⟨g, off, none⟩ : Addr).add j) = some u := by
  intro j u hu
  have hadd : (⟨g, off, none⟩ : Addr).add j = ⟨g, off + j, none⟩ := by unfold Addr.add; split <;> simp_all
  have hj : j < cs.length := (List.getElem?_eq_some_iff.1 hu).1
  rw [hadd, cell_of_row w g (off + j) cur e fr hg, hcs j hj, hu]

/-- A store of a whole aggregate into the block laid last. -/
theorem wpList_store_fresh {P : Program} {w : World} {ops : Array Oper} {rest : List Oper} {o : Oper} {a : Act} {Q : Exit → Act → World → Prop} (hgd : Region.wanted o (yielded ops a.tmps) = true) (ty : TypeId) (x v : Operand) (ho : o.op = .store ty x v) (hdst : o.dst = none)
    {size : Nat} (hsz : (P.info? ty).map (·.size) = some size) {cur : Array Value} {e : TypeId} (hcur : cur.size = size) (hx : a.eval x = .pointer (some ⟨w.heap.size, 0, none⟩)) {cs : List Value} (hv : (a.eval v).cells = cs.toArray) (hl : cs.length = size)
    (h1 : ∀ u ∈ cs, u.oneCell' = true) (h : wpList P ops Q rest a (w.alloc (.cells cs.toArray e))) : wpList P ops Q (o :: rest) a (w.alloc (.cells cur e)) := by
  refine BigFrame.wpList_want hgd fun K hK => ?_
  obtain ⟨i, hi, hs⟩ := Option.map_eq_some_iff.1 hsz
  have hg := heap_alloc_new w (.cells cur e)
  have hst := run_storeCells_at P w.heap.size 0 e cs 0 cur (w.alloc (.cells cur e)) hg (by omega) h1
  have hrow : (w.alloc (.cells cur e)).setRow w.heap.size (cur.toList.take 0 ++ cs ++ cur.toList.drop (0 + cs.length)).toArray = w.alloc (.cells cs.toArray e) := by
    have hd : cur.toList.drop (0 + cs.length) = [] := List.drop_eq_nil_of_le (by rw [Array.length_toList]; omega)
    rw [hd, List.take_zero, List.nil_append, List.append_nil]
    unfold World.setRow World.alloc
    congr 1
    apply Array.ext_getElem?
    intro k
    simp only [Array.getElem?_modify, Array.getElem?_push]
    by_cases hk : k = w.heap.size
    · subst hk; simp
    · rw [if_neg hk, if_neg hk, if_neg (Ne.symm hk)]
  simp only [Nat.add_zero] at hst
  rw [hrow] at hst
  have hrun : (Instr.storeAt ty (.pointer (some ⟨w.heap.size, 0, none⟩)) (a.eval v)).run P (w.alloc (.cells cur e)) = .ok () (w.alloc (.cells cs.toArray e)) := by
    simp [Instr.storeAt, Instr.sureAddr, storeVar, sizeOf, typeInfo, hi, hs, hl, hv, hst]
  unfold Oper.wp execOp
  simp only [ho, hx, Sem.run_bind, hrun, Result.andThen_ok, Sem.run_pure]
  have hp : a.put o.dst undef = a := by rw [hdst]; rfl
  show K (a.put o.dst undef) _
  rw [hp]
  exact hK _ _ h

/-- The address of 's[lo:hi]' under one name, and what can be read there. -/
theorem Rd.subAt {w : World} {a : Option Addr} {n cap : Nat} {xs : List Value} (h : Rd w a n cap 1 xs) (lo hi : Nat) (h1 : lo ≤ hi) (h2 : hi ≤ n) :
    ∃ a', (if cap = lo then a else Option.map (fun x => x.add lo) a) = a' ∧ Rd w a' (hi - lo) (cap - lo) 1 ((xs.drop lo).take (hi - lo)) := by
  have hs := h.sub lo hi cap h1 h2 (Nat.le_trans h2 h.hcap) (Nat.le_refl _)
  simp only [Nat.mul_one] at hs
  exact ⟨_, rfl, hs⟩

/-- Slicing a slice that can be read. -/
theorem wpList_slice_rd {P : Program} {w : World} {ops : Array Oper} {rest : List Oper} {o : Oper} {a : Act} {Q : Exit → Act → World → Prop} (hgd : Region.wanted o (yielded ops a.tmps) = true) (t : TypeId) (x : Operand) (lo hi mx : Option Operand) (ho : o.op = .slice t x lo hi mx)
    {e : TypeId} {z : Value} {size bytes : Nat} (hT : SlT P t e z size bytes) {a0 : Option Addr} {n cap : Nat} {xs : List Value} (hx : a.eval x = .slice a0 n cap) (hrd : Rd w a0 n cap size xs)
    (lo' hi' mx' : Option Int) (hlo : lo.map a.eval = lo'.map (Value.int .i64)) (hhi : hi.map a.eval = hi'.map (Value.int .i64)) (hmx : mx.map a.eval = mx'.map (Value.int .i64)) (l u m : Nat)
    (hl : (lo'.getD 0) = (l : Int)) (hu : (hi'.getD n) = (u : Int)) (hm : (mx'.getD cap) = (m : Int)) (h0 : mx'.isSome = true → hi'.isSome = true) (h1 : l ≤ u) (h2 : u ≤ n) (h3 : u ≤ m) (h4 : m ≤ cap)
    (h : ∀ a', Rd w a' (u - l) (m - l) size ((xs.drop (l * size)).take ((u - l) * size)) → (∀ ad, a' = some ad → ∃ ad0, a0 = some ad0 ∧ ad.block = ad0.block) → wpList P ops Q rest (a.put o.dst (.slice a' (u - l) (m - l))) w) : wpList P ops Q (o :: rest) a w := by
  refine BigFrame.wpList_want hgd fun K hK => ?_
  obtain ⟨a', hr, hr1, hr2⟩ := run_slice_rd (P := P) hT hrd lo' hi' mx' l u m hl hu hm h0 h1 h2 h3 h4
  rw [← hlo, ← hhi, ← hmx] at hr
  unfold Oper.wp execOp
  simp only [ho, hx, Sem.run_bind, hr, Result.andThen_ok, Sem.run_pure]
  exact hK _ _ (h a' hr1 hr2)

end Go.Proofs.Ytgimkipekoabbaa
