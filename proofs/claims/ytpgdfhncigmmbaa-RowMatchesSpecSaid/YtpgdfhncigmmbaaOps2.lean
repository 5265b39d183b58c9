/-
  Further single operations: loads of one cell, slice literals without elements and of one aggregate. No condition.
-/
import Derived.Test.YtpgdfhncigmmbaaWAdds
namespace Go.Proofs.Ytpgdfhncigmmbaa
open Go.RowKit

theorem oper_load1 {P : Program} {w : World} {ops : Array Oper} {o : Oper} {a : Act} {K : Act → World → Prop} {Q : Exit → Act → World → Prop} (hgd : Region.wanted o (yielded ops a.tmps) = true) (ty : TypeId) (x : Operand) (ho : o.op = .load ty x)
    (hT : (P.underlying ty).map (fun d => match d with | .struct _ | .array _ _ => true | _ => false) = some false) {ad : Addr} (hx : a.eval x = .pointer (some ad)) {v : Value} (hc : w.cell? ad = some v) (h : K (a.put o.dst v) w) : if Region.wanted o (yielded ops a.tmps) = true then Oper.wp P o a w K Q else K (a.put o.dst undef) w := by
  rw [if_pos hgd]
  obtain ⟨d, hd, hd2⟩ := Option.map_eq_some_iff.1 hT
  have ha : (Go.isAgg ty).run P w = .ok false w := by
    unfold Go.isAgg
    rw [Sem.run_bind, run_underlying hd w]
    cases d <;> simp_all
  unfold Oper.wp execOp
  simp [ho, hx, Instr.loadAt, Instr.sureAddr, loadVar, ha, hc]
  exact h
theorem oper_lit0 {P : Program} {w : World} {ops : Array Oper} {o : Oper} {a : Act} {K : Act → World → Prop} {Q : Exit → Act → World → Prop} (hgd : Region.wanted o (yielded ops a.tmps) = true) (t : TypeId) (ho : o.op = .buildSlice t 0 #[])
    {e : TypeId} {z : Value} {size bytes : Nat} (hT : SlT P t e z size bytes)
    (h : K (a.put o.dst (.slice (some ⟨w.heap.size, 0, none⟩) 0 0)) (w.alloc (.cells #[] e))) : if Region.wanted o (yielded ops a.tmps) = true then Oper.wp P o a w K Q else K (a.put o.dst undef) w := by
  rw [if_pos hgd]
  obtain ⟨i, hi, hz, hsz, hby⟩ := info_parts hT.info
  have hrun : (Instr.buildSlice t 0 #[]).run P w = .ok (.slice (some ⟨w.heap.size, 0, none⟩) 0 0) (w.alloc (.cells #[] e)) := by
    simp [Instr.buildSlice, run_underlying hT.ht, sizeOf, typeInfo, hi, Instr.fill, newRow]
    rw [show Array.range 0 = #[] from by simp]; simp
  unfold Oper.wp execOp
  simp only [ho, List.map_toArray, List.map_nil, Sem.run_bind, hrun, Result.andThen_ok, Sem.run_pure]
  exact h
theorem oper_litA {P : Program} {w : World} {ops : Array Oper} {o : Oper} {a : Act} {K : Act → World → Prop} {Q : Exit → Act → World → Prop} (hgd : Region.wanted o (yielded ops a.tmps) = true) (t : TypeId) (x : Operand) (ho : o.op = .buildSlice t 1 #[(0, x)])
    {e : TypeId} {z : Value} {size bytes : Nat} (hT : SlT P t e z size bytes) {cs : List Value} (hx : (a.eval x).cells = cs.toArray) (hl : cs.length = size) (hs : size ≤ 1000000) (hs0 : 0 < size)
    (h : K (a.put o.dst (.slice (some ⟨w.heap.size, 0, none⟩) 1 1)) (w.alloc (.cells cs.toArray e))) : if Region.wanted o (yielded ops a.tmps) = true then Oper.wp P o a w K Q else K (a.put o.dst undef) w := by
  rw [if_pos hgd]
  obtain ⟨i, hi, hz, hsz, hby⟩ := info_parts hT.info
  have hfa := fold_all cs ((Array.range size).map (z.cells[· % z.cells.size]!)) (by simp [hl])
  have h0 : ¬ (16777216 < size) := by omega
  have h1 : ¬ size = 0 := by omega
  have hrun : (Instr.buildSlice t 1 #[(0, a.eval x)]).run P w = .ok (.slice (some ⟨w.heap.size, 0, none⟩) 1 1) (w.alloc (.cells cs.toArray e)) := by
    simp [Instr.buildSlice, run_underlying hT.ht, sizeOf, typeInfo, zeroValue, hi, hz, hsz, h0, h1, Instr.fill, hx, hl, newRow, hfa]
  unfold Oper.wp execOp
  simp only [ho, List.map_toArray, List.map_cons, List.map_nil, Sem.run_bind, hrun, Result.andThen_ok, Sem.run_pure]
  exact h
/-- append of a slice to a new slice without elements: what it makes is new. -/
theorem oper_append_new {P : Program} {w : World} {ops : Array Oper} {o : Oper} {a : Act} {K : Act → World → Prop} {Q : Exit → Act → World → Prop} (hgd : Region.wanted o (yielded ops a.tmps) = true) (s x : Operand) (t tx : TypeId)
    (ho : o.op = .call { callee := .builtin .append, args := #[s, x], argTypes := #[t, tx] })
    {e : TypeId} {z : Value} {size bytes : Nat} (hT : SlT P t e z size bytes) (htx : P.underlying tx = some (.slice e) ∨ P.underlying tx = some .string)
    {base g : Nat} (hs : a.eval s = .slice (some ⟨g, 0, none⟩) 0 0) (hb : Blk w g e []) (hbg : base ≤ g)
    {xv : Value} {m : Nat} {news : List Value} (hx : a.eval x = xv) (hsrc : Src P w xv m size news)
    (hbytes : m * bytes ≤ 140737488355328) (h63 : m ≤ maxLen)
    (h : ∀ a' cap' w', w'.ownsRow base e size (.slice a' m cap') m news → Below w.heap.size w w' → K (a.put o.dst (.slice a' m cap')) w') :
    if Region.wanted o (yielded ops a.tmps) = true then Oper.wp P o a w K Q else K (a.put o.dst undef) w := by
  have hown : w.ownsRow base e size (.slice (some ⟨g, 0, none⟩) 0 0) 0 [] := own_new (size := size) (n := 0) hb hbg (by simp) (by decide)
  have hlt := hb.lt
  by_cases hm : m = 0
  · subst hm
    have hn : news = [] := List.eq_nil_of_length_eq_zero (by simpa using hsrc.len)
    subst hn
    rw [if_pos hgd]
    obtain ⟨i, hi, hz, hsz, hby⟩ := info_parts hT.info
    have hlo := hsrc.lenOf
    have hce := hsrc.cells
    have hst : ∀ ad, (storeCells ad []).run P w = .ok () w := fun ad => by simp [storeCells]
    have hr : (Builtin.append_ #[t, tx] o.type #[.slice (some ⟨g, 0, none⟩) 0 0, xv]).run P w = .ok (.slice (some ⟨g, 0, none⟩) 0 0) w := by
      rcases htx with htx | htx <;> simp [Builtin.append_, run_underlying hT.ht, run_underlying htx, sizeOf, typeInfo, hi, hsz, hlo, hce, hst]
    unfold Oper.wp execOp
    simp only [ho, resolve, invoke, builtin, Sem.run_bind, Sem.run_pure, Result.andThen_ok, List.map_toArray, List.map_cons, List.map_nil, hs, hx, hr]
    exact h _ _ _ hown (Below.refl _ _)
  · rw [if_pos hgd]
    obtain ⟨i, hi, hz, hsz, hby⟩ := info_parts hT.info
    subst hsz
    subst hby
    have hlo := hsrc.lenOf
    have hcd := hsrc.cellsDrew
    have hl := hsrc.len
    have h48 : ¬ (281474976710656 < Builtin.nextslicecap m 0 * i.bytes) := by
      have := growslice_fits (need := m) (old := 0) (bytes := i.bytes) (by omega) hbytes; omega
    have h63' : ¬ (9223372036854775807 < (m : Int)) := by have := h63; unfold maxLen at this; omega
    have hge := grownCap_ge w m 0 e
    have hcm : grownCap w m 0 e ≤ maxLen := grownCap_le_maxLen w m 0 e h63
    have hfo : (Builtin.firstCells i.size 0 (.slice (some ⟨g, 0, none⟩) 0 0)).run P w.drew = .ok #[] w.drew := by
      have := run_firstCells_some (P := P) w.drew i.size 0 ⟨g, 0, none⟩ 0 0 [] (by simp) (by simp)
      simpa using this
    have hr : (Builtin.append_ #[t, tx] o.type #[.slice (some ⟨g, 0, none⟩) 0 0, xv]).run P w = .ok (.slice (some ⟨w.heap.size, 0, none⟩) m (grownCap w m 0 e)) (w.drew.alloc (.cells (news.toArray ++ Builtin.zeroCells z.cells (grownCap w m 0 e - m)) e)) := by
      rcases htx with htx | htx <;>
        simp [Builtin.append_, run_underlying hT.ht, run_underlying htx, sizeOf, typeInfo, zeroValue, hi, hz, hlo, hm, h63', h48, Question.forced, hfo, hcd, newRow, grownCap]
    unfold Oper.wp execOp
    simp only [ho, resolve, invoke, builtin, Sem.run_bind, Sem.run_pure, Result.andThen_ok, List.map_toArray, List.map_cons, List.map_nil, hs, hx, hr]
    refine h _ _ _ ⟨hl, .inr ⟨w.heap.size, _, _, rfl, by omega, heap_alloc_new w.drew _, hge, hcm, ?_, ?_⟩⟩ (((Below.refl _ _).drew).alloc (by simp) _)
    · simp only [Array.size_append, List.size_toArray, size_zeroCells, hT.hz, hl, ← Nat.add_mul]
      congr 1; omega
    · simp only [Array.toList_append]
      rw [← hl]; exact List.take_left
end Go.Proofs.Ytpgdfhncigmmbaa
