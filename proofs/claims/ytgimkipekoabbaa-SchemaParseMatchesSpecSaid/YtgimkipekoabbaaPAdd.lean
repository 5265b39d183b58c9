/-
  Parse's table gets a further column, index, check; single operations that may panic. No condition.
-/
import Derived.Test.YtgimkipekoabbaaPSt
import Derived.Test.YtgimkipekoabbaaOps2
namespace Go.Proofs.Ytgimkipekoabbaa
open Go.RowKit

/-- A call of a Go function that may panic, as one operation. -/
theorem oper_callP {P : Program} {w : World} {ops : Array Oper} {o : Oper} {a : Act} {K : Act → World → Prop} {Q : Exit → Act → World → Prop} (hgd : Region.wanted o (yielded ops a.tmps) = true) (f : FuncId) (xs : List Operand) (ts : Array TypeId)
    (ho : o.op = .call { callee := .value (.func f), args := xs.toArray, argTypes := ts }) {vs : List Value} (hvs : xs.map a.eval = vs) {fn : Func} (hfn : P.funcs[f]? = some fn) (hn : (fn.name == "runtime.NumGoroutine") = false) (hbd : fn.body.isNone = false) {R : Ending → World → Prop} (hc : Calls P f vs.toArray w R)
    (h : ∀ e w', R e w' → (∃ v, e = .returned v ∧ K (a.put o.dst v) w') ∨ ∃ c, e = .panicked c ∧ Q (.panic c) a w') : if Region.wanted o (yielded ops a.tmps) = true then Oper.wp P o a w K Q else K (a.put o.dst undef) w := by
  rw [if_pos hgd]
  have hr : (execOp a.eval o).run P w = .ok (.enter f vs.toArray) w := by
    unfold execOp
    simp [ho, resolve, invoke, hvs, Act.eval, Deferred.ofValue, callFunc, hfn]
    rw [if_neg (by simpa using hn), if_neg (by intro h; rw [h] at hbd; cases hbd)]
  unfold Oper.wp
  rw [hr, Oper.upon_enter]
  exact hc.mono fun e w' he => by
    rcases h e w' he with ⟨v, rfl, hk⟩ | ⟨c, rfl, hk⟩
    · exact hk
    · exact hk
theorem PSt.drew {s : Nat} {w wr : World} {X : TabP} {l : List Int} (h : PSt s w wr X l) : PSt s w wr.drew X l :=
  ⟨h.t, h.e, h.r.keep rfl (fun _ _ => rfl), h.b.drew, ⟨h.o.cols, h.o.ixs, h.o.chks, fun p hp => (h.o.nums p hp).eq (fun _ _ => rfl), h.o.ci, h.o.ch, h.o.ih, h.o.nc, h.o.ni, h.o.nb⟩, h.nh⟩
theorem PSt.turnR {s : Nat} {w wr w3 : World} {X X' : TabP} {l : List Int} (h : PSt s w wr X l) (hk : ∀ k, k < s + 3 → w3.heap[k]? = wr.heap[k]?) (hb : Below s w w3) (ho : TabOwn (s + 3) w3 X') (hnh : ∀ p ∈ X'.ixs, ∀ x b, p.a = some x → X'.ha = some b → x.block ≠ b.block) (ds : Array Value)
    (hcs : ds = [Value.string ⟨X'.name.toArray⟩, .slice X'.ca X'.cols.length X'.cc, .slice X'.ia X'.ixs.length X'.ic, .slice X'.ha X'.chks.length X'.hc].toArray) : PSt s w (w3.setRow s ds) X' l := by
  subst hcs
  refine ⟨(h.t.eq (hk _ (by omega))).row _, (h.e.eq (hk _ (by omega))).rowOther (by omega) _, (h.r.keep (hk _ (by omega)) (fun k hk2 => hk k (by omega))).keep (setRow_other _ _ _ _ (by omega)) (fun k hk2 => setRow_other _ _ _ _ (by omega)), below_setRow hb (Nat.le_refl s) _, ho.setRow (by omega) _, hnh⟩
theorem PSt.grown {s : Nat} {w wr w3 : World} {X : TabP} {l : List Int} (h : PSt s w wr X l) {o : Obj} {a : Option Addr} {n c : Nat} {e size : Nat} {xs : List Value} (hown : wr.ownsRow (s + 3) e size (.slice a n c) n xs) (hg : (wr.alloc o).grownBy w3 (Value.slice a n c).ownBlock) :
    (∀ k, k < s + 3 → w3.heap[k]? = wr.heap[k]?) ∧ Below s w w3 := by
  have hbig := h.big
  have hs := h.b.size
  refine ⟨fun k hk => ?_, ?_⟩
  · rw [hg.block k (by simp; omega) (fun e => by have := (hown.lt k e.symm).1; omega), heap_alloc_old _ _ (by omega)]
  · have h1 : Below s w (wr.alloc o) := h.b.alloc (by omega) o
    have hs2 := h1.size
    exact ⟨hg.os.trans h1.os, hg.tape.trans h1.tape, hg.output.trans h1.output, Nat.le_trans h1.size hg.size, fun k hk => by
      rw [hg.block k (by simp; omega) (fun e => by have := (hown.lt k e.symm).1; omega)]
      exact h1.block k hk⟩
/-- A further check. -/
def TabP.addChk (X : TabP) (a : Option Addr) (c : Nat) (y : Chk) : TabP := ⟨X.name, X.ca, X.cc, X.cols, X.ia, X.ic, X.ixs, a, c, X.chks ++ [y]⟩
theorem TabOwn.addChk {B : Nat} {w w' : World} {X : TabP} {a : Option Addr} {c : Nat} {y : Chk} {us : List Value} (h : TabOwn B w X) (hnh : ∀ p ∈ X.ixs, ∀ x b, p.a = some x → X.ha = some b → x.block ≠ b.block) (hg : w.grownBy w' (Value.slice X.ha X.chks.length X.hc).ownBlock)
    (hown : w'.ownsRow B 42 5 (.slice a (X.chks.length + 1) c) (X.chks.length + 1) (recC Chk.enc X.chks ++ us)) (hnew : ∀ ad, a = some ad → X.ha = some ad ∨ w.heap.size ≤ ad.block) (hu : us = recC Chk.enc [y]) : TabOwn B w' (X.addChk a c y) ∧ ∀ p ∈ X.ixs, ∀ x b, p.a = some x → a = some b → x.block ≠ b.block := by
  subst hu
  have hlt : ∀ {e size n cap : Nat} {a : Option Addr} {xs : List Value}, w.ownsRow B e size (.slice a n cap) n xs → ∀ ad, a = some ad → ad.block < w.heap.size := fun ho ad ha => (ho.lt ad.block (by rw [ha]; rfl)).2
  refine ⟨⟨own_eq h.cols (fun k hk => hg.block k (h.cols.lt k hk).2 (fun e => ?_)), own_eq h.ixs (fun k hk => hg.block k (h.ixs.lt k hk).2 (fun e => ?_)), ?_, fun p hp => (h.nums p hp).grown hg (fun ad ha e => ?_), h.ci, fun x b hx hb => ?_, fun x b hx hb => ?_, h.nc, h.ni, fun p hp x hx => by have := h.nb p hp x hx; have := hg.size; omega⟩, fun p hp x b hx hb => ?_⟩
  · obtain ⟨a1, h1, h2⟩ := ownBlock_eq hk
    obtain ⟨a2, h3, h4⟩ := ownBlock_eq e.symm
    exact h.ch a1 a2 h1 h3 (h2.trans h4.symm)
  · obtain ⟨a1, h1, h2⟩ := ownBlock_eq hk
    obtain ⟨a2, h3, h4⟩ := ownBlock_eq e.symm
    exact h.ih a1 a2 h1 h3 (h2.trans h4.symm)
  · show w'.ownsRow B _ 5 (.slice a (X.chks ++ [y]).length c) (X.chks ++ [y]).length (recC Chk.enc (X.chks ++ [y]))
    rw [List.length_append, recC_append]; exact hown
  · obtain ⟨a2, h1, h2⟩ := ownBlock_eq e; exact hnh p hp ad a2 ha h1 h2.symm
  · rcases hnew b hb with h1 | h1
    · exact h.ch x b hx h1
    · have := hlt h.cols x hx; omega
  · rcases hnew b hb with h1 | h1
    · exact h.ih x b hx h1
    · have := hlt h.ixs x hx; omega
  · rcases hnew b hb with h1 | h1
    · exact hnh p hp x b hx h1
    · have := (h.nb p hp x hx).2; omega
theorem PSt.addCol {s : Nat} {w wr w7 : World} {X : TabP} {l : List Int} (h : PSt s w wr X l) (y : Col) {o : Obj} {a7 : Option Addr} {c7 : Nat} (hg : (wr.alloc o).grownBy w7 (Value.slice X.ca X.cols.length X.cc).ownBlock)
    (hown : w7.ownsRow (s + 3) 50 3 (.slice a7 (X.cols.length + 1) c7) (X.cols.length + 1) (recC Col.enc X.cols ++ recC Col.enc [y])) (hnew : ∀ ad, a7 = some ad → X.ca = some ad ∨ (wr.alloc o).heap.size ≤ ad.block) (ds : Array Value)
    (hcs : ds = #[Value.string ⟨X.name.toArray⟩, .slice a7 (X.cols.length + 1) c7, .slice X.ia X.ixs.length X.ic, .slice X.ha X.chks.length X.hc]) : PSt s w (w7.setRow s ds) (X.addCol a7 c7 y) l := by
  obtain ⟨h1, h2⟩ := h.grown h.o.cols hg
  refine h.turnR h1 h2 ((h.o.step ((Below.refl _ _).alloc (Nat.le_refl _) o)).addCol hg hown hnew rfl) h.nh ds ?_
  rw [hcs, show (X.addCol a7 c7 y).cols.length = X.cols.length + 1 from by show (X.cols ++ [_]).length = _; simp]
  rfl
theorem PSt.addIx {s : Nat} {w wr w7 : World} {X : TabP} {l : List Int} (h : PSt s w wr X l) (y : IxP) {o : Obj} {a7 : Option Addr} {c7 : Nat} (hg : (wr.alloc o).grownBy w7 (Value.slice X.ia X.ixs.length X.ic).ownBlock)
    (hown : w7.ownsRow (s + 3) 55 3 (.slice a7 (X.ixs.length + 1) c7) (X.ixs.length + 1) (recC IxP.enc X.ixs ++ recC IxP.enc [y])) (hnew : ∀ ad, a7 = some ad → X.ia = some ad ∨ (wr.alloc o).heap.size ≤ ad.block)
    (hy : Rd wr y.a y.x.cols.length y.cap 1 (intVals y.x.cols)) (hy2 : ∀ x, y.a = some x → s + 3 ≤ x.block ∧ x.block < wr.heap.size ∧ (∀ b, X.ia = some b → x.block ≠ b.block) ∧ ∀ b, X.ca = some b → x.block ≠ b.block) (hh : X.ha = none) (ds : Array Value)
    (hcs : ds = #[Value.string ⟨X.name.toArray⟩, .slice X.ca X.cols.length X.cc, .slice a7 (X.ixs.length + 1) c7, .slice X.ha X.chks.length X.hc]) : PSt s w (w7.setRow s ds) (X.withIxs a7 c7 (X.ixs ++ [y])) l := by
  obtain ⟨h1, h2⟩ := h.grown h.o.ixs hg
  have hb : Below wr.heap.size wr (wr.alloc o) := (Below.refl _ _).alloc (Nat.le_refl _) o
  refine h.turnR h1 h2 ((h.o.step hb).withIxs hg hown hnew (by rw [recC_append]) (by simp) (fun p hp => ?_)) (fun p _ x b _ hb => ?_) ds ?_
  · rcases List.mem_append.1 hp with hp | hp
    · exact .inl hp
    · rw [List.mem_singleton] at hp
      subst hp
      exact .inr ⟨hy.call0 hb, fun x hx => by have := hy2 x hx; exact ⟨this.1, by simp; omega, this.2.2⟩⟩
  · have hb' : X.ha = some b := hb
    rw [hh] at hb'; cases hb'
  · rw [hcs, show (X.withIxs a7 c7 (X.ixs ++ [y])).ixs.length = X.ixs.length + 1 from by show (X.ixs ++ [_]).length = _; simp]
    rfl
theorem PSt.addIxC {s : Nat} {w wr w7 : World} {X : TabP} {l : List Int} (h : PSt s w wr X l) (y : IxP) {o : Obj} {a7 : Option Addr} {c7 : Nat} (hg : (wr.alloc o).grownBy w7 (Value.slice X.ia X.ixs.length X.ic).ownBlock)
    (hown : w7.ownsRow (s + 3) 55 3 (.slice a7 (X.ixs.length + 1) c7) (X.ixs.length + 1) (recC IxP.enc X.ixs ++ recC IxP.enc [y])) (hnew : ∀ ad, a7 = some ad → X.ia = some ad ∨ (wr.alloc o).heap.size ≤ ad.block)
    (hy : Rd wr y.a y.x.cols.length y.cap 1 (intVals y.x.cols)) (hy2 : ∀ x, y.a = some x → s + 3 ≤ x.block ∧ x.block < wr.heap.size ∧ (∀ b, X.ia = some b → x.block ≠ b.block) ∧ ∀ b, X.ca = some b → x.block ≠ b.block) (hh : X.ha = none) : PSt s w (w7.setCell ⟨s, 2, none⟩ (.slice a7 (X.ixs.length + 1) c7)) (X.withIxs a7 c7 (X.ixs ++ [y])) l := by
  obtain ⟨h1, h2⟩ := h.grown h.o.ixs hg
  have hb : Below wr.heap.size wr (wr.alloc o) := (Below.refl _ _).alloc (Nat.le_refl _) o
  refine h.turn h1 h2 ((h.o.step hb).withIxs hg hown hnew (by rw [recC_append]) (by simp) (fun p hp => ?_)) (fun p _ x b _ hb => ?_) 2 _ ?_
  · rcases List.mem_append.1 hp with hp | hp
    · exact .inl hp
    · rw [List.mem_singleton] at hp
      subst hp
      exact .inr ⟨hy.call0 hb, fun x hx => by have := hy2 x hx; exact ⟨this.1, by simp; omega, this.2.2⟩⟩
  · have hb' : X.ha = some b := hb
    rw [hh] at hb'; cases hb'
  · rw [show (X.withIxs a7 c7 (X.ixs ++ [y])).ixs.length = X.ixs.length + 1 from by show (X.ixs ++ [_]).length = _; simp]
    rfl
theorem PSt.addChk {s : Nat} {w wr w7 : World} {X : TabP} {l : List Int} (h : PSt s w wr X l) (y : Chk) {o : Obj} {a7 : Option Addr} {c7 : Nat} (hg : (wr.alloc o).grownBy w7 (Value.slice X.ha X.chks.length X.hc).ownBlock)
    (hown : w7.ownsRow (s + 3) 42 5 (.slice a7 (X.chks.length + 1) c7) (X.chks.length + 1) (recC Chk.enc X.chks ++ recC Chk.enc [y])) (hnew : ∀ ad, a7 = some ad → X.ha = some ad ∨ (wr.alloc o).heap.size ≤ ad.block) (ds : Array Value)
    (hcs : ds = #[Value.string ⟨X.name.toArray⟩, .slice X.ca X.cols.length X.cc, .slice X.ia X.ixs.length X.ic, .slice a7 (X.chks.length + 1) c7]) : PSt s w (w7.setRow s ds) (X.addChk a7 c7 y) l := by
  obtain ⟨h1, h2⟩ := h.grown h.o.chks hg
  obtain ⟨h3, h4⟩ := (h.o.step ((Below.refl _ _).alloc (Nat.le_refl _) o)).addChk h.nh hg hown hnew rfl
  refine h.turnR h1 h2 h3 h4 ds ?_
  rw [hcs, show (X.addChk a7 c7 y).chks.length = X.chks.length + 1 from by show (X.chks ++ [_]).length = _; simp]
  rfl
set_option maxRecDepth 20000 in
theorem par_bd : Try.f74.body.isNone = false := by kernel_rfl
set_option maxRecDepth 20000 in
theorem par_nmv : (Try.f76.name == "runtime.NumGoroutine") = false := by kernel_rfl
set_option maxRecDepth 20000 in
theorem par_bdv : Try.f76.body.isNone = false := by kernel_rfl
theorem i64_and3 (n : Int) : bits .and .i64 n 3 = n % 4 := by
  have hc : (BitVec.ofInt 64 3).toNat = 2 ^ 2 - 1 := by decide
  have key : (BitVec.ofInt 64 n &&& BitVec.ofInt 64 3).toNat = (n % ((2 ^ 64 : Nat) : Int)).toNat % 2 ^ 2 := by
    rw [BitVec.toNat_and, BitVec.toNat_ofInt, hc, Nat.and_two_pow_sub_one_eq_mod]
  show IntKind.i64.wrap ((BitVec.ofInt 64 n &&& BitVec.ofInt 64 3).toNat : Nat) = n % 4
  rw [key, IntKind.wrap_i64]
  omega
set_option maxRecDepth 20000 in
theorem i64_and4 (n : Int) (h0 : 0 ≤ n) (h1 : n < 256) : bits .and .i64 n 4 = n / 4 % 2 * 4 := by
  obtain ⟨m, rfl⟩ := Int.eq_ofNat_of_zero_le h0
  have key : ∀ m : Fin 256, bits .and .i64 (m.val : Int) 4 = (m.val : Int) / 4 % 2 * 4 := by decide
  exact key ⟨m, by omega⟩
theorem PSt.step {s : Nat} {w wr w' : World} {X : TabP} {l : List Int} (h : PSt s w wr X l) (hb : Below wr.heap.size wr w') : PSt s w w' X l :=
  h.call (h.r.keep (hb.block _ (by have := h.big; omega)) (fun k hk => hb.block k (by have := h.big; omega))) (But.ofBelow hb)
theorem digits_step (c : Int) (n : Nat) : c / ((16 ^ n : Nat) : Int) / 16 = c / ((16 ^ (n + 1) : Nat) : Int) := by
  rw [Nat.pow_succ, Int.natCast_mul, ← Int.ediv_ediv_of_nonneg (by exact Int.natCast_nonneg _)]; rfl
end Go.Proofs.Ytgimkipekoabbaa
