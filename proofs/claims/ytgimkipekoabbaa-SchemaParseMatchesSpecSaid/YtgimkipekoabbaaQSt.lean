/-
  What the reference's guess keeps. No condition.
-/
import Derived.Test.YtgimkipekoabbaaWGv
namespace Go.Proofs.Ytgimkipekoabbaa
open Go.RowKit

theorem i64_quo (m d : Int) (h0 : 0 ≤ m) (h1 : m < 9223372036854775808) (hd : 0 < d) : IntKind.i64.wrap (m.tdiv d) = m / d := by
  rw [Int.tdiv_eq_ediv_of_nonneg h0, IntKind.wrap_i64]
  have h2 := Int.ediv_nonneg h0 (Int.le_of_lt hd)
  have h3 := Int.ediv_le_self d h0
  omega
theorem i64_rem (m d : Int) (h0 : 0 ≤ m) : m.tmod d = m % d := Int.tmod_eq_emod_of_nonneg h0
set_option maxRecDepth 20000 in
theorem gt_nm : (Try.f93.name == "runtime.NumGoroutine") = false := by kernel_rfl
set_option maxRecDepth 20000 in
theorem gt_bd : Try.f93.body.isNone = false := by kernel_rfl
set_option maxRecDepth 20000 in
theorem gv_nm : (Try.f94.name == "runtime.NumGoroutine") = false := by kernel_rfl
set_option maxRecDepth 20000 in
theorem gv_bd : Try.f94.body.isNone = false := by kernel_rfl
/-- guess's cells: its result's block s, its reader's, its table's block g; the words lie below s. -/
structure QSt (s g P : Nat) (w wr : World) (X : TabP) (l : List Int) : Prop where
  z : Blk wr s 28 [.string ⟨#[]⟩, .slice none 0 0, .slice none 0 0, .slice none 0 0]
  r : RGP s wr (s + 1) P l
  t : Blk wr g 28 [.string ⟨X.name.toArray⟩, .slice X.ca X.cols.length X.cc, .slice X.ia X.ixs.length X.ic, .slice X.ha X.chks.length X.hc]
  b : Below s w wr
  o : TabOwn (g + 1) wr X
  nh : ∀ p ∈ X.ixs, ∀ x b, p.a = some x → X.ha = some b → x.block ≠ b.block
  hg : s + 2 ≤ g
theorem QSt.big {s g P : Nat} {w wr : World} {X : TabP} {l : List Int} (h : QSt s g P w wr X l) : g + 1 ≤ wr.heap.size := h.t.lt
theorem QSt.call {s g P P' : Nat} {w wr w' : World} {X : TabP} {l l' : List Int} (h : QSt s g P w wr X l) (hr : RGP s w' (s + 1) P' l') (hb : But [s + 1] wr w') : QSt s g P' w w' X l' :=
  have hg := h.hg
  ⟨h.z.but hb (by simp), hr, h.t.but hb (by simp; omega), h.b.trans (hb.toBelow (by have := h.big; omega) (by simp)), h.o.but hb (by simp; omega), h.nh, hg⟩
theorem QSt.step {s g P : Nat} {w wr w' : World} {X : TabP} {l : List Int} (h : QSt s g P w wr X l) (hb : Below wr.heap.size wr w') : QSt s g P w w' X l :=
  h.call (h.r.keep (hb.block _ h.r.lt) (fun k hk => hb.block k (by have := h.big; have := h.hg; omega))) (But.ofBelow hb)
theorem QSt.more {s g P Q : Nat} {w wr : World} {X : TabP} {l : List Int} (h : QSt s g P w wr X l) (hPQ : P ≤ Q) : QSt s g Q w wr X l := ⟨h.z, h.r.mono hPQ, h.t, h.b, h.o, h.nh, h.hg⟩
theorem QSt.drew {s g P : Nat} {w wr : World} {X : TabP} {l : List Int} (h : QSt s g P w wr X l) : QSt s g P w wr.drew X l :=
  ⟨h.z, h.r.keep rfl (fun _ _ => rfl), h.t, h.b.drew, ⟨h.o.cols, h.o.ixs, h.o.chks, fun p hp => (h.o.nums p hp).eq (fun _ _ => rfl), h.o.ci, h.o.ch, h.o.ih, h.o.nc, h.o.ni, h.o.nb⟩, h.nh, h.hg⟩
theorem QSt.turnR {s g P : Nat} {w wr w3 : World} {X X' : TabP} {l : List Int} (h : QSt s g P w wr X l) (hk : ∀ k, k < g + 1 → w3.heap[k]? = wr.heap[k]?) (hb : Below s w w3) (ho : TabOwn (g + 1) w3 X') (hnh : ∀ p ∈ X'.ixs, ∀ x b, p.a = some x → X'.ha = some b → x.block ≠ b.block) (ds : Array Value)
    (hcs : ds = [Value.string ⟨X'.name.toArray⟩, .slice X'.ca X'.cols.length X'.cc, .slice X'.ia X'.ixs.length X'.ic, .slice X'.ha X'.chks.length X'.hc].toArray) : QSt s g P w (w3.setRow g ds) X' l := by
  subst hcs
  have hg := h.hg
  refine ⟨(h.z.eq (hk _ (by omega))).rowOther (by omega) _, (h.r.keep (hk _ (by omega)) (fun k hk2 => hk k (by omega))).keep (setRow_other _ _ _ _ (by omega)) (fun k hk2 => setRow_other _ _ _ _ (by omega)), (h.t.eq (hk _ (by omega))).row _, below_setRow hb (by omega) _, ho.setRow (by omega) _, hnh, hg⟩
theorem QSt.turn {s g P : Nat} {w wr w3 : World} {X X' : TabP} {l : List Int} (h : QSt s g P w wr X l) (hk : ∀ k, k < g + 1 → w3.heap[k]? = wr.heap[k]?) (hb : Below s w w3) (ho : TabOwn (g + 1) w3 X') (hnh : ∀ p ∈ X'.ixs, ∀ x b, p.a = some x → X'.ha = some b → x.block ≠ b.block) (j : Nat) (v : Value)
    (hcs : [Value.string ⟨X'.name.toArray⟩, .slice X'.ca X'.cols.length X'.cc, .slice X'.ia X'.ixs.length X'.ic, .slice X'.ha X'.chks.length X'.hc] = [Value.string ⟨X.name.toArray⟩, .slice X.ca X.cols.length X.cc, .slice X.ia X.ixs.length X.ic, .slice X.ha X.chks.length X.hc].set j v) : QSt s g P w (w3.setCell ⟨g, j, none⟩ v) X' l := by
  have hg := h.hg
  refine ⟨(h.z.eq (hk _ (by omega))).other (by show s ≠ g; omega) _, (h.r.keep (hk _ (by omega)) (fun k hk2 => hk k (by omega))).keep ?_ (fun k hk2 => ?_), ?_, hb.setCell (by show s ≤ g; omega) v, ho.setCell (by omega) j v, hnh, hg⟩
  · exact Below.heap_setCell _ _ _ _ (by show s + 1 ≠ g; omega)
  · exact Below.heap_setCell _ _ _ _ (by show k ≠ g; omega)
  · rw [hcs]; exact (h.t.eq (hk _ (by omega))).set j v
theorem QSt.grown {s g P : Nat} {w wr w3 : World} {X : TabP} {l : List Int} (h : QSt s g P w wr X l) {o : Obj} {a : Option Addr} {n c : Nat} {e size : Nat} {xs : List Value} (hown : wr.ownsRow (g + 1) e size (.slice a n c) n xs) (hg : (wr.alloc o).grownBy w3 (Value.slice a n c).ownBlock) :
    (∀ k, k < g + 1 → w3.heap[k]? = wr.heap[k]?) ∧ Below s w w3 := by
  have hbig := h.big
  have hgg := h.hg
  have hs := h.b.size
  refine ⟨fun k hk => ?_, ?_⟩
  · rw [hg.block k (by simp; omega) (fun e => by have := (hown.lt k e.symm).1; omega), heap_alloc_old _ _ (by omega)]
  · have h1 : Below s w (wr.alloc o) := h.b.alloc (by omega) o
    have hs2 := h1.size
    exact ⟨hg.os.trans h1.os, hg.tape.trans h1.tape, hg.output.trans h1.output, Nat.le_trans h1.size hg.size, fun k hk => by
      rw [hg.block k (by simp; omega) (fun e => by have := (hown.lt k e.symm).1; omega)]
      exact h1.block k hk⟩
theorem QSt.addCol {s g P : Nat} {w wr w7 : World} {X : TabP} {l : List Int} (h : QSt s g P w wr X l) (y : Col) {o : Obj} {a7 : Option Addr} {c7 : Nat} (hg : (wr.alloc o).grownBy w7 (Value.slice X.ca X.cols.length X.cc).ownBlock)
    (hown : w7.ownsRow (g + 1) 50 3 (.slice a7 (X.cols.length + 1) c7) (X.cols.length + 1) (recC Col.enc X.cols ++ recC Col.enc [y])) (hnew : ∀ ad, a7 = some ad → X.ca = some ad ∨ (wr.alloc o).heap.size ≤ ad.block) (ds : Array Value)
    (hcs : ds = #[Value.string ⟨X.name.toArray⟩, .slice a7 (X.cols.length + 1) c7, .slice X.ia X.ixs.length X.ic, .slice X.ha X.chks.length X.hc]) : QSt s g P w (w7.setRow g ds) (X.addCol a7 c7 y) l := by
  obtain ⟨h1, h2⟩ := h.grown h.o.cols hg
  refine h.turnR h1 h2 ((h.o.step ((Below.refl _ _).alloc (Nat.le_refl _) o)).addCol hg hown hnew rfl) h.nh ds ?_
  rw [hcs, show (X.addCol a7 c7 y).cols.length = X.cols.length + 1 from by show (X.cols ++ [_]).length = _; simp]
  rfl
theorem QSt.addIxC {s g P : Nat} {w wr w7 : World} {X : TabP} {l : List Int} (h : QSt s g P w wr X l) (y : IxP) {o : Obj} {a7 : Option Addr} {c7 : Nat} (hg : (wr.alloc o).grownBy w7 (Value.slice X.ia X.ixs.length X.ic).ownBlock)
    (hown : w7.ownsRow (g + 1) 55 3 (.slice a7 (X.ixs.length + 1) c7) (X.ixs.length + 1) (recC IxP.enc X.ixs ++ recC IxP.enc [y])) (hnew : ∀ ad, a7 = some ad → X.ia = some ad ∨ (wr.alloc o).heap.size ≤ ad.block)
    (hy : Rd wr y.a y.x.cols.length y.cap 1 (intVals y.x.cols)) (hy2 : ∀ x, y.a = some x → g + 1 ≤ x.block ∧ x.block < wr.heap.size ∧ (∀ b, X.ia = some b → x.block ≠ b.block) ∧ ∀ b, X.ca = some b → x.block ≠ b.block) (hh : X.ha = none) : QSt s g P w (w7.setCell ⟨g, 2, none⟩ (.slice a7 (X.ixs.length + 1) c7)) (X.withIxs a7 c7 (X.ixs ++ [y])) l := by
  obtain ⟨h1, h2⟩ := h.grown h.o.ixs hg
  have hb : Below wr.heap.size wr (wr.alloc o) := (Below.refl _ _).alloc (Nat.le_refl _) o
  refine h.turn h1 h2 ((h.o.step hb).withIxs hg hown hnew (by rw [recC_append]) (by simp) (fun p hp => ?_)) (fun p _ x b _ hb => ?_) 2 _ ?_
  · rcases List.mem_append.1 hp with hp | hp
    · exact .inl hp
    · rw [List.mem_singleton] at hp
      subst hp
      exact .inr ⟨hy.call0 hb, fun x hx => by have := hy2 x hx; exact ⟨this.1, by simp; omega, this.2.2⟩⟩
  · have hb' : X.ha = some b := hb
    rw [hh] at hb'; cases hb'
  · rw [show (X.withIxs a7 c7 (X.ixs ++ [y])).ixs.length = X.ixs.length + 1 from by show (X.ixs ++ [_]).length = _; simp]
    rfl
theorem QSt.addChk {s g P : Nat} {w wr w7 : World} {X : TabP} {l : List Int} (h : QSt s g P w wr X l) (y : Chk) {o : Obj} {a7 : Option Addr} {c7 : Nat} (hg : (wr.alloc o).grownBy w7 (Value.slice X.ha X.chks.length X.hc).ownBlock)
    (hown : w7.ownsRow (g + 1) 42 5 (.slice a7 (X.chks.length + 1) c7) (X.chks.length + 1) (recC Chk.enc X.chks ++ recC Chk.enc [y])) (hnew : ∀ ad, a7 = some ad → X.ha = some ad ∨ (wr.alloc o).heap.size ≤ ad.block) (ds : Array Value)
    (hcs : ds = #[Value.string ⟨X.name.toArray⟩, .slice X.ca X.cols.length X.cc, .slice X.ia X.ixs.length X.ic, .slice a7 (X.chks.length + 1) c7]) : QSt s g P w (w7.setRow g ds) (X.addChk a7 c7 y) l := by
  obtain ⟨h1, h2⟩ := h.grown h.o.chks hg
  obtain ⟨h3, h4⟩ := (h.o.step ((Below.refl _ _).alloc (Nat.le_refl _) o)).addChk h.nh hg hown hnew rfl
  refine h.turnR h1 h2 h3 h4 ds ?_
  rw [hcs, show (X.addChk a7 c7 y).chks.length = X.chks.length + 1 from by show (X.chks ++ [_]).length = _; simp]
  rfl
end Go.Proofs.Ytgimkipekoabbaa
