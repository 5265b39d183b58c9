/-
  What a list of calls is to the walk of GroupMatchesSpec. No condition.
-/
import Derived.Test.YtkloafpoldmpkaaL3
import Derived.Test.YtkloafpoldmpkaaOpn
namespace Go.Proofs.Ytkloafpoldmpkaa
open Go.RowKit

theorem list4 {α : Type} {l : List α} (h : l.length = 4) : ∃ a b c d, l = [a, b, c, d] := by
  match l, h with
  | [a, b, c, d], _ => exact ⟨a, b, c, d, rfl⟩

def opCell (x : Op4) : List Value := [Value.int .i64 x.kind, Value.int .i64 x.tx, Value.int .i64 x.words, Value.int .i64 x.tick]
def opDat {H : Type} (x : Op4) : DataW H := .agg [.lit (.int .i64 x.kind), .lit (.int .i64 x.tx), .lit (.int .i64 x.words), .lit (.int .i64 x.tick)]
theorem opC_eq (l : List Op4) : (l.map opCell).flatten = opC l := rfl

theorem elem_op {H : Type} {enc : TypeId × Value → H} {w : World} {cs : List Value} {d : DataW H} (h : Elem enc Try.prog w 47 cs d) : ∃ x : Op4, cs = opCell x ∧ d = opDat x ∧ In64 x.tx := by
  obtain ⟨hl, els, hn, rfl, hf⟩ := elem_struct Try.underlying47 h
  rw [show Try.prog.cellsOf 47 = 4 from by kernel_rfl] at hl
  obtain ⟨c0, c1, c2, c3, rfl⟩ := list4 hl
  obtain ⟨e0, e1, e2, e3, rfl⟩ := list4 (l := els) hn
  have k3 : Try.prog.cellsOf 3 = 1 := by kernel_rfl
  obtain ⟨_, h0⟩ := hf 0 _ rfl
  obtain ⟨_, h1⟩ := hf 1 _ rfl
  obtain ⟨_, h2⟩ := hf 2 _ rfl
  obtain ⟨_, h3⟩ := hf 3 _ rfl
  obtain ⟨x0, y0, z0, w0⟩ := elem_int Try.underlying3 h0
  obtain ⟨x1, y1, z1, w1⟩ := elem_int Try.underlying3 h1
  obtain ⟨x2, y2, z2, w2⟩ := elem_int Try.underlying3 h2
  obtain ⟨x3, y3, z3, w3⟩ := elem_int Try.underlying3 h3
  simp [k3] at y0 y1 y2 y3 z0 z1 z2 z3
  subst y0 y1 y2 y3 z0 z1 z2 z3
  exact ⟨⟨x0, x1, x2, x3⟩, rfl, rfl, wf_i64_bd w1⟩
end Go.Proofs.Ytkloafpoldmpkaa
