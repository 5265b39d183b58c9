/-
  More laws of single operations, for wpAny_ext. No condition.
-/
import Derived.Test.YtkloafpoldmpkaaExt
namespace Go.Proofs.Ytkloafpoldmpkaa
open Go.RowKit

theorem slot_of {a : Act} {t : Tmp} {v : Value} (h : a.tmps.getD t undef = v) (hv : v ≠ undef) : a.tmps[t]? = some v := by
  rw [Array.getD_eq_getD_getElem?] at h
  cases h2 : a.tmps[t]? with
  | none => rw [h2] at h; exact absurd h.symm hv
  | some x => rw [h2] at h; simp at h; rw [h]

/-- A guard that holds. -/
theorem wanted_of {ops : Array Oper} {o : Oper} {a : Act} {j : Nat} {b : Bool} {t : Tmp} (hg : o.guard = some (j, b)) (hd : dstOf ops j = some t) (hv : a.tmps.getD t undef = .bool b) : Region.wanted o (yielded ops a.tmps) = true := by
  have h := slot_of hv (by intro h; cases h)
  unfold Region.wanted
  rw [hg]
  show (yielded ops a.tmps j == some b) = true
  unfold yielded
  unfold dstOf at hd
  rw [hd, Option.bind_some, h]
  simp

theorem oper_move {P : Program} {w : World} {ops : Array Oper} {o : Oper} {a : Act} {K : Act → World → Prop} {Q : Exit → Act → World → Prop} (hgd : Region.wanted o (yielded ops a.tmps) = true) (x : Operand) (ho : o.op = .move x) {v : Value} (hx : a.eval x = v)
    (h : K (a.put o.dst v) w) : if Region.wanted o (yielded ops a.tmps) = true then Oper.wp P o a w K Q else K (a.put o.dst undef) w :=
  oper_val hgd (by unfold execOp; simp only [ho, hx, Sem.run_pure]) h

theorem oper_pick {P : Program} {w : World} {ops : Array Oper} {o : Oper} {a : Act} {K : Act → World → Prop} {Q : Exit → Act → World → Prop} (hgd : Region.wanted o (yielded ops a.tmps) = true) (c x y : Operand) (ho : o.op = .pick c x y) (hc : a.eval c = .bool true) {v : Value} (hx : a.eval x = v)
    (h : K (a.put o.dst v) w) : if Region.wanted o (yielded ops a.tmps) = true then Oper.wp P o a w K Q else K (a.put o.dst undef) w :=
  oper_val hgd (by unfold execOp; simp [ho, hc, hx, asBool]) h

theorem run_eql_str {P : Program} {t : TypeId} {l : List UInt8} {a : Act} {o : Oper} (x y : Operand) (yt : TypeId) (ho : o.op = .binOp .eql t x y yt) (hxv : a.eval x = .string ⟨l.toArray⟩) (hyv : a.eval y = .string ⟨l.toArray⟩) (w : World) :
    (execOp a.eval o).run P w = .ok (.value (.bool true)) w := by
  have h : ∀ s : ByteArray, (eqGuard .eql t x y (.string s) (.string s)).run P w = .ok () w := fun s => by simp [eqGuard]
  unfold execOp
  simp only [ho, hxv, hyv, Sem.run_bind, h, Result.andThen_ok, binOp_string_eql]
  simp
end Go.Proofs.Ytkloafpoldmpkaa
