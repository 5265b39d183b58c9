/-
  make of a slice of one-cell elements. No condition.
-/
import Derived.Test.YtcngnpkpaliflaaDoorCpy
import Derived.Laws.MakeOwn
namespace Go.Proofs.YtcngnpkpaliflaaDoor
open Go.RowKit

theorem madeCells_one (z : Value) (n : Nat) : madeCells #[z] n = (List.replicate n z).toArray := by
  apply Array.ext_getElem?
  intro i
  simp only [madeCells, Array.getElem?_map, List.size_toArray, List.length_singleton, Nat.mod_one, List.getElem!_toArray, List.getElem!_cons_zero, List.getElem?_toArray, List.getElem?_replicate]
  by_cases h : i < n
  · simp [h]
  · simp [h]

theorem wpList_make {P : Program} {w : World} {ops : Array Oper} {rest : List Oper} {o : Oper} {a : Act} {Q : Exit → Act → World → Prop} (hgd : Region.wanted o (yielded ops a.tmps) = true) (t : TypeId) (x y : Operand) (ho : o.op = .makeSlice t x y)
    {e : TypeId} {z : Value} {bytes : Nat} (hT : SlT P t e z 1 bytes) (hzc : z.cells = #[z]) {n : Nat} (hx : a.eval x = .int .i64 (n : Int)) (hy : a.eval y = .int .i64 (n : Int)) (hb : bytes * n ≤ 281474976710656) (h63 : n ≤ 9223372036854775807)
    (h : wpList P ops Q rest (a.put o.dst (.slice (some ⟨w.heap.size, 0, none⟩) n n)) (w.alloc (.cells (List.replicate n z).toArray e))) : wpList P ops Q (o :: rest) a w := by
  refine BigFrame.wpList_want hgd fun K hK => ?_
  obtain ⟨i, hi, hz, hs, hby⟩ := info_parts hT.info
  have hbi : (i.bytes : Int) * (n : Int) ≤ 281474976710656 := by
    rw [hby]
    have h2 : ((bytes * n : Nat) : Int) ≤ 281474976710656 := by omega
    rwa [Int.natCast_mul] at h2
  have hr := run_make (P := P) w t e i z hT.ht hi hz .i64 .i64 n n (by omega) (Int.le_refl _) hbi (by omega)
  rw [hs, hzc, Int.toNat_natCast, Nat.mul_one, madeCells_one] at hr
  unfold Oper.wp execOp
  simp only [ho, hx, hy, Sem.run_bind, hr, Result.andThen_ok, Sem.run_pure]
  exact hK _ _ h
end Go.Proofs.YtcngnpkpaliflaaDoor
