/-
  The walk of Begin. No condition. (Type 53 is the stream: eight words, 64 bytes, the total.)
-/
import Derived.Test.YtcngnpkpaliflaaDoorWComp
namespace Go.Proofs.YtcngnpkpaliflaaDoor
open Go.RowKit

theorem wpList_alloc {P : Program} {w : World} {ops : Array Oper} {rest : List Oper} {o : Oper} {a : Act} {Q : Exit → Act → World → Prop} (hgd : Region.wanted o (yielded ops a.tmps) = true) (ty : TypeId) (ho : o.op = .alloc ty)
    {z : Value} (hz : (P.info? ty).map (·.zero) = some (some z)) {zc : Array Value} (hzc : z.cells = zc) (h : wpList P ops Q rest (a.put o.dst (.pointer (some ⟨w.heap.size, 0, none⟩))) (w.alloc (.cells zc ty))) : wpList P ops Q (o :: rest) a w := by
  refine BigFrame.wpList_want hgd fun K hK => ?_
  have hr := oper_alloc (K := K) (Q := Q) hgd ty ho hz hzc (hK _ _ h)
  rwa [if_pos hgd] at hr

/-- The cells of a stream: words, held bytes, total. -/
def strmVals (s : S8) (held : List UInt8) (n : Nat) : List Value := wordVals s.list ++ byteVals held ++ [.int .u64 (n : Int)]
def strmZero : Array Value := (List.replicate 8 (Value.int .u32 0) ++ List.replicate 64 (Value.int .u8 0) ++ [Value.int .u64 0]).toArray
theorem agg53 : AggT Tryd.prog 53 73 := ⟨by kernel_rfl, by kernel_rfl⟩
theorem zero53 : (Tryd.prog.info? 53).map (·.zero) = some (some (.agg strmZero)) := by kernel_rfl

theorem run_zero53 (w : World) : (zeroValue 53).run Tryd.prog w = .ok (.agg strmZero) w := by
  obtain ⟨i, hi, hs⟩ := Option.map_eq_some_iff.1 zero53
  simp [zeroValue, typeInfo, hi, hs]
theorem size_zero53 : strmZero.size = 73 := by simp [strmZero]
attribute [local go_sem] run_zero53 size_zero53
set_option maxRecDepth 20000 in
theorem beginSha_any (w : World) : Calls Tryd.prog 31 #[] w (RetV (.agg (strmVals iv (List.replicate 64 0) 0).toArray) w) := by
  go_enter Tryd.func31, Tryd.ntmps31
  generalize hcs : strmVals iv (List.replicate 64 0) 0 = cs
  have hl : cs.length = 73 := by rw [← hcs]; rfl
  have h1 := Lib.hid (show ∀ u ∈ cs, u.oneCell' = true from by rw [← hcs]; decide)
  go_wp2_with (first
    | ((with_reducible show wpList _ _ _ _ _ _); refine wpList_alloc (o := ⟨some 0, .alloc 53, _, _, _, _⟩) rfl 53 rfl zero53 (zc := strmZero) rfl ?_)
    | ((with_reducible show wpList _ _ _ _ _ _); refine wpList_store_fresh (o := ⟨none, .store 53 (.tmp 0) (.tmp 2), _, _, _, _⟩) (cs := cs) rfl 53 _ _ rfl rfl agg53.info rfl rfl (by rw [← hcs]; rfl) hl h1.out ?_))
  exact bodyPost_ret (v := .agg cs.toArray) (results_cell1 (g := w.heap.size) (cs := cs) rfl _ rfl (heap_at rfl) (by rw [hl]; exact agg53)) rfl ⟨rfl, (Below.refl _ _).alloc (Nat.le_refl _) _⟩
end Go.Proofs.YtcngnpkpaliflaaDoor
