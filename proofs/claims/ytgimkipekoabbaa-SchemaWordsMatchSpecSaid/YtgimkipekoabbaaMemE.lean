/-
  Regions that draw their order: single operations by hand. No condition.
-/
import Derived.Test.YtgimkipekoabbaaMemD
import Derived.Deep.QuietTactic
import Derived.BigQuiet
import Derived.Stop.BytesEq
namespace Go.Proofs.Ytgimkipekoabbaa
open Go.RowKit

/-- One operation of a quiet region that yields the value v. -/
theorem wpQuiet_val {P : Program} {ops : Array Oper} {C : World → Prop} {Q : Act → Prop} {a : Act} {o : Oper} {rest : List Oper} (hgd : o.guard = none) (v : Value)
    (hrun : ∀ w', C w' → (execOp a.eval o).run P w' = .ok (.value v) w') (h : wpQuiet P ops C Q rest (a.put o.dst v)) : wpQuiet P ops C Q (o :: rest) a := by
  have hw : Region.wanted o (yielded ops a.tmps) = true := by unfold Region.wanted; rw [hgd]
  unfold wpQuiet
  rw [if_pos hw]
  refine ⟨v, fun w' hw' => ?_, h⟩
  unfold Oper.quietAt
  rw [hrun w' hw']
  exact ⟨rfl, rfl⟩

theorem wpQuiet_load_agg {P : Program} {ops : Array Oper} {w : World} {Q : Act → Prop} {a : Act} {o : Oper} {rest : List Oper} (hgd : o.guard = none) (ty : TypeId) (x : Operand) (ho : o.op = .load ty x)
    {size : Nat} (hT : AggT P ty size) {ad : Addr} (hx : a.eval x = .pointer (some ad)) {cs : List Value} (hl : cs.length = size) (hc : ∀ j u, cs[j]? = some u → w.cell? (ad.add j) = some u)
    (h : wpQuiet P ops (fun w' => ∃ n, w' = w.drewN n) Q rest (a.put o.dst (.agg cs.toArray))) : wpQuiet P ops (fun w' => ∃ n, w' = w.drewN n) Q (o :: rest) a := by
  refine wpQuiet_val hgd _ (fun w' hw' => ?_) h
  obtain ⟨n, rfl⟩ := hw'
  have hr := run_loadVar_agg (P := P) (w := w.drewN n) hT ad cs hl (fun j u hu => by
    have := hc j u hu
    simpa [World.drewN, World.cell?] using this)
  unfold execOp
  simp only [ho, hx, Instr.loadAt, Instr.sureAddr, Sem.run_bind, Sem.run_pure, Result.andThen_ok, hr]

theorem byteVals_cell (l : List UInt8) : byteVals l = l.map Extern.Stop.cell := rfl

theorem run_eqGuard_no {P : Program} {op : BinOp} {t : TypeId} {x y : Operand} {a b : Array Value} (hg : P.eqGuardType P.depth t = false) (w : World) : (eqGuard op t x y (.agg a) (.agg b)).run P w = .ok () w := by
  cases op <;> simp [eqGuard, hg]

/-- '==' and '!=' of two arrays of bytes, as an operation. -/
theorem run_neq_bytes {P : Program} {t e : TypeId} {n : Nat} (ht : P.underlying t = some (.array n e)) (he : P.underlying e = some (.int .u8)) (hsz : (P.info? e).map (·.size) = some 1) (hg : P.eqGuardType P.depth t = false)
    {xs ys : List UInt8} (hx : xs.length = n) (hy : ys.length = n) {a : Act} {o : Oper} (x y : Operand) (yt : TypeId) (ho : o.op = .binOp .neq t x y yt) (hxv : a.eval x = .agg (byteVals xs).toArray) (hyv : a.eval y = .agg (byteVals ys).toArray) (w : World) :
    (execOp a.eval o).run P w = .ok (.value (.bool (!(xs == ys)))) w := by
  have hs : ∀ w, (sizeOf e).run P w = .ok 1 w := by
    obtain ⟨i, hi, hi1⟩ := Option.map_eq_some_iff.1 hsz
    intro w; simp [sizeOf, typeInfo, hi, hi1]
  unfold execOp
  simp only [ho, hxv, hyv, Sem.run_bind, run_eqGuard_no hg, Result.andThen_ok]
  rw [run_neq_struct, byteVals_cell, byteVals_cell, run_equalIn_bytes w 9998 t e n ht he hs xs ys hx hy]
  simp
end Go.Proofs.Ytgimkipekoabbaa
