/-
  Lemmas that the laws' walks share. No condition.
-/
import Derived.Test.YtcngnpkpaliflaaDoorWSane
namespace Go.Proofs.YtcngnpkpaliflaaDoor
open Go.RowKit

theorem oper_load1 {P : Program} {w : World} {ops : Array Oper} {o : Oper} {a : Act} {K : Act → World → Prop} {Q : Exit → Act → World → Prop} (hgd : Region.wanted o (yielded ops a.tmps) = true) (ty : TypeId) (x : Operand) (ho : o.op = .load ty x)
    (hT : (P.underlying ty).map (fun d => match d with | .struct _ | .array _ _ => true | _ => false) = some false) {ad : Addr} (hx : a.eval x = .pointer (some ad)) {v : Value} (hc : w.cell? ad = some v) (h : K (a.put o.dst v) w) : if Region.wanted o (yielded ops a.tmps) = true then Oper.wp P o a w K Q else K (a.put o.dst undef) w := by
  rw [if_pos hgd]
  obtain ⟨d, hd, hd2⟩ := Option.map_eq_some_iff.1 hT
  have ha : (Go.isAgg ty).run P w = .ok false w := by
    unfold Go.isAgg
    rw [Sem.run_bind, run_underlying hd w]
    cases d <;> simp_all
  unfold Oper.wp execOp
  simp [ho, hx, Instr.loadAt, Instr.sureAddr, loadVar, ha, hc]
  exact h
theorem cell_below {w w' : World} {p : Addr} {v : Value} (hb : Below w.drew.heap.size w.drew w') (hc : w.cell? p = some v) : w'.cell? p = some v := by
  rw [hb.cell (by have := cell_block_lt hc; simpa using this)]; exact hc
theorem Mem.drewOn {w w' : World} (h : Mem w) (hb : Below w.drew.heap.size w.drew w') : Mem w' := Mem.call0 (w := w.drew) ⟨h.tabs.drew, h.kons.drew⟩ hb
theorem u5' : Tryd.prog.underlying 5 = some (.int .u8) := by kernel_rfl
theorem sl26 : SlT Tryd.prog 26 9 (.string ⟨#[]⟩) 1 16 := ⟨by kernel_rfl, by kernel_rfl, rfl⟩
theorem bstr_take (l : List (List UInt8)) (i : Nat) : (bstrVals l).take i = bstrVals (l.take i) := by simp [bstrVals, List.map_take]

theorem run_eql_refl {P : Program} {t e : TypeId} {n : Nat} (ht : P.underlying t = some (.array n e)) (he : P.underlying e = some (.int .u8)) (hsz : (P.info? e).map (·.size) = some 1) (hg : P.eqGuardType P.depth t = false)
    {xs : List UInt8} (hx : xs.length = n) {a : Act} {o : Oper} (x y : Operand) (yt : TypeId) (ho : o.op = .binOp .eql t x y yt) (hxv : a.eval x = .agg (byteVals xs).toArray) (hyv : a.eval y = .agg (byteVals xs).toArray) (w : World) :
    (execOp a.eval o).run P w = .ok (.value (.bool true)) w := by
  rw [run_eql_bytes ht he hsz hg hx hx x y yt ho hxv hyv w]; simp

theorem few_len {l : List (List UInt8)} (h : fewB l = true) : l.length ≤ 12 ∧ (l.map encB).flatten.length ≤ 10000 := by
  have h' : l.length ≤ 12 ∧ ∀ s ∈ l, s.length ≤ 400 := of_decide_eq_true h
  refine ⟨h'.1, ?_⟩
  have key : ∀ (m : List (List UInt8)), (∀ s ∈ m, s.length ≤ 400) → (m.map encB).flatten.length ≤ 410 * m.length := by
    intro m
    induction m with
    | nil => intro _; simp
    | cons x m ih =>
      intro h
      rw [List.map_cons, List.flatten_cons, List.length_append, List.length_cons]
      have h1 := h x (by simp)
      have h2 := ih (fun s hs => h s (by simp [hs]))
      have h3 := (enc_len (x.length : Int) (by omega) (by omega)).1
      have h4 : (encB x).length = (enc (x.length : Int)).length + x.length := by unfold encB; rw [List.length_append]
      omega
  have := key l h'.2
  omega

theorem eg58 : Tryd.prog.eqGuardType Tryd.prog.depth 58 = false := by kernel_rfl
theorem ar58 : Tryd.prog.underlying 58 = some (.array 16 5) := by kernel_rfl
theorem digest_length (m : List UInt8) : (digest m).length = 16 := by rw [digest, List.length_take, sha_length]; rfl

end Go.Proofs.YtcngnpkpaliflaaDoor
